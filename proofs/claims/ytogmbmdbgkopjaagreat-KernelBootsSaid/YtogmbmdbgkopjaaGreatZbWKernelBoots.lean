/- What the row rests on: the law, at the model and walked. -/
import Derived.Test.YtogmbmdbgkopjaaGreatZb9
set_option linter.unusedVariables false
set_option linter.unusedSimpArgs false
set_option linter.unusedSectionVars false
section
namespace Go.Proofs.YtogmbmdbgkopjaaGreat
open Go Go.Vc Go.ChangeShapes Go.WideShapes
theorem intDec18:∀cs,Fits [.int .i64] cs->∃x,cs=intE.enc x/\(Lit.int .i64 x).wf=true:=fun cs h=>by
 obtain ⟨_,_,rfl,⟨a,rfl,ha⟩,h1⟩:=h.cons_out;obtain rfl:=h1.nil_out;exact ⟨a,rfl,ha⟩
section
variable {H:Type} {enc:TypeId × Value->H} {P:Program} {held:Bool}
theorem agg4_of {t e:TypeId} {f0 f1 f2 f3:Field} {W:World} {sp:Nat->Bool} {v:Value} {dd:DataW H} {ps:List MemPlace} {r:Reach} {b0:Nat} (ht:P.underlying t=some (.struct #[f0,f1,f2,f3]))
  (h0:P.underlying f0.type=some (.int .i64)) (h1:P.underlying f1.type=some (.int .i64)) (h2:P.underlying f2.type=some (.int .i64)) (h3:P.underlying f3.type=some (.slice e))
  (o0:f0.offset=0) (o1:f1.offset=1) (o2:f2.offset=2) (o3:f3.offset=3) (c0:P.cellsOf f0.type=1) (c1:P.cellsOf f1.type=1) (c2:P.cellsOf f2.type=1) (c3:P.cellsOf f3.type=1) (hc:P.cellsOf t=4)
  (hval:Value.okWide P W r b0 t v) (h:DataW.Trod enc P W 0 sp held t v dd ps):
  ∃(x0 x1 x2:Int) (s:Sl) (d:DataW H) (p:List MemPlace),v= .agg #[.z x0, .z x1, .z x2, .slice s.a s.len s.cap]/\(Lit.int .i64 x0).wf=true/\(Lit.int .i64 x1).wf=true/\(Lit.int .i64 x2).wf=true/\DataW.Trod enc P W 0 sp held f3.type (.slice s.a s.len s.cap) d p:=by
 obtain ⟨cs,rfl,hsz⟩:=okWide_struct ht hval
 obtain ⟨x0,x1,x2,x3,rfl⟩:∃x0 x1 x2 x3,cs= #[x0,x1,x2,x3]:=by
  obtain ⟨l⟩:=cs
  match l,(hsz.trans hc) with
  | [c0,c1,c2,c3],_=>exact ⟨c0,c1,c2,c3,rfl⟩
 obtain ⟨fuel,hf⟩:=h;obtain ⟨xs,n,_,_,hl,hlen,hfs⟩:=DataW.trod_struct ht hf
 match xs,hlen with
 | [y0,y1,y2,y3],_=>
  have g0:=hfs 0 f0 rfl;have g1:=hfs 1 f1 rfl;have g2:=hfs 2 f2 rfl;have g3:=hfs 3 f3 rfl;simp only[o0,o1,o2,o3,c0,c1,c2,c3,Value.cells] at g0 g1 g2 g3;simp at g0 g1 g2 g3;obtain ⟨n0,e0,_,w0⟩:=DataW.trod_int h0 g0;obtain ⟨n1,e1,_,w1⟩:=DataW.trod_int h1 g1;obtain ⟨n2,e2,_,w2⟩:=DataW.trod_int h2 g2;obtain ⟨a3,l3,k3,e3⟩:=Go.Joins.slice_form h3 g3;simp only[List.cons.injEq,and_true] at e0 e1 e2 e3;subst e0;subst e1;subst e2;subst e3;exact ⟨n0,n1,n2,⟨a3,l3,k3⟩,y3.1,y3.2,rfl,w0,w1,w2,⟨n,by simpa [Value.cells] using g3⟩⟩
end
end Go.Proofs.YtogmbmdbgkopjaaGreat
end
section
set_option maxRecDepth 8000
namespace Go.Proofs.YtogmbmdbgkopjaaGreat
open Go Go.Vc Go.Proofs
theorem heldX (a b:Slot × Cap):eqX Tryz.prog 9 44 (Sl.heldE.enc a) (Sl.heldE.enc b)=some (decide (a=b)):=by
 have h:eqX Tryz.prog 9 44 (Sl.heldE.enc a) (Sl.heldE.enc b)=some ((a.1.1==b.1.1&&(a.1.2==b.1.2&&true))&&((a.2.kind==b.2.kind&&(a.2.obj==b.2.obj&&(a.2.rights==b.2.rights&&(a.2.badge==b.2.badge&&(a.2.guard==b.2.guard&&(a.2.bits==b.2.bits&&true))))))&&true)):=by kernel_rfl
 rw[h];congr 1;rw[Bool.eq_iff_iff];simp only[Bool.and_true,Bool.and_eq_true,beq_iff_eq,decide_eq_true_eq];obtain ⟨⟨a1,a2⟩,a3⟩:=a;obtain ⟨⟨b1,b2⟩,b3⟩:=b;cases a3;cases b3;simp only[Prod.mk.injEq,Sl.Cap.mk.injEq]
theorem heldNe {x y:Operand} (a b:Slot × Cap):EqB Tryz.prog .neq 44 x y (.agg ⟨Sl.heldE.enc a⟩) (.agg ⟨Sl.heldE.enc b⟩) (!decide (a=b)):=neB_x (by kernel_rfl) (by kernel_rfl) (by kernel_rfl) (heldX a b)
theorem slotX18 (a c:Slot):eqX Tryz.prog 9 40 (Tr.slotE.enc a) (Tr.slotE.enc c)=some (decide (a=c)):=by
 have h:eqX Tryz.prog 9 40 (Tr.slotE.enc a) (Tr.slotE.enc c)=some (a.1==c.1&&(a.2==c.2&&true)):=by kernel_rfl
 rw[h];congr 1;rw[Bool.eq_iff_iff];simp only[Bool.and_true,Bool.and_eq_true,beq_iff_eq,decide_eq_true_eq];cases a;cases c;simp only[Prod.mk.injEq]
theorem slotNe18 {x y:Operand} (a c:Slot):EqB Tryz.prog .neq 40 x y (.agg ⟨Tr.slotE.enc a⟩) (.agg ⟨Tr.slotE.enc c⟩) (!decide (a=c)):=neB_x (by kernel_rfl) (by kernel_rfl) (by kernel_rfl) (slotX18 a c)
theorem laidX (a b:Int × Tb.Pg):eqX Tryz.prog 9 61 (Tb.laidE.enc a) (Tb.laidE.enc b)=some (decide (a=b)):=by
 have h:eqX Tryz.prog 9 61 (Tb.laidE.enc a) (Tb.laidE.enc b)=some (a.1==b.1&&((a.2.1==b.2.1&&(a.2.2==b.2.2&&true))&&true)):=by kernel_rfl
 rw[h];congr 1;rw[Bool.eq_iff_iff];simp only[Bool.and_true,Bool.and_eq_true,beq_iff_eq,decide_eq_true_eq];obtain ⟨a1,a2,a3⟩:=a;obtain ⟨b1,b2,b3⟩:=b;simp only[Prod.mk.injEq]
theorem laidNe {x y:Operand} (a b:Int × Tb.Pg):EqB Tryz.prog .neq 61 x y (.agg ⟨Tb.laidE.enc a⟩) (.agg ⟨Tb.laidE.enc b⟩) (!decide (a=b)):=neB_x (by kernel_rfl) (by kernel_rfl) (by kernel_rfl) (laidX a b)
theorem untX (a b:Unt):eqX Tryz.prog 9 86 (untE.enc a) (untE.enc b)=some (decide (a=b)):=by
 have h:eqX Tryz.prog 9 86 (untE.enc a) (untE.enc b)=some ((a.base:Int)==(b.base:Int)&&((a.bits:Int)==(b.bits:Int)&&((a.used:Int)==(b.used:Int)&&true))):=by kernel_rfl
 rw[h];congr 1;rw[Bool.eq_iff_iff];simp only[Bool.and_true,Bool.and_eq_true,beq_iff_eq,decide_eq_true_eq];obtain ⟨a1,a2,a3⟩:=a;obtain ⟨b1,b2,b3⟩:=b;simp only[Unt.mk.injEq];omega
theorem untNe {x y:Operand} (a b:Unt):EqB Tryz.prog .neq 86 x y (.agg ⟨untE.enc a⟩) (.agg ⟨untE.enc b⟩) (!decide (a=b)):=neB_x (by kernel_rfl) (by kernel_rfl) (by kernel_rfl) (untX a b)
theorem eq_of_get {α:Type} {xs ys:List α} (hl:xs.length=ys.length) (h:∀i,i<xs.length->xs[i]?=ys[i]?):xs=ys:=List.ext_getElem? fun i=>by
 by_cases e:i<xs.length
 ·exact h i e
 ·rw[List.getElem?_eq_none (by omega),List.getElem?_eq_none (by omega)]
section
variable {B:Nat} {w0 w:World} {R L:List Asn}
theorem ref05_Same_spec {s t:Sl} {xs ys:List (Slot × Cap)} {K:Bool->Pw} (h:Vc.Own B w0 w L) (hr1:Rd Sl.heldE B w0 L s xs) (hr2:Rd Sl.heldE B w0 L t ys) (hs:xs.length≤1000000) (hK:∀w',Vc.Own B w0 w' L->K (decide (xs=ys)) w'):C.qcT s t K w:=by
 apply S.qcT0;have l1:=hr1.len;have l2:=hr2.len;by_cases e:xs.length=ys.length
 ·refine cbF (by simp;omega) ?_
  intro l3 hl3
  have loop:∀(j i:Nat) (w:World),i+j=xs.length->(∀k,k<i->xs[k]?=ys[k]?)->Vc.Own B w0 w L->l3 (i:Int) w:=by
   intro j
   induction j with
   |zero=>
    intro i w hi hb h;apply hl3;refine cdecF (by omega) ?_;have:xs=ys:=eq_of_get e fun k hk=>hb k (by omega)
    have hk:=hK w h
    rwa [decide_eq_true this] at hk
   |succ j ih=>
    intro i w hi hb h;apply hl3;refine cdecT (by omega) ?_;refine h.dr fun w h=>?_
    have hx:xs[i]?=some xs[i]:=gE (by omega);have hy:ys[i]?=some (ys[i]'(by omega)):=gE (by omega);refine hr1.ix h rfl hx fun a ha h0 hc=>⟨_,hc 0 _ rfl,_,hc 1 _ rfl,_,hc 2 _ rfl,_,hc 3 _ rfl,_,hc 4 _ rfl,_,hc 5 _ rfl,_,hc 6 _ rfl,_,hc 7 _ rfl,?_⟩
    refine hr2.ix h rfl hy fun a ha h0 hc=>⟨_,hc 0 _ rfl,_,hc 1 _ rfl,_,hc 2 _ rfl,_,hc 3 _ rfl,_,hc 4 _ rfl,_,hc 5 _ rfl,_,hc 6 _ rfl,_,hc 7 _ rfl,?_⟩
    refine ⟨_,heldNe xs[i] (ys[i]'(by omega)),?_⟩;by_cases e2:xs[i]=ys[i]'(by omega)
    ·refine cbF (by simpa using e2) ?_
     rw[show IntKind.i64.wrap ((i:Int)+1)=((i+1:Nat):Int) from by rw[wr (by omega) (by omega)];omega];refine ih (i+1) w (by omega) (fun k hk=>?_) h;by_cases e3:k=i
     ·subst e3;rw[hx,hy,e2]
     ·exact hb k (by omega)
    ·refine cbT (by simpa using e2) ?_
     have:xs≠ys:=fun e3=>by
      have:xs[i]?=ys[i]?:=by rw[e3]
      rw[hx,hy] at this;exact e2 (by simpa using this)
     have hk:=hK w h
     rwa [decide_eq_false this] at hk
  exact loop xs.length 0 w (by omega) (fun k hk=>by omega) h
 ·refine cbT (by simp;omega) ?_
  have:xs≠ys:=fun e2=>e (by rw[e2])
  have hk:=hK w h
  rwa [decide_eq_false this] at hk
theorem ref07_Same_spec {s t:Sl} {xs ys:List Slot} {K:Bool->Pw} (h:Vc.Own B w0 w L) (hr1:Rd Tr.slotE B w0 L s xs) (hr2:Rd Tr.slotE B w0 L t ys) (hs:xs.length≤1000000) (hK:∀w',Vc.Own B w0 w' L->K (decide (xs=ys)) w'):C.qco s t K w:=by
 apply S.qco0;have l1:=hr1.len;have l2:=hr2.len;by_cases e:xs.length=ys.length
 ·refine cbF (by simp;omega) ?_
  intro l3 hl3
  have loop:∀(j i:Nat) (w:World),i+j=xs.length->(∀k,k<i->xs[k]?=ys[k]?)->Vc.Own B w0 w L->l3 (i:Int) w:=by
   intro j
   induction j with
   |zero=>
    intro i w hi hb h;apply hl3;refine cdecF (by omega) ?_;have:xs=ys:=eq_of_get e fun k hk=>hb k (by omega)
    have hk:=hK w h
    rwa [decide_eq_true this] at hk
   |succ j ih=>
    intro i w hi hb h;apply hl3;refine cdecT (by omega) ?_;refine h.dr fun w h=>?_
    have hx:xs[i]?=some xs[i]:=gE (by omega);have hy:ys[i]?=some (ys[i]'(by omega)):=gE (by omega);refine hr1.ix h rfl hx fun a ha h0 hc=>⟨_,hc 0 _ rfl,_,hc 1 _ rfl,?_⟩
    refine hr2.ix h rfl hy fun a ha h0 hc=>⟨_,hc 0 _ rfl,_,hc 1 _ rfl,?_⟩
    refine ⟨_,slotNe18 xs[i] (ys[i]'(by omega)),?_⟩;by_cases e2:xs[i]=ys[i]'(by omega)
    ·refine cbF (by simpa using e2) ?_
     rw[show IntKind.i64.wrap ((i:Int)+1)=((i+1:Nat):Int) from by rw[wr (by omega) (by omega)];omega];refine ih (i+1) w (by omega) (fun k hk=>?_) h;by_cases e3:k=i
     ·subst e3;rw[hx,hy,e2]
     ·exact hb k (by omega)
    ·refine cbT (by simpa using e2) ?_
     have:xs≠ys:=fun e3=>by
      have:xs[i]?=ys[i]?:=by rw[e3]
      rw[hx,hy] at this;exact e2 (by simpa using this)
     have hk:=hK w h
     rwa [decide_eq_false this] at hk
  exact loop xs.length 0 w (by omega) (fun k hk=>by omega) h
 ·refine cbT (by simp;omega) ?_
  have:xs≠ys:=fun e2=>e (by rw[e2])
  have hk:=hK w h
  rwa [decide_eq_false this] at hk
theorem ref14_Same_spec {s t:Sl} {xs ys:List (Int × Tb.Pg)} {K:Bool->Pw} (h:Vc.Own B w0 w L) (hr1:Rd Tb.laidE B w0 L s xs) (hr2:Rd Tb.laidE B w0 L t ys) (hs:xs.length≤1000000) (hK:∀w',Vc.Own B w0 w' L->K (decide (xs=ys)) w'):C.qcW s t K w:=by
 apply S.qcW0;have l1:=hr1.len;have l2:=hr2.len;by_cases e:xs.length=ys.length
 ·refine cbF (by simp;omega) ?_
  intro l3 hl3
  have loop:∀(j i:Nat) (w:World),i+j=xs.length->(∀k,k<i->xs[k]?=ys[k]?)->Vc.Own B w0 w L->l3 (i:Int) w:=by
   intro j
   induction j with
   |zero=>
    intro i w hi hb h;apply hl3;refine cdecF (by omega) ?_;have:xs=ys:=eq_of_get e fun k hk=>hb k (by omega)
    have hk:=hK w h
    rwa [decide_eq_true this] at hk
   |succ j ih=>
    intro i w hi hb h;apply hl3;refine cdecT (by omega) ?_;refine h.dr fun w h=>?_
    have hx:xs[i]?=some xs[i]:=gE (by omega);have hy:ys[i]?=some (ys[i]'(by omega)):=gE (by omega);refine hr1.ix h rfl hx fun a ha h0 hc=>⟨_,hc 0 _ rfl,_,hc 1 _ rfl,_,hc 2 _ rfl,?_⟩
    refine hr2.ix h rfl hy fun a ha h0 hc=>⟨_,hc 0 _ rfl,_,hc 1 _ rfl,_,hc 2 _ rfl,?_⟩
    refine ⟨_,laidNe xs[i] (ys[i]'(by omega)),?_⟩;by_cases e2:xs[i]=ys[i]'(by omega)
    ·refine cbF (by simpa using e2) ?_
     rw[show IntKind.i64.wrap ((i:Int)+1)=((i+1:Nat):Int) from by rw[wr (by omega) (by omega)];omega];refine ih (i+1) w (by omega) (fun k hk=>?_) h;by_cases e3:k=i
     ·subst e3;rw[hx,hy,e2]
     ·exact hb k (by omega)
    ·refine cbT (by simpa using e2) ?_
     have:xs≠ys:=fun e3=>by
      have:xs[i]?=ys[i]?:=by rw[e3]
      rw[hx,hy] at this;exact e2 (by simpa using this)
     have hk:=hK w h
     rwa [decide_eq_false this] at hk
  exact loop xs.length 0 w (by omega) (fun k hk=>by omega) h
 ·refine cbT (by simp;omega) ?_
  have:xs≠ys:=fun e2=>e (by rw[e2])
  have hk:=hK w h
  rwa [decide_eq_false this] at hk
end
def rlnE:EncT Unit:=⟨5,fun _=>[.bool false, .z 0, .y 0, .bool false, .bool false],fun _=>rfl,fun x v h=>by
 simp only[List.mem_cons,List.not_mem_nil,or_false] at h;rcases h with rfl|rfl|rfl|rfl|rfl<;>rfl,by decide⟩
structure RkP where
 n:Nat
 t:Nat
 th:Nat
 ln:Option Addr
 u:Nat
 pb:Nat
 sb:Nat
def rcells (x:RkP):List Value:=[.pointer (some ⟨x.n,0,none⟩), .pointer (some ⟨x.t,0,none⟩), .pointer (some ⟨x.th,0,none⟩), .pointer x.ln, .slice (some ⟨x.u,0,none⟩) 1 1, .slice none 0 0, .slice none 0 0, .slice (some ⟨x.pb,0,none⟩) 1 1, .z 0, .z 0, .z 0, .y 0, .z 0, .slice none 0 0]
def RkS (rb:Nat) (bits:Int) (x:RkP) (k:Ker):Asn:=StarA [BlkA rb (rcells x),Sl.RNodesA x.n k.bits k.H,Tr.RefA x.t k.T,Th.RthA x.th k.t,BlkA x.u [.y 0, .z bits, .y 0],BlkA x.pb [.pointer (some ⟨x.sb,0,none⟩)],BlkA x.sb [.slice none 0 0, .slice none 0 0]]
section
variable {B:Nat} {w0 w:World} {R L:List Asn} {rb N:Nat} {bits:Int} {x:RkP} {k:Ker}
theorem rk (h:Vc.Own B w0 w (RkS rb bits x k::R)):Vc.Own B w0 w (BlkA rb (rcells x)::Sl.RNodesA x.n k.bits k.H::Tr.RefA x.t k.T::Th.RthA x.th k.t::BlkA x.u [.y 0, .z bits, .y 0]::BlkA x.pb [.pointer (some ⟨x.sb,0,none⟩)]::BlkA x.sb [.slice none 0 0, .slice none 0 0]::R):=h.star
theorem mk_rk (h:Vc.Own B w0 w (BlkA rb (rcells x)::Sl.RNodesA x.n k.bits k.H::Tr.RefA x.t k.T::Th.RthA x.th k.t::BlkA x.u [.y 0, .z bits, .y 0]::BlkA x.pb [.pointer (some ⟨x.sb,0,none⟩)]::BlkA x.sb [.slice none 0 0, .slice none 0 0]::R)):Vc.Own B w0 w (RkS rb bits x k::R):=Vc.Own.mk_star h
theorem rlines_New_spec {K:Option Addr->Int->Pw} (h:Vc.Own B w0 w R) (hK:∀b w',Vc.Own B w0 w' R->K b 0 w'):C.qdh 8 K w:=by
 apply S.qdh0;intro k2 hk2;refine cdecF (by decide) ?_;rw[show decide ((8:Int)>64)=false from by decide];apply hk2;refine cbF rfl ?_
 refine Vc.Own.mkSl (E:=rlnE) (z0:=()) Tryz.underlying230 (show Tryz.prog.info? 277=some Tryz.t277 from by kernel_rfl) (zv:= .agg ⟨rlnE.enc ()⟩) (by kernel_rfl) (by kernel_rfl) rfl h (by decide) (by
  have e:Tryz.t277.bytes=32:=by kernel_rfl
  rw[e];decide) (by decide) fun s w hl h=>?_
 refine h.al fun w1 h=>?_
 exact hK _ w1 h.drop.drop
theorem rroot_spec {i kind obj:Int} {K:Pw} (hT:Tr.TOk k.T) (hl:k.T.length<1000000) (hi:i=(k.T.length:Int)) (h:Vc.Own B w0 w (RkS rb bits x k::R)) (hK:∀w',Vc.Own B w0 w' (RkS rb bits x (k.rootK i kind obj)::R)->K w'):C.qM (some ⟨rb,0,none⟩) kind obj K w:=by
 apply S.qM0;have h:=rk h;obtain ⟨s,d,h2⟩:=(h.pick (A:=Tr.RefA x.t k.T)).ref;have hs:(s.len:Int)=i:=by rw[h2.lenc s,Tr.sl7_len,hi]
 refine ⟨_,rfl,_,h.ldd rfl,_,rfl,s,h2.ldc rfl,?_⟩;rw[hs];clear h2 hs;refine h.al fun w1 h=>?_
 generalize w.heap.size=c at h⊢;refine h.stLc rfl rfl fun w h=>?_
 (try dsimp only[putAt,List.set_cons_zero,List.set_cons_succ] at h)
 refine h.dr fun w h=>?_
 refine ⟨_,rfl,_,h.ldc rfl,?_⟩;refine h.lc_2 rfl ⟨?_,trivial⟩;refine Sl.ref05_Put_spec (s:=(0,i)) (c:=⟨kind,obj,7,0,0,0⟩) capR_new (h.pick (A:=Sl.RNodesA x.n k.bits k.H)) fun w h=>?_
 refine h.dr fun w h=>?_
 refine ⟨_,rfl,_,h.ldd rfl,?_⟩;refine h.lc_2 rfl ⟨?_,trivial⟩;refine Tr.rRoot_spec (s:=(0,i)) hT hl (h.pick (A:=Tr.RefA x.t k.T)) fun w h=>?_
 refine hK w ?_;have h:Vc.Own B w0 w (BlkA rb (rcells x)::Sl.RNodesA x.n k.bits (Sl.putN k.bits k.H (0,i) ⟨kind,obj,7,0,0,0⟩).2::Tr.RefA x.t (Tr.rootN k.T (0,i)).2::Th.RthA x.th k.t::BlkA x.u [.y 0, .z bits, .y 0]::BlkA x.pb [.pointer (some ⟨x.sb,0,none⟩)]::BlkA x.sb [.slice none 0 0, .slice none 0 0]::R):=h.sub;exact mk_rk (k:=k.rootK i kind obj) h
theorem root_len {n:Nat} {c:Nat} {i kind obj:Int} (g:BOk c n k) (hi:i=(n:Int)):(k.rootK i kind obj).T.length=k.T.length+1:=by
 have hno:Tr.placeN k.T (0,i)=none:=place_no fun e=>by rw[g.ok.mem,g.free i (by omega)] at e;cases e
 have hT:Tr.rootN k.T (0,i)=(0,k.T++ [((0,i),0)]):=by unfold Tr.rootN;rw[hno]
 unfold Ker.rootK;rw[hT];simp
theorem next_one {p:Nat} {n:Int} (hp:p<256):Th.nextR [(p,n)]=some n:=by
 have hline:∀q,Th.lineOf [(p,n)] q=if q=p then [n] else []:=fun q=>by
  unfold Th.lineOf;by_cases e:q=p
  ·subst e;simp
  ·rw[if_neg e];simp;exact fun e2=>e e2.symm
 have:Th.topO [(p,n)]=some p:=Th.topB_at hp (by unfold Th.some1;rw[hline,if_pos rfl];rfl) fun q h1 h2=>by unfold Th.some1;rw[hline,if_neg (by omega)];rfl
 unfold Th.nextR;rw[this];simp only[Option.bind_some];rw[hline,if_pos rfl];rfl
structure RunJ (c j:Nat) (t:Th.Mt):Prop where
 q:t.qs=List.replicate c []
 l:t.runs.length=c
 old:∀i:Nat,i<j->t.runs[i]?=some (i:Int)
 new:∀i:Nat,j≤i->i<c->t.runs[i]?=some (-1)
theorem RunJ.zero (c:Nat):RunJ c 0 (Th.newM c):=⟨rfl,by simp[Th.newM],fun i h=>by omega,fun i _ h=>by simp[Th.newM,h]⟩
theorem RunJ.some {c j i:Nat} {t:Th.Mt} (h:RunJ c j t) (hi:i<j) (hc:i<c):t.runs? (i:Int)=some (i:Int):=by
 have e:t.run (i:Int)=(i:Int):=by
  unfold Th.Mt.run;rw[if_neg (by omega),Int.toNat_natCast,h.old i hi];rfl
 unfold Th.Mt.runs?;rw[e,if_pos ⟨Th.isC_iff.2 ⟨by omega,by rw[h.q,List.length_replicate];omega⟩,by omega⟩]
theorem RunJ.next {c j:Nat} {t:Th.Mt} {p:Int} (h:RunJ c j t) (hj:j<c) (ht:t.ths.length=j) (hp:0≤p/\p<256):RunJ c (j+1) (((t.make p (j:Int)).resumeR (j:Int)).2.pickC (j:Int)):=by
 obtain ⟨q,rfl⟩:=Int.eq_ofNat_of_zero_le hp.1;have hq:=h.q;have h1:(t.make (q:Int) (j:Int)).isT (j:Int)=true:=by unfold Th.Mt.isT Th.Mt.make;simp[ht];omega
 have h2:(t.make (q:Int) (j:Int)).th (j:Int)=⟨0,(q:Int),(j:Int),5,fun _=>0⟩:=by
  unfold Th.Mt.th Th.Mt.make;rw[if_neg (by omega),Int.toNat_natCast];simp[←ht]
 have h3:(t.make (q:Int) (j:Int)).q (j:Int)= []:=by
  unfold Th.Mt.q;rw[if_neg (by omega),Int.toNat_natCast];show (t.qs[j]?).getD []= []
  rw[hq,List.getElem?_replicate,if_pos hj];rfl
 have h4:Th.putR [] (q:Int) (j:Int)=(0,[(q,(j:Int))]):=by
  unfold Th.putR;rw[if_neg (by omega)];rfl
 obtain ⟨t2,e2⟩:∃t2,t2=((t.make (q:Int) (j:Int)).setTh (j:Int) ⟨1,(q:Int),(j:Int),5,fun _=>0⟩).setQ (j:Int) [(q,(j:Int))]:=⟨_,rfl⟩
 have e1:((t.make (q:Int) (j:Int)).resumeR (j:Int)).2=t2:=by
  unfold Th.Mt.resumeR;rw[if_neg (by rw[h1];decide),h2,if_neg (by simp)];unfold Th.Mt.lineUp;rw[h2,h3,h4,e2]
 have hq2:t2.qs=(List.replicate c []).set j [(q,(j:Int))]:=by rw[e2,←hq];rfl
 have hr2:t2.runs=t.runs:=by rw[e2];rfl
 have q2:t2.q (j:Int)= [(q,(j:Int))]:=by
  unfold Th.Mt.q;rw[if_neg (by omega),Int.toNat_natCast,hq2,List.getElem?_set_self (by rw[List.length_replicate];exact hj)];rfl
 have th2:t2.th (j:Int)=⟨1,(q:Int),(j:Int),5,fun _=>0⟩:=by
  unfold Th.Mt.th;rw[if_neg (by omega),Int.toNat_natCast,e2];show (((t.ths++ [_]).set (j:Int).toNat _)[j]?).getD Th.zTh=_;rw[Int.toNat_natCast,List.getElem?_set_self (by rw[List.length_append,ht];simp)];rfl
 have r2:t2.run (j:Int)= -1:=by
  unfold Th.Mt.run;rw[if_neg (by omega),Int.toNat_natCast,hr2,h.new j (Nat.le_refl _) hj];rfl
 have hc:t2.isC (j:Int)=true:=Th.isC_iff.2 ⟨by omega,by rw[hq2,List.length_set,List.length_replicate];omega⟩
 have h5:Th.takeR [(q,(j:Int))] (j:Int)=(0,[]):=by
  unfold Th.takeR Th.wh;simp
 have e3:t2.pickC (j:Int)=((t2.setQ (j:Int) []).setTh (j:Int) ⟨2,(q:Int),(j:Int),5,fun _=>0⟩).setR (j:Int) (j:Int):=by
  unfold Th.Mt.pickC;rw[if_pos hc];unfold Th.Mt.pick;rw[q2,next_one (by omega)];dsimp only;rw[if_pos r2];unfold Th.Mt.leave Th.Mt.leave0;rw[th2,if_pos rfl,q2,h5]
 rw[e1,e3];refine ⟨?_,?_,fun i hi=>?_,fun i h0 h1=>?_⟩
 ·show (t2.qs.set (j:Int).toNat [])=_
  rw[hq2,Int.toNat_natCast,List.set_set];apply List.ext_getElem?;intro i;rw[List.getElem?_set];split
  ·rename_i e
   rw[←e,List.length_replicate,if_pos hj,List.getElem?_replicate,if_pos hj]
  ·rfl
 ·show (t2.runs.set (j:Int).toNat (j:Int)).length=c
  rw[List.length_set,hr2,h.l]
 ·show (t2.runs.set (j:Int).toNat (j:Int))[i]?=_
  rw[hr2,Int.toNat_natCast,List.getElem?_set];split
  ·rename_i e
   rw[if_pos (by rw[h.l];exact hj),e]
  ·exact h.old i (by omega)
 ·show (t2.runs.set (j:Int).toNat (j:Int))[i]?=_
  rw[hr2,Int.toNat_natCast,List.getElem?_set_ne (by omega)];exact h.new i (by omega) h1
theorem BOk.threadT {c j:Nat} {p:Int} (h:BOk c (2+j) k) (hj:j<c) (h8:c≤8) (ht:k.t.ths.length=j) (hp:0≤p/\p<256):
  BOk c (2+j) (k.setT (((k.t.makeR p (j:Int)).2.2.resumeR (k.t.makeR p (j:Int)).1).2.pickC (j:Int))):=by
 have hc:k.t.isC (j:Int)=true:=(h.core _).2 ⟨by omega,by omega⟩;obtain ⟨_,_,hm⟩:=h.thread hj h8 ht hp;rw[hm];dsimp only
 have hl:(((k.t.make p (j:Int)).resumeR (j:Int)).2.pickC (j:Int)).ths.length=j+1:=by
  rw[pickC_len,resumeR_len];unfold Th.Mt.make;simp[ht]
 have hi:=((h.ok.inv.make (p:=p) (c:=(j:Int)) (by omega) hc hp).resume (j:Int)).pickC (j:Int);refine ⟨h.ok.setT hi (by rw[hl];omega),h.free,h.bits,fun n=>?_,h.sp,h.u1⟩;show (((k.t.make p (j:Int)).resumeR (j:Int)).2.pickC (j:Int)).isC n=true↔_;rw[pickC_isC,resumeR_isC,make_isC];exact h.core n
set_option maxHeartbeats 2000000 in
theorem ref18_Boot_spec {c bits lines:Int} {prios:List Int} {s:Sl} {K:Option Addr->Int->Pw} [I:SlIn s L Int intE prios] (h:Vc.Own B w0 w L) (hbig:prios.length≤1000000000)
  (hK0:Ker.rightB c bits lines prios=false->∀w',Vc.Own B w0 w' L->K none 1 w')
  (hK1:Ker.rightB c bits lines prios=true->∀b x w',(Ker.bootK c.toNat bits.toNat lines.toNat prios).T.length=3+c.toNat+lines.toNat->(∀i:Nat,i<c.toNat->(Ker.bootK c.toNat bits.toNat lines.toNat prios).t.runs? (i:Int)=some (i:Int))->Vc.Own B w0 w' (RkS b bits x (Ker.bootK c.toNat bits.toNat lines.toNat prios)::L)->K (some ⟨b,0,none⟩) 0 w'):C.qcU c bits lines s K w:=by
 apply S.qcU0;have hlen:s.len=prios.length:=h.lenc s;refine h.al fun w1 h=>?_
 generalize w.heap.size=cb at h⊢;intro k6 hk6
 have bad:Ker.rightB c bits lines prios=false->k6 true w1:=fun e=>by
  apply hk6;exact cbT rfl (hK0 e w1 h.drop)
 refine ⟨_,h.ldc rfl,cdec (fun e=>bad (decide_eq_false fun hh=>by have:=hh.1;omega)) fun e1=>?_⟩;refine ⟨_,h.ldc rfl,cdec (fun e=>bad (decide_eq_false fun hh=>by have:=hh.2.1;omega)) fun e2=>?_⟩;refine ⟨_,h.ldd rfl,cdec (fun e=>bad (decide_eq_false fun hh=>by have:=hh.2.2.1;omega)) fun e3=>?_⟩;refine ⟨_,h.ldd rfl,cdec (fun e=>bad (decide_eq_false fun hh=>by have:=hh.2.2.2.1;omega)) fun e4=>?_⟩;refine ⟨_,h.ldd rfl,cdec (fun e=>bad (decide_eq_false fun hh=>by have:=hh.2.2.2.2.1;omega)) fun e5=>?_⟩;refine ⟨_,h.ldd rfl,cdec (fun e=>bad (decide_eq_false fun hh=>by have:=hh.2.2.2.2.2.1;omega)) fun e6=>?_⟩;refine ⟨s,h.ldd rfl,_,h.ldc rfl,?_⟩;by_cases e7:(s.len:Int)=c
 case neg=>
  rw[show ((s.len:Int) !=c)=true from bne_iff_ne.2 e7];exact bad (decide_eq_false fun hh=>by have:=hh.2.2.2.2.2.2.1;omega)
 rw[show ((s.len:Int) !=c)=false from by rw[e7];exact bne_self_eq_false c];clear bad;apply hk6;refine cbF rfl ?_;intro l9 hl9
 have check:∀(d i:Nat) (w:World),i+d=prios.length->(∀p∈prios.take i,0≤p/\p<256)->Vc.Own B w0 w (BlkA cb [.z c, .z bits, .z lines, .slice s.a s.len s.cap]::L)->l9 (i:Int) w:=by
  intro d
  induction d with
  |succ d ih=>
   intro i w hi hp h;have hx:prios[i]?=some prios[i]:=gE (by omega);generalize prios[i]=p at hx;have hpm:=List.mem_of_getElem? hx;apply hl9;refine ⟨s,h.ldd rfl,cdecT (by omega) ?_⟩;intro k13 hk13
   have bad:¬(0≤p/\p<256)->k13 true w:=fun e=>by
    apply hk13;exact cbT rfl (hK0 (decide_eq_false fun hh=>e (hh.2.2.2.2.2.2.2 p hpm)) w h.drop)
   refine ⟨s,h.ldd rfl,?_⟩;refine h.ixc (s:=s) rfl hx fun a ha hc0 hc=>⟨_,hc0 _ rfl,?_⟩
   refine cdec (fun e=>bad (by omega)) (fun e=>?_);refine ⟨s,h.ldd rfl,?_⟩;refine h.ixc (s:=s) rfl hx fun a ha hc0 hc=>⟨_,hc0 _ rfl,?_⟩
   by_cases e2:p>255
   ·rw[decide_eq_true e2];exact bad (by omega)
   ·rw[decide_eq_false e2]
    apply hk13;refine cbF rfl ?_;rw[show IntKind.i64.wrap ((i:Int)+1)=((i+1:Nat):Int) from by rw[wr (by omega) (by omega)];omega];refine ih (i+1) w (by omega) (fun q hq=>?_) h;rw[List.take_add_one,hx] at hq;rcases List.mem_append.1 hq with hq|hq
    ·exact hp q hq
    ·have:q=p:=by simpa using hq
     rw[this];omega
  |zero=>
   intro i w hi hp h;rw[List.take_of_length_le (by omega)] at hp;have hr:Ker.rightB c bits lines prios=true:=decide_eq_true ⟨by omega,by omega,by omega,by omega,by omega,by omega,by omega,hp⟩;have hK:=hK1 hr;apply hl9;clear hK0 hK1 hl9 hk6;obtain ⟨b1,b2,b3,b4,b5,b6,b7,b8⟩:=of_decide_eq_true hr;obtain ⟨c,rfl⟩:=Int.eq_ofNat_of_zero_le (show 0≤c by omega);obtain ⟨bits,rfl⟩:=Int.eq_ofNat_of_zero_le (show 0≤bits by omega);obtain ⟨lines,rfl⟩:=Int.eq_ofNat_of_zero_le b5;have b2:c≤8:=by omega
   have b9:4≤bits/\bits≤20:=⟨by omega,by omega⟩
   have b6:lines≤8:=by omega
   have b7:prios.length=c:=by omega
   simp only[Int.toNat_natCast] at hK;refine ⟨s,h.ldd rfl,cdecF (by omega) ?_⟩;refine ⟨_,h.ldc rfl,?_⟩;refine Th.ref10_New_spec (c:=c) (by omega) b2 h fun thb w h=>?_
   refine rlines_New_spec h fun lp w h=>?_
   refine h.al fun w1 h=>?_
   generalize w.heap.size=nb at h⊢;refine h.al fun w2 h=>?_
   generalize w1.heap.size=tb at h⊢;refine ⟨_,h.ldd rfl,?_⟩;refine h.al fun w3 h=>?_
   generalize w2.heap.size=ub at h⊢;refine h.al fun w4 h=>?_
   generalize w3.heap.size=sb at h⊢;refine h.al fun w5 h=>?_
   generalize w4.heap.size=pb at h⊢;refine h.al fun w6 h=>?_
   generalize w5.heap.size=rb at h⊢;refine ⟨_,rfl,_,h.ldc rfl,?_⟩;have h:Vc.Own B w0 w6 (Sl.RNodesA nb [] (fun _=>none)::_):=Vc.Own.mk_rnodes (s:=⟨none,0,0⟩) (ss:=[]) ⟨by simp,by simp,fun s c h=>by cases h⟩ (Vc.Own.rows_nil (Vc.Own.nilS (h.pick (A:=BlkA nb [.slice none 0 0]))).up1);refine Sl.ref05_Make_spec (z:=6) h fun w h=>?_
   have h:Vc.Own B w0 w (Tr.RefA tb []::_):=Vc.Own.mk_ref (s:=⟨none,0,0⟩) (d:=⟨none,0,0⟩) (Vc.Own.nilS (Vc.Own.nilS (h.pick (A:=BlkA tb [.slice none 0 0, .slice none 0 0]))));have h:Vc.Own B w0 w (BlkA rb (rcells ⟨nb,tb,thb,lp,ub,pb,sb⟩)::Sl.RNodesA nb [6] (fun _=>none)::Tr.RefA tb []::Th.RthA thb (Th.newM c)::BlkA ub [.y 0, .z bits, .y 0]::BlkA pb [.pointer (some ⟨sb,0,none⟩)]::BlkA sb [.slice none 0 0, .slice none 0 0]::BlkA cb [.z c, .z bits, .z lines, .slice s.a s.len s.cap]::L):=(show Vc.Own B w0 w (BlkA rb [.pointer (some ⟨nb,0,none⟩), .pointer (some ⟨tb,0,none⟩), .pointer (some ⟨thb,0,none⟩), .pointer lp, .slice (some ⟨ub,0,none⟩) 1 1, .slice none 0 0, .slice none 0 0, .slice (some ⟨pb,0,none⟩) 1 1, .z 0, .z 0, .z 0, .y 0, .z 0, .slice none 0 0]::Sl.RNodesA nb (Sl.makeN [] 6).2.2 (fun _=>none)::Tr.RefA tb []::Th.RthA thb (Th.newM c)::BlkA ub [.y 0, .z bits, .y 0]::BlkA pb [.pointer (some ⟨sb,0,none⟩)]::BlkA sb [.slice none 0 0, .slice none 0 0]::BlkA cb [.z c, .z bits, .z lines, .slice s.a s.len s.cap]::L) from h.sub)
   have h:=mk_rk (k:=Ker.newK c bits) h;generalize (⟨nb,tb,thb,lp,ub,pb,sb⟩:RkP)=x at h;have g0:=newK_ok (c:=c) b2 b9;obtain ⟨g1,g2⟩:=boot_two (c:=c) b2 b9;have few:∀{m:Nat} {k:Ker},BOk c m k->k.T.length<1000000:=fun g=>by have:=g.ok.few;omega
   have t1:=root_len (i:=0) (kind:=2) (obj:=0) g0 rfl;have t2:=root_len (i:=1) (kind:=1) (obj:=0) g1 rfl;refine rroot_spec (i:=0) g0.ok.tok (few g0) rfl h fun w h=>?_
   refine rroot_spec (i:=1) g1.ok.tok (few g1) (by rw[t1];rfl) h fun w h=>?_
   intro l43 hl43
   have loop:∀(ps:List Int) (j:Nat) (k:Ker) (w:World),prios.drop j=ps->j+ps.length=c->BOk c (2+j) k->k.t.ths.length=j->k.T.length=2+j->RunJ c j k.t->Ker.bootT ps j k=Ker.bootT prios 0 (((Ker.newK c bits).rootK 0 2 0).rootK 1 1 0)->
     Vc.Own B w0 w (RkS rb bits x k::BlkA cb [.z c, .z bits, .z lines, .slice s.a s.len s.cap]::L)->l43 (j:Int) w:=by
    intro ps
    induction ps with
    |nil=>
     intro j k w hd hj g ht htl hrun he h;have hj:j=c:=hj;have he:k=_:=he;apply hl43;refine ⟨_,h.ldc rfl,cdecF (by omega) ?_⟩;have t3:=root_len (i:=((2+j:Nat):Int)) (kind:=8) (obj:=0) g rfl;refine rroot_spec (i:=((2+j:Nat):Int)) g.ok.tok (few g) (by rw[htl]) h fun w h=>?_
     intro l67 hl67;have g3:=g.space (by omega)
     have lines_loop:∀(q t:Nat) (k:Ker) (w:World),t+q=lines->BOk c (3+c+t) k->k.T.length=3+c+t->(∀i:Nat,i<c->k.t.runs? (i:Int)=some (i:Int))->Ker.bootL q t (3+prios.length) k=Ker.bootK c bits lines prios->k.t.ths.length=c->Vc.Own B w0 w (RkS rb bits x k::BlkA cb [.z c, .z bits, .z lines, .slice s.a s.len s.cap]::L)->l67 (t:Int) w:=by
      intro q
      induction q with
      |zero=>
       intro t k w hq g htl hrn he ht h;have he:k=Ker.bootK c bits lines prios:=he;apply hl67;refine ⟨_,h.ldd rfl,cdecF (by omega) ?_⟩;refine hK rb x w (by rw[←he,htl];omega) (by rw[←he];exact hrn) ?_;rw[←he];exact h.sub
      |succ q ih=>
       intro t k w hq g htl hrn he ht h;apply hl67;refine ⟨_,h.ldd rfl,cdecT (by omega) ?_⟩;have t4:=root_len (i:=((3+c+t:Nat):Int)) (kind:=9) (obj:=(t:Int)) g rfl;refine rroot_spec (i:=((3+c+t:Nat):Int)) g.ok.tok (few g) (by rw[htl]) h fun w h=>?_
       rw[show IntKind.i64.wrap ((t:Int)+1)=((t+1:Nat):Int) from by rw[wr (by omega) (by omega)];omega];refine ih (t+1) _ w (by omega) (g.line (by omega) (by omega)) (by rw[t4,htl];omega) hrn ?_ ht h;rw[←he,b7];rfl
     refine lines_loop lines 0 (k.rootK ((2+j:Nat):Int) 8 0) w (by omega) (show BOk c (3+c+0) (k.rootK ((2+j:Nat):Int) 8 0) from by rw[show 3+c+0=2+j+1 from by omega];exact g3) (by rw[t3,htl];omega) (fun i hi=>hrun.some (by omega) (by omega)) ?_ (ht.trans hj) h;unfold Ker.bootK;rw[←he,hj,b7]
    |cons p ps ih=>
     intro j k w hd hj g ht htl hrun he h;rw[List.length_cons] at hj
     have hx:prios[j]?=some p:=by
      have:=congrArg (fun l=>l[0]?) hd;simpa using this
     have hp:0≤p/\p<256:=b8 p (List.mem_of_getElem? hx);obtain ⟨g3,g4,g5⟩:=g.thread (by omega) b2 ht hp;have g6:BOk c (2+j) (k.setT (((k.t.makeR p (j:Int)).2.2.resumeR (k.t.makeR p (j:Int)).1).2.pickC (j:Int))):=g.threadT (by omega) b2 ht hp;have t5:=root_len (i:=((2+j:Nat):Int)) (kind:=3) (obj:=(j:Int)) g6 rfl;apply hl43;refine ⟨_,h.ldc rfl,cdecT (by omega) ?_⟩;refine h.dr fun w h=>?_
     have h:=rk h;refine ⟨_,rfl,_,h.ldd rfl,s,h.ldd rfl,?_⟩;refine h.ixc (s:=s) (i:=(j:Int)) (j:=j) rfl hx fun a ha h0 hcc=>⟨_,h0 _ rfl,?_,trivial⟩
     refine Th.ref10_Make_spec g.ok.inv.ok (h.pick (A:=Th.RthA x.th k.t)) fun w h=>?_
     have i1:=g.ok.inv.makeR p (j:Int);rw[g5] at h i1 g6 g3 g4;refine ⟨_,rfl,_,h.ldd rfl,?_⟩;refine Th.ref10_Resume_spec i1 h fun w h=>?_
     refine ⟨_,rfl,_,h.ldd rfl,?_⟩;refine Th.ref10_Pick_spec (i1.resume _) h fun w h=>?_
     have h:Vc.Own B w0 w (BlkA rb (rcells x)::Sl.RNodesA x.n k.bits k.H::Tr.RefA x.t k.T::Th.RthA x.th (((k.t.make p (j:Int)).resumeR (j:Int)).2.pickC (j:Int))::BlkA x.u [.y 0, .z bits, .y 0]::BlkA x.pb [.pointer (some ⟨x.sb,0,none⟩)]::BlkA x.sb [.slice none 0 0, .slice none 0 0]::BlkA cb [.z c, .z bits, .z lines, .slice s.a s.len s.cap]::L):=h.sub;have h:=mk_rk (k:=k.setT (((k.t.make p (j:Int)).resumeR (j:Int)).2.pickC (j:Int))) h;refine rroot_spec (i:=((2+j:Nat):Int)) g6.ok.tok (few g6) (by show ((2+j:Nat):Int)=(k.T.length:Int);rw[htl]) h fun w h=>?_
     rw[show IntKind.i64.wrap ((j:Int)+1)=((j+1:Nat):Int) from by rw[wr (by omega) (by omega)];omega];refine ih (j+1) _ w ?_ (by omega) g3 g4 (by rw[g5] at t5;exact t5.trans (by show k.T.length+1=_;omega)) (hrun.next (by omega) ht hp) ?_ h
     ·rw[←List.drop_drop,hd];rfl
     ·rw[←he]
      show _=Ker.bootT ps (j+1) ((k.setT (((k.t.makeR p (j:Int)).2.2.resumeR (k.t.makeR p (j:Int)).1).2.pickC (j:Int))).rootK ((2+j:Nat):Int) 3 (k.t.makeR p (j:Int)).1);rw[g5]
   exact loop prios 0 _ w rfl (by omega) g2 rfl (by rw[t2,t1];rfl) (RunJ.zero c) rfl h
 exact check prios.length 0 w1 (by omega) (fun p hp=>by simp at hp) h
end
theorem thX18 (a b:Th.Thd):eqX Tryz.prog 9 53 (Th.thE.enc a) (Th.thE.enc a)=some true:=by
 have h:eqX Tryz.prog 9 53 (Th.thE.enc a) (Th.thE.enc a)=some (a.st==a.st&&(a.pr==a.pr&&(a.co==a.co&&(a.le==a.le&&((a.rg 0==a.rg 0&&(a.rg 1==a.rg 1&&(a.rg 2==a.rg 2&&(a.rg 3==a.rg 3&&(a.rg 4==a.rg 4&&(a.rg 5==a.rg 5&&(a.rg 6==a.rg 6&&(a.rg 7==a.rg 7&&true))))))))&&true))))):=by kernel_rfl
 rw[h];simp
theorem thNe18 {x y:Operand} (a:Th.Thd):EqB Tryz.prog .neq 53 x y (.agg ⟨Th.thE.enc a⟩) (.agg ⟨Th.thE.enc a⟩) false:=
 neB_x (x:=x) (y:=y) (P:=Tryz.prog) (t:=53) (xs:=Th.thE.enc a) (ys:=Th.thE.enc a) (by kernel_rfl) (by kernel_rfl) (by kernel_rfl) (thX18 a a)
section
variable {B:Nat} {w0 w:World} {R L:List Asn} {rb kb N:Nat} {bits:Int} {x:RkP} {k:Ker}
theorem rPages0 {sb:Nat} {K:Sl->Pw} (h:Vc.Own B w0 w (BlkA sb [.slice none 0 0, .slice none 0 0]::R)) (hK:∀s w',Vc.Own B w0 w' (SlT Tb.laidE s []::BlkA sb [.slice none 0 0, .slice none 0 0]::R)->K s w'):C.qbj (some ⟨sb,0,none⟩) K w:=by
 apply S.qbj0;refine h.al fun w1 h=>?_
 generalize w.heap.size=p at h⊢;have h:=Vc.Own.asSl (E:=Tb.laidE) h [] rfl;intro l3 hl3;apply hl3;intro k7 hk7;refine cdecT (by decide) ⟨_,rfl,⟨none,0,0⟩,h.ldd rfl,?_⟩;rw[show decide (((0:Nat):Int)<((0:Nat):Int))=false from rfl];apply hk7;refine cbF rfl ?_;exact hK _ w1 h
set_option maxHeartbeats 2000000 in
theorem bsame_spec {c b:Nat} {K:Bool->Pw} (hk:KOk N k) (hsp:k.spaces= [Tb.newS]) (hu:k.u= [⟨0,b,0⟩]) (hbits:bits=(b:Int)) (hc8:c≤8) (hN:N≤1000) (ht:k.t.ths.length≤64) (h:Vc.Own B w0 w (KerA kb k::RkS rb bits x k::R)) (hK:∀w',Vc.Own B w0 w' (KerA kb k::RkS rb bits x k::R)->K true w'):
  C.qcV (some ⟨kb,0,none⟩) (some ⟨rb,0,none⟩) (c:Int) K w:=by
 apply S.qcV0;intro k4 hk4
 have main:∀w,Vc.Own B w0 w (KerA kb k::BlkA rb (rcells x)::Th.RthA x.th k.t::BlkA x.u [.y 0, .z bits, .y 0]::BlkA x.pb [.pointer (some ⟨x.sb,0,none⟩)]::BlkA x.sb [.slice none 0 0, .slice none 0 0]::Sl.RNodesA x.n k.bits k.H::Tr.RefA x.t k.T::R)->k4 false w:=fun w h=>by
  apply hk4;refine cbF rfl ?_;intro l7 hl7
  have threads:∀(d i:Nat) (w:World),i+d=k.t.ths.length+1->Vc.Own B w0 w (KerA kb k::BlkA rb (rcells x)::Th.RthA x.th k.t::BlkA x.u [.y 0, .z bits, .y 0]::BlkA x.pb [.pointer (some ⟨x.sb,0,none⟩)]::BlkA x.sb [.slice none 0 0, .slice none 0 0]::Sl.RNodesA x.n k.bits k.H::Tr.RefA x.t k.T::R)->l7 (i:Int) w:=by
   intro d
   induction d with
   |zero=>
    intro i w hi h;apply hl7;obtain ⟨l,q,bs,hbs,h2⟩:=(h.pick (A:=Th.RthA x.th k.t)).rth;have hl:=h2.lenc l;refine ⟨_,rfl,_,h.ldd rfl,_,rfl,l,h2.ldc rfl,cdecF (by omega) ?_⟩;clear h2;intro l76 hl76
    have two:∀w,Vc.Own B w0 w (KerA kb k::BlkA rb (rcells x)::Th.RthA x.th k.t::BlkA x.u [.y 0, .z bits, .y 0]::BlkA x.pb [.pointer (some ⟨x.sb,0,none⟩)]::BlkA x.sb [.slice none 0 0, .slice none 0 0]::Sl.RNodesA x.n k.bits k.H::Tr.RefA x.t k.T::R)->l76 1 w:=fun w h=>by
     apply hl76;refine ⟨_,rfl,⟨some ⟨x.u,0,none⟩,1,1⟩,h.ldd rfl,cdecF (by simp) ?_⟩;intro l102 hl102;apply hl102;refine ⟨_,rfl,⟨none,0,0⟩,h.ldd rfl,cdecF (by decide) ?_⟩;intro l122 hl122;apply hl122;refine ⟨_,rfl,⟨none,0,0⟩,h.ldd rfl,cdecF (by decide) ?_⟩;intro l140 hl140
     have runs:∀w,Vc.Own B w0 w (KerA kb k::BlkA rb (rcells x)::Th.RthA x.th k.t::BlkA x.u [.y 0, .z bits, .y 0]::BlkA x.pb [.pointer (some ⟨x.sb,0,none⟩)]::BlkA x.sb [.slice none 0 0, .slice none 0 0]::Sl.RNodesA x.n k.bits k.H::Tr.RefA x.t k.T::R)->l140 2 w:=fun w h=>by
      apply hl140;refine ⟨_,rfl,⟨some ⟨x.pb,0,none⟩,1,1⟩,h.ldd rfl,cdecF (by simp) ?_⟩;intro l161 hl161
      have loop:∀(d i:Nat) (w:World),i+d=c+1->Vc.Own B w0 w (KerA kb k::BlkA rb (rcells x)::Th.RthA x.th k.t::BlkA x.u [.y 0, .z bits, .y 0]::BlkA x.pb [.pointer (some ⟨x.sb,0,none⟩)]::BlkA x.sb [.slice none 0 0, .slice none 0 0]::Sl.RNodesA x.n k.bits k.H::Tr.RefA x.t k.T::R)->l161 (i:Int) w:=by
       intro d
       induction d with
       |zero=>
        intro i w hi h;apply hl161;refine cdecF (by omega) ?_;exact hK w (show Vc.Own B w0 w (KerA kb k::RkS rb bits x k::R) from (mk_rk h.sub).up1)
       |succ d ih=>
        intro i w hi h;apply hl161;refine cdecT (by omega) ?_;refine Runs_spec hk h fun w h=>?_
        refine ⟨_,rfl,_,h.ldd rfl,?_⟩;refine Th.ref10_Runs_spec hk.inv.ok (hk.inv.runsOk _) (h.pick (A:=Th.RthA x.th k.t)) ?_;intro k172 hk172;refine cneF rfl ?_;rw[beq_self_eq_true];apply hk172;refine cbF rfl ?_;rw[show IntKind.i64.wrap ((i:Int)+1)=((i+1:Nat):Int) from by rw[wr (by omega) (by omega)];omega];exact ih (i+1) w (by omega) h
      exact loop (c+1) 0 w (by omega) h
     have one:∀w,Vc.Own B w0 w (KerA kb k::BlkA rb (rcells x)::Th.RthA x.th k.t::BlkA x.u [.y 0, .z bits, .y 0]::BlkA x.pb [.pointer (some ⟨x.sb,0,none⟩)]::BlkA x.sb [.slice none 0 0, .slice none 0 0]::Sl.RNodesA x.n k.bits k.H::Tr.RefA x.t k.T::R)->l140 1 w:=fun w h=>by
      apply hl140;refine ⟨_,rfl,⟨some ⟨x.pb,0,none⟩,1,1⟩,h.ldd rfl,cdecT (by simp) ?_⟩;refine h.al fun w1 h=>?_
      generalize w.heap.size=p at h⊢;have h:=Vc.Own.asSl (E:=Tb.laidE) h [] rfl;refine ⟨_,rfl,⟨some ⟨x.pb,0,none⟩,1,1⟩,h.ldd rfl,?_⟩;intro k148 hk148;refine cdecF (by simp) ?_;apply hk148;refine Pages_spec (n:=1) (h.pick (A:=KerA kb k)) fun s1 w h=>?_
      have e:k.pagesR 1= []:=by unfold Ker.pagesR Ker.inB;rw[hsp];rfl
      rw[e] at h;refine ref14_Same_spec h (Rd.own (h.lenc s1)) (Rd.own (h.lenc ⟨some ⟨p,0,none⟩,0,0⟩)) (by simp) fun w h=>?_
      refine cbF rfl ?_;exact runs w h.sub
     apply hl140;refine ⟨_,rfl,⟨some ⟨x.pb,0,none⟩,1,1⟩,h.ldd rfl,cdecT (by simp) ?_⟩;refine h.al fun w1 h=>?_
     generalize w.heap.size=p at h⊢;refine ⟨_,rfl,⟨some ⟨x.pb,0,none⟩,1,1⟩,h.ldd rfl,?_⟩;intro k148 hk148;refine cdecT (by simp) ?_;refine ⟨_,rfl,⟨some ⟨x.pb,0,none⟩,1,1⟩,h.ldd rfl,_,rfl,by simp,by simp,_,h.ldc rfl,?_⟩;refine rPages0 (h.pick (A:=BlkA x.sb [.slice none 0 0, .slice none 0 0])) fun s2 w h=>?_
     apply hk148;refine Pages_spec (n:=0) (h.pick (A:=KerA kb k)) fun s1 w h=>?_
     have e:k.pagesR 0= []:=by unfold Ker.pagesR Ker.inB Ker.sAt;rw[hsp];rfl
     rw[e] at h;refine ref14_Same_spec h (Rd.own (h.lenc s1)) (Rd.own (h.lenc s2)) (by simp) fun w h=>?_
     refine cbF rfl ?_;exact one w h.sub
    apply hl76;refine ⟨_,rfl,⟨some ⟨x.u,0,none⟩,1,1⟩,h.ldd rfl,cdecT (by simp) ?_⟩;refine Untyped_spec (n:=0) h fun w h=>?_
    have e:k.untR 0=(⟨0,b,0⟩,true):=by unfold Ker.untR Ker.inB Ker.uAt;rw[hu];rfl
    rw[e];refine h.al fun w1 h=>?_
    generalize w.heap.size=p at h⊢;refine h.stLc rfl rfl fun w h=>?_
    (try dsimp only[putAt,List.set_cons_zero,List.set_cons_succ] at h)
    intro k88 hk88;refine h.dr fun w h=>?_
    refine cbF rfl ?_;refine h.lc_3 rfl ?_;refine ⟨_,rfl,⟨some ⟨x.u,0,none⟩,1,1⟩,h.ldd rfl,_,rfl,by simp,by simp,?_⟩;refine h.lc_3 (b:=x.u) (o:=0) rfl ?_;rw[hbits];refine ⟨_,untNe ⟨0,b,0⟩ ⟨0,b,0⟩,?_⟩;rw[decide_eq_true rfl];apply hk88;refine cbF rfl ?_;rw[show IntKind.i64.wrap ((0:Int)+1)=1 from rfl];exact two w h.sub
   |succ d ih=>
    intro i w hi h;apply hl7;obtain ⟨l,q,bs,hbs,h2⟩:=(h.pick (A:=Th.RthA x.th k.t)).rth;have hl:=h2.lenc l;refine ⟨_,rfl,_,h.ldd rfl,_,rfl,l,h2.ldc rfl,cdecT (by omega) ?_⟩;clear h2;refine Thread_spec h fun w t1 e1 h=>?_
    refine h.al fun w1 h=>?_
    generalize w.heap.size=p at h⊢;refine h.stLc rfl rfl fun w h=>?_
    (try dsimp only[putAt,List.set_cons_zero,List.set_cons_succ] at h)
    refine ⟨_,rfl,_,h.ldd rfl,?_⟩;refine Th.ref10_Get_spec (h.pick (A:=Th.RthA x.th k.t)) fun w t2 e2 h=>?_
    have e3:t2=t1:=e2.trans e1.symm;subst e3;refine h.al fun w1 h=>?_
    generalize w.heap.size=p2 at h⊢;refine h.stLc rfl rfl fun w h=>?_
    (try dsimp only[putAt,List.set_cons_zero,List.set_cons_succ] at h)
    intro k48 hk48;refine h.lc_12 rfl ?_;refine h.lc_12 rfl ?_;refine ⟨_,thNe18 t2,?_⟩;refine cbF rfl ?_;rw[show ((if k.t.isT (i:Int) then (0:Int) else 100) !=(if k.t.isT (i:Int) then (0:Int) else 100))=false from bne_self_eq_false _];apply hk48;refine cbF rfl ?_;rw[show IntKind.i64.wrap ((i:Int)+1)=((i+1:Nat):Int) from by rw[wr (by omega) (by omega)];omega];exact ih (i+1) w (by omega) h.sub
  exact threads (k.t.ths.length+1) 0 w (by omega) h
 refine h.dr fun w h=>?_
 have h:=rk h.up1;refine ⟨_,rfl,_,h.ldc rfl,?_,trivial⟩;refine Held_spec hk (h.pick (A:=KerA kb k)) fun s1 w h=>?_
 refine ⟨h.ldc rfl,?_,trivial⟩;refine Sl.ref05_Held_spec (h.pick (A:=Sl.RNodesA x.n k.bits k.H)) fun s2 hs w hih h=>?_
 obtain rfl:hs=heldL k.H:=hih.uniq (heldL_ok fun t c hc=>(hk.held t c hc).1);refine ⟨?_,trivial⟩;refine ref05_Same_spec h (Rd.own (h.lenc s1)) (Rd.own (h.lenc s2)) (by have:=heldL_len k.H;omega) fun w h=>?_
 refine cbF (by rw[decide_eq_true rfl];rfl) ?_;obtain ⟨s,d,h⟩:=(h.pick (A:=Tr.RefA x.t k.T)).ref
 have fin:∀(s3:Sl) (w:World),Vc.Own B w0 w (SlT Tr.slotE s3 (k.T.map (·.1))::KerA kb k::SlT Tr.slotE s (Tr.sl7 k.T)::SlT intE d (Tr.dl7 k.T)::BlkA x.t [Tr.slV s,Tr.slV d]::BlkA rb (rcells x)::Sl.RNodesA x.n k.bits k.H::Th.RthA x.th k.t::BlkA x.u [.y 0, .z bits, .y 0]::BlkA x.pb [.pointer (some ⟨x.sb,0,none⟩)]::BlkA x.sb [.slice none 0 0, .slice none 0 0]::R)->C.qco s3 s (fun r w=>k4 (!r) w) w:=fun s3 w h=>by
  refine ref07_Same_spec h (Rd.own (h.lenc s3)) (Rd.own (h.lenc s)) (by have:=hk.few;rw[List.length_map];omega) fun w h=>?_
  rw[show decide (k.T.map (·.1)=Tr.sl7 k.T)=true from decide_eq_true rfl];refine main w ?_;have h:=Vc.Own.mk_ref (s:=s) (d:=d) (b:=x.t) (T:=k.T) (R:=SlT Tr.slotE s3 (k.T.map (·.1))::KerA kb k::BlkA rb (rcells x)::Sl.RNodesA x.n k.bits k.H::Th.RthA x.th k.t::BlkA x.u [.y 0, .z bits, .y 0]::BlkA x.pb [.pointer (some ⟨x.sb,0,none⟩)]::BlkA x.sb [.slice none 0 0, .slice none 0 0]::R) h.sub;exact h.sub
 refine ⟨_,rfl,?_,⟨_,h.ldd rfl,_,rfl,?_,⟨s,h.ldc rfl,?_,trivial⟩,trivial⟩,trivial⟩
 ·refine KTree_spec (h.pick (A:=KerA kb k)) fun s3 w h=>⟨_,h.ldd rfl,_,rfl,s,h.ldc rfl,fin s3 w h.sub,trivial⟩
 ·refine KTree_spec (h.pick (A:=KerA kb k)) fun s3 w h=>⟨s,h.ldc rfl,fin s3 w h.sub,trivial⟩
 ·refine KTree_spec (h.pick (A:=KerA kb k)) fun s3 w h=>⟨fin s3 w h.sub,trivial⟩
end
section
variable {B:Nat} {w0 w:World} {R L:List Asn}
theorem take_copy {cb:Nat} {s:Sl} {prios:List Int} {k:Sl->Pw} (hi:Inp intE w0 s prios) (h:Vc.Own w0.heap.size w0 w (BlkA cb []::R)) (hk:∀s' w',Vc.Own w0.heap.size w0 w' (SlT intE s' (prios.take 20)::R)->k s' w'):
  ∃s' w',AppR Tryz.prog [26,26] 26 (.slice (some (Addr.mk cb 0 none)) 0 0) (.slice (slA s.a 0 s.cap 1) ((minI (s.len:Int) 20).toNat-0) (s.cap-0)) w s' w'/\k s' w':=by
 have hl:=hi.len;have e:(minI (s.len:Int) 20).toNat=min prios.length 20:=by unfold minI;omega
 rw[e];have h2:=Vc.Own.asSl (E:=intE) h [] rfl;have eb:Tryz.t3.bytes=8:=by kernel_rfl
 refine Vc.Own.appI (E:=intE) (s:=⟨some (Addr.mk cb 0 none),0,0⟩) (xs:=[]) (ys:=prios) (n:=min prios.length 20) Tryz.underlying26 (show Tryz.prog.info? 3=some Tryz.t3 from by kernel_rfl) (zv:= .z 0) (by kernel_rfl) (by kernel_rfl) rfl (by decide) hi (by omega) h2 0 rfl (by rw[eb];simp only[List.length_nil];omega) fun s' w' _ h=>?_
 rw[show prios.take 20= []++prios.take (min prios.length 20) by rw[List.nil_append,Nat.min_comm,←List.take_eq_take_min]] at hk;exact hk s' w' h
theorem bootT_u:∀(ps:List Int) (j:Nat) (k:Ker),(Ker.bootT ps j k).u=k.u
 | [],_,_=>rfl
 |p::ps,j,k=>(bootT_u ps (j+1) _).trans rfl
theorem bootL_u:∀(q j i:Nat) (k:Ker),(Ker.bootL q j i k).u=k.u
 |0,_,_,_=>rfl
 |q+1,j,i,k=>(bootL_u q (j+1) i _).trans rfl
theorem boot_u (c bits lines:Nat) (ps:List Int):(Ker.bootK c bits lines ps).u= [⟨0,bits,0⟩]:=by
 unfold Ker.bootK;rw[bootL_u];show (Ker.bootT ps 0 _).u=_;rw[bootT_u];rfl
theorem held_T {N:Nat} {k:Ker} (hk:KOk N k):(heldL k.H).length=k.T.length:=by
 have h1:=heldL_ok fun s c h=>(hk.held s c h).1
 have h2:((heldL k.H).map (·.1)).Nodup:=by
  unfold List.Nodup;rw[List.pairwise_map];exact h1.srt.imp fun {x y} h e=>by rw[e] at h;exact Sl.ltS_irrefl h
 have h3:((heldL k.H).map (·.1)).Perm (k.T.map (·.1)):=(List.perm_ext_iff_of_nodup h2 hk.tok.nd).2 fun s=>by
  rw[hk.mem,List.mem_map];constructor
  ·rintro ⟨⟨a,c⟩,hm,rfl⟩
   rw[(h1.mem a c).1 hm];rfl
  ·intro h
   obtain ⟨c,hc⟩:=Option.isSome_iff_exists.1 h;exact ⟨(s,c),(h1.mem s c).2 hc,rfl⟩
 have:=h3.length_eq
 rwa [List.length_map,List.length_map] at this
set_option maxHeartbeats 2000000 in
theorem law18_KernelBoots_spec {b1 b2 b3:Int} {prios:List Int} {s4:Sl} {K:Bool->Pw}
  (_:(Lit.int .i64 b1).wf=true) (_:(Lit.int .i64 b2).wf=true) (_:(Lit.int .i64 b3).wf=true) (hi:Inp intE w0 s4 prios) (_:∀x∈prios,(Lit.int .i64 x).wf=true)
  (h:Vc.Own w0.heap.size w0 w []) (hK:∀w',Vc.Own w0.heap.size w0 w' []->K true w'):C.qbO b1 b2 b3 s4 K w:=by
 apply S.qbO0;have hl:=hi.len;have hcap:=hi.cap;refine h.al fun w1 h=>?_
 generalize w.heap.size=ab at h⊢;refine h.al fun w2 h=>?_
 generalize w1.heap.size=cb at h⊢;refine ⟨s4,h.ldd rfl,s4,h.ldd rfl,by unfold minI;omega,by unfold minI;omega,?_⟩;refine take_copy hi h fun s w h=>?_
 refine h.std rfl rfl fun w h=>?_
 (try dsimp only[putAt,List.set_cons_zero,List.set_cons_succ] at h)
 refine h.lc_4 (x3:=s) rfl ?_;have hps:(prios.take 20).length≤20:=by rw[List.length_take];omega
 generalize prios.take 20=ps at h hps;have h:Vc.Own w0.heap.size w0 w [SlT intE s ps,BlkA ab [.z b1, .z b2, .z b3, .slice s.a s.len s.cap]]:=h.sub;refine Boot_spec (s:=s) h (by omega) (fun hr w h=>?_) (fun hr kb w h=>?_)
 ·refine h.lc_4 (x3:=s) rfl ?_
  refine ref18_Boot_spec (s:=s) h (by omega) (fun _ w h=>?_) (fun hr2=>absurd (hr.symm.trans hr2) (by decide));intro k26 hk26;refine cneF rfl ?_;rw[show (!((none:Option Addr).isNone==(none:Option Addr).isNone))=false from rfl];apply hk26;refine cbF rfl ?_;intro k29 hk29;refine cbT rfl ?_;apply hk29;refine cbT rfl ?_;exact fixed_spec (h.sub:Vc.Own w0.heap.size w0 w []) hK
 have h:Vc.Own w0.heap.size w0 w (SlT intE s ps::KerA kb (Ker.bootK b1.toNat b2.toNat b3.toNat ps)::BlkA ab [.z b1, .z b2, .z b3, .slice s.a s.len s.cap]::[]):=h.sub;refine h.lc_4 (x3:=s) rfl ?_;refine ref18_Boot_spec (s:=s) h (by omega) (fun hr2=>absurd (hr.symm.trans hr2) (by decide)) (fun _ rb x w hT hruns h=>?_);obtain ⟨e1,e2,e3,e4,e5,e6,e7,e8⟩:=of_decide_eq_true hr;obtain ⟨n,rfl⟩:=Int.eq_ofNat_of_zero_le (show 0≤b1 by omega);obtain ⟨bi,rfl⟩:=Int.eq_ofNat_of_zero_le (show 0≤b2 by omega);obtain ⟨li,rfl⟩:=Int.eq_ofNat_of_zero_le e5;simp only[Int.toNat_natCast] at h hT hruns;obtain ⟨g1,g2⟩:=bootK_ok (c:=n) (bits:=bi) (lines:=li) (prios:=ps) (by omega) ⟨by omega,by omega⟩ (by omega) (by omega) e8;have hu:=boot_u n bi li ps;generalize Ker.bootK n bi li ps=k at h hT hruns g1 g2 hu;have hheld:(heldL k.H).length=3+n+li:=by rw[←hT];exact held_T g1.ok
 intro k26 hk26;refine cneF rfl ?_;apply hk26;refine cbF rfl ?_;intro k29 hk29;refine cbF rfl ?_;apply hk29;refine cbF rfl ?_;intro l34 hl34
 have loop:∀(d i:Nat) (w:World),i+d=n->Vc.Own w0.heap.size w0 w (KerA kb k::RkS rb (bi:Int) x k::BlkA ab [.z (n:Int), .z (bi:Int), .z (li:Int), .slice s.a s.len s.cap]::[])->l34 (i:Int) w:=by
  intro d
  induction d with
  |succ d ih=>
   intro i w hi h;apply hl34;refine ⟨_,h.ldc rfl,cdecT (by omega) ?_⟩;refine Runs_spec g1.ok h fun w h=>?_
   rw[hruns i (by omega)];intro k41 hk41;refine cbF rfl ?_;rw[show (((some (i:Int)).getD 0) !=(i:Int))=false from bne_self_eq_false (i:Int)];apply hk41;refine cbF rfl ?_;rw[show IntKind.i64.wrap ((i:Int)+1)=((i+1:Nat):Int) from by rw[wr (by omega) (by omega)];omega];exact ih (i+1) w (by omega) h
  |zero=>
   intro i w hi h;apply hl34;refine ⟨_,h.ldc rfl,cdecF (by omega) ?_⟩;refine h.dr fun w h=>?_
   refine ⟨_,h.ldc rfl,?_,trivial⟩;refine bsame_spec (c:=n) (b:=bi) g1.ok g1.sp hu rfl (by omega) (by decide) (by omega) h fun w h=>?_
   refine cbT rfl ?_;have ew:IntKind.i64.wrap (IntKind.i64.wrap (3+(n:Int))+(li:Int))=((3+n+li:Nat):Int):=by rw[wr (x:=3+(n:Int)) (by omega) (by omega),wr (by omega) (by omega)];omega
   have fin:∀w,Vc.Own w0.heap.size w0 w (KerA kb k::RkS rb (bi:Int) x k::BlkA ab [.z (n:Int), .z (bi:Int), .z (li:Int), .slice s.a s.len s.cap]::[])->C.qaO (fun r w=>K r w) w:=fun w h=>fixed_spec (h.sub:Vc.Own w0.heap.size w0 w []) hK
   have hh:∀{f:Sl->Pw},(∀s1 w,s1.len=3+n+li->Vc.Own w0.heap.size w0 w (KerA kb k::RkS rb (bi:Int) x k::BlkA ab [.z (n:Int), .z (bi:Int), .z (li:Int), .slice s.a s.len s.cap]::[])->f s1 w)->C.qp (some ⟨kb,0,none⟩) f w:=fun {f} hf=>Held_spec g1.ok h fun s1 w h=>hf s1 w ((h.lenc s1).trans hheld) h.drop
   refine ⟨?_,⟨_,h.ldc rfl,?_,⟨_,h.ldd rfl,?_,trivial⟩,trivial⟩,⟨_,h.ldd rfl,?_,⟨_,h.ldc rfl,?_,trivial⟩,trivial⟩,trivial⟩
   ·exact hh fun s1 w e h=>⟨_,h.ldc rfl,_,h.ldd rfl,cbT (beq_iff_eq.2 (by rw[ew,e])) ⟨fin w h,trivial⟩⟩
   ·exact hh fun s1 w e h=>⟨_,h.ldd rfl,cbT (beq_iff_eq.2 (by rw[ew,e])) ⟨fin w h,trivial⟩⟩
   ·exact hh fun s1 w e h=>cbT (beq_iff_eq.2 (by rw[ew,e])) ⟨fin w h,trivial⟩
   ·exact hh fun s1 w e h=>⟨_,h.ldc rfl,cbT (beq_iff_eq.2 (by rw[ew,e])) ⟨fin w h,trivial⟩⟩
   ·exact hh fun s1 w e h=>cbT (beq_iff_eq.2 (by rw[ew,e])) ⟨fin w h,trivial⟩
 exact loop n 0 w (by omega) h.sub
end
end Go.Proofs.YtogmbmdbgkopjaaGreat
end
