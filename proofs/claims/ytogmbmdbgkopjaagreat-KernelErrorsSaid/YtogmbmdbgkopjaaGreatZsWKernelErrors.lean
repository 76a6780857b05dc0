/- What the row rests on: the law, at the model and walked. -/
import Derived.Test.YtogmbmdbgkopjaaGreatZs8
set_option linter.unusedVariables false
set_option linter.unusedSimpArgs false
set_option linter.unusedSectionVars false
section
namespace Go.Proofs.YtogmbmdbgkopjaaGreat
open Go Go.Vc Go.ChangeShapes Go.WideShapes
theorem intDec18:∀cs,Fits [.int .i64] cs->∃x,cs=intE.enc x/\(Lit.int .i64 x).wf=true:=fun cs h=>by
 obtain ⟨_,_,rfl,⟨a,rfl,ha⟩,h1⟩:=h.cons_out;obtain rfl:=h1.nil_out;exact ⟨a,rfl,ha⟩
section
variable {H:Type} {enc:TypeId × Value->H} {P:Program} {held:Bool}
theorem agg4_of {t e:TypeId} {f0 f1 f2 f3:Field} {W:World} {sp:Nat->Bool} {v:Value} {dd:DataW H} {ps:List MemPlace} {r:Reach} {b0:Nat} (ht:P.underlying t=some (.struct #[f0,f1,f2,f3]))
  (h0:P.underlying f0.type=some (.int .i64)) (h1:P.underlying f1.type=some (.int .i64)) (h2:P.underlying f2.type=some (.int .i64)) (h3:P.underlying f3.type=some (.slice e))
  (o0:f0.offset=0) (o1:f1.offset=1) (o2:f2.offset=2) (o3:f3.offset=3) (c0:P.cellsOf f0.type=1) (c1:P.cellsOf f1.type=1) (c2:P.cellsOf f2.type=1) (c3:P.cellsOf f3.type=1) (hc:P.cellsOf t=4)
  (hval:Value.okWide P W r b0 t v) (h:DataW.Trod enc P W 0 sp held t v dd ps):
  ∃(x0 x1 x2:Int) (s:Sl) (d:DataW H) (p:List MemPlace),v= .agg #[.int .i64 x0, .int .i64 x1, .int .i64 x2, .slice s.a s.len s.cap]/\(Lit.int .i64 x0).wf=true/\(Lit.int .i64 x1).wf=true/\(Lit.int .i64 x2).wf=true/\DataW.Trod enc P W 0 sp held f3.type (.slice s.a s.len s.cap) d p:=by
 obtain ⟨cs,rfl,hsz⟩:=okWide_struct ht hval
 obtain ⟨x0,x1,x2,x3,rfl⟩:∃x0 x1 x2 x3,cs= #[x0,x1,x2,x3]:=by
  obtain ⟨l⟩:=cs
  match l,(hsz.trans hc) with
  | [c0,c1,c2,c3],_=>exact ⟨c0,c1,c2,c3,rfl⟩
 obtain ⟨fuel,hf⟩:=h;obtain ⟨xs,n,_,_,hl,hlen,hfs⟩:=DataW.trod_struct ht hf
 match xs,hlen with
 | [y0,y1,y2,y3],_=>
  have g0:=hfs 0 f0 rfl;have g1:=hfs 1 f1 rfl;have g2:=hfs 2 f2 rfl;have g3:=hfs 3 f3 rfl;simp only[o0,o1,o2,o3,c0,c1,c2,c3,Value.cells] at g0 g1 g2 g3;simp at g0 g1 g2 g3;obtain ⟨n0,e0,_,w0⟩:=DataW.trod_int h0 g0;obtain ⟨n1,e1,_,w1⟩:=DataW.trod_int h1 g1;obtain ⟨n2,e2,_,w2⟩:=DataW.trod_int h2 g2;obtain ⟨a3,l3,k3,e3⟩:=Go.Joins.slice_form h3 g3;simp only[List.cons.injEq,and_true] at e0 e1 e2 e3;subst e0;subst e1;subst e2;subst e3;exact ⟨n0,n1,n2,⟨a3,l3,k3⟩,y3.1,y3.2,rfl,w0,w1,w2,⟨n,by simpa [Value.cells] using g3⟩⟩
end
end Go.Proofs.YtogmbmdbgkopjaaGreat
end
section
set_option maxRecDepth 8000
namespace Go.Proofs.YtogmbmdbgkopjaaGreat
open Go Go.Vc Go.Proofs
section
variable {B:Nat} {w0 w:World} {R L:List Asn}
theorem app_int {xs:List Int} {y:Int} {b:Nat} {s:Sl} {k:Sl->World->Prop} [I:SlIn s L Int intE xs] {R:List Asn} [J:Pick (SlT intE s xs) L R]
  (h:Vc.Own B w0 w (BlkA b [.int .i64 y]::L)) (hl:xs.length≤1000000) (hk:∀s' w',s'.len=xs.length+1->Vc.Own B w0 w' (SlT intE s' (xs++ [y])::R)->k s' w'):
  ∃s' w',AppR Tryz.prog [26,26] 26 (.slice s.a s.len s.cap) (.slice (some (Addr.mk b 0 none)) 1 1) w s' w'/\k s' w':=
 Vc.Own.app1c (E:=intE) (y:=y) Tryz.underlying26 (show Tryz.prog.info? 3=some Tryz.t3 from by kernel_rfl) (zv:= .int .i64 0) (by kernel_rfl) (by kernel_rfl) rfl (by decide) h (by
  have e:Tryz.t3.bytes=8:=by kernel_rfl
  rw[e];omega) hk
set_option maxHeartbeats 1000000 in
theorem Right_spec {c bits lines:Int} {prios:List Int} {s:Sl} {K:Int->Int->Int->Sl->World->Prop} (hi:Inp intE w0 s prios) (h:Vc.Own w0.heap.size w0 w R)
  (hK:∀(n bi li:Nat) (ps:List Int) s' w',1≤n->n≤3->6≤bi->bi≤12->li≤3->ps.length=n->(∀p∈ps,0≤p/\p<256)->Vc.Own w0.heap.size w0 w' (SlT intE s' ps::R)->K (n:Int) (bi:Int) (li:Int) s' w'):
  C.qaJ c bits lines s K w:=by
 apply S.qaJ0;unfold S.qaJ;obtain ⟨pc,_,ec⟩:=Sl.andle c 65535 (by decide);obtain ⟨pb,_,eb⟩:=Sl.andle bits 65535 (by decide);obtain ⟨pl,hpl,el⟩:=Sl.andle lines 3 (by decide);have ec:andI .i64 c 65535=(pc:Int):=ec;have eb:andI .i64 bits 65535=(pb:Int):=eb;have el:andI .i64 lines 3=(pl:Int):=el;have hlen:=hi.len;refine h.al fun w1 h=>?_
 generalize w.heap.size=ab at h⊢;refine h.al fun w2 h=>?_
 generalize w1.heap.size=rb at h⊢;refine ⟨_,h.ldc rfl,by decide,_,h.ldd rfl,by decide,_,h.ldd rfl, ?_⟩;refine h.al fun w3 h=>?_
 generalize w2.heap.size=ob at h⊢;refine h.stLc rfl rfl fun w h=>?_
 (try dsimp only[putAt,List.set_cons_zero,List.set_cons_succ] at h)
 rw[ec,eb,el] at h;rw[ec];obtain ⟨n,hn⟩:∃n,n=1+pc%3:=⟨_,rfl⟩
 obtain ⟨bi,hb⟩:∃n,n=6+pb%7:=⟨_,rfl⟩
 have en:IntKind.i64.wrap (1+(pc:Int).tmod 3)=(n:Int):=by
  rw[show (pc:Int).tmod 3=((pc%3:Nat):Int) from (Int.ofNat_tmod pc 3).symm,wr (by omega) (by omega)];omega
 have ebi:IntKind.i64.wrap (6+(pb:Int).tmod 7)=(bi:Int):=by
  rw[show (pb:Int).tmod 7=((pb%7:Nat):Int) from (Int.ofNat_tmod pb 7).symm,wr (by omega) (by omega)];omega
 rw[en,ebi] at h;rw[en];have h:=Vc.Own.nilS (E:=intE) h;have h:Vc.Own w0.heap.size w0 w (SlT intE ⟨none,0,0⟩ []::BlkA ob [.int .i64 (n:Int), .int .i64 (bi:Int), .int .i64 (pl:Int), .slice none 0 0]::BlkA rb [.int .i64 0, .int .i64 0, .int .i64 0, .slice none 0 0]::BlkA ab [.int .i64 c, .int .i64 bits, .int .i64 lines, .slice s.a s.len s.cap]::R):=h;intro l12 hl12
 have loop:∀(d i:Nat) (so:Sl) (ps:List Int) (w:World),i+d=n->ps.length=i->(∀p∈ps,0≤p/\p<256)->
   Vc.Own w0.heap.size w0 w (SlT intE so ps::BlkA ob [.int .i64 (n:Int), .int .i64 (bi:Int), .int .i64 (pl:Int), .slice so.a so.len so.cap]::BlkA rb [.int .i64 0, .int .i64 0, .int .i64 0, .slice none 0 0]::BlkA ab [.int .i64 c, .int .i64 bits, .int .i64 lines, .slice s.a s.len s.cap]::R)->l12 (i:Int) w:=by
  intro d
  induction d with
  |succ d ih=>
   intro i so ps w hid hpl2 hps h;apply hl12;refine cdecT (by omega) ?_;refine ⟨s,h.ldd rfl, ?_⟩;intro k16 hk16
   have key:∀(p:Int),0≤p->p<256->k16 p w:=by
    intro p p0 p1;apply hk16;refine ⟨so,h.ldd rfl, ?_⟩;refine h.al fun w1 h=>?_
    generalize w.heap.size=tb at h⊢;refine app_int (s:=so) h (by omega) fun s' w _ h=>?_
    refine h.std rfl rfl fun w h=>?_
    (try dsimp only[putAt,List.set_cons_zero,List.set_cons_succ] at h)
    rw[show IntKind.i64.wrap ((i:Int)+1)=((i+1:Nat):Int) from by rw[wr (by omega) (by omega)];omega];refine ih (i+1) s' (ps++ [p]) w (by omega) (by rw[List.length_append];simp[hpl2]) ?_ ?_
    ·intro x hx
     rcases List.mem_append.1 hx with hx|hx
     ·exact hps x hx
     ·rw[List.mem_singleton.1 hx];exact ⟨p0,p1⟩
    ·exact h.sub
   refine cdec (fun e=>?_) (fun e=>?_)
   ·have hlt:i<prios.length:=by omega
    obtain ⟨a,ha,hg⟩:=hi.get h (gE hlt);obtain ⟨q,hq,eq⟩:=Sl.andle prios[i] 255 (by decide);have eq:andI .i64 prios[i] 255=(q:Int):=eq;refine ⟨s,h.ldd rfl,a,ha,by omega,e,prios[i], ?_, ?_⟩
    ·have:=hg 0 _ rfl
     rw[add_nil] at this;rw[show ((i:Int)).toNat=i from Int.toNat_natCast i];exact this
    ·rw[eq];exact key _ (by omega) (by omega)
   ·exact key 5 (by decide) (by decide)
  |zero=>
   intro i so ps w hid hpl2 hps h;have hin:i=n:=hid;apply hl12;refine cdecF (by omega) ?_;refine h.lc_4 rfl ?_;refine h.stLc rfl rfl fun w h=>?_
   (try dsimp only[putAt,List.set_cons_zero,List.set_cons_succ] at h)
   refine h.lc_4 rfl ?_;exact hK n bi pl ps so w (by omega) (by omega) (by omega) (by omega) (by omega) (by omega) hps h.sub
 exact loop n 0 ⟨none,0,0⟩ [] w (by omega) rfl (fun p hp=>by cases hp) h
end
structure Op18 where
 kind:Int
 core:Int
 c:Call
def op18E:EncT Op18:=⟨8,fun o=>[.int .i64 o.kind, .int .i64 o.core, .int .i64 o.c.ask, .int .i64 o.c.at_, .int .i64 o.c.with_, .int .i64 o.c.a, .int .i64 o.c.b, .int .i64 o.c.c],fun _=>rfl,fun x v h=>by
 simp only[List.mem_cons,List.not_mem_nil,or_false] at h;rcases h with rfl|rfl|rfl|rfl|rfl|rfl|rfl|rfl<;>rfl,by decide⟩
def op18Good (o:Op18):Prop:=(Lit.int .i64 o.c.with_).wf=true
theorem op18Dec:∀cs,Fits [.int .i64, .int .i64, .int .i64, .int .i64, .int .i64, .int .i64, .int .i64, .int .i64] cs->∃x,cs=op18E.enc x/\op18Good x:=fun cs h0=>by
 obtain ⟨_,_,rfl,⟨a,rfl,_⟩,h1⟩:=h0.cons_out;obtain ⟨_,_,rfl,⟨b,rfl,_⟩,h2⟩:=h1.cons_out;obtain ⟨_,_,rfl,⟨c,rfl,_⟩,h3⟩:=h2.cons_out;obtain ⟨_,_,rfl,⟨d,rfl,_⟩,h4⟩:=h3.cons_out;obtain ⟨_,_,rfl,⟨e,rfl,he⟩,h5⟩:=h4.cons_out;obtain ⟨_,_,rfl,⟨f,rfl,_⟩,h6⟩:=h5.cons_out;obtain ⟨_,_,rfl,⟨g,rfl,_⟩,h7⟩:=h6.cons_out;obtain ⟨_,_,rfl,⟨i,rfl,_⟩,h8⟩:=h7.cons_out;obtain rfl:=h8.nil_out;exact ⟨⟨a,b,c,d,e,f,g,i⟩,rfl,he⟩
theorem ldC18 {w:World} {a:Addr} {x:Op18} {f:Int->Int->Int->Int->Int->Int->Prop} (g:∀c v,(op18E.enc x)[c]?=some v->w.cell? (a.add c)=some v) (hf:f x.c.ask x.c.at_ x.c.with_ x.c.a x.c.b x.c.c):
  LdL w (a.add 2) 0 [.i .i64, .i .i64, .i .i64, .i .i64, .i .i64, .i .i64] f:=by
 have e:∀n,(a.add 2).add n=a.add (2+n):=fun n=>by
  unfold Addr.add;split
  ·rename_i h1
   simp_all
  ·simp_all [Nat.add_assoc]
 have gg:∀n v,(op18E.enc x)[2+n]?=some v->w.cell? ((a.add 2).add n)=some v:=fun n v h=>by rw[e];exact g _ v h
 exact ⟨_,gg 0 _ rfl,_,gg 1 _ rfl,_,gg 2 _ rfl,_,gg 3 _ rfl,_,gg 4 _ rfl,_,gg 5 _ rfl,hf⟩
theorem wf64 {x:Int} (h:(Lit.int .i64 x).wf=true): -9223372036854775808≤x/\x<9223372036854775808:=by
 have h1:(decide (IntKind.i64.min≤x)&&decide (x≤IntKind.i64.max))=true:=h;rw[show IntKind.i64.min= -9223372036854775808 from rfl,show IntKind.i64.max=9223372036854775807 from rfl] at h1;simp only[Bool.and_eq_true,decide_eq_true_eq] at h1;omega
section
variable {B:Nat} {w0 w:World} {R L:List Asn}
set_option maxHeartbeats 1000000 in
theorem begun_spec {c bits lines:Int} {prios:List Int} {s s5:Sl} {ops:List Op18} {K:Option Addr->World->Prop} (hi:Inp intE w0 s prios) (hi5:Inp op18E w0 s5 ops) (hg:∀x∈ops,op18Good x) (h:Vc.Own w0.heap.size w0 w R)
  (hK:∀k kb w',KOk 3000 k->Vc.Own w0.heap.size w0 w' (KerA kb k::R)->K (some ⟨kb,0,none⟩) w'):
  C.qal c bits lines s s5 K w:=by
 apply S.qal0;unfold S.qal;refine h.al fun w1 h=>?_
 generalize w.heap.size=ab at h⊢;refine h.lc_4 rfl ?_;refine Right_spec hi h fun n bi li ps s' w n1 n3 b6 b12 l3 hpn hps h=>?_
 have hr:Ker.rightB (n:Int) (bi:Int) (li:Int) ps=true:=decide_eq_true ⟨by omega,by omega,by omega,by omega,by omega,by omega,by omega,hps⟩;refine Boot_spec (s:=s') (prios:=ps) h (by omega) (fun e=>by rw[hr] at e;cases e) fun _ kb w h=>?_
 rw[show (n:Int).toNat=n from Int.toNat_natCast n,show (bi:Int).toNat=bi from Int.toNat_natCast bi,show (li:Int).toNat=li from Int.toNat_natCast li] at h;have k0:KOk 1 (Ker.bootK n bi li ps):=(bootK_ok (c:=n) (bits:=bi) (lines:=li) (prios:=ps) (by omega) (by omega) (by omega) hpn hps).1.ok;have h:Vc.Own w0.heap.size w0 w (KerA kb (Ker.bootK n bi li ps)::R):=h.sub;refine cbF rfl ?_;have hlen:=hi5.len;intro l19 hl19
 have loop:∀(d i:Nat) (k:Ker) (w:World),i+d=40->KOk (1+64*i) k->Vc.Own w0.heap.size w0 w (KerA kb k::R)->l19 (i:Int) w:=by
  intro d
  induction d with
  |zero=>
   intro i k w hid hk h;apply hl19;intro k22 hk22
   have done:k22 false w:=by
    apply hk22;refine cbF rfl ?_;exact hK k kb w (hk.mono (by omega)) h
   refine cdec (fun e=>?_) (fun e=>done);exact cdecF (by omega) done
  |succ d ih=>
   intro i k w hid hk h;apply hl19;intro k22 hk22;refine cdec (fun e=>?_) (fun e=>?_)
   ·refine cdecT (by omega) ?_
    apply hk22;refine cbT rfl ?_;have hlt:i<ops.length:=by omega
    obtain ⟨x,hxx⟩:∃x,ops[i]?=some x:=⟨_,gE hlt⟩
    have hgx:=hg _ (List.mem_of_getElem? hxx);have hwx:=wf64 hgx;have ew:IntKind.i64.wrap ((i:Int)+1)=((i+1:Nat):Int):=by rw[wr (by omega) (by omega)];omega
    have et:((i:Int)).toNat=i:=Int.toNat_natCast i;rw[et,ew];obtain ⟨a,ha,hc⟩:=hi5.get h hxx
    have g0:w.cell? (a.add (i*8))=some (.int .i64 x.kind):=by
     have:=hc 0 _ rfl;rw[add_nil] at this;exact this
    refine ⟨a,ha,by omega,e,x.kind,g0, ?_⟩;refine ceq (fun e0=>?_) (fun e0=>?_)
    ·refine h.dr fun w h=>?_
     obtain ⟨a,ha,hc⟩:=hi5.get h hxx;refine ⟨a,ha,by omega,e,x.core,hc 1 _ rfl,a,ha,by omega,e, ?_⟩;refine ldC18 hc ?_;refine ⟨?_,trivial⟩;refine Do_spec (c:=x.c) hk (by omega) hwx.1 hwx.2 h fun fs w h=>?_
     exact ih (i+1) _ w (by omega) ((hk.do (by omega) x.core x.c).mono (by omega)) h.sub
    ·refine ceq (fun e1=>?_) (fun e1=>?_)
     ·refine ⟨a,ha,by omega,e,x.core,hc 1 _ rfl, ?_⟩
      refine irq_spec hk (by omega) h fun w h=>?_
      exact ih (i+1) _ w (by omega) ((hk.irq x.core).mono (by omega)) h
     ·refine ceq (fun e2=>?_) (fun e2=>?_)
      ·refine ⟨a,ha,by omega,e,x.core,hc 1 _ rfl, ?_⟩
       refine Tick_spec hk h fun w h=>?_
       exact ih (i+1) _ w (by omega) ((hk.tick x.core).mono (by omega)) h
      ·exact ih (i+1) _ w (by omega) (hk.mono (by omega)) h
   ·apply hk22
    refine cbF rfl ?_;exact hK k kb w (hk.mono (by omega)) h
 exact loop 40 0 _ w (by omega) k0 h
end
theorem heldX (a b:Slot × Cap):eqX Tryz.prog 9 44 (Sl.heldE.enc a) (Sl.heldE.enc b)=some (decide (a=b)):=by
 have h:eqX Tryz.prog 9 44 (Sl.heldE.enc a) (Sl.heldE.enc b)=some ((a.1.1==b.1.1&&(a.1.2==b.1.2&&true))&&((a.2.kind==b.2.kind&&(a.2.obj==b.2.obj&&(a.2.rights==b.2.rights&&(a.2.badge==b.2.badge&&(a.2.guard==b.2.guard&&(a.2.bits==b.2.bits&&true))))))&&true)):=by kernel_rfl
 rw[h];congr 1;rw[Bool.eq_iff_iff];simp only[Bool.and_true,Bool.and_eq_true,beq_iff_eq,decide_eq_true_eq];obtain ⟨⟨a1,a2⟩,a3⟩:=a;obtain ⟨⟨b1,b2⟩,b3⟩:=b;cases a3;cases b3;simp only[Prod.mk.injEq,Sl.Cap.mk.injEq]
theorem heldNe {x y:Operand} (a b:Slot × Cap):EqB Tryz.prog .neq 44 x y (.agg ⟨Sl.heldE.enc a⟩) (.agg ⟨Sl.heldE.enc b⟩) (!decide (a=b)):=neB_x (by kernel_rfl) (by kernel_rfl) (by kernel_rfl) (heldX a b)
theorem slotX18 (a c:Slot):eqX Tryz.prog 9 40 (Tr.slotE.enc a) (Tr.slotE.enc c)=some (decide (a=c)):=by
 have h:eqX Tryz.prog 9 40 (Tr.slotE.enc a) (Tr.slotE.enc c)=some (a.1==c.1&&(a.2==c.2&&true)):=by kernel_rfl
 rw[h];congr 1;rw[Bool.eq_iff_iff];simp only[Bool.and_true,Bool.and_eq_true,beq_iff_eq,decide_eq_true_eq];cases a;cases c;simp only[Prod.mk.injEq]
theorem slotNe18 {x y:Operand} (a c:Slot):EqB Tryz.prog .neq 40 x y (.agg ⟨Tr.slotE.enc a⟩) (.agg ⟨Tr.slotE.enc c⟩) (!decide (a=c)):=neB_x (by kernel_rfl) (by kernel_rfl) (by kernel_rfl) (slotX18 a c)
theorem laidX (a b:Int × Tb.Pg):eqX Tryz.prog 9 61 (Tb.laidE.enc a) (Tb.laidE.enc b)=some (decide (a=b)):=by
 have h:eqX Tryz.prog 9 61 (Tb.laidE.enc a) (Tb.laidE.enc b)=some (a.1==b.1&&((a.2.1==b.2.1&&(a.2.2==b.2.2&&true))&&true)):=by kernel_rfl
 rw[h];congr 1;rw[Bool.eq_iff_iff];simp only[Bool.and_true,Bool.and_eq_true,beq_iff_eq,decide_eq_true_eq];obtain ⟨a1,a2,a3⟩:=a;obtain ⟨b1,b2,b3⟩:=b;simp only[Prod.mk.injEq]
theorem laidNe {x y:Operand} (a b:Int × Tb.Pg):EqB Tryz.prog .neq 61 x y (.agg ⟨Tb.laidE.enc a⟩) (.agg ⟨Tb.laidE.enc b⟩) (!decide (a=b)):=neB_x (by kernel_rfl) (by kernel_rfl) (by kernel_rfl) (laidX a b)
theorem untX (a b:Unt):eqX Tryz.prog 9 86 (untE.enc a) (untE.enc b)=some (decide (a=b)):=by
 have h:eqX Tryz.prog 9 86 (untE.enc a) (untE.enc b)=some ((a.base:Int)==(b.base:Int)&&((a.bits:Int)==(b.bits:Int)&&((a.used:Int)==(b.used:Int)&&true))):=by kernel_rfl
 rw[h];congr 1;rw[Bool.eq_iff_iff];simp only[Bool.and_true,Bool.and_eq_true,beq_iff_eq,decide_eq_true_eq];obtain ⟨a1,a2,a3⟩:=a;obtain ⟨b1,b2,b3⟩:=b;simp only[Unt.mk.injEq];omega
theorem untNe {x y:Operand} (a b:Unt):EqB Tryz.prog .neq 86 x y (.agg ⟨untE.enc a⟩) (.agg ⟨untE.enc b⟩) (!decide (a=b)):=neB_x (by kernel_rfl) (by kernel_rfl) (by kernel_rfl) (untX a b)
theorem eq_of_get {α:Type} {xs ys:List α} (hl:xs.length=ys.length) (h:∀i,i<xs.length->xs[i]?=ys[i]?):xs=ys:=List.ext_getElem? fun i=>by
 by_cases e:i<xs.length
 ·exact h i e
 ·rw[List.getElem?_eq_none (by omega),List.getElem?_eq_none (by omega)]
section
variable {B:Nat} {w0 w:World} {R L:List Asn}
theorem ref05_Same_spec {s t:Sl} {xs ys:List (Slot × Cap)} {K:Bool->World->Prop} (h:Vc.Own B w0 w L) (hr1:Rd Sl.heldE B w0 L s xs) (hr2:Rd Sl.heldE B w0 L t ys) (hs:xs.length≤1000000) (hK:∀w',Vc.Own B w0 w' L->K (decide (xs=ys)) w'):C.qbK s t K w:=by
 apply S.qbK0;unfold S.qbK;have l1:=hr1.len;have l2:=hr2.len;by_cases e:xs.length=ys.length
 ·refine cbF (by simp;omega) ?_
  intro l3 hl3
  have loop:∀(j i:Nat) (w:World),i+j=xs.length->(∀k,k<i->xs[k]?=ys[k]?)->Vc.Own B w0 w L->l3 (i:Int) w:=by
   intro j
   induction j with
   |zero=>
    intro i w hi hb h;apply hl3;refine cdecF (by omega) ?_;have:xs=ys:=eq_of_get e fun k hk=>hb k (by omega)
    have hk:=hK w h
    rwa [decide_eq_true this] at hk
   |succ j ih=>
    intro i w hi hb h;apply hl3;refine cdecT (by omega) ?_;refine h.dr fun w h=>?_
    have hx:xs[i]?=some xs[i]:=gE (by omega);have hy:ys[i]?=some (ys[i]'(by omega)):=gE (by omega);refine hr1.ix h rfl hx fun a ha h0 hc=>⟨_,hc 0 _ rfl,_,hc 1 _ rfl,_,hc 2 _ rfl,_,hc 3 _ rfl,_,hc 4 _ rfl,_,hc 5 _ rfl,_,hc 6 _ rfl,_,hc 7 _ rfl, ?_⟩
    refine hr2.ix h rfl hy fun a ha h0 hc=>⟨_,hc 0 _ rfl,_,hc 1 _ rfl,_,hc 2 _ rfl,_,hc 3 _ rfl,_,hc 4 _ rfl,_,hc 5 _ rfl,_,hc 6 _ rfl,_,hc 7 _ rfl, ?_⟩
    refine ⟨_,heldNe xs[i] (ys[i]'(by omega)), ?_⟩;by_cases e2:xs[i]=ys[i]'(by omega)
    ·refine cbF (by simpa using e2) ?_
     rw[show IntKind.i64.wrap ((i:Int)+1)=((i+1:Nat):Int) from by rw[wr (by omega) (by omega)];omega];refine ih (i+1) w (by omega) (fun k hk=>?_) h;by_cases e3:k=i
     ·subst e3;rw[hx,hy,e2]
     ·exact hb k (by omega)
    ·refine cbT (by simpa using e2) ?_
     have:xs≠ys:=fun e3=>by
      have:xs[i]?=ys[i]?:=by rw[e3]
      rw[hx,hy] at this;exact e2 (by simpa using this)
     have hk:=hK w h
     rwa [decide_eq_false this] at hk
  exact loop xs.length 0 w (by omega) (fun k hk=>by omega) h
 ·refine cbT (by simp;omega) ?_
  have:xs≠ys:=fun e2=>e (by rw[e2])
  have hk:=hK w h
  rwa [decide_eq_false this] at hk
theorem ref07_Same_spec {s t:Sl} {xs ys:List Slot} {K:Bool->World->Prop} (h:Vc.Own B w0 w L) (hr1:Rd Tr.slotE B w0 L s xs) (hr2:Rd Tr.slotE B w0 L t ys) (hs:xs.length≤1000000) (hK:∀w',Vc.Own B w0 w' L->K (decide (xs=ys)) w'):C.qcx s t K w:=by
 apply S.qcx0;unfold S.qcx;have l1:=hr1.len;have l2:=hr2.len;by_cases e:xs.length=ys.length
 ·refine cbF (by simp;omega) ?_
  intro l3 hl3
  have loop:∀(j i:Nat) (w:World),i+j=xs.length->(∀k,k<i->xs[k]?=ys[k]?)->Vc.Own B w0 w L->l3 (i:Int) w:=by
   intro j
   induction j with
   |zero=>
    intro i w hi hb h;apply hl3;refine cdecF (by omega) ?_;have:xs=ys:=eq_of_get e fun k hk=>hb k (by omega)
    have hk:=hK w h
    rwa [decide_eq_true this] at hk
   |succ j ih=>
    intro i w hi hb h;apply hl3;refine cdecT (by omega) ?_;refine h.dr fun w h=>?_
    have hx:xs[i]?=some xs[i]:=gE (by omega);have hy:ys[i]?=some (ys[i]'(by omega)):=gE (by omega);refine hr1.ix h rfl hx fun a ha h0 hc=>⟨_,hc 0 _ rfl,_,hc 1 _ rfl, ?_⟩
    refine hr2.ix h rfl hy fun a ha h0 hc=>⟨_,hc 0 _ rfl,_,hc 1 _ rfl, ?_⟩
    refine ⟨_,slotNe18 xs[i] (ys[i]'(by omega)), ?_⟩;by_cases e2:xs[i]=ys[i]'(by omega)
    ·refine cbF (by simpa using e2) ?_
     rw[show IntKind.i64.wrap ((i:Int)+1)=((i+1:Nat):Int) from by rw[wr (by omega) (by omega)];omega];refine ih (i+1) w (by omega) (fun k hk=>?_) h;by_cases e3:k=i
     ·subst e3;rw[hx,hy,e2]
     ·exact hb k (by omega)
    ·refine cbT (by simpa using e2) ?_
     have:xs≠ys:=fun e3=>by
      have:xs[i]?=ys[i]?:=by rw[e3]
      rw[hx,hy] at this;exact e2 (by simpa using this)
     have hk:=hK w h
     rwa [decide_eq_false this] at hk
  exact loop xs.length 0 w (by omega) (fun k hk=>by omega) h
 ·refine cbT (by simp;omega) ?_
  have:xs≠ys:=fun e2=>e (by rw[e2])
  have hk:=hK w h
  rwa [decide_eq_false this] at hk
theorem ref14_Same_spec {s t:Sl} {xs ys:List (Int × Tb.Pg)} {K:Bool->World->Prop} (h:Vc.Own B w0 w L) (hr1:Rd Tb.laidE B w0 L s xs) (hr2:Rd Tb.laidE B w0 L t ys) (hs:xs.length≤1000000) (hK:∀w',Vc.Own B w0 w' L->K (decide (xs=ys)) w'):C.qcy s t K w:=by
 apply S.qcy0;unfold S.qcy;have l1:=hr1.len;have l2:=hr2.len;by_cases e:xs.length=ys.length
 ·refine cbF (by simp;omega) ?_
  intro l3 hl3
  have loop:∀(j i:Nat) (w:World),i+j=xs.length->(∀k,k<i->xs[k]?=ys[k]?)->Vc.Own B w0 w L->l3 (i:Int) w:=by
   intro j
   induction j with
   |zero=>
    intro i w hi hb h;apply hl3;refine cdecF (by omega) ?_;have:xs=ys:=eq_of_get e fun k hk=>hb k (by omega)
    have hk:=hK w h
    rwa [decide_eq_true this] at hk
   |succ j ih=>
    intro i w hi hb h;apply hl3;refine cdecT (by omega) ?_;refine h.dr fun w h=>?_
    have hx:xs[i]?=some xs[i]:=gE (by omega);have hy:ys[i]?=some (ys[i]'(by omega)):=gE (by omega);refine hr1.ix h rfl hx fun a ha h0 hc=>⟨_,hc 0 _ rfl,_,hc 1 _ rfl,_,hc 2 _ rfl, ?_⟩
    refine hr2.ix h rfl hy fun a ha h0 hc=>⟨_,hc 0 _ rfl,_,hc 1 _ rfl,_,hc 2 _ rfl, ?_⟩
    refine ⟨_,laidNe xs[i] (ys[i]'(by omega)), ?_⟩;by_cases e2:xs[i]=ys[i]'(by omega)
    ·refine cbF (by simpa using e2) ?_
     rw[show IntKind.i64.wrap ((i:Int)+1)=((i+1:Nat):Int) from by rw[wr (by omega) (by omega)];omega];refine ih (i+1) w (by omega) (fun k hk=>?_) h;by_cases e3:k=i
     ·subst e3;rw[hx,hy,e2]
     ·exact hb k (by omega)
    ·refine cbT (by simpa using e2) ?_
     have:xs≠ys:=fun e3=>by
      have:xs[i]?=ys[i]?:=by rw[e3]
      rw[hx,hy] at this;exact e2 (by simpa using this)
     have hk:=hK w h
     rwa [decide_eq_false this] at hk
  exact loop xs.length 0 w (by omega) (fun k hk=>by omega) h
 ·refine cbT (by simp;omega) ?_
  have:xs≠ys:=fun e2=>e (by rw[e2])
  have hk:=hK w h
  rwa [decide_eq_false this] at hk
end
structure Ker.Kept (k k':Ker):Prop where
 H:k'.H=k.H
 T:k'.T=k.T
 u:k'.u=k.u
 s:k'.spaces=k.spaces
def Ker.errOk (k:Ker) (r:Told × Ker):Prop:=r.1.e≠0->k.Kept r.2/\r.1.w=0/\r.1.wakes= -1/\r.1.forget= []
section
variable {k:Ker} {d:Dng}
theorem kept_refl:k.Kept k:=⟨rfl,rfl,rfl,rfl⟩
theorem errOk_tell {e:Int} {k':Ker} (h:e≠0->k.Kept k'):k.errOk (Ker.tell e k'):=fun he=>⟨h he,rfl,rfl,rfl⟩
theorem errOk_tellW {x:Int × Int × Ker} (h:x.1≠0->k.Kept x.2.2/\x.2.1= -1):k.errOk (Ker.tellW x):=fun he=>⟨(h he).1,rfl,(h he).2,rfl⟩
theorem errOk_zero {w wk:Int} {f:List Lne} {k':Ker}:k.errOk (⟨0,w,wk,f⟩,k'):=fun he=>absurd rfl he
theorem set_sAt (n:Int):k.setS n (k.sAt n)=k:=by
 unfold Ker.setS Ker.sAt
 have:k.spaces.set n.toNat ((k.spaces[n.toNat]?).getD Tb.newS)=k.spaces:=by
  cases e:k.spaces[n.toNat]? with
  |none=>exact List.set_eq_of_length_le (List.getElem?_eq_none_iff.1 e)
  |some x=>
   obtain ⟨h1,h2⟩:=List.getElem?_eq_some_iff.1 e;rw[Option.getD_some,←h2];exact List.set_getElem_self h1
 rw[this]
theorem tableR_err {m:Tb.Spc} {i n:Int} (h:(m.tableR i n).1≠0):(m.tableR i n).2=m:=by
 unfold Tb.Spc.tableR at h⊢;split
 ·rfl
 ·rename_i h1
  rw[if_neg h1] at h;split
  ·rfl
  ·rename_i h2
   rw[if_neg h2] at h;exact absurd rfl h
theorem mapR_err {m:Tb.Spc} {i:Int} {p:Tb.Pg} (h:(m.mapR i p).1≠0):(m.mapR i p).2=m:=by
 unfold Tb.Spc.mapR at h⊢;split
 ·rfl
 ·rename_i h1
  rw[if_neg h1] at h;split
  ·rfl
  ·rename_i h2
   rw[if_neg h2] at h;split
   ·rfl
   ·rename_i h3
    rw[if_neg h3] at h;exact absurd rfl h
theorem unmapR_err {m:Tb.Spc} {i:Int} (h:(m.unmapR i).2.1≠0):(m.unmapR i).2.2=m:=by
 unfold Tb.Spc.unmapR at h⊢;split
 ·rfl
 ·rename_i h1
  rw[if_neg h1] at h;split
  ·rfl
  ·rename_i p hp
   rw[hp] at h;exact absurd rfl h
theorem retype_err (h:(k.retype d).1≠0):(k.retype d).2=k:=by
 unfold Ker.retype at h⊢;split
 ·rfl
 ·rename_i h1
  rw[if_neg h1] at h;split
  ·rfl
  ·rename_i h2
   rw[if_neg h2] at h;split
   ·rfl
   ·rename_i h3
    rw[if_neg h3] at h;exact absurd rfl h
theorem mint_err (h:(k.mint d).1≠0):(k.mint d).2=k:=by
 unfold Ker.mint at h⊢;split
 ·rfl
 ·rename_i h1
  rw[if_neg h1] at h;split
  ·rfl
  ·rename_i h2
   rw[if_neg h2] at h;split
   ·rfl
   ·rename_i h3
    rw[if_neg h3] at h;exact absurd rfl h
theorem move_err (h:(k.move d).1≠0):(k.move d).2=k:=by
 unfold Ker.move at h⊢;split
 ·rfl
 ·rename_i h1
  rw[if_neg h1] at h;exact absurd rfl h
theorem ack_err {l:Lns} {n:Int} (h:(ackL l n).1.2≠0):(ackL l n).1.1=none:=by
 unfold ackL at h⊢;split
 ·rfl
 ·rename_i x hx
  rw[hx] at h;dsimp only at h;split
  ·rename_i h1
   rw[if_pos h1] at h;exact absurd rfl h
  ·split<;>rfl
theorem woken_err {id:Int} (h:(k.woken id).1≠0):(k.woken id).2.1= -1:=if_neg h
theorem asks_err:k.errOk (k.asks d):=by
 unfold Ker.asks;split
 ·exact errOk_tell fun h=>by rw[retype_err h];exact kept_refl
 ·exact errOk_tell fun h=>by rw[mint_err h];exact kept_refl
 ·exact errOk_tell fun h=>by rw[move_err h];exact kept_refl
 ·split
  ·exact errOk_tell fun _=>kept_refl
  ·exact errOk_zero
 ·exact errOk_zero
 ·refine errOk_tellW fun h=>⟨?_,woken_err h⟩
  unfold Ker.resume;split<;>exact ⟨rfl,rfl,rfl,rfl⟩
 ·exact errOk_tell fun _=>⟨rfl,rfl,rfl,rfl⟩
 ·exact errOk_tell fun _=>⟨rfl,rfl,rfl,rfl⟩
 ·unfold Ker.send
  split
  ·exact errOk_tell fun _=>⟨rfl,rfl,rfl,rfl⟩
  ·split
   ·exact errOk_tell fun h=>absurd rfl h
   ·exact errOk_tellW fun h=>⟨⟨rfl,rfl,rfl,rfl⟩,woken_err h⟩
 ·unfold Ker.recv
  split
  ·exact errOk_tell fun _=>⟨rfl,rfl,rfl,rfl⟩
  ·split
   ·exact errOk_tell fun h=>absurd rfl h
   ·exact errOk_tellW fun h=>⟨⟨rfl,rfl,rfl,rfl⟩,woken_err h⟩
 ·exact errOk_zero
 ·unfold Ker.wait
  split
  ·exact errOk_tell fun _=>⟨rfl,rfl,rfl,rfl⟩
  ·exact errOk_zero
 ·unfold Ker.table
  split
  ·exact errOk_tell fun _=>kept_refl
  ·exact errOk_tell fun h=>by rw[tableR_err h,set_sAt];exact kept_refl
 ·unfold Ker.mapped
  split
  ·exact errOk_tell fun _=>kept_refl
  ·exact errOk_tell fun h=>by rw[mapR_err h,set_sAt];exact kept_refl
 ·intro h
  have h:((k.sAt d.c.obj).unmapR d.call.a).2.1≠0:=h;unfold Ker.unmap;refine ⟨?_,rfl,rfl,if_neg h⟩;dsimp only;rw[unmapR_err h,set_sAt];exact kept_refl
 ·unfold Ker.bind
  split
  ·exact errOk_tell fun _=>kept_refl
  ·exact errOk_tell fun _=>⟨rfl,rfl,rfl,rfl⟩
 ·refine errOk_tellW fun h=>?_
  have h2:(ackL k.ln d.c.obj).1.2≠0:=by
   intro e;apply h;unfold Ker.lined;split<;>exact e
  have h3:=ack_err h2;unfold Ker.lined;rw[h3];exact ⟨⟨rfl,rfl,rfl,rfl⟩,rfl⟩
theorem kept_trans {k1 k2:Ker} (h:k.Kept k1) (h2:k1.Kept k2):k.Kept k2:=⟨h2.H.trans h.H,h2.T.trans h.T,h2.u.trans h.u,h2.s.trans h.s⟩
theorem errOk_setT {t:Th.Mt} {r:Told × Ker} (h:(k.setT t).errOk r):k.errOk r:=fun he=>⟨kept_trans (k1:=k.setT t) ⟨rfl,rfl,rfl,rfl⟩ (h he).1,(h he).2⟩
theorem asked_err {core cur:Int} {c:Call}:k.errOk (k.asked core cur c):=by
 unfold Ker.asked;split
 ·exact errOk_tell fun _=>kept_refl
 ·split
  ·exact errOk_tell fun _=>kept_refl
  ·exact asks_err
theorem do_err (k:Ker) (core:Int) (c:Call):k.errOk (k.do core c):=by
 unfold Ker.do
 split
 ·exact errOk_tell fun _=>⟨rfl,rfl,rfl,rfl⟩
 ·split
  ·exact errOk_tell fun _=>⟨rfl,rfl,rfl,rfl⟩
  ·split
   ·exact errOk_tell fun h=>absurd rfl h
   ·exact errOk_setT asked_err
theorem kept_unt {k':Ker} (h:k.Kept k') (n:Int):k'.untR n=k.untR n:=by unfold Ker.untR Ker.uAt;rw[h.u]
theorem kept_pages {k':Ker} (h:k.Kept k') (n:Int):k'.pagesR n=k.pagesR n:=by unfold Ker.pagesR Ker.sAt;rw[h.s]
end
theorem pages_len {N:Nat} {k:Ker} (hk:KOk N k) (n:Int):(k.pagesR n).length≤1000000:=by
 unfold Ker.pagesR;split
 ·unfold Ker.sAt
  cases e:k.spaces[n.toNat]? with
  |none=>exact Nat.zero_le _
  |some m=>exact Nat.le_trans (SOk.pg_le (hk.sok m (List.mem_of_getElem? e))) (show (4096:Nat)≤1000000 by decide)
 ·exact Nat.zero_le _
def untL (k:Ker) (n:Nat):List Unt:=(List.range n).map fun j:Nat=>(k.untR (j:Int)).1
theorem untL_succ {k:Ker} {n:Nat}:untL k (n+1)=untL k n++ [(k.untR (n:Int)).1]:=by unfold untL;rw[List.range_succ,List.map_append];rfl
theorem untL_len {k:Ker} {n:Nat}:(untL k n).length=n:=by unfold untL;simp
theorem untL_get {k:Ker} {n i:Nat} (h:i<n):(untL k n)[i]?=some (k.untR (i:Int)).1:=by
 unfold untL;rw[List.getElem?_map,List.getElem?_range h];rfl
section
variable {B:Nat} {w0 w:World} {R L:List Asn}
set_option maxHeartbeats 2000000 in
theorem law18_KernelErrors_spec {w0 w:World} {b1 b2 b3 o1 o2 o3 o4 o5 o6 o7 o8:Int} {s4 s5:Sl} {prios:List Int} {ops:List Op18} {K:Bool->World->Prop} (w1:(Lit.int .i64 b1).wf=true) (w2:(Lit.int .i64 b2).wf=true) (w3:(Lit.int .i64 b3).wf=true)
  (hi4:Inp intE w0 s4 prios) (hg4:∀x∈prios,(Lit.int .i64 x).wf=true) (hi5:Inp op18E w0 s5 ops) (hg5:∀x∈ops,op18Good x)
  (w4:(Lit.int .i64 o1).wf=true) (w5:(Lit.int .i64 o2).wf=true) (w6:(Lit.int .i64 o3).wf=true) (w7:(Lit.int .i64 o4).wf=true) (w8:(Lit.int .i64 o5).wf=true) (w9:(Lit.int .i64 o6).wf=true) (w10:(Lit.int .i64 o7).wf=true) (w11:(Lit.int .i64 o8).wf=true)
  (h:Vc.Own w0.heap.size w0 w []) (hK:∀w',Vc.Own w0.heap.size w0 w' []->K true w'):C.qbr b1 b2 b3 s4 s5 o1 o2 o3 o4 o5 o6 o7 o8 K w:=by
 apply S.qbr0;unfold S.qbr;have hw5:=wf64 w8;refine h.al fun w1 h=>?_
 generalize w.heap.size=ab at h⊢;refine h.al fun w2 h=>?_
 generalize w1.heap.size=ob at h⊢;refine h.lc_4 rfl ?_;refine begun_spec hi4 hi5 hg5 h fun k kb w hk h=>?_
 refine cbF rfl ?_;refine Held_spec hk h fun sh w h=>?_
 refine KTree_spec (h.pick (A:=KerA kb k)) fun st w h=>?_
 refine h.al fun w1 h=>?_
 generalize w.heap.size=ub at h⊢;have h:Vc.Own w0.heap.size w0 w1 (SlT untE ⟨some ⟨ub,0,none⟩,0,0⟩ (untL k 0)::_):=h.asSl (E:=untE) [] rfl;have h:Vc.Own w0.heap.size w0 w1 (SlT untE ⟨some ⟨ub,0,none⟩,0,0⟩ (untL k 0)::SlT Tr.slotE st (k.T.map (·.1))::KerA kb k::SlT Sl.heldE sh (heldL k.H)::BlkA ob [.int .i64 o1, .int .i64 o2, .int .i64 o3, .int .i64 o4, .int .i64 o5, .int .i64 o6, .int .i64 o7, .int .i64 o8]::[]):=h.sub;intro l27 hl27
 have loop:∀(d i:Nat) (su:Sl) (w:World),i+d=20->Vc.Own w0.heap.size w0 w (SlT untE su (untL k i)::SlT Tr.slotE st (k.T.map (·.1))::KerA kb k::SlT Sl.heldE sh (heldL k.H)::BlkA ob [.int .i64 o1, .int .i64 o2, .int .i64 o3, .int .i64 o4, .int .i64 o5, .int .i64 o6, .int .i64 o7, .int .i64 o8]::[])->l27 su (i:Int) w:=by
  intro d
  induction d with
  |succ d ih=>
   intro i su w hid h;apply hl27;refine cdecT (by omega) ?_;refine Untyped_spec (h.pick (A:=KerA kb k)) fun w h=>?_
   refine h.al fun w1 h=>?_
   generalize w.heap.size=xb at h⊢;refine h.stLc rfl rfl fun w h=>?_
   (try dsimp only[putAt,List.set_cons_zero,List.set_cons_succ] at h)
   refine h.lc_3 rfl ?_;refine h.al fun w2 h=>?_
   generalize w.heap.size=yb at h⊢;refine app1_unt (s:=su) (y:=(k.untR (i:Int)).1) h (by rw[untL_len];omega) fun s' w _ h=>?_
   rw[show IntKind.i64.wrap ((i:Int)+1)=((i+1:Nat):Int) from by rw[wr (by omega) (by omega)];omega];refine ih (i+1) s' w (by omega) ?_;rw[untL_succ];exact h.sub
  |zero=>
   intro i su w hid h;have hi20:i=20:=hid;rw[hi20] at h;apply hl27;refine cdecF (by omega) ?_;refine Pages_spec (h.pick (A:=KerA kb k)) fun sp w h=>?_
   refine ⟨_,h.ldd rfl, ?_⟩;refine LdL_add (h.lc_6 (o:=0+2) rfl ?_);refine Do_spec (core:=o2) (c:=⟨o3,o4,o5,o6,o7,o8⟩) hk (by decide) hw5.1 hw5.2 (h.pick (A:=KerA kb k)) fun fs w h=>?_
   have hk2:=hk.do (by decide) o2 ⟨o3,o4,o5,o6,o7,o8⟩
   have herr:=do_err k o2 ⟨o3,o4,o5,o6,o7,o8⟩;generalize hD:k.do o2 ⟨o3,o4,o5,o6,o7,o8⟩=D at h hk2 herr
   obtain ⟨t,k2⟩:=D;dsimp only at h hk2 herr;refine h.al fun w1 h=>?_
   generalize w.heap.size=tb at h⊢;refine h.stLc rfl rfl fun w h=>?_
   (try dsimp only[putAt,List.set_cons_zero,List.set_cons_succ] at h)
   refine ⟨_,h.ldc rfl, ?_⟩;refine ceq (fun e0=>?_) (fun e0=>?_)
   ·exact fixed_spec h fun w h=>hK w h.sub
   ·obtain ⟨hkept,hw0,hwk,hfo⟩:=herr e0
    intro l63 hl63;have h:Vc.Own w0.heap.size w0 w (BlkA tb [.int .i64 t.e, .int .u64 t.w, .int .i64 t.wakes, .slice fs.a fs.len fs.cap]::SlT lneE fs t.forget::KerA kb k2::SlT Tb.laidE sp (k.pagesR 0)::SlT untE su (untL k 20)::SlT Tr.slotE st (k.T.map (·.1))::SlT Sl.heldE sh (heldL k.H)::[]):=h.sub
    have loop2:∀(d i:Nat) (w:World),i+d=20->Vc.Own w0.heap.size w0 w (BlkA tb [.int .i64 t.e, .int .u64 t.w, .int .i64 t.wakes, .slice fs.a fs.len fs.cap]::SlT lneE fs t.forget::KerA kb k2::SlT Tb.laidE sp (k.pagesR 0)::SlT untE su (untL k 20)::SlT Tr.slotE st (k.T.map (·.1))::SlT Sl.heldE sh (heldL k.H)::[])->l63 (i:Int) w:=by
     intro d
     induction d with
     |succ d ih=>
      intro i w hid h;apply hl63;refine cdecT (by omega) ?_;refine Untyped_spec (h.pick (A:=KerA kb k2)) fun w h=>?_
      rw[kept_unt hkept];refine h.al fun w1 h=>?_
      generalize w.heap.size=xb at h⊢;refine h.stLc rfl rfl fun w h=>?_
      (try dsimp only[putAt,List.set_cons_zero,List.set_cons_succ] at h)
      refine h.dr fun w h=>?_
      refine h.lc_3 rfl ?_;refine h.ixc (s:=su) rfl (untL_get (k:=k) (n:=20) (i:=i) (by omega)) fun a ha h0 hc=>⟨_,hc 0 _ rfl,_,hc 1 _ rfl,_,hc 2 _ rfl, ?_⟩
      refine ⟨_,untNe (k.untR (i:Int)).1 (k.untR (i:Int)).1, ?_⟩;refine cbF (by simp) ?_;rw[show IntKind.i64.wrap ((i:Int)+1)=((i+1:Nat):Int) from by rw[wr (by omega) (by omega)];omega];exact ih (i+1) w (by omega) h.sub
     |zero=>
      intro i w hid h;apply hl63;refine cdecF (by omega) ?_;refine Held_spec hk2 (h.pick (A:=KerA kb k2)) fun sh2 w h=>?_
      refine ref05_Same_spec h (Rd.own (h.lenc sh2)) (Rd.own (h.lenc sh)) (Nat.le_trans (heldL_len _) (by decide)) fun w h=>?_
      refine cbT (decide_eq_true (by rw[hkept.H])) ?_;refine KTree_spec (h.pick (A:=KerA kb k2)) fun st2 w h=>?_
      refine ref07_Same_spec h (Rd.own (h.lenc st2)) (Rd.own (h.lenc st)) (by rw[List.length_map];exact hk2.tok.few) fun w h=>?_
      refine cbT (decide_eq_true (by rw[hkept.T])) ?_;refine Pages_spec (h.pick (A:=KerA kb k2)) fun sp2 w h=>?_
      refine ref14_Same_spec h (Rd.own (h.lenc sp2)) (Rd.own (h.lenc sp)) (pages_len hk2 0) fun w h=>?_
      refine cbT (decide_eq_true (kept_pages hkept 0)) ?_;have hlf:=h.lenc fs;rw[hfo] at hlf;refine ⟨_,h.ldd rfl,cbT (by rw[hw0];rfl) ?_⟩;refine ⟨_,h.ldd rfl,cbT (by rw[hwk];rfl) ?_⟩;refine ⟨fs,h.ldd rfl,cbT (by rw[hlf];rfl) ?_⟩;exact fixed_spec h fun w h=>hK w h.sub
    exact loop2 20 0 w (by omega) h
 exact loop 20 0 ⟨some ⟨ub,0,none⟩,0,0⟩ w1 (by omega) h
end
end Go.Proofs.YtogmbmdbgkopjaaGreat
end
