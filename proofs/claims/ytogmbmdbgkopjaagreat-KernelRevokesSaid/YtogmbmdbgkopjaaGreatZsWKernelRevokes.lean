/- What the row rests on: the law, at the model and walked. -/
import Derived.Test.YtogmbmdbgkopjaaGreatZs8
set_option linter.unusedVariables false
set_option linter.unusedSimpArgs false
set_option linter.unusedSectionVars false
section
namespace Go.Proofs.YtogmbmdbgkopjaaGreat
open Go Go.Vc Go.ChangeShapes Go.WideShapes
theorem intDec18:∀cs,Fits [.int .i64] cs->∃x,cs=intE.enc x/\(Lit.int .i64 x).wf=true:=fun cs h=>by
 obtain ⟨_,_,rfl,⟨a,rfl,ha⟩,h1⟩:=h.cons_out;obtain rfl:=h1.nil_out;exact ⟨a,rfl,ha⟩
section
variable {H:Type} {enc:TypeId × Value->H} {P:Program} {held:Bool}
theorem agg4_of {t e:TypeId} {f0 f1 f2 f3:Field} {W:World} {sp:Nat->Bool} {v:Value} {dd:DataW H} {ps:List MemPlace} {r:Reach} {b0:Nat} (ht:P.underlying t=some (.struct #[f0,f1,f2,f3]))
  (h0:P.underlying f0.type=some (.int .i64)) (h1:P.underlying f1.type=some (.int .i64)) (h2:P.underlying f2.type=some (.int .i64)) (h3:P.underlying f3.type=some (.slice e))
  (o0:f0.offset=0) (o1:f1.offset=1) (o2:f2.offset=2) (o3:f3.offset=3) (c0:P.cellsOf f0.type=1) (c1:P.cellsOf f1.type=1) (c2:P.cellsOf f2.type=1) (c3:P.cellsOf f3.type=1) (hc:P.cellsOf t=4)
  (hval:Value.okWide P W r b0 t v) (h:DataW.Trod enc P W 0 sp held t v dd ps):
  ∃(x0 x1 x2:Int) (s:Sl) (d:DataW H) (p:List MemPlace),v= .agg #[.int .i64 x0, .int .i64 x1, .int .i64 x2, .slice s.a s.len s.cap]/\(Lit.int .i64 x0).wf=true/\(Lit.int .i64 x1).wf=true/\(Lit.int .i64 x2).wf=true/\DataW.Trod enc P W 0 sp held f3.type (.slice s.a s.len s.cap) d p:=by
 obtain ⟨cs,rfl,hsz⟩:=okWide_struct ht hval
 obtain ⟨x0,x1,x2,x3,rfl⟩:∃x0 x1 x2 x3,cs= #[x0,x1,x2,x3]:=by
  obtain ⟨l⟩:=cs
  match l,(hsz.trans hc) with
  | [c0,c1,c2,c3],_=>exact ⟨c0,c1,c2,c3,rfl⟩
 obtain ⟨fuel,hf⟩:=h;obtain ⟨xs,n,_,_,hl,hlen,hfs⟩:=DataW.trod_struct ht hf
 match xs,hlen with
 | [y0,y1,y2,y3],_=>
  have g0:=hfs 0 f0 rfl;have g1:=hfs 1 f1 rfl;have g2:=hfs 2 f2 rfl;have g3:=hfs 3 f3 rfl;simp only[o0,o1,o2,o3,c0,c1,c2,c3,Value.cells] at g0 g1 g2 g3;simp at g0 g1 g2 g3;obtain ⟨n0,e0,_,w0⟩:=DataW.trod_int h0 g0;obtain ⟨n1,e1,_,w1⟩:=DataW.trod_int h1 g1;obtain ⟨n2,e2,_,w2⟩:=DataW.trod_int h2 g2;obtain ⟨a3,l3,k3,e3⟩:=Go.Joins.slice_form h3 g3;simp only[List.cons.injEq,and_true] at e0 e1 e2 e3;subst e0;subst e1;subst e2;subst e3;exact ⟨n0,n1,n2,⟨a3,l3,k3⟩,y3.1,y3.2,rfl,w0,w1,w2,⟨n,by simpa [Value.cells] using g3⟩⟩
end
end Go.Proofs.YtogmbmdbgkopjaaGreat
end
section
set_option maxRecDepth 8000
namespace Go.Proofs.YtogmbmdbgkopjaaGreat
open Go Go.Vc Go.Proofs
section
variable {B:Nat} {w0 w:World} {R L:List Asn}
theorem app_int {xs:List Int} {y:Int} {b:Nat} {s:Sl} {k:Sl->World->Prop} [I:SlIn s L Int intE xs] {R:List Asn} [J:Pick (SlT intE s xs) L R]
  (h:Vc.Own B w0 w (BlkA b [.int .i64 y]::L)) (hl:xs.length≤1000000) (hk:∀s' w',s'.len=xs.length+1->Vc.Own B w0 w' (SlT intE s' (xs++ [y])::R)->k s' w'):
  ∃s' w',AppR Tryz.prog [26,26] 26 (.slice s.a s.len s.cap) (.slice (some (Addr.mk b 0 none)) 1 1) w s' w'/\k s' w':=
 Vc.Own.app1c (E:=intE) (y:=y) Tryz.underlying26 (show Tryz.prog.info? 3=some Tryz.t3 from by kernel_rfl) (zv:= .int .i64 0) (by kernel_rfl) (by kernel_rfl) rfl (by decide) h (by
  have e:Tryz.t3.bytes=8:=by kernel_rfl
  rw[e];omega) hk
set_option maxHeartbeats 1000000 in
theorem Right_spec {c bits lines:Int} {prios:List Int} {s:Sl} {K:Int->Int->Int->Sl->World->Prop} (hi:Inp intE w0 s prios) (h:Vc.Own w0.heap.size w0 w R)
  (hK:∀(n bi li:Nat) (ps:List Int) s' w',1≤n->n≤3->6≤bi->bi≤12->li≤3->ps.length=n->(∀p∈ps,0≤p/\p<256)->Vc.Own w0.heap.size w0 w' (SlT intE s' ps::R)->K (n:Int) (bi:Int) (li:Int) s' w'):
  C.qaJ c bits lines s K w:=by
 apply S.qaJ0;unfold S.qaJ;obtain ⟨pc,_,ec⟩:=Sl.andle c 65535 (by decide);obtain ⟨pb,_,eb⟩:=Sl.andle bits 65535 (by decide);obtain ⟨pl,hpl,el⟩:=Sl.andle lines 3 (by decide);have ec:andI .i64 c 65535=(pc:Int):=ec;have eb:andI .i64 bits 65535=(pb:Int):=eb;have el:andI .i64 lines 3=(pl:Int):=el;have hlen:=hi.len;refine h.al fun w1 h=>?_
 generalize w.heap.size=ab at h⊢;refine h.al fun w2 h=>?_
 generalize w1.heap.size=rb at h⊢;refine ⟨_,h.ldc rfl,by decide,_,h.ldd rfl,by decide,_,h.ldd rfl, ?_⟩;refine h.al fun w3 h=>?_
 generalize w2.heap.size=ob at h⊢;refine h.stLc rfl rfl fun w h=>?_
 (try dsimp only[putAt,List.set_cons_zero,List.set_cons_succ] at h)
 rw[ec,eb,el] at h;rw[ec];obtain ⟨n,hn⟩:∃n,n=1+pc%3:=⟨_,rfl⟩
 obtain ⟨bi,hb⟩:∃n,n=6+pb%7:=⟨_,rfl⟩
 have en:IntKind.i64.wrap (1+(pc:Int).tmod 3)=(n:Int):=by
  rw[show (pc:Int).tmod 3=((pc%3:Nat):Int) from (Int.ofNat_tmod pc 3).symm,wr (by omega) (by omega)];omega
 have ebi:IntKind.i64.wrap (6+(pb:Int).tmod 7)=(bi:Int):=by
  rw[show (pb:Int).tmod 7=((pb%7:Nat):Int) from (Int.ofNat_tmod pb 7).symm,wr (by omega) (by omega)];omega
 rw[en,ebi] at h;rw[en];have h:=Vc.Own.nilS (E:=intE) h;have h:Vc.Own w0.heap.size w0 w (SlT intE ⟨none,0,0⟩ []::BlkA ob [.int .i64 (n:Int), .int .i64 (bi:Int), .int .i64 (pl:Int), .slice none 0 0]::BlkA rb [.int .i64 0, .int .i64 0, .int .i64 0, .slice none 0 0]::BlkA ab [.int .i64 c, .int .i64 bits, .int .i64 lines, .slice s.a s.len s.cap]::R):=h;intro l12 hl12
 have loop:∀(d i:Nat) (so:Sl) (ps:List Int) (w:World),i+d=n->ps.length=i->(∀p∈ps,0≤p/\p<256)->
   Vc.Own w0.heap.size w0 w (SlT intE so ps::BlkA ob [.int .i64 (n:Int), .int .i64 (bi:Int), .int .i64 (pl:Int), .slice so.a so.len so.cap]::BlkA rb [.int .i64 0, .int .i64 0, .int .i64 0, .slice none 0 0]::BlkA ab [.int .i64 c, .int .i64 bits, .int .i64 lines, .slice s.a s.len s.cap]::R)->l12 (i:Int) w:=by
  intro d
  induction d with
  |succ d ih=>
   intro i so ps w hid hpl2 hps h;apply hl12;refine cdecT (by omega) ?_;refine ⟨s,h.ldd rfl, ?_⟩;intro k16 hk16
   have key:∀(p:Int),0≤p->p<256->k16 p w:=by
    intro p p0 p1;apply hk16;refine ⟨so,h.ldd rfl, ?_⟩;refine h.al fun w1 h=>?_
    generalize w.heap.size=tb at h⊢;refine app_int (s:=so) h (by omega) fun s' w _ h=>?_
    refine h.std rfl rfl fun w h=>?_
    (try dsimp only[putAt,List.set_cons_zero,List.set_cons_succ] at h)
    rw[show IntKind.i64.wrap ((i:Int)+1)=((i+1:Nat):Int) from by rw[wr (by omega) (by omega)];omega];refine ih (i+1) s' (ps++ [p]) w (by omega) (by rw[List.length_append];simp[hpl2]) ?_ ?_
    ·intro x hx
     rcases List.mem_append.1 hx with hx|hx
     ·exact hps x hx
     ·rw[List.mem_singleton.1 hx];exact ⟨p0,p1⟩
    ·exact h.sub
   refine cdec (fun e=>?_) (fun e=>?_)
   ·have hlt:i<prios.length:=by omega
    obtain ⟨a,ha,hg⟩:=hi.get h (gE hlt);obtain ⟨q,hq,eq⟩:=Sl.andle prios[i] 255 (by decide);have eq:andI .i64 prios[i] 255=(q:Int):=eq;refine ⟨s,h.ldd rfl,a,ha,by omega,e,prios[i], ?_, ?_⟩
    ·have:=hg 0 _ rfl
     rw[add_nil] at this;rw[show ((i:Int)).toNat=i from Int.toNat_natCast i];exact this
    ·rw[eq];exact key _ (by omega) (by omega)
   ·exact key 5 (by decide) (by decide)
  |zero=>
   intro i so ps w hid hpl2 hps h;have hin:i=n:=hid;apply hl12;refine cdecF (by omega) ?_;refine h.lc_4 rfl ?_;refine h.stLc rfl rfl fun w h=>?_
   (try dsimp only[putAt,List.set_cons_zero,List.set_cons_succ] at h)
   refine h.lc_4 rfl ?_;exact hK n bi pl ps so w (by omega) (by omega) (by omega) (by omega) (by omega) (by omega) hps h.sub
 exact loop n 0 ⟨none,0,0⟩ [] w (by omega) rfl (fun p hp=>by cases hp) h
end
structure Op18 where
 kind:Int
 core:Int
 c:Call
def op18E:EncT Op18:=⟨8,fun o=>[.int .i64 o.kind, .int .i64 o.core, .int .i64 o.c.ask, .int .i64 o.c.at_, .int .i64 o.c.with_, .int .i64 o.c.a, .int .i64 o.c.b, .int .i64 o.c.c],fun _=>rfl,fun x v h=>by
 simp only[List.mem_cons,List.not_mem_nil,or_false] at h;rcases h with rfl|rfl|rfl|rfl|rfl|rfl|rfl|rfl<;>rfl,by decide⟩
def op18Good (o:Op18):Prop:=(Lit.int .i64 o.c.with_).wf=true
theorem op18Dec:∀cs,Fits [.int .i64, .int .i64, .int .i64, .int .i64, .int .i64, .int .i64, .int .i64, .int .i64] cs->∃x,cs=op18E.enc x/\op18Good x:=fun cs h0=>by
 obtain ⟨_,_,rfl,⟨a,rfl,_⟩,h1⟩:=h0.cons_out;obtain ⟨_,_,rfl,⟨b,rfl,_⟩,h2⟩:=h1.cons_out;obtain ⟨_,_,rfl,⟨c,rfl,_⟩,h3⟩:=h2.cons_out;obtain ⟨_,_,rfl,⟨d,rfl,_⟩,h4⟩:=h3.cons_out;obtain ⟨_,_,rfl,⟨e,rfl,he⟩,h5⟩:=h4.cons_out;obtain ⟨_,_,rfl,⟨f,rfl,_⟩,h6⟩:=h5.cons_out;obtain ⟨_,_,rfl,⟨g,rfl,_⟩,h7⟩:=h6.cons_out;obtain ⟨_,_,rfl,⟨i,rfl,_⟩,h8⟩:=h7.cons_out;obtain rfl:=h8.nil_out;exact ⟨⟨a,b,c,d,e,f,g,i⟩,rfl,he⟩
theorem ldC18 {w:World} {a:Addr} {x:Op18} {f:Int->Int->Int->Int->Int->Int->Prop} (g:∀c v,(op18E.enc x)[c]?=some v->w.cell? (a.add c)=some v) (hf:f x.c.ask x.c.at_ x.c.with_ x.c.a x.c.b x.c.c):
  LdL w (a.add 2) 0 [.i .i64, .i .i64, .i .i64, .i .i64, .i .i64, .i .i64] f:=by
 have e:∀n,(a.add 2).add n=a.add (2+n):=fun n=>by
  unfold Addr.add;split
  ·rename_i h1
   simp_all
  ·simp_all [Nat.add_assoc]
 have gg:∀n v,(op18E.enc x)[2+n]?=some v->w.cell? ((a.add 2).add n)=some v:=fun n v h=>by rw[e];exact g _ v h
 exact ⟨_,gg 0 _ rfl,_,gg 1 _ rfl,_,gg 2 _ rfl,_,gg 3 _ rfl,_,gg 4 _ rfl,_,gg 5 _ rfl,hf⟩
theorem wf64 {x:Int} (h:(Lit.int .i64 x).wf=true): -9223372036854775808≤x/\x<9223372036854775808:=by
 have h1:(decide (IntKind.i64.min≤x)&&decide (x≤IntKind.i64.max))=true:=h;rw[show IntKind.i64.min= -9223372036854775808 from rfl,show IntKind.i64.max=9223372036854775807 from rfl] at h1;simp only[Bool.and_eq_true,decide_eq_true_eq] at h1;omega
section
variable {B:Nat} {w0 w:World} {R L:List Asn}
set_option maxHeartbeats 1000000 in
theorem begun_spec {c bits lines:Int} {prios:List Int} {s s5:Sl} {ops:List Op18} {K:Option Addr->World->Prop} (hi:Inp intE w0 s prios) (hi5:Inp op18E w0 s5 ops) (hg:∀x∈ops,op18Good x) (h:Vc.Own w0.heap.size w0 w R)
  (hK:∀k kb w',KOk 3000 k->Vc.Own w0.heap.size w0 w' (KerA kb k::R)->K (some ⟨kb,0,none⟩) w'):
  C.qal c bits lines s s5 K w:=by
 apply S.qal0;unfold S.qal;refine h.al fun w1 h=>?_
 generalize w.heap.size=ab at h⊢;refine h.lc_4 rfl ?_;refine Right_spec hi h fun n bi li ps s' w n1 n3 b6 b12 l3 hpn hps h=>?_
 have hr:Ker.rightB (n:Int) (bi:Int) (li:Int) ps=true:=decide_eq_true ⟨by omega,by omega,by omega,by omega,by omega,by omega,by omega,hps⟩;refine Boot_spec (s:=s') (prios:=ps) h (by omega) (fun e=>by rw[hr] at e;cases e) fun _ kb w h=>?_
 rw[show (n:Int).toNat=n from Int.toNat_natCast n,show (bi:Int).toNat=bi from Int.toNat_natCast bi,show (li:Int).toNat=li from Int.toNat_natCast li] at h;have k0:KOk 1 (Ker.bootK n bi li ps):=(bootK_ok (c:=n) (bits:=bi) (lines:=li) (prios:=ps) (by omega) (by omega) (by omega) hpn hps).1.ok;have h:Vc.Own w0.heap.size w0 w (KerA kb (Ker.bootK n bi li ps)::R):=h.sub;refine cbF rfl ?_;have hlen:=hi5.len;intro l19 hl19
 have loop:∀(d i:Nat) (k:Ker) (w:World),i+d=40->KOk (1+64*i) k->Vc.Own w0.heap.size w0 w (KerA kb k::R)->l19 (i:Int) w:=by
  intro d
  induction d with
  |zero=>
   intro i k w hid hk h;apply hl19;intro k22 hk22
   have done:k22 false w:=by
    apply hk22;refine cbF rfl ?_;exact hK k kb w (hk.mono (by omega)) h
   refine cdec (fun e=>?_) (fun e=>done);exact cdecF (by omega) done
  |succ d ih=>
   intro i k w hid hk h;apply hl19;intro k22 hk22;refine cdec (fun e=>?_) (fun e=>?_)
   ·refine cdecT (by omega) ?_
    apply hk22;refine cbT rfl ?_;have hlt:i<ops.length:=by omega
    obtain ⟨x,hxx⟩:∃x,ops[i]?=some x:=⟨_,gE hlt⟩
    have hgx:=hg _ (List.mem_of_getElem? hxx);have hwx:=wf64 hgx;have ew:IntKind.i64.wrap ((i:Int)+1)=((i+1:Nat):Int):=by rw[wr (by omega) (by omega)];omega
    have et:((i:Int)).toNat=i:=Int.toNat_natCast i;rw[et,ew];obtain ⟨a,ha,hc⟩:=hi5.get h hxx
    have g0:w.cell? (a.add (i*8))=some (.int .i64 x.kind):=by
     have:=hc 0 _ rfl;rw[add_nil] at this;exact this
    refine ⟨a,ha,by omega,e,x.kind,g0, ?_⟩;refine ceq (fun e0=>?_) (fun e0=>?_)
    ·refine h.dr fun w h=>?_
     obtain ⟨a,ha,hc⟩:=hi5.get h hxx;refine ⟨a,ha,by omega,e,x.core,hc 1 _ rfl,a,ha,by omega,e, ?_⟩;refine ldC18 hc ?_;refine ⟨?_,trivial⟩;refine Do_spec (c:=x.c) hk (by omega) hwx.1 hwx.2 h fun fs w h=>?_
     exact ih (i+1) _ w (by omega) ((hk.do (by omega) x.core x.c).mono (by omega)) h.sub
    ·refine ceq (fun e1=>?_) (fun e1=>?_)
     ·refine ⟨a,ha,by omega,e,x.core,hc 1 _ rfl, ?_⟩
      refine irq_spec hk (by omega) h fun w h=>?_
      exact ih (i+1) _ w (by omega) ((hk.irq x.core).mono (by omega)) h
     ·refine ceq (fun e2=>?_) (fun e2=>?_)
      ·refine ⟨a,ha,by omega,e,x.core,hc 1 _ rfl, ?_⟩
       refine Tick_spec hk h fun w h=>?_
       exact ih (i+1) _ w (by omega) ((hk.tick x.core).mono (by omega)) h
      ·exact ih (i+1) _ w (by omega) (hk.mono (by omega)) h
   ·apply hk22
    refine cbF rfl ?_;exact hK k kb w (hk.mono (by omega)) h
 exact loop 40 0 _ w (by omega) k0 h
end
section
variable {N:Nat} {k:Ker} {d:Dng}
theorem revoke_H (hk:KOk N k) (s:Slot):(k.revoke d).2.H s=if s∈Tr.underN k.T d.s then none else k.H s:=by
 have hnd:=under_nd (s:=d.s) hk.tok;have hheld:∀s∈Tr.underN k.T d.s,(k.H s).isSome=true:=fun s hs=>(hk.mem s).1 (under_in hs)
 obtain ⟨_,h2⟩:=gones_ok (Tr.underN k.T d.s).reverse k hk (List.pairwise_reverse.2 (hnd.imp Ne.symm)) (fun s hs=>hheld s (List.mem_reverse.1 hs))
 have h3:(k.revoke d).2.H s=(Ker.gones (Tr.underN k.T d.s).reverse k).2.H s:=by
  unfold Ker.revoke;dsimp only;split<;>rfl
 rw[h3,h2];simp only[List.mem_reverse]
theorem do_revoke {core at_ a b c w:Int}:k.do core ⟨4,at_,w,a,b,c⟩=match (k.t.pickC core).runs? core with
  |none=>Ker.tell 182 (k.setT (k.t.pickC core))
  |some cur=>if k.heldB at_ 0=false then Ker.tell 181 (k.setT (k.t.pickC core)) else (k.setT (k.t.pickC core)).revoke ⟨core,cur,⟨4,at_,w,a,b,c⟩,(0,at_),k.capAt at_⟩:=by
 unfold Ker.do
 cases (k.t.pickC core).runs? core with
 |none=>rfl
 |some cur=>
  dsimp only;rw[if_neg (by omega),if_neg (by omega)];unfold Ker.asked;have h1:Ker.needK 4=(0,0):=rfl;dsimp only;rw[h1];have h2:(k.setT (k.t.pickC core)).heldB at_ 0=k.heldB at_ 0:=rfl;have h3:(k.setT (k.t.pickC core)).capAt at_=k.capAt at_:=rfl;dsimp only;rw[h2,h3];split
  ·rfl
  ·rw[if_neg]
   ·rfl
   ·have h0:andI .i64 (k.capAt at_).rights 0=0:=by
     obtain ⟨p,hp,e⟩:=Sl.andle (k.capAt at_).rights 0 (by decide);have:p=0:=by omega
     rw[this] at e;exact e
    rw[h0];exact fun h=>h rfl
theorem do_revoke_ok (hk:KOk N k) {core at_ a b c w:Int} (he:(k.do core ⟨4,at_,w,a,b,c⟩).1.e=0):
  (k.do core ⟨4,at_,w,a,b,c⟩).1.w=((Tr.underN k.T (0,at_)).length:Int)/\∀s,(k.do core ⟨4,at_,w,a,b,c⟩).2.H s=if s∈Tr.underN k.T (0,at_) then none else k.H s:=by
 rw[do_revoke] at he⊢;cases hr:(k.t.pickC core).runs? core with
 |none=>rw[hr] at he;cases he
 |some cur=>
  rw[hr] at he;dsimp only at he⊢;by_cases hb:k.heldB at_ 0=false
  ·rw[if_pos hb] at he;cases he
  ·rw[if_neg hb]
   refine ⟨rfl,fun s=>?_⟩;exact revoke_H (hk.pick core) s
theorem do_revoke_bad {core at_ a b c w:Int} (he:(k.do core ⟨4,at_,w,a,b,c⟩).1.e≠0):(k.do core ⟨4,at_,w,a,b,c⟩).2=k.setT (k.t.pickC core):=by
 rw[do_revoke] at he⊢;cases hr:(k.t.pickC core).runs? core with
 |none=>rfl
 |some cur=>
  rw[hr] at he;dsimp only at he⊢;by_cases hb:k.heldB at_ 0=false
  ·rw[if_pos hb];rfl
  ·rw[if_neg hb] at he
   exact absurd rfl he
end
theorem fm_congr {α β:Type} {f g:α->Option β}:∀(l:List α),(∀x∈l,f x=g x)->l.filterMap f=l.filterMap g
 | [],_=>rfl
 |a::l,h=>by
  rw[List.filterMap_cons,List.filterMap_cons,h a List.mem_cons_self,fm_congr l fun x hx=>h x (List.mem_cons_of_mem _ hx)]
theorem heldL_filter (H:Sl.Hs) (l:List Slot):heldL (fun s=>if s∈l then none else H s)=(heldL H).filter fun p=>decide (p.1∉l):=by
 unfold heldL;rw[List.filter_filterMap];apply fm_congr;intro i _;dsimp only;by_cases e:((0,(i:Int)):Slot)∈l
 ·rw[if_pos e]
  cases H (0,(i:Int)) with
  |none=>rfl
  |some c=>simp[Option.filter,e]
 ·rw[if_neg e]
  cases H (0,(i:Int)) with
  |none=>rfl
  |some c=>simp[Option.filter,e]
theorem heldL_congr {H H':Sl.Hs} (h:∀i:Nat,i<64->H (0,(i:Int))=H' (0,(i:Int))):heldL H=heldL H':=by
 unfold heldL;apply fm_congr;intro i hi;rw[h i (List.mem_range.1 hi)]
theorem heldX (a b:Slot × Cap):eqX Tryz.prog 9 44 (Sl.heldE.enc a) (Sl.heldE.enc b)=some (decide (a=b)):=by
 have h:eqX Tryz.prog 9 44 (Sl.heldE.enc a) (Sl.heldE.enc b)=some ((a.1.1==b.1.1&&(a.1.2==b.1.2&&true))&&((a.2.kind==b.2.kind&&(a.2.obj==b.2.obj&&(a.2.rights==b.2.rights&&(a.2.badge==b.2.badge&&(a.2.guard==b.2.guard&&(a.2.bits==b.2.bits&&true))))))&&true)):=by kernel_rfl
 rw[h];congr 1;rw[Bool.eq_iff_iff];simp only[Bool.and_true,Bool.and_eq_true,beq_iff_eq,decide_eq_true_eq];obtain ⟨⟨a1,a2⟩,a3⟩:=a;obtain ⟨⟨b1,b2⟩,b3⟩:=b;cases a3;cases b3;simp only[Prod.mk.injEq,Sl.Cap.mk.injEq]
theorem heldNe {x y:Operand} (a b:Slot × Cap):EqB Tryz.prog .neq 44 x y (.agg ⟨Sl.heldE.enc a⟩) (.agg ⟨Sl.heldE.enc b⟩) (!decide (a=b)):=neB_x (by kernel_rfl) (by kernel_rfl) (by kernel_rfl) (heldX a b)
theorem heldEq {x y:Operand} (a b:Slot × Cap):EqB Tryz.prog .eql 44 x y (.agg ⟨Sl.heldE.enc a⟩) (.agg ⟨Sl.heldE.enc b⟩) (decide (a=b)):=eqB_x (by kernel_rfl) (by kernel_rfl) (by kernel_rfl) (heldX a b)
theorem eq_of_get {α:Type} {xs ys:List α} (hl:xs.length=ys.length) (h:∀i,i<xs.length->xs[i]?=ys[i]?):xs=ys:=List.ext_getElem? fun i=>by
 by_cases e:i<xs.length
 ·exact h i e
 ·rw[List.getElem?_eq_none (by omega),List.getElem?_eq_none (by omega)]
section
variable {B:Nat} {w0 w:World} {R L:List Asn}
theorem ref05_Same_spec {s t:Sl} {xs ys:List (Slot × Cap)} {K:Bool->World->Prop} (h:Vc.Own B w0 w L) (hr1:Rd Sl.heldE B w0 L s xs) (hr2:Rd Sl.heldE B w0 L t ys) (hs:xs.length≤1000000) (hK:∀w',Vc.Own B w0 w' L->K (decide (xs=ys)) w'):C.qbK s t K w:=by
 apply S.qbK0;unfold S.qbK;have l1:=hr1.len;have l2:=hr2.len;by_cases e:xs.length=ys.length
 ·refine cbF (by simp;omega) ?_
  intro l3 hl3
  have loop:∀(j i:Nat) (w:World),i+j=xs.length->(∀k,k<i->xs[k]?=ys[k]?)->Vc.Own B w0 w L->l3 (i:Int) w:=by
   intro j
   induction j with
   |zero=>
    intro i w hi hb h;apply hl3;refine cdecF (by omega) ?_;have:xs=ys:=eq_of_get e fun k hk=>hb k (by omega)
    have hk:=hK w h
    rwa [decide_eq_true this] at hk
   |succ j ih=>
    intro i w hi hb h;apply hl3;refine cdecT (by omega) ?_;refine h.dr fun w h=>?_
    have hx:xs[i]?=some xs[i]:=gE (by omega);have hy:ys[i]?=some (ys[i]'(by omega)):=gE (by omega);refine hr1.ix h rfl hx fun a ha h0 hc=>⟨_,hc 0 _ rfl,_,hc 1 _ rfl,_,hc 2 _ rfl,_,hc 3 _ rfl,_,hc 4 _ rfl,_,hc 5 _ rfl,_,hc 6 _ rfl,_,hc 7 _ rfl, ?_⟩
    refine hr2.ix h rfl hy fun a ha h0 hc=>⟨_,hc 0 _ rfl,_,hc 1 _ rfl,_,hc 2 _ rfl,_,hc 3 _ rfl,_,hc 4 _ rfl,_,hc 5 _ rfl,_,hc 6 _ rfl,_,hc 7 _ rfl, ?_⟩
    refine ⟨_,heldNe xs[i] (ys[i]'(by omega)), ?_⟩;by_cases e2:xs[i]=ys[i]'(by omega)
    ·refine cbF (by simpa using e2) ?_
     rw[show IntKind.i64.wrap ((i:Int)+1)=((i+1:Nat):Int) from by rw[wr (by omega) (by omega)];omega];refine ih (i+1) w (by omega) (fun k hk=>?_) h;by_cases e3:k=i
     ·subst e3;rw[hx,hy,e2]
     ·exact hb k (by omega)
    ·refine cbT (by simpa using e2) ?_
     have:xs≠ys:=fun e3=>by
      have:xs[i]?=ys[i]?:=by rw[e3]
      rw[hx,hy] at this;exact e2 (by simpa using this)
     have hk:=hK w h
     rwa [decide_eq_false this] at hk
  exact loop xs.length 0 w (by omega) (fun k hk=>by omega) h
 ·refine cbT (by simp;omega) ?_
  have:xs≠ys:=fun e2=>e (by rw[e2])
  have hk:=hK w h
  rwa [decide_eq_false this] at hk
end
theorem held_nd {H:Sl.Hs}:((heldL H).map (·.1)).Nodup:=by
 unfold heldL;rw[List.Nodup,List.pairwise_map,List.pairwise_filterMap];refine List.Pairwise.imp ?_ (List.pairwise_lt_range (n:=64));intro a b hab x hx y hy;rw[Option.map_eq_some_iff] at hx hy;obtain ⟨_,_,rfl⟩:=hx;obtain ⟨_,_,rfl⟩:=hy;intro e;have:=congrArg Prod.snd e;dsimp only at this;omega
section
variable {N:Nat} {k:Ker}
theorem KOk.heldMem (hk:KOk N k) (s:Slot):s∈(heldL k.H).map (·.1)↔s∈k.T.map (·.1):=by
 have hih:=heldL_ok (H:=k.H) fun t c hc=>(hk.held t c hc).1
 rw[hk.mem,List.mem_map];constructor
 ·rintro ⟨⟨t,c⟩,hm,rfl⟩
  rw[(hih.2 t c).1 hm];rfl
 ·intro h
  obtain ⟨c,hc⟩:=Option.isSome_iff_exists.1 h;exact ⟨(s,c),(hih.2 s c).2 hc,rfl⟩
end
section
variable {P Q Z T:Tr.Tr} {s:Slot} {d:Int}
theorem place_at (hn:s∉P.map (·.1)):Tr.placeN (P++(s,d)::Z) s=some P.length:=by
 unfold Tr.placeN;have h0:P.findIdx? (fun x=>decide (x.1=s))=none:=List.findIdx?_eq_none_iff.2 fun x hx=>decide_eq_false fun e=>hn (List.mem_map.2 ⟨x,hx,e⟩)
 rw[List.findIdx?_append,h0,List.findIdx?_cons];simp
theorem drop_at:(P++(s,d)::Z).drop (P.length+1)=Z:=by
 rw[←List.drop_drop,List.drop_left];rfl
theorem dOf_at:Tr.dOf (P++(s,d)::Z) P.length=d:=by unfold Tr.dOf;simp
theorem end_at:Tr.endN (P++(s,d)::Z) P.length=P.length+1+(Z.takeWhile fun x=>decide (d<x.2)).length:=by
 unfold Tr.endN;rw[drop_at,dOf_at]
theorem take_tw {α:Type} (p:α->Bool):∀l:List α,l.take (l.takeWhile p).length=l.takeWhile p
 | []=>rfl
 |a::l=>by
  rw[List.takeWhile_cons];cases e:p a
  ·simp
  ·simp[take_tw p l]
theorem drop_tw {α:Type} (p:α->Bool):∀l:List α,∀y,(l.drop (l.takeWhile p).length).head?=some y->p y=false
 | [],y,h=>by simp at h
 |a::l,y,h=>by
  rw[List.takeWhile_cons] at h;cases e:p a
  ·rw[e] at h
   simp at h;rw[←h];exact e
  ·rw[e] at h
   exact drop_tw p l y (by simpa using h)
theorem mem_tw {α:Type} (p:α->Bool):∀(l:List α) (y:α),y∈l.takeWhile p->p y=true
 | [],y,h=>by simp at h
 |a::l,y,h=>by
  rw[List.takeWhile_cons] at h;cases e:p a
  ·rw[e] at h
   simp at h
  ·rw[e] at h
   simp only[if_true] at h;rcases List.mem_cons.1 h with rfl|h
   ·exact e
   ·exact mem_tw p l y h
theorem under_at (hn:s∉P.map (·.1)):Tr.underN (P++(s,d)::Z) s=(Z.takeWhile fun x=>decide (d<x.2)).map (·.1):=by
 unfold Tr.underN;rw[place_at hn];dsimp only;rw[end_at,drop_at,Nat.add_sub_cancel_left,take_tw]
theorem take_leaf (hn:s∉P.map (·.1)) (hz:∀y,Z.head?=some y->y.2≤d):(Tr.takeN (P++(s,d)::Z) s).2=P++Z:=by
 have h0:(Z.takeWhile fun x=>decide (d<x.2))= []:=by
  cases Z with
  |nil=>rfl
  |cons y r=>
   have:=hz y rfl;rw[List.takeWhile_cons,if_neg];simpa using this
 unfold Tr.takeN;rw[place_at hn];dsimp only;rw[end_at,h0,drop_at];rw[show P.length+1+([]:Tr.Tr).length=P.length+1 from rfl,Nat.sub_self,drop_at,List.take_zero,List.take_left];rfl
theorem cut_under:∀(R:Tr.Tr),(∀x∈R,d<x.2)->(∀y,Q.head?=some y->y.2≤d)->((P++(s,d)::(R.reverse++Q)).map (·.1)).Nodup->
  (R.map (·.1)).foldl (fun T s=>(Tr.takeN T s).2) (P++(s,d)::(R.reverse++Q))=P++(s,d)::Q
 | [],_,_,_=>rfl
 |x::R,hR,hQ,hnd=>by
  have e:P++(s,d)::((x::R).reverse++Q)=(P++(s,d)::R.reverse)++(x.1,x.2)::Q:=by simp
  have e2:(P++(s,d)::R.reverse)++Q=P++(s,d)::(R.reverse++Q):=by simp
  rw[e] at hnd⊢;rw[List.map_cons,List.foldl_cons];have hx:=hR x List.mem_cons_self;rw[List.map_append,List.map_cons,List.nodup_append] at hnd;obtain ⟨n1,n2,n3⟩:=hnd;rw[take_leaf (fun hm=>n3 _ hm _ List.mem_cons_self rfl) (fun y hy=>by have:=hQ y hy;omega),e2];refine cut_under R (fun y hy=>hR y (List.mem_cons_of_mem _ hy)) hQ ?_;rw[←e2,List.map_append,List.nodup_append];exact ⟨n1,(List.nodup_cons.1 n2).2,fun a ha b hb=>n3 a ha b (List.mem_cons_of_mem _ hb)⟩
theorem under_gone (hT:Tr.TOk T) (s:Slot):Tr.underN ((Tr.underN T s).reverse.foldl (fun T s=>(Tr.takeN T s).2) T) s= []:=by
 cases hp:Tr.placeN T s with
 |none=>
  have:Tr.underN T s= []:=by unfold Tr.underN;rw[hp]
  rw[this];exact this
 |some i=>
  obtain ⟨z,hz,hzs⟩:=Tr.place_some hp;obtain ⟨hlt,hzi⟩:=List.getElem?_eq_some_iff.1 hz
  have eT:T=T.take i++(s,z.2)::T.drop (i+1):=by
   have h1:T.drop i=(s,z.2)::T.drop (i+1):=by
    rw[List.drop_eq_getElem_cons hlt,hzi,←hzs]
   rw[←h1,List.take_append_drop]
  have hnd:=hT.nd
  have hn:s∉(T.take i).map (·.1):=by
   intro hm;rw[eT,List.map_append,List.nodup_append] at hnd;exact hnd.2.2 _ hm _ List.mem_cons_self rfl
  generalize T.take i=P at eT hn;generalize T.drop (i+1)=Z at eT;rw[eT] at hnd⊢;rw[under_at hn]
  have hZ:Z=((Z.takeWhile fun x=>decide (z.2<x.2)).reverse).reverse++Z.drop (Z.takeWhile fun x=>decide (z.2<x.2)).length:=by
   rw[List.reverse_reverse]
   conv=>lhs;rw[←List.take_append_drop (Z.takeWhile fun x=>decide (z.2<x.2)).length Z]
   rw[take_tw]
  have hA:∀x∈(Z.takeWhile fun x=>decide (z.2<x.2)).reverse,z.2<x.2:=fun x hx=>of_decide_eq_true (mem_tw (fun x:Tr.Leaf=>decide (z.2<x.2)) _ _ (List.mem_reverse.1 hx))
  have hQ:∀y,(Z.drop (Z.takeWhile fun x=>decide (z.2<x.2)).length).head?=some y->y.2≤z.2:=fun y hy=>by
   have:=drop_tw _ _ y hy;have:=of_decide_eq_false this;omega
  rw[←List.map_reverse];generalize (Z.takeWhile fun x=>decide (z.2<x.2)).reverse=A at hZ hA⊢;generalize Z.drop (Z.takeWhile fun x=>decide (z.2<x.2)).length=Q at hZ hQ;rw[hZ] at hnd⊢;rw[cut_under A hA hQ hnd,under_at hn];cases Q with
  |nil=>rfl
  |cons y r=>
   have:=hQ y rfl;rw[List.takeWhile_cons,if_neg]
   ·rfl
   ·simpa using this
end
section
variable {N:Nat} {k:Ker} {d:Dng}
theorem last_T {c:Cap}:(k.last c).2.T=k.T:=by
 unfold Ker.last;split
 ·rfl
 ·split
  ·rfl
  ·split<;>rfl
theorem gone_T {s:Slot}:(k.gone s).2.T=(Tr.takeN k.T s).2:=by
 unfold Ker.gone;split
 ·rfl
 ·rw[last_T];rfl
theorem gones_T:∀(l:List Slot) (k:Ker),(Ker.gones l k).2.T=l.foldl (fun T s=>(Tr.takeN T s).2) k.T
 | [],_=>rfl
 |s::r,k=>by
  show (Ker.gones r (k.gone s).2).2.T=_;rw[gones_T r,gone_T,List.foldl_cons]
theorem revoke_T:(k.revoke d).2.T=(Tr.underN k.T d.s).reverse.foldl (fun T s=>(Tr.takeN T s).2) k.T:=by
 rw[←gones_T];unfold Ker.revoke;dsimp only;split<;>rfl
theorem do_revoke_T {core at_ a b c w:Int} (he:(k.do core ⟨4,at_,w,a,b,c⟩).1.e=0):
  (k.do core ⟨4,at_,w,a,b,c⟩).2.T=(Tr.underN k.T (0,at_)).reverse.foldl (fun T s=>(Tr.takeN T s).2) k.T:=by
 rw[do_revoke] at he⊢;cases hr:(k.t.pickC core).runs? core with
 |none=>rw[hr] at he;cases he
 |some cur=>
  rw[hr] at he;dsimp only at he⊢;by_cases hb:k.heldB at_ 0=false
  ·rw[if_pos hb] at he;cases he
  ·rw[if_neg hb]
   exact revoke_T
theorem revoke_again (hk:KOk N k) (hN:N+64≤100000) {n:Int} (he:(k.do 0 ⟨4,n,0,0,0,0⟩).1.e=0) (he2:((k.do 0 ⟨4,n,0,0,0,0⟩).2.do 0 ⟨4,n,0,0,0,0⟩).1.e=0):((k.do 0 ⟨4,n,0,0,0,0⟩).2.do 0 ⟨4,n,0,0,0,0⟩).1.w=0:=by
 rw[(do_revoke_ok (hk.do hN 0 ⟨4,n,0,0,0,0⟩) he2).1,do_revoke_T he,under_gone hk.tok];rfl
theorem revoke_held (hk:KOk N k) {n:Int} (he:(k.do 0 ⟨4,n,0,0,0,0⟩).1.e=0):
  heldL (k.do 0 ⟨4,n,0,0,0,0⟩).2.H=(heldL k.H).filter fun p=>decide (p.1∉Tr.underN k.T (0,n)):=by
 rw[←heldL_filter];exact heldL_congr fun i _=>(do_revoke_ok hk he).2 _
theorem filter_len {α:Type} (p:α->Bool):∀l:List α,(l.filter p).length+(l.filter fun x=> !p x).length=l.length
 | []=>rfl
 |a::l=>by
  have:=filter_len p l;cases e:p a<;>simp[List.filter_cons,e]<;>omega
theorem revoke_count (hk:KOk N k) {n:Int}:((heldL k.H).filter fun p=>decide (p.1∉Tr.underN k.T (0,n))).length+(Tr.underN k.T (0,n)).length=(heldL k.H).length:=by
 rw[←filter_len (fun p:Slot × Cap=>decide (p.1∉Tr.underN k.T (0,n))) (heldL k.H)];congr 1
 have hp:(((heldL k.H).filter fun x=> !decide (x.1∉Tr.underN k.T (0,n))).map (·.1)).Perm (Tr.underN k.T (0,n)):=by
  refine (List.perm_ext_iff_of_nodup ?_ (under_nd hk.tok)).2 fun s=>?_
  ·exact List.Nodup.sublist ((List.filter_sublist).map _) held_nd
  ·rw[List.mem_map]
   constructor
   ·rintro ⟨x,hx,rfl⟩
    have:=(List.mem_filter.1 hx).2;simpa using this
   ·intro hs
    have h1:=(hk.heldMem s).2 (under_in hs);obtain ⟨x,hx,rfl⟩:=List.mem_map.1 h1;exact ⟨x,List.mem_filter.2 ⟨hx,by simpa using hs⟩,rfl⟩
 have:=hp.length_eq;rw[List.length_map] at this;exact this.symm
end
theorem wu64 {z:Nat} (h:z<1000000):IntKind.u64.wrap (z:Int)=(z:Int):=by
 rw[show IntKind.u64.wrap (z:Int)=((z%2^64:Nat):Int) from Sl.wrap_u64 z,Nat.mod_eq_of_lt (Nat.lt_trans h (by decide))]
theorem filt_get {α:Type} {X:List α} {p:α->Bool} {i:Nat} {x:α} (hx:X[i]?=some x) (hp:p x=true):(X.filter p)[((X.take i).filter p).length]?=some x:=by
 obtain ⟨hlt,hxi⟩:=List.getElem?_eq_some_iff.1 hx
 have e:X=X.take i++x::X.drop (i+1):=by
  rw[←hxi,←List.drop_eq_getElem_cons hlt,List.take_append_drop]
 have e2:X.filter p=(X.take i).filter p++x::(X.drop (i+1)).filter p:=by
  conv=>lhs;rw[e]
  rw[List.filter_append,List.filter_cons,if_pos hp]
 rw[e2,List.getElem?_append_right (Nat.le_refl _),Nat.sub_self];rfl
theorem filt_step {α:Type} {X:List α} {p:α->Bool} {i:Nat} {x:α} (hx:X[i]?=some x):((X.take (i+1)).filter p).length=((X.take i).filter p).length+if p x=true then 1 else 0:=by
 rw[List.take_add_one,hx,List.filter_append,List.length_append];congr 1;cases e:p x<;>simp[e]
section
set_option maxHeartbeats 2000000 in
theorem law18_KernelRevokes_spec {w0 w:World} {b1 b2 b3 at_:Int} {s4 s5:Sl} {prios:List Int} {ops:List Op18} {K:Bool->World->Prop} (w1:(Lit.int .i64 b1).wf=true) (w2:(Lit.int .i64 b2).wf=true) (w3:(Lit.int .i64 b3).wf=true)
  (hi4:Inp intE w0 s4 prios) (hg4:∀x∈prios,(Lit.int .i64 x).wf=true) (hi5:Inp op18E w0 s5 ops) (hg5:∀x∈ops,op18Good x) (w4:(Lit.int .i64 at_).wf=true)
  (h:Vc.Own w0.heap.size w0 w []) (hK:∀w',Vc.Own w0.heap.size w0 w' []->K true w'):C.qbn b1 b2 b3 s4 s5 at_ K w:=by
 apply S.qbn0;unfold S.qbn;generalize andI .i64 at_ 63=n;refine h.al fun w1 h=>?_
 generalize w.heap.size=ab at h⊢;refine h.lc_4 rfl ?_;refine begun_spec hi4 hi5 hg5 h fun k kb w hk h=>?_
 refine cbF rfl ?_;refine Held_spec hk h fun sh w h=>?_
 refine Do_spec (core:=0) (c:=⟨4,n,0,0,0,0⟩) hk (by decide) (by show (-9223372036854775808:Int)≤0;decide) (by show (0:Int)<9223372036854775808;decide) (h.pick (A:=KerA kb k)) fun fs w h=>?_
 have hk2:=hk.do (by decide) 0 ⟨4,n,0,0,0,0⟩
 have hbad:=do_revoke_bad (k:=k) (core:=0) (at_:=n) (a:=0) (b:=0) (c:=0) (w:=0);have hok:=fun he=>(do_revoke_ok hk (core:=0) (at_:=n) (a:=0) (b:=0) (c:=0) (w:=0) he).1
 have hheld:=revoke_held hk (n:=n);have hagain:=revoke_again hk (by decide) (n:=n);have hcount:=revoke_count hk (n:=n);generalize hD:k.do 0 ⟨4,n,0,0,0,0⟩=D at h hk2 hbad hok hheld hagain
 obtain ⟨t,k2⟩:=D;dsimp only at h hk2 hbad hok hheld hagain;refine h.al fun w1 h=>?_
 generalize w.heap.size=tb at h⊢;refine h.stLc rfl rfl fun w h=>?_
 (try dsimp only[putAt,List.set_cons_zero,List.set_cons_succ] at h)
 refine Held_spec hk2 (h.pick (A:=KerA kb k2)) fun sh2 w h=>?_
 have h:Vc.Own w0.heap.size w0 w (SlT Sl.heldE sh2 (heldL k2.H)::KerA kb k2::BlkA tb [.int .i64 t.e, .int .u64 t.w, .int .i64 t.wakes, .slice fs.a fs.len fs.cap]::SlT Sl.heldE sh (heldL k.H)::[]):=h.sub;refine ⟨_,h.ldc rfl, ?_⟩;refine cne (fun e0=>?_) (fun e0=>?_)
 ·refine ref05_Same_spec h (Rd.own (h.lenc sh2)) (Rd.own (h.lenc sh)) (Nat.le_trans (heldL_len _) (by decide)) fun w h=>?_
  refine cbT (decide_eq_true (by rw[hbad e0];rfl)) ?_;exact fixed_spec h fun w h=>hK w h.sub
 ·have hY:=hheld e0
  have hW:=hok e0;have hA:=hagain e0;obtain ⟨p,hp⟩:∃p:Slot × Cap->Bool,p=fun x=>decide (x.1∉Tr.underN k.T (0,n)):=⟨_,rfl⟩
  rw[←hp] at hY hcount;have h64:=heldL_len k.H;generalize heldL k.H=X at h hY hcount h64;rw[hY] at h;have l1:=h.lenc sh;have l2:=h.lenc sh2;have hle:(X.filter p).length≤X.length:=List.length_filter_le _ _;intro l30 hl30
  have loop:∀(d i:Nat) (w:World),i+d=X.length->Vc.Own w0.heap.size w0 w (SlT Sl.heldE sh2 (X.filter p)::KerA kb k2::BlkA tb [.int .i64 t.e, .int .u64 t.w, .int .i64 t.wakes, .slice fs.a fs.len fs.cap]::SlT Sl.heldE sh X::[])->
    l30 (((X.take i).filter p).length:Int) ((i-((X.take i).filter p).length:Nat):Int) (i:Int) w:=by
   intro d
   induction d with
   |succ d ih=>
    intro i w hid h;apply hl30;refine cdecT (by omega) ?_;have hx:X[i]?=some (X[i]'(by omega)):=gE (by omega);obtain ⟨x,hxe⟩:∃x,x=X[i]'(by omega):=⟨_,rfl⟩
    rw[←hxe] at hx;have hst:=filt_step (p:=p) hx;have hti:((X.take i).filter p).length≤i:=Nat.le_trans (List.length_filter_le _ _) (by rw[List.length_take];omega);have ei:IntKind.i64.wrap ((i:Int)+1)=((i+1:Nat):Int):=by rw[wr (by omega) (by omega)];omega
    rw[ei];have ihn:=ih (i+1);intro k35 hk35
    have yes:∀w,p x=true->Vc.Own w0.heap.size w0 w (SlT Sl.heldE sh2 (X.filter p)::KerA kb k2::BlkA tb [.int .i64 t.e, .int .u64 t.w, .int .i64 t.wakes, .slice fs.a fs.len fs.cap]::SlT Sl.heldE sh X::[])->k35 true w:=by
     intro w hpx h;apply hk35;refine cbT rfl ?_;rw[if_pos hpx] at hst;have:=ihn w (by omega) h;rw[hst] at this;rw[show IntKind.i64.wrap ((((X.take i).filter p).length:Int)+1)=((((X.take i).filter p).length+1:Nat):Int) from by rw[wr (by omega) (by omega)];omega];rw[show i-((X.take i).filter p).length=i+1-(((X.take i).filter p).length+1) from by omega];exact this
    have no:∀w,p x=false->Vc.Own w0.heap.size w0 w (SlT Sl.heldE sh2 (X.filter p)::KerA kb k2::BlkA tb [.int .i64 t.e, .int .u64 t.w, .int .i64 t.wakes, .slice fs.a fs.len fs.cap]::SlT Sl.heldE sh X::[])->k35 false w:=by
     intro w hpx h;apply hk35;refine cbF rfl ?_;rw[if_neg (by rw[hpx];decide)] at hst;have:=ihn w (by omega) h;rw[hst] at this;rw[show IntKind.i64.wrap (((i-((X.take i).filter p).length:Nat):Int)+1)=((i+1-((X.take i).filter p).length:Nat):Int) from by rw[wr (by omega) (by omega)];omega];exact this
    refine h.dr fun w h=>?_
    refine cdec (fun e1=>?_) (fun e1=>?_)
    ·have hlt:((X.take i).filter p).length<(X.filter p).length:=by omega
     obtain ⟨y,hy⟩:∃y,(X.filter p)[((X.take i).filter p).length]?=some y:=⟨_,gE hlt⟩
     refine h.ixc (s:=sh2) rfl hy fun a ha h0 hc=>⟨_,hc 0 _ rfl,_,hc 1 _ rfl,_,hc 2 _ rfl,_,hc 3 _ rfl,_,hc 4 _ rfl,_,hc 5 _ rfl,_,hc 6 _ rfl,_,hc 7 _ rfl, ?_⟩
     refine h.ixc (s:=sh) rfl hx fun a ha h0 hc=>⟨_,hc 0 _ rfl,_,hc 1 _ rfl,_,hc 2 _ rfl,_,hc 3 _ rfl,_,hc 4 _ rfl,_,hc 5 _ rfl,_,hc 6 _ rfl,_,hc 7 _ rfl, ?_⟩
     refine ⟨_,heldEq y x, ?_⟩;cases hpx:p x with
     |true=>
      have hyx:y=x:=by
       have:=filt_get hx hpx;rw[hy] at this;exact Option.some.inj this
      rw[decide_eq_true hyx];exact yes w hpx h
     |false=>
      have hpy:p y=true:=(List.mem_filter.1 (List.mem_of_getElem? hy)).2;have hyx:y≠x:=fun e=>by rw[e,hpx] at hpy;cases hpy
      rw[decide_eq_false hyx];exact no w hpx h
    ·refine no w ?_ h
     cases hpx:p x with
     |false=>rfl
     |true=>
      have hy:=filt_get hx hpx;have:=(List.getElem?_eq_some_iff.1 hy).1;omega
   |zero=>
    intro i w hid h;apply hl30;refine cdecF (by omega) ?_;have et:X.take i=X:=List.take_of_length_le (by omega);rw[et];refine Do_spec (core:=0) (c:=⟨4,n,0,0,0,0⟩) hk2 (by decide) (by show (-9223372036854775808:Int)≤0;decide) (by show (0:Int)<9223372036854775808;decide) (h.pick (A:=KerA kb k2)) fun fs2 w h=>?_
    generalize k2.do 0 ⟨4,n,0,0,0,0⟩=D2 at h hA
    obtain ⟨t2,k3⟩:=D2;dsimp only at h hA;refine h.al fun w1 h=>?_
    generalize w.heap.size=t2b at h⊢;refine h.stLc rfl rfl fun w h=>?_
    (try dsimp only[putAt,List.set_cons_zero,List.set_cons_succ] at h)
    refine ceqT (by omega) ?_;refine ⟨_,h.ldd rfl, ?_⟩;rw[hW];refine ceqT (by rw[show IntKind.u64.wrap ((i-(X.filter p).length:Nat):Int)=((i-(X.filter p).length:Nat):Int) from wu64 (by omega)];omega) ?_;refine ⟨_,h.ldc rfl, ?_⟩;refine cne (fun e1=>?_) (fun e1=>?_)
    ·exact fixed_spec h fun w h=>hK w h.sub
    ·refine ⟨_,h.ldd rfl,ceqT (hA e1) ?_⟩
     exact fixed_spec h fun w h=>hK w h.sub
  have:=loop X.length 0 w (by omega) h;exact this
end
end Go.Proofs.YtogmbmdbgkopjaaGreat
end
