/- What the row rests on: the law, at the model and walked. -/
import Derived.Test.YtogmbmdbgkopjaaGreatZs8
set_option linter.unusedVariables false
set_option linter.unusedSimpArgs false
set_option linter.unusedSectionVars false
section
namespace Go.Proofs.YtogmbmdbgkopjaaGreat
open Go Go.Vc Go.ChangeShapes Go.WideShapes
theorem intDec18:∀cs,Fits [.int .i64] cs->∃x,cs=intE.enc x/\(Lit.int .i64 x).wf=true:=fun cs h=>by
 obtain ⟨_,_,rfl,⟨a,rfl,ha⟩,h1⟩:=h.cons_out;obtain rfl:=h1.nil_out;exact ⟨a,rfl,ha⟩
section
variable {H:Type} {enc:TypeId × Value->H} {P:Program} {held:Bool}
theorem agg4_of {t e:TypeId} {f0 f1 f2 f3:Field} {W:World} {sp:Nat->Bool} {v:Value} {dd:DataW H} {ps:List MemPlace} {r:Reach} {b0:Nat} (ht:P.underlying t=some (.struct #[f0,f1,f2,f3]))
  (h0:P.underlying f0.type=some (.int .i64)) (h1:P.underlying f1.type=some (.int .i64)) (h2:P.underlying f2.type=some (.int .i64)) (h3:P.underlying f3.type=some (.slice e))
  (o0:f0.offset=0) (o1:f1.offset=1) (o2:f2.offset=2) (o3:f3.offset=3) (c0:P.cellsOf f0.type=1) (c1:P.cellsOf f1.type=1) (c2:P.cellsOf f2.type=1) (c3:P.cellsOf f3.type=1) (hc:P.cellsOf t=4)
  (hval:Value.okWide P W r b0 t v) (h:DataW.Trod enc P W 0 sp held t v dd ps):
  ∃(x0 x1 x2:Int) (s:Sl) (d:DataW H) (p:List MemPlace),v= .agg #[.int .i64 x0, .int .i64 x1, .int .i64 x2, .slice s.a s.len s.cap]/\(Lit.int .i64 x0).wf=true/\(Lit.int .i64 x1).wf=true/\(Lit.int .i64 x2).wf=true/\DataW.Trod enc P W 0 sp held f3.type (.slice s.a s.len s.cap) d p:=by
 obtain ⟨cs,rfl,hsz⟩:=okWide_struct ht hval
 obtain ⟨x0,x1,x2,x3,rfl⟩:∃x0 x1 x2 x3,cs= #[x0,x1,x2,x3]:=by
  obtain ⟨l⟩:=cs
  match l,(hsz.trans hc) with
  | [c0,c1,c2,c3],_=>exact ⟨c0,c1,c2,c3,rfl⟩
 obtain ⟨fuel,hf⟩:=h;obtain ⟨xs,n,_,_,hl,hlen,hfs⟩:=DataW.trod_struct ht hf
 match xs,hlen with
 | [y0,y1,y2,y3],_=>
  have g0:=hfs 0 f0 rfl;have g1:=hfs 1 f1 rfl;have g2:=hfs 2 f2 rfl;have g3:=hfs 3 f3 rfl;simp only[o0,o1,o2,o3,c0,c1,c2,c3,Value.cells] at g0 g1 g2 g3;simp at g0 g1 g2 g3;obtain ⟨n0,e0,_,w0⟩:=DataW.trod_int h0 g0;obtain ⟨n1,e1,_,w1⟩:=DataW.trod_int h1 g1;obtain ⟨n2,e2,_,w2⟩:=DataW.trod_int h2 g2;obtain ⟨a3,l3,k3,e3⟩:=Go.Joins.slice_form h3 g3;simp only[List.cons.injEq,and_true] at e0 e1 e2 e3;subst e0;subst e1;subst e2;subst e3;exact ⟨n0,n1,n2,⟨a3,l3,k3⟩,y3.1,y3.2,rfl,w0,w1,w2,⟨n,by simpa [Value.cells] using g3⟩⟩
end
end Go.Proofs.YtogmbmdbgkopjaaGreat
end
section
set_option maxRecDepth 8000
namespace Go.Proofs.YtogmbmdbgkopjaaGreat
open Go Go.Vc Go.Proofs
section
variable {B:Nat} {w0 w:World} {R L:List Asn}
theorem app_int {xs:List Int} {y:Int} {b:Nat} {s:Sl} {k:Sl->World->Prop} [I:SlIn s L Int intE xs] {R:List Asn} [J:Pick (SlT intE s xs) L R]
  (h:Vc.Own B w0 w (BlkA b [.int .i64 y]::L)) (hl:xs.length≤1000000) (hk:∀s' w',s'.len=xs.length+1->Vc.Own B w0 w' (SlT intE s' (xs++ [y])::R)->k s' w'):
  ∃s' w',AppR Tryz.prog [26,26] 26 (.slice s.a s.len s.cap) (.slice (some (Addr.mk b 0 none)) 1 1) w s' w'/\k s' w':=
 Vc.Own.app1c (E:=intE) (y:=y) Tryz.underlying26 (show Tryz.prog.info? 3=some Tryz.t3 from by kernel_rfl) (zv:= .int .i64 0) (by kernel_rfl) (by kernel_rfl) rfl (by decide) h (by
  have e:Tryz.t3.bytes=8:=by kernel_rfl
  rw[e];omega) hk
set_option maxHeartbeats 1000000 in
theorem Right_spec {c bits lines:Int} {prios:List Int} {s:Sl} {K:Int->Int->Int->Sl->World->Prop} (hi:Inp intE w0 s prios) (h:Vc.Own w0.heap.size w0 w R)
  (hK:∀(n bi li:Nat) (ps:List Int) s' w',1≤n->n≤3->6≤bi->bi≤12->li≤3->ps.length=n->(∀p∈ps,0≤p/\p<256)->Vc.Own w0.heap.size w0 w' (SlT intE s' ps::R)->K (n:Int) (bi:Int) (li:Int) s' w'):
  C.qaJ c bits lines s K w:=by
 apply S.qaJ0;unfold S.qaJ;obtain ⟨pc,_,ec⟩:=Sl.andle c 65535 (by decide);obtain ⟨pb,_,eb⟩:=Sl.andle bits 65535 (by decide);obtain ⟨pl,hpl,el⟩:=Sl.andle lines 3 (by decide);have ec:andI .i64 c 65535=(pc:Int):=ec;have eb:andI .i64 bits 65535=(pb:Int):=eb;have el:andI .i64 lines 3=(pl:Int):=el;have hlen:=hi.len;refine h.al fun w1 h=>?_
 generalize w.heap.size=ab at h⊢;refine h.al fun w2 h=>?_
 generalize w1.heap.size=rb at h⊢;refine ⟨_,h.ldc rfl,by decide,_,h.ldd rfl,by decide,_,h.ldd rfl, ?_⟩;refine h.al fun w3 h=>?_
 generalize w2.heap.size=ob at h⊢;refine h.stLc rfl rfl fun w h=>?_
 (try dsimp only[putAt,List.set_cons_zero,List.set_cons_succ] at h)
 rw[ec,eb,el] at h;rw[ec];obtain ⟨n,hn⟩:∃n,n=1+pc%3:=⟨_,rfl⟩
 obtain ⟨bi,hb⟩:∃n,n=6+pb%7:=⟨_,rfl⟩
 have en:IntKind.i64.wrap (1+(pc:Int).tmod 3)=(n:Int):=by
  rw[show (pc:Int).tmod 3=((pc%3:Nat):Int) from (Int.ofNat_tmod pc 3).symm,wr (by omega) (by omega)];omega
 have ebi:IntKind.i64.wrap (6+(pb:Int).tmod 7)=(bi:Int):=by
  rw[show (pb:Int).tmod 7=((pb%7:Nat):Int) from (Int.ofNat_tmod pb 7).symm,wr (by omega) (by omega)];omega
 rw[en,ebi] at h;rw[en];have h:=Vc.Own.nilS (E:=intE) h;have h:Vc.Own w0.heap.size w0 w (SlT intE ⟨none,0,0⟩ []::BlkA ob [.int .i64 (n:Int), .int .i64 (bi:Int), .int .i64 (pl:Int), .slice none 0 0]::BlkA rb [.int .i64 0, .int .i64 0, .int .i64 0, .slice none 0 0]::BlkA ab [.int .i64 c, .int .i64 bits, .int .i64 lines, .slice s.a s.len s.cap]::R):=h;intro l12 hl12
 have loop:∀(d i:Nat) (so:Sl) (ps:List Int) (w:World),i+d=n->ps.length=i->(∀p∈ps,0≤p/\p<256)->
   Vc.Own w0.heap.size w0 w (SlT intE so ps::BlkA ob [.int .i64 (n:Int), .int .i64 (bi:Int), .int .i64 (pl:Int), .slice so.a so.len so.cap]::BlkA rb [.int .i64 0, .int .i64 0, .int .i64 0, .slice none 0 0]::BlkA ab [.int .i64 c, .int .i64 bits, .int .i64 lines, .slice s.a s.len s.cap]::R)->l12 (i:Int) w:=by
  intro d
  induction d with
  |succ d ih=>
   intro i so ps w hid hpl2 hps h;apply hl12;refine cdecT (by omega) ?_;refine ⟨s,h.ldd rfl, ?_⟩;intro k16 hk16
   have key:∀(p:Int),0≤p->p<256->k16 p w:=by
    intro p p0 p1;apply hk16;refine ⟨so,h.ldd rfl, ?_⟩;refine h.al fun w1 h=>?_
    generalize w.heap.size=tb at h⊢;refine app_int (s:=so) h (by omega) fun s' w _ h=>?_
    refine h.std rfl rfl fun w h=>?_
    (try dsimp only[putAt,List.set_cons_zero,List.set_cons_succ] at h)
    rw[show IntKind.i64.wrap ((i:Int)+1)=((i+1:Nat):Int) from by rw[wr (by omega) (by omega)];omega];refine ih (i+1) s' (ps++ [p]) w (by omega) (by rw[List.length_append];simp[hpl2]) ?_ ?_
    ·intro x hx
     rcases List.mem_append.1 hx with hx|hx
     ·exact hps x hx
     ·rw[List.mem_singleton.1 hx];exact ⟨p0,p1⟩
    ·exact h.sub
   refine cdec (fun e=>?_) (fun e=>?_)
   ·have hlt:i<prios.length:=by omega
    obtain ⟨a,ha,hg⟩:=hi.get h (gE hlt);obtain ⟨q,hq,eq⟩:=Sl.andle prios[i] 255 (by decide);have eq:andI .i64 prios[i] 255=(q:Int):=eq;refine ⟨s,h.ldd rfl,a,ha,by omega,e,prios[i], ?_, ?_⟩
    ·have:=hg 0 _ rfl
     rw[add_nil] at this;rw[show ((i:Int)).toNat=i from Int.toNat_natCast i];exact this
    ·rw[eq];exact key _ (by omega) (by omega)
   ·exact key 5 (by decide) (by decide)
  |zero=>
   intro i so ps w hid hpl2 hps h;have hin:i=n:=hid;apply hl12;refine cdecF (by omega) ?_;refine h.lc_4 rfl ?_;refine h.stLc rfl rfl fun w h=>?_
   (try dsimp only[putAt,List.set_cons_zero,List.set_cons_succ] at h)
   refine h.lc_4 rfl ?_;exact hK n bi pl ps so w (by omega) (by omega) (by omega) (by omega) (by omega) (by omega) hps h.sub
 exact loop n 0 ⟨none,0,0⟩ [] w (by omega) rfl (fun p hp=>by cases hp) h
end
structure Op18 where
 kind:Int
 core:Int
 c:Call
def op18E:EncT Op18:=⟨8,fun o=>[.int .i64 o.kind, .int .i64 o.core, .int .i64 o.c.ask, .int .i64 o.c.at_, .int .i64 o.c.with_, .int .i64 o.c.a, .int .i64 o.c.b, .int .i64 o.c.c],fun _=>rfl,fun x v h=>by
 simp only[List.mem_cons,List.not_mem_nil,or_false] at h;rcases h with rfl|rfl|rfl|rfl|rfl|rfl|rfl|rfl<;>rfl,by decide⟩
def op18Good (o:Op18):Prop:=(Lit.int .i64 o.c.with_).wf=true
theorem op18Dec:∀cs,Fits [.int .i64, .int .i64, .int .i64, .int .i64, .int .i64, .int .i64, .int .i64, .int .i64] cs->∃x,cs=op18E.enc x/\op18Good x:=fun cs h0=>by
 obtain ⟨_,_,rfl,⟨a,rfl,_⟩,h1⟩:=h0.cons_out;obtain ⟨_,_,rfl,⟨b,rfl,_⟩,h2⟩:=h1.cons_out;obtain ⟨_,_,rfl,⟨c,rfl,_⟩,h3⟩:=h2.cons_out;obtain ⟨_,_,rfl,⟨d,rfl,_⟩,h4⟩:=h3.cons_out;obtain ⟨_,_,rfl,⟨e,rfl,he⟩,h5⟩:=h4.cons_out;obtain ⟨_,_,rfl,⟨f,rfl,_⟩,h6⟩:=h5.cons_out;obtain ⟨_,_,rfl,⟨g,rfl,_⟩,h7⟩:=h6.cons_out;obtain ⟨_,_,rfl,⟨i,rfl,_⟩,h8⟩:=h7.cons_out;obtain rfl:=h8.nil_out;exact ⟨⟨a,b,c,d,e,f,g,i⟩,rfl,he⟩
theorem ldC18 {w:World} {a:Addr} {x:Op18} {f:Int->Int->Int->Int->Int->Int->Prop} (g:∀c v,(op18E.enc x)[c]?=some v->w.cell? (a.add c)=some v) (hf:f x.c.ask x.c.at_ x.c.with_ x.c.a x.c.b x.c.c):
  LdL w (a.add 2) 0 [.i .i64, .i .i64, .i .i64, .i .i64, .i .i64, .i .i64] f:=by
 have e:∀n,(a.add 2).add n=a.add (2+n):=fun n=>by
  unfold Addr.add;split
  ·rename_i h1
   simp_all
  ·simp_all [Nat.add_assoc]
 have gg:∀n v,(op18E.enc x)[2+n]?=some v->w.cell? ((a.add 2).add n)=some v:=fun n v h=>by rw[e];exact g _ v h
 exact ⟨_,gg 0 _ rfl,_,gg 1 _ rfl,_,gg 2 _ rfl,_,gg 3 _ rfl,_,gg 4 _ rfl,_,gg 5 _ rfl,hf⟩
theorem wf64 {x:Int} (h:(Lit.int .i64 x).wf=true): -9223372036854775808≤x/\x<9223372036854775808:=by
 have h1:(decide (IntKind.i64.min≤x)&&decide (x≤IntKind.i64.max))=true:=h;rw[show IntKind.i64.min= -9223372036854775808 from rfl,show IntKind.i64.max=9223372036854775807 from rfl] at h1;simp only[Bool.and_eq_true,decide_eq_true_eq] at h1;omega
section
variable {B:Nat} {w0 w:World} {R L:List Asn}
set_option maxHeartbeats 1000000 in
theorem begun_spec {c bits lines:Int} {prios:List Int} {s s5:Sl} {ops:List Op18} {K:Option Addr->World->Prop} (hi:Inp intE w0 s prios) (hi5:Inp op18E w0 s5 ops) (hg:∀x∈ops,op18Good x) (h:Vc.Own w0.heap.size w0 w R)
  (hK:∀k kb w',KOk 3000 k->Vc.Own w0.heap.size w0 w' (KerA kb k::R)->K (some ⟨kb,0,none⟩) w'):
  C.qal c bits lines s s5 K w:=by
 apply S.qal0;unfold S.qal;refine h.al fun w1 h=>?_
 generalize w.heap.size=ab at h⊢;refine h.lc_4 rfl ?_;refine Right_spec hi h fun n bi li ps s' w n1 n3 b6 b12 l3 hpn hps h=>?_
 have hr:Ker.rightB (n:Int) (bi:Int) (li:Int) ps=true:=decide_eq_true ⟨by omega,by omega,by omega,by omega,by omega,by omega,by omega,hps⟩;refine Boot_spec (s:=s') (prios:=ps) h (by omega) (fun e=>by rw[hr] at e;cases e) fun _ kb w h=>?_
 rw[show (n:Int).toNat=n from Int.toNat_natCast n,show (bi:Int).toNat=bi from Int.toNat_natCast bi,show (li:Int).toNat=li from Int.toNat_natCast li] at h;have k0:KOk 1 (Ker.bootK n bi li ps):=(bootK_ok (c:=n) (bits:=bi) (lines:=li) (prios:=ps) (by omega) (by omega) (by omega) hpn hps).1.ok;have h:Vc.Own w0.heap.size w0 w (KerA kb (Ker.bootK n bi li ps)::R):=h.sub;refine cbF rfl ?_;have hlen:=hi5.len;intro l19 hl19
 have loop:∀(d i:Nat) (k:Ker) (w:World),i+d=40->KOk (1+64*i) k->Vc.Own w0.heap.size w0 w (KerA kb k::R)->l19 (i:Int) w:=by
  intro d
  induction d with
  |zero=>
   intro i k w hid hk h;apply hl19;intro k22 hk22
   have done:k22 false w:=by
    apply hk22;refine cbF rfl ?_;exact hK k kb w (hk.mono (by omega)) h
   refine cdec (fun e=>?_) (fun e=>done);exact cdecF (by omega) done
  |succ d ih=>
   intro i k w hid hk h;apply hl19;intro k22 hk22;refine cdec (fun e=>?_) (fun e=>?_)
   ·refine cdecT (by omega) ?_
    apply hk22;refine cbT rfl ?_;have hlt:i<ops.length:=by omega
    obtain ⟨x,hxx⟩:∃x,ops[i]?=some x:=⟨_,gE hlt⟩
    have hgx:=hg _ (List.mem_of_getElem? hxx);have hwx:=wf64 hgx;have ew:IntKind.i64.wrap ((i:Int)+1)=((i+1:Nat):Int):=by rw[wr (by omega) (by omega)];omega
    have et:((i:Int)).toNat=i:=Int.toNat_natCast i;rw[et,ew];obtain ⟨a,ha,hc⟩:=hi5.get h hxx
    have g0:w.cell? (a.add (i*8))=some (.int .i64 x.kind):=by
     have:=hc 0 _ rfl;rw[add_nil] at this;exact this
    refine ⟨a,ha,by omega,e,x.kind,g0, ?_⟩;refine ceq (fun e0=>?_) (fun e0=>?_)
    ·refine h.dr fun w h=>?_
     obtain ⟨a,ha,hc⟩:=hi5.get h hxx;refine ⟨a,ha,by omega,e,x.core,hc 1 _ rfl,a,ha,by omega,e, ?_⟩;refine ldC18 hc ?_;refine ⟨?_,trivial⟩;refine Do_spec (c:=x.c) hk (by omega) hwx.1 hwx.2 h fun fs w h=>?_
     exact ih (i+1) _ w (by omega) ((hk.do (by omega) x.core x.c).mono (by omega)) h.sub
    ·refine ceq (fun e1=>?_) (fun e1=>?_)
     ·refine ⟨a,ha,by omega,e,x.core,hc 1 _ rfl, ?_⟩
      refine irq_spec hk (by omega) h fun w h=>?_
      exact ih (i+1) _ w (by omega) ((hk.irq x.core).mono (by omega)) h
     ·refine ceq (fun e2=>?_) (fun e2=>?_)
      ·refine ⟨a,ha,by omega,e,x.core,hc 1 _ rfl, ?_⟩
       refine Tick_spec hk h fun w h=>?_
       exact ih (i+1) _ w (by omega) ((hk.tick x.core).mono (by omega)) h
      ·exact ih (i+1) _ w (by omega) (hk.mono (by omega)) h
   ·apply hk22
    refine cbF rfl ?_;exact hK k kb w (hk.mono (by omega)) h
 exact loop 40 0 _ w (by omega) k0 h
end
theorem slotX18 (a c:Slot):eqX Tryz.prog 9 40 (Tr.slotE.enc a) (Tr.slotE.enc c)=some (decide (a=c)):=by
 have h:eqX Tryz.prog 9 40 (Tr.slotE.enc a) (Tr.slotE.enc c)=some (a.1==c.1&&(a.2==c.2&&true)):=by kernel_rfl
 rw[h];congr 1;rw[Bool.eq_iff_iff];simp only[Bool.and_true,Bool.and_eq_true,beq_iff_eq,decide_eq_true_eq];cases a;cases c;simp only[Prod.mk.injEq]
theorem slotEq18 {x y:Operand} (a c:Slot):EqB Tryz.prog .eql 40 x y (.agg ⟨Tr.slotE.enc a⟩) (.agg ⟨Tr.slotE.enc c⟩) (decide (a=c)):=eqB_x (by kernel_rfl) (by kernel_rfl) (by kernel_rfl) (slotX18 a c)
theorem held_nd {H:Sl.Hs}:((heldL H).map (·.1)).Nodup:=by
 unfold heldL;rw[List.Nodup,List.pairwise_map,List.pairwise_filterMap];refine List.Pairwise.imp ?_ (List.pairwise_lt_range (n:=64));intro a b hab x hx y hy;rw[Option.map_eq_some_iff] at hx hy;obtain ⟨_,_,rfl⟩:=hx;obtain ⟨_,_,rfl⟩:=hy;intro e;have:=congrArg Prod.snd e;dsimp only at this;omega
theorem cnt_one:∀{l:List Slot} {s:Slot},l.Nodup->s∈l->l.count s=1
 | [],s,_,hm=>by cases hm
 |x::l,s,hn,hm=>by
  rw[List.nodup_cons] at hn;rw[List.count_cons];by_cases e:x=s
  ·subst e
   rw[List.count_eq_zero_of_not_mem hn.1];simp
  ·have hm2:s∈l:=by
    rcases List.mem_cons.1 hm with h|h
    ·exact absurd h.symm e
    ·exact h
   rw[cnt_one hn.2 hm2];simp[e]
section
variable {N:Nat} {k:Ker}
theorem KOk.heldMem (hk:KOk N k) (s:Slot):s∈(heldL k.H).map (·.1)↔s∈k.T.map (·.1):=by
 have hih:=heldL_ok (H:=k.H) fun t c hc=>(hk.held t c hc).1
 rw[hk.mem,List.mem_map];constructor
 ·rintro ⟨⟨t,c⟩,hm,rfl⟩
  rw[(hih.2 t c).1 hm];rfl
 ·intro h
  obtain ⟨c,hc⟩:=Option.isSome_iff_exists.1 h;exact ⟨(s,c),(hih.2 s c).2 hc,rfl⟩
theorem KOk.heldPerm (hk:KOk N k):((heldL k.H).map (·.1)).Perm (k.T.map (·.1)):=
 (List.perm_ext_iff_of_nodup held_nd hk.tok.nd).2 hk.heldMem
theorem KOk.heldLen (hk:KOk N k):(heldL k.H).length=(k.T.map (·.1)).length:=by
 have:=hk.heldPerm.length_eq
 rwa [List.length_map] at this
theorem KOk.heldOne (hk:KOk N k) {x:Slot × Cap} (hx:x∈heldL k.H):(k.T.map (·.1)).count x.1=1:=
 cnt_one hk.tok.nd ((hk.heldMem x.1).1 (List.mem_map.2 ⟨x,hx,rfl⟩))
theorem KOk.heldKind (hk:KOk N k) {x:Slot × Cap} (hx:x∈heldL k.H):x.2.kind≠0:=by
 have hih:=heldL_ok (H:=k.H) fun t c hc=>(hk.held t c hc).1
 exact (hk.nok.held x.1 x.2 ((hih.2 x.1 x.2).1 hx)).2.2.1
end
theorem count_take {l:List Slot} {s x:Slot} {j:Nat} (hj:l[j]?=some x):(l.take (j+1)).count s=(l.take j).count s+if x=s then 1 else 0:=by
 rw[List.take_add_one,hj,List.count_append];simp[List.count_singleton]
set_option maxHeartbeats 1000000 in
theorem law18_KernelTree_spec {w0 w:World} {b1 b2 b3:Int} {s4 s5:Sl} {prios:List Int} {ops:List Op18} {K:Bool->World->Prop} (w1:(Lit.int .i64 b1).wf=true) (w2:(Lit.int .i64 b2).wf=true) (w3:(Lit.int .i64 b3).wf=true)
  (hi4:Inp intE w0 s4 prios) (hg4:∀x∈prios,(Lit.int .i64 x).wf=true) (hi5:Inp op18E w0 s5 ops) (hg5:∀x∈ops,op18Good x)
  (h:Vc.Own w0.heap.size w0 w []) (hK:∀w',Vc.Own w0.heap.size w0 w' []->K true w'):C.qbQ b1 b2 b3 s4 s5 K w:=by
 apply S.qbQ0;unfold S.qbQ;refine h.al fun w1 h=>?_
 generalize w.heap.size=ab at h⊢;refine h.lc_4 rfl ?_;refine begun_spec hi4 hi5 hg5 h fun k kb w hk h=>?_
 refine cbF rfl ?_;refine Held_spec hk h fun sh w h=>?_
 refine KTree_spec (h.pick (A:=KerA kb k)) fun st w h=>?_
 have h:Vc.Own w0.heap.size w0 w (SlT Sl.heldE sh (heldL k.H)::SlT Tr.slotE st (k.T.map (·.1))::[]):=h.sub;obtain ⟨X,hX⟩:∃X,X=heldL k.H:=⟨_,rfl⟩
 obtain ⟨Y,hY⟩:∃Y,Y=k.T.map (·.1):=⟨_,rfl⟩
 have hone:∀x∈X,Y.count x.1=1:=by rw[hX,hY];exact fun x hx=>hk.heldOne hx
 have hkind:∀x∈X,x.2.kind≠0:=by rw[hX];exact fun x hx=>hk.heldKind hx
 have hll:X.length=Y.length:=by rw[hX,hY];exact hk.heldLen
 have h64:X.length≤64:=by rw[hX];exact heldL_len _
 rw[←hX,←hY] at h;clear hX hY;have ls:=h.lenc sh;have lt:=h.lenc st;refine cbF (by simp;omega) ?_;intro l17 hl17
 have loop:∀(d i:Nat) (w:World),i+d=X.length->Vc.Own w0.heap.size w0 w (SlT Sl.heldE sh X::SlT Tr.slotE st Y::[])->l17 (i:Int) w:=by
  intro d
  induction d with
  |zero=>
   intro i w hid h;apply hl17;refine cdecF (by omega) ?_;exact fixed_spec h fun w h=>hK w h.sub
  |succ d ih=>
   intro i w hid h;apply hl17;refine cdecT (by omega) ?_;have hx:X[i]?=some (X[i]'(by omega)):=gE (by omega);obtain ⟨x,hxe⟩:∃x,x=X[i]'(by omega):=⟨_,rfl⟩
   rw[←hxe] at hx;have hxm:x∈X:=List.mem_of_getElem? hx;intro l20 hl20
   have loop2:∀(e j:Nat) (w:World),j+e=Y.length->Vc.Own w0.heap.size w0 w (SlT Sl.heldE sh X::SlT Tr.slotE st Y::[])->l20 (((Y.take j).count x.1:Nat):Int) (j:Int) w:=by
    intro e
    induction e with
    |zero=>
     intro j w hje h;apply hl20;refine cdecF (by omega) ?_;intro k32 hk32
     have hn:(Y.take j).count x.1=1:=by
      rw[List.take_of_length_le (by omega)];exact hone x hxm
     rw[hn];refine cbF rfl ?_;refine h.ixc (s:=sh) rfl hx fun a ha h0 hc=>?_
     refine ⟨_,hc 2 _ rfl, ?_⟩;apply hk32;refine cbF (by have:=hkind x hxm;simpa using this) ?_;rw[show IntKind.i64.wrap ((i:Int)+1)=((i+1:Nat):Int) from by rw[wr (by omega) (by omega)];omega];exact ih (i+1) w (by omega) h
    |succ e ih2=>
     intro j w hje h;apply hl20;refine cdecT (by omega) ?_;refine h.dr fun w h=>?_
     have hy:Y[j]?=some (Y[j]'(by omega)):=gE (by omega);obtain ⟨y,hye⟩:∃y,y=Y[j]'(by omega):=⟨_,rfl⟩
     rw[←hye] at hy;have hct:=count_take (s:=x.1) hy;have hcl:(Y.take j).count x.1≤64:=Nat.le_trans List.count_le_length (by rw[List.length_take];omega);refine h.ixc (s:=st) rfl hy fun a ha h0 hc=>⟨_,hc 0 _ rfl,_,hc 1 _ rfl, ?_⟩
     refine h.ixc (s:=sh) rfl hx fun a ha h0 hc=>⟨_,hc 0 _ rfl,_,hc 1 _ rfl, ?_⟩
     refine ⟨_,slotEq18 y x.1, ?_⟩;have ej:IntKind.i64.wrap ((j:Int)+1)=((j+1:Nat):Int):=by rw[wr (by omega) (by omega)];omega
     rw[ej];refine cdec (fun e1=>?_) (fun e1=>?_)
     ·rw[if_pos e1] at hct
      rw[show IntKind.i64.wrap ((((Y.take j).count x.1:Nat):Int)+1)=(((Y.take (j+1)).count x.1:Nat):Int) from by rw[wr (by omega) (by omega),hct];omega];exact ih2 (j+1) w (by omega) h
     ·rw[if_neg e1] at hct
      have h2:=ih2 (j+1) w (by omega) h;rw[hct] at h2;exact h2
   have:=loop2 Y.length 0 w (by omega) h;exact this
 exact loop X.length 0 w (by omega) h
end Go.Proofs.YtogmbmdbgkopjaaGreat
end
