/- What the row rests on: the declarations that it needs, out of my texts (part 10). -/
import Derived.Test.YtlhljbbfckbjpaaGreatZe9
import Derived.Laws.BytesString
import Derived.RegionIn
set_option linter.unusedVariables false
set_option linter.unusedSimpArgs false
set_option linter.unusedSectionVars false
section
set_option maxRecDepth 8000
namespace Go.Proofs.YtlhljbbfckbjpaaGreat.Mc
open Go Go.Vc Go.Proofs
section
variable {B:Nat} {w0 w:World} {R L R':List aA} {b nc N g p:Nat} {m:bz} {n:Int} {line:List Int}
theorem EK (hm:bW nc N g m) (hN:N≤200000):(m.k.jh 0).length≤1000000000:=by
 unfold ai.jh;split
 ·have:=fO.ER (hm.k.yA 0)
  omega
 ·simp
set_option maxHeartbeats 1000000 in
theorem C4 {it:Item} {K:Int->Int->Int->Int->Int->Int->Sl->Int->Int->Bool->Bool->Pw} (hm:bW nc N g m) (hN:N+64≤100000) (h0:0≤it.core) (h1:it.core<(nc:Int)) (h:Ow B w0 w (dh b m::R))
  (hK:∀fs w',Ow B w0 w' (ah aw fs ((m.user it).1.getD gU).t.forget::dh b (m.user it).2::R)->Dg K (m.user it).1 fs w'):C.qaF (some ⟨b,0,none⟩) it.kind it.core it.a it.b K w:=by
 apply S.qaF0;refine h.a fun ci w1 h=>?_;refine h.a fun d w2 h=>?_;refine h.dr fun w h=>?_
 obtain ⟨x,p,fs,Y,hZ,hzl,h,back⟩:=focus hm h0 h1 h.nC;obtain ⟨hc1,hc2⟩:=hm.F9 h0 h1;have htl:=hm.tl _ hc2;have hr8:=hm.r8;have hr1:=hm.r1;have hlen:=h.br x.pr
 have none_:∀w,(m.user it)=(none,m)->Ow B w0 w (OL b nc x p fs Y m (m.ag it.core) (jf x.ps x.xs) (aa d [.z 0, .z 0, .z 0, .z 0, .y 0, .z 0, .slice none 0 0, .z 0, .z 0, .bool false]::aa ci [.z it.kind, .z it.core, .z it.a, .z it.b]::R))->
   aH w ⟨d,0,none⟩ 0 [.z (0:Int), .z (0:Int), .z (0:Int), .z (0:Int), .y (0:Int), .z (0:Int), .slice none 0 0, .z (0:Int), .z (0:Int), .bool false] fun yU=>
    az yU ⟨d,0,none⟩ 0 [.o, .o, .o, .o, .u, .o, .s, .o, .o, .b] fun (r46:Int) (r47:Int) (r48:Int) (r49:Int) (r50:Int) (r51:Int) (r52:Sl) (r53:Int) (r54:Int) (r55:Bool)=>
    K r46 r47 r48 r49 r50 r51 r52 r53 r54 r55 false yU:=fun w es h=>by
  rw[es] at hK;have h:Ow B w0 w (aa d [.z 0, .z 0, .z 0, .z 0, .y 0, .z 0, .slice none 0 0, .z 0, .z 0, .bool false]::OL b nc x p fs Y m (m.ag it.core) (jf x.ps x.xs) R):=h.sub;exact jQ (K:=fun a b c d e f g h i j w=>K a b c d e f g h i j false w) rfl h fun w h=>hK ⟨none,0,0⟩ w (Ow.dK (back R m (m.ag it.core) fs w (CR hc1).symm rfl rfl (by rw[CR hZ];exact h)))
 refine ⟨_,rfl,x.cs,h.ao rfl,_,h.ao rfl, ?_⟩;refine uG (s:=x.cs) h h0 hZ fun a ha hc0 hc=>⟨_,rfl,_,hc 1 _ rfl, ?_⟩
 refine y8 (fun e1=>?_) (fun e1=>?_)
 ·have e1:(m.ag it.core).aT≠0:=e1
  exact none_ w (by unfold bz.user;rw[if_pos e1]) h
 have e1:(m.ag it.core).aT=0:=e1;refine ⟨_,h.ao rfl, ?_⟩;refine dD (fun e2=>?_) (fun e2=>?_)
 ·refine ⟨_,h.ao rfl,_,h.ao rfl, ?_⟩
  have es:m.user it=(some (m.load it.core it.a).1,(m.load it.core it.a).2):=by
   unfold bz.user;rw[if_neg (fun hh=>hh e1),if_pos e2]
  rw[es] at hK;refine Cr (m:=m) (x:=x) (p:=p) (fs:=fs) (Y:=Y) (c:=m.ag it.core) (Z:=jf x.ps x.xs) h0 hZ hr1 om (EK hm om) h fun w h=>?_
  have h:Ow B w0 w (aa d [.z 0, .z 0, .z 0, .z 0, .y 0, .z 0, .slice none 0 0, .z 0, .z 0, .bool false]::OL b nc x p fs Y m { m.ag it.core with tl:=(m.loadT it.a (m.ag it.core).tl).2.2} (jf x.ps x.xs) R):=h.sub;refine eH (K:=fun a b c d e f g h i j w=>K a b c d e f g h i j true w) (fs:=⟨none,0,0⟩) rfl h fun w h=>hK ⟨none,0,0⟩ w (Ow.dK (back R (m.load it.core it.a).2 { m.ag it.core with tl:=(m.loadT it.a (m.ag it.core).tl).2.2} fs w rfl rfl rfl ?_))
  rw[show cm p ({ m.ag it.core with tl:=(m.loadT it.a (m.ag it.core).tl).2.2},fs)=cm p (m.ag it.core,fs) from rfl,CR hZ];exact h
 ·refine h.dr fun w h=>?_
  refine ⟨_,h.ao rfl,_,rfl,x.pr,h.ao rfl, ?_⟩;refine dD (fun e3=>?_) (fun e3=>?_)
  ·refine h.dr fun w h=>?_
   refine ⟨_,rfl,_,h.ao rfl,Go.Vc.a2 ?_⟩;refine vP (s:=x.cs) h h0 hZ ha fun w h=>⟨h.ao rfl,_,rfl,Go.Vc.a2 ?_⟩
   refine Hm (s:=x.cs) h h0 (List.getElem?_set_self (by rw[hzl];omega)) ha fun w h=>?_
   rw[List.set_set] at h
   have es:m.user it=(none,m.dx it.core { m.ag it.core with aT:=1,n:=it.a}):=by
    unfold bz.user;rw[if_neg (fun hh=>hh e1),if_neg e2,if_pos om]
   rw[es] at hK;have h:Ow B w0 w (aa d [.z 0, .z 0, .z 0, .z 0, .y 0, .z 0, .slice none 0 0, .z 0, .z 0, .bool false]::aa b (da x)::aj x.k m.k::aQ x.l nc m.line::cX x.b m.bx::ah ct x.cs ((jf x.ps x.xs).set it.core.toNat (cm p ({ m.ag it.core with aT:=1,n:=it.a},fs)))::eA p m.room (m.ag it.core).tl::ah aw fs (m.ag it.core).told.forget::Y::ah bJ x.pr m.prog::R):=Ow.sub (show Ow B w0 w (ah ct x.cs ((jf x.ps x.xs).set it.core.toNat (cm p ({ m.ag it.core with aT:=1,n:=it.a},fs)))::_) from h);exact jQ (K:=fun a b c d e f g h i j w=>K a b c d e f g h i j false w) rfl h fun w h=>hK ⟨none,0,0⟩ w (Ow.dK (back R (m.dx it.core { m.ag it.core with aT:=1,n:=it.a}) { m.ag it.core with aT:=1,n:=it.a} fs w rfl rfl rfl h))
  ·exact none_ w (by unfold bz.user;rw[if_neg (fun hh=>hh e1),if_neg e2,if_neg om]) h
set_option maxHeartbeats 1000000 in
theorem BH {it:Item} {K:Int->Int->Int->Int->Int->Int->Sl->Int->Int->Bool->Bool->Pw} (hm:bW nc N g m) (hN:N+64≤100000) (hg:g≤900000) (hpr:Dk m.prog) (h:Ow B w0 w (dh b m::R))
  (hK:∀fs w',Ow B w0 w' (ah aw fs ((m.item it).1.getD gU).t.forget::dh b (m.item it).2::R)->Dg K (m.item it).1 fs w'):C.qM (some ⟨b,0,none⟩) it.kind it.core it.a it.b K w:=by
 apply S.qM0;refine h.a fun ci w1 h=>?_;refine h.a fun d w2 h=>?_;refine h.dr fun w h=>?_
 refine h.gH rfl ?_;have h:Ow B w0 w (dh b m::aa d [.z 0, .z 0, .z 0, .z 0, .y 0, .z 0, .slice none 0 0, .z 0, .z 0, .bool false]::aa ci [.z it.kind, .z it.core, .z it.a, .z it.b]::R):=h.nC;have hcs:=hm.cs
 obtain ⟨s,hs1,hs2⟩:∃s:Sl,w.cell? ((Addr.mk b 0 none).add 3)=some (.slice s.a s.len s.cap)/\s.len=m.cs.length:=by
  obtain ⟨x,hx,h⟩:=ye h;have hxl:x.xs.length=nc:=by rw[←hcs,←hx,List.length_map]
  have hpl:x.ps.length=x.xs.length:=Ow.eQ (h.pick (A:=ar (dW m.room) x.ps x.xs));have hlen:=h.br x.cs;rw[List.length_zipWith] at hlen;exact ⟨x.cs,h.ao rfl,om⟩
 refine ⟨_,rfl,s,hs1,Go.Vc.a2 ?_⟩;rw[hs2];refine Bd (x:=it) h fun w h=>?_
 have none_:∀w,(m.item it)=(none,m)->Ow B w0 w (dh b m::aa d [.z 0, .z 0, .z 0, .z 0, .y 0, .z 0, .slice none 0 0, .z 0, .z 0, .bool false]::aa ci [.z it.kind, .z it.core, .z it.a, .z it.b]::R)->
   aH w ⟨d,0,none⟩ 0 [.z (0:Int), .z (0:Int), .z (0:Int), .z (0:Int), .y (0:Int), .z (0:Int), .slice none 0 0, .z (0:Int), .z (0:Int), .bool false] fun yU=>
    az yU ⟨d,0,none⟩ 0 [.o, .o, .o, .o, .u, .o, .s, .o, .o, .b] fun (r46:Int) (r47:Int) (r48:Int) (r49:Int) (r50:Int) (r51:Int) (r52:Sl) (r53:Int) (r54:Int) (r55:Bool)=>
    K r46 r47 r48 r49 r50 r51 r52 r53 r54 r55 false yU:=fun w es h=>by
  rw[es] at hK;exact jQ (K:=fun a b c d e f g h i j w=>K a b c d e f g h i j false w) rfl h.dz fun w h=>hK ⟨none,0,0⟩ w (Ow.dK h.sub)
 cases hr:bj it m.cs.length with
 |false=>
  refine bN rfl ?_;exact none_ w (by unfold bz.item;rw[if_pos hr]) h
 |true=>
  refine bD rfl ?_;obtain ⟨k0,k1,c0,c1,⟨a0,a1⟩,b0,b1⟩:=ik.1 hr;have c2:it.core<(nc:Int):=by omega
  have hnr:¬bj it m.cs.length=false:=by rw[hr];decide
  refine ⟨_,h.aq rfl, ?_⟩;refine gB (fun e1=>?_) (fun e1=>?_)
  ·refine h.gH rfl ?_
   have es:m.item it=m.user it:=by unfold bz.item;rw[if_neg hnr,if_pos e1]
   rw[es] at hK;refine C4 (it:=it) hm hN c0 c2 h fun fs w h=>?_
   exact eH (K:=fun a b c d e f g h i j w=>K a b c d e f g h i j (m.user it).1.isSome w) (fs:=fs) rfl h.nC fun w h=>hK fs w h.sub
  refine ⟨_,h.aq rfl, ?_⟩;refine gB (fun e2=>?_) (fun e2=>?_)
  ·refine ⟨_,h.ao rfl, ?_⟩
   have es:m.item it=m.step it.core:=by unfold bz.item;rw[if_neg hnr,if_neg e1,if_pos e2]
   rw[es] at hK;refine CZ hm hN hg hpr c0 c2 h fun fs w h=>?_
   exact eH (K:=fun a b c d e f g h i j w=>K a b c d e f g h i j (m.step it.core).1.isSome w) (fs:=fs) rfl h.nC fun w h=>hK fs w h.sub
  refine free_spec hm h fun w h=>?_
  by_cases e3:m.line= []
  ·rw[show m.line.isEmpty=true from by rw[e3];rfl]
   refine bD rfl ?_;refine ⟨_,h.aq rfl, ?_⟩;obtain ⟨x,hx,h⟩:=ye h;refine gB (fun e4=>?_) (fun e4=>?_)
   ·have es:m.item it=(some ⟨4,it.core,it.a,⟨(m.k.irq it.a).1,0,(m.k.irq it.a).2.1,[]⟩,(0,0),false⟩,{ m with k:=(m.k.irq it.a).2.2}):=by
     unfold bz.item;rw[if_neg hnr,if_neg e1,if_neg e2,if_neg (fun hh=>hh e3),if_pos e4]
    rw[es] at hK;refine h.dr fun w h=>?_
    refine ⟨_,rfl,_,h.aq rfl,_,h.ao rfl,Go.Vc.a2 ?_⟩;refine Ea hm.k om (h.pick (A:=aj x.k m.k)) fun w h=>?_
    refine ⟨_,h.ao rfl,_,h.ao rfl, ?_⟩;have h:Ow B w0 w (aa d [.z 0, .z 0, .z 0, .z 0, .y 0, .z 0, .slice none 0 0, .z 0, .z 0, .bool false]::aa b (da x)::aj x.k (m.k.irq it.a).2.2::aQ x.l m.cs.length m.line::cX x.b m.bx::ah ct x.cs (jf x.ps x.xs)::ar (dW m.room) x.ps x.xs::ah bJ x.pr m.prog::R):=h.sub;exact eH (K:=fun a b c d e f g h i j w=>K a b c d e f g h i j true w) (fs:=⟨none,0,0⟩) rfl h fun w h=>hK ⟨none,0,0⟩ w (Ow.dK (lH (m:={ m with k:=(m.k.irq it.a).2.2}) x hx h))
   ·have es:m.item it=(some ⟨5,it.core,0,tZ,(0,0),(m.k.t.cV it.core).isSome⟩,{ m with k:=m.k.tick it.core}):=by
     unfold bz.item;rw[if_neg hnr,if_neg e1,if_neg e2,if_neg (fun hh=>hh e3),if_neg e4]
    rw[es] at hK;refine h.dr fun w h=>?_
    refine ⟨_,rfl,_,h.aq rfl,_,h.ao rfl,_,h.ao rfl,Go.Vc.a2 ?_⟩;refine BI hm.k (h.pick (A:=aj x.k m.k)) fun w h=>⟨h.ao rfl,Go.Vc.a2 ?_⟩
    have h:Ow B w0 w (aa d [.z 0, .z 0, .z 0, .z 0, .y 0, .z 0, .slice none 0 0, .z 0, .z 0, .bool false]::aa b (da x)::aj x.k (m.k.tick it.core)::aQ x.l m.cs.length m.line::cX x.b m.bx::ah ct x.cs (jf x.ps x.xs)::ar (dW m.room) x.ps x.xs::ah bJ x.pr m.prog::R):=h.sub;exact eH (K:=fun a b c d e f g h i j w=>K a b c d e f g h i j true w) (fs:=⟨none,0,0⟩) rfl h fun w h=>hK ⟨none,0,0⟩ w (Ow.dK (lH (m:={ m with k:=m.k.tick it.core}) x hx h))
  ·rw[show m.line.isEmpty=false from by cases hl:m.line with|nil=>exact absurd hl e3|cons _ _=>rfl]
   refine bN rfl ?_;exact none_ w (by unfold bz.item;rw[if_neg hnr,if_neg e1,if_neg e2,if_pos e3]) h
end
end Go.Proofs.YtlhljbbfckbjpaaGreat.Mc
end
section
set_option maxRecDepth 8000
namespace Go.Proofs.YtlhljbbfckbjpaaGreat
open Go Go.Vc Go.Proofs
section
variable {B:Nat} {w0 w:World} {R L:List aA}
theorem FW {xs:List Int} {y:Int} {b:Nat} {s:Sl} {k:Sl->Pw} [I:bT s L Int aG xs] {R:List aA} [J:dG (ah aG s xs) L R]
  (h:Ow B w0 w (aa b [.z y]::L)) (hl:xs.length≤1000000) (hk:∀s' w',s'.len=xs.length+1->Ow B w0 w' (ah aG s' (xs++ [y])::R)->k s' w'):
  ∃s' w',bo Tryz.prog [22,22] 22 (.slice s.a s.len s.cap) (.slice (some (Addr.mk b 0 none)) 1 1) w s' w'/\k s' w':=
 Ow.fy (E:=aG) (y:=y) Tryz.underlying22 (show Tryz.prog.info? 3=some Tryz.t3 from by kernel_rfl) (zv:= .z 0) (by kernel_rfl) (by kernel_rfl) rfl (by decide) h (by
  have e:Tryz.t3.bytes=8:=by kernel_rfl
  rw[e];omega) hk
set_option maxHeartbeats 1000000 in
theorem sk {c bits lines:Int} {prios:List Int} {s:Sl} {K:Int->Int->Int->Sl->Pw} (hi:As aG w0 s prios) (h:Ow w0.heap.size w0 w R)
  (hK:∀(n bi li:Nat) (ps:List Int) s' w',1≤n->n≤3->6≤bi->bi≤12->li≤3->ps.length=n->(∀p∈ps,0≤p/\p<256)->Ow w0.heap.size w0 w' (ah aG s' ps::R)->K (n:Int) (bi:Int) (li:Int) s' w'):
  C.qcX c bits lines s K w:=by
 apply S.qcX0;obtain ⟨pc,_,ec⟩:=Sl.uy c 65535 (by decide);obtain ⟨pb,_,eb⟩:=Sl.uy bits 65535 (by decide);obtain ⟨pl,hpl,el⟩:=Sl.uy lines 3 (by decide);have ec:dw .i64 c 65535=(pc:Int):=ec;have eb:dw .i64 bits 65535=(pb:Int):=eb;have el:dw .i64 lines 3=(pl:Int):=el;have hlen:=hi.len;refine h.a fun ab w1 h=>?_;refine h.a fun rb w2 h=>?_;refine ⟨_,h.aq rfl,by decide,_,h.ao rfl,by decide,_,h.ao rfl, ?_⟩;refine h.a fun ob w3 h=>?_;refine h.ax rfl rfl fun w h=>?_
 (try dsimp only[putAt,List.set_cons_zero,List.set_cons_succ] at h)
 rw[ec,eb,el] at h;rw[ec];obtain ⟨n,hn⟩:∃n,n=1+pc%3:=⟨_,rfl⟩
 obtain ⟨bi,hb⟩:∃n,n=6+pb%7:=⟨_,rfl⟩
 have en:IntKind.i64.wrap (1+(pc:Int).tmod 3)=(n:Int):=by
  rw[show (pc:Int).tmod 3=((pc%3:Nat):Int) from (Int.ofNat_tmod pc 3).symm,wr om om];omega
 have ebi:IntKind.i64.wrap (6+(pb:Int).tmod 7)=(bi:Int):=by
  rw[show (pb:Int).tmod 7=((pb%7:Nat):Int) from (Int.ofNat_tmod pb 7).symm,wr om om];omega
 rw[en,ebi] at h;rw[en];have h:=Ow.dK (E:=aG) h;have h:Ow w0.heap.size w0 w (ah aG ⟨none,0,0⟩ []::aa ob [.z (n:Int), .z (bi:Int), .z (pl:Int), .slice none 0 0]::aa rb [.z 0, .z 0, .z 0, .slice none 0 0]::aa ab [.z c, .z bits, .z lines, .slice s.a s.len s.cap]::R):=h;intro l12 hl12
 have loop:∀(d i:Nat) (so:Sl) (ps:List Int) (w:World),i+d=n->ps.length=i->(∀p∈ps,0≤p/\p<256)->
   Ow w0.heap.size w0 w (ah aG so ps::aa ob [.z (n:Int), .z (bi:Int), .z (pl:Int), .slice so.a so.len so.cap]::aa rb [.z 0, .z 0, .z 0, .slice none 0 0]::aa ab [.z c, .z bits, .z lines, .slice s.a s.len s.cap]::R)->l12 (i:Int) w:=by
  intro d
  induction d with
  |succ d ih=>
   intro i so ps w hid hpl2 hps h;apply hl12;refine aR om ?_;refine ⟨s,h.ao rfl, ?_⟩;intro k16 hk16
   have key:∀(p:Int),0≤p->p<256->k16 p w:=by
    intro p p0 p1;apply hk16;refine ⟨so,h.ao rfl, ?_⟩;refine h.a fun tb w1 h=>?_;refine FW (s:=so) h om fun s' w _ h=>?_
    refine h.cC rfl rfl fun w h=>?_
    (try dsimp only[putAt,List.set_cons_zero,List.set_cons_succ] at h)
    rw[wI i om];refine ih (i+1) s' (ps++ [p]) w om (by rw[List.length_append];simp[hpl2]) ?_ ?_
    ·intro x hx
     rcases List.mem_append.1 hx with hx|hx
     ·exact hps x hx
     ·rw[List.mem_singleton.1 hx];exact ⟨p0,p1⟩
    ·exact h.sub
   refine dD (fun e=>?_) (fun e=>?_)
   ·have hlt:i<prios.length:=by omega
    obtain ⟨a,ha,hg⟩:=hi.get h (gE hlt);obtain ⟨q,hq,eq⟩:=Sl.uy prios[i] 255 (by decide);have eq:dw .i64 prios[i] 255=(q:Int):=eq;refine ⟨s,h.ao rfl,a,ha,om,e,prios[i], ?_, ?_⟩
    ·have:=hg 0 _ rfl
     rw[add_nil] at this;rw[show ((i:Int)).toNat=i from Int.toNat_natCast i];exact this
    ·rw[eq];exact key _ om om
   ·exact key 5 (by decide) (by decide)
  |zero=>
   intro i so ps w hid hpl2 hps h;have hin:i=n:=hid;apply hl12;refine aE om ?_;refine h.gH rfl ?_;refine h.ax rfl rfl fun w h=>?_
   (try dsimp only[putAt,List.set_cons_zero,List.set_cons_succ] at h)
   refine h.gH rfl ?_;exact hK n bi pl ps so w om om om om om om hps h.sub
 exact loop n 0 ⟨none,0,0⟩ [] w om rfl (fun p hp=>by cases hp) h
end
end Go.Proofs.YtlhljbbfckbjpaaGreat
end
section
set_option maxRecDepth 8000
namespace Go.Proofs.YtlhljbbfckbjpaaGreat.Mc
open Go Go.Vc Go.Proofs
def xA:oJ:=⟨[],0,0,tZ⟩
def eh (k:ai) (nc:Nat) (prog:List Call) (room:Int):bz:=⟨k,[],List.replicate nc [],List.replicate nc xA,room,prog⟩
theorem rQ {c bits lines:Nat} {prios:List Int} {prog:List Call} {room:Int} (h1:1≤c) (h8:c≤8) (hb:4≤bits/\bits≤20) (hl:lines≤8) (hp:prios.length=c) (hps:∀p∈prios,0≤p/\p<256) (r1:1≤room) (r8:room≤8):
  bW c 1 0 (eh (ai.iu c bits lines prios) c prog room):=by
 have hk:=(DD h8 hb hl hp hps).1;refine ⟨h1,h8,by simp[eh],by simp[eh],r1,r8,fun x hx=>?_,fun x hx=>?_,fun x hx=>?_,fun x hx=>?_,List.nodup_nil,fun x hx=>(by cases hx),hk.ok, ?_⟩
 ·rw[List.eq_of_mem_replicate hx];show ((0:Nat):Int)≤room;omega
 ·rw[List.eq_of_mem_replicate hx];exact fun hh=>absurd rfl hh
 ·rw[List.eq_of_mem_replicate hx];exact Nat.le_refl _
 ·rw[List.eq_of_mem_replicate hx];exact Nat.zero_le _
 ·show jG (ai.iu c bits lines prios).ae≤0
  rw[hk.sp];exact Nat.le_refl _
section
variable {B:Nat} {w0 w:World} {R L R':List aA} {b nc N g p:Nat} {m:bz} {n:Int} {s:Sl}
theorem zb {xs:List Call} {K:Sl->Pw} [I:bT s L Call bJ xs] (h:Ow B w0 w L) (hbig:xs.length≤1000000) (hK:∀s' w',Ow B w0 w' (ah bJ s' xs::L)->K s' w'):C.qD s K w:=by
 apply S.qD0
 exact Ay (s:=s) (E:=bJ) (xs:=xs) (zv:= .agg ⟨bJ.enc ⟨0,0,0,0,0,0⟩⟩) Tryz.underlying25 (show Tryz.prog.info? 76=some Tryz.t76 from by kernel_rfl) (by kernel_rfl) (by kernel_rfl) rfl (by decide) h (by
  have e:Tryz.t76.bytes=48:=by kernel_rfl
  rw[e];omega) hK
theorem BN {ys:List Cm} {y:Cm} {c:Nat} {k:Sl->Pw} [I:bT s L Cm ct ys] [J:dG (ah ct s ys) L R] (h:Ow B w0 w (aa c (ct.enc y)::L)) (hbig:ys.length≤1000000)
  (hk:∀s' w',s'.len=ys.length+1->Ow B w0 w' (ah ct s' (ys++ [y])::R)->k s' w'):
  ∃s' w',bo Tryz.prog [62,62] 62 (.slice s.a s.len s.cap) (.slice (some (Addr.mk c 0 none)) 1 1) w s' w'/\k s' w':=
 Ow.fy (E:=ct) (y:=y) Tryz.underlying62 (show Tryz.prog.info? 71=some Tryz.t71 from by kernel_rfl) (zv:= .agg #[.pointer none, .z 0, .z 0, .z 0, .y 0, .z 0, .slice none 0 0]) (by kernel_rfl) (by kernel_rfl) rfl (by decide) h (by
  have e:Tryz.t71.bytes=72:=by kernel_rfl
  rw[e];omega) hk
set_option maxHeartbeats 1000000 in
theorem gF {c bits lines:Nat} {prios:List Int} {prog:List Call} {room:Int} {s5:Sl} {K:Option Addr->Int->Pw} [I:bT s L Int aG prios] [I5:bT s5 L Call bJ prog]
  (h1:1≤c) (h8:c≤8) (hb:4≤bits/\bits≤20) (hl:lines≤8) (hp:prios.length=c) (hps:∀p∈prios,0≤p/\p<256) (r1:1≤room) (r8:room≤8) (hpl:prog.length≤1000000) (h:Ow B w0 w L)
  (hK:∀b w',Ow B w0 w' (dh b (eh (ai.iu c bits lines prios) c prog room)::L)->K (some ⟨b,0,none⟩) 0 w'):C.qcW (c:Int) (bits:Int) (lines:Int) s s5 room K w:=by
 apply S.qcW0;have hr:ai.kn (c:Int) (bits:Int) (lines:Int) prios=true:=decide_eq_true ⟨om,om,om,om,om,om,om,hps⟩;refine h.a fun ab w1 h=>?_;refine h.gH (x3:=s) rfl ?_;refine Bv (s:=s) (prios:=prios) h om (fun e=>by rw[hr] at e;cases e) fun _ kb w h=>?_
 rw[show (c:Int).toNat=c from Int.toNat_natCast c,show (bits:Int).toNat=bits from Int.toNat_natCast bits,show (lines:Int).toNat=lines from Int.toNat_natCast lines] at h;generalize ai.iu c bits lines prios=k at h hK;refine fP rfl ?_;refine zb (s:=s5) (xs:=prog) h hpl fun s6 w h=>?_
 refine h.a fun mb w2 h=>?_;refine ⟨_,h.aq rfl, ?_⟩;refine mE h1 h8 h fun lb w h=>⟨_,rfl, ?_⟩
 refine h.cC rfl rfl fun w h=>?_
 (try dsimp only[putAt,List.set_cons_zero,List.set_cons_succ] at h)
 refine ⟨_,h.aq rfl, ?_⟩;refine vI h1 h8 h fun bb w h=>⟨_,rfl, ?_⟩
 refine h.cC rfl rfl fun w h=>?_
 (try dsimp only[putAt,List.set_cons_zero,List.set_cons_succ] at h)
 refine ⟨_,h.aq rfl, ?_⟩;intro l hl31
 have loop:∀(d j:Nat) (cs:Sl) (ps:List Nat) (xs:List (oJ × Sl)) (w:World),j+d=c->xs=List.replicate j (xA,⟨none,0,0⟩)->
   Ow B w0 w (aa mb [.pointer (some ⟨kb,0,none⟩), .pointer (some ⟨lb,0,none⟩), .pointer (some ⟨bb,0,none⟩), .slice cs.a cs.len cs.cap, .slice s6.a s6.len s6.cap]::ah ct cs (jf ps xs)::ar (dW room) ps xs::cX bb (List.replicate c [])::aQ lb c []::ah bJ s6 prog::aj kb k::L)->l (j:Int) w:=by
  intro d
  induction d with
  |zero=>
   intro j cs ps xs w hj hx h;have ej:j=c:=by omega
   subst ej;apply hl31;refine aE om ?_;refine hK mb w (lH ⟨kb,lb,bb,cs,s6,ps,xs⟩ (by rw[hx];simp[eh]) ?_);have e:(eh k j prog room).cs.length=j:=by simp[eh]
   rw[e];have h2:Ow B w0 w (aa mb [.pointer (some ⟨kb,0,none⟩), .pointer (some ⟨lb,0,none⟩), .pointer (some ⟨bb,0,none⟩), .slice cs.a cs.len cs.cap, .slice s6.a s6.len s6.cap]::aj kb k::aQ lb j []::cX bb (List.replicate j [])::ah ct cs (jf ps xs)::ar (dW room) ps xs::ah bJ s6 prog::L):=h.sub;exact h2
  |succ d ih=>
   intro j cs ps xs w hj hx h;have hpl2:ps.length=xs.length:=Ow.eQ (h.pick (A:=ar (dW room) ps xs));have hxl:xs.length=j:=by rw[hx,List.length_replicate]
   apply hl31;refine aR om ?_;refine wQ r1 om h fun tb w h=>?_
   refine fP rfl ⟨_,rfl,cs,h.ao rfl, ?_⟩;refine h.a fun ec w3 h=>?_;have h:Ow B w0 w3 (aa ec (ct.enc (cm tb (xA,⟨none,0,0⟩)))::_):=h;refine BN (s:=cs) (ys:=jf ps xs) h (by rw[List.length_zipWith];omega) fun s' w hs' h=>⟨_,rfl, ?_⟩
   refine h.cC rfl rfl fun w h=>?_
   (try dsimp only[putAt,List.set_cons_zero,List.set_cons_succ] at h)
   rw[wI j om];refine ih (j+1) s' (ps++ [tb]) (xs++ [(xA,⟨none,0,0⟩)]) w om (by rw[hx,List.replicate_succ']) ?_
   have ez:jf (ps++ [tb]) (xs++ [(xA,⟨none,0,0⟩)])=jf ps xs++ [cm tb (xA,⟨none,0,0⟩)]:=by
    show List.zipWith cm _ _=_;rw[List.zipWith_append hpl2];rfl
   rw[ez];have h2:Ow B w0 w (eA tb room []::ah aw ⟨none,0,0⟩ []::ar (dW room) ps xs::aa mb [.pointer (some ⟨kb,0,none⟩), .pointer (some ⟨lb,0,none⟩), .pointer (some ⟨bb,0,none⟩), .slice s'.a s'.len s'.cap, .slice s6.a s6.len s6.cap]::ah ct s' (jf ps xs++ [cm tb (xA,⟨none,0,0⟩)])::cX bb (List.replicate c [])::aQ lb c []::ah bJ s6 prog::aj kb k::L):=Ow.dz (Ow.dK (h.sub));have h3:Ow B w0 w (dW room tb (xA,⟨none,0,0⟩)::ar (dW room) ps xs::_):=Ow.aY (M:=[eA tb room [],ah aw ⟨none,0,0⟩ []]) h2;exact (h3.pz).sub
 have h2:Ow B w0 w (ar (dW room) [] []::ah ct ⟨none,0,0⟩ []::_):=Ow.iH rfl (Ow.dK h);have h3:Ow B w0 w (aa mb [.pointer (some ⟨kb,0,none⟩), .pointer (some ⟨lb,0,none⟩), .pointer (some ⟨bb,0,none⟩), .slice none 0 0, .slice s6.a s6.len s6.cap]::ah ct ⟨none,0,0⟩ []::ar (dW room) [] []::cX bb (List.replicate c [])::aQ lb c []::ah bJ s6 prog::aj kb k::L):=h2.sub;refine loop c 0 ⟨none,0,0⟩ [] [] w om rfl h3
theorem Bx {K:Int->Bool->Pw} (hm:bW nc N g m) (h:Ow B w0 w (dh b m::R))
  (hK:K (if 0≤n/\n<(nc:Int) then (m.ag n).aT else 0) (decide (0≤n/\n<(nc:Int))) w):C.qaC (some ⟨b,0,none⟩) n K w:=by
 apply S.qaC0;refine Gg hm h ?_;by_cases e:0≤n/\n<(nc:Int)
 ·rw[if_pos e,decide_eq_true e] at hK
  rw[decide_eq_true e];refine bD rfl ?_;obtain ⟨x,p,fs,Y,hZ,hzl,h,back⟩:=focus hm e.1 e.2 h;refine ⟨_,rfl,x.cs,h.ao rfl, ?_⟩;exact uG (s:=x.cs) h e.1 hZ fun a ha hc0 hc=>⟨_,hc 1 _ rfl,hK⟩
 ·rw[if_neg e,decide_eq_false e] at hK
  rw[decide_eq_false e];exact bN rfl hK
theorem BF {K:Int->Pw} (hm:bW nc N g m) (h:Ow B w0 w (dh b m::R)) (hK:∀w',Ow B w0 w' (dh b m::R)->K (eG m.bx n) w'):C.qaD (some ⟨b,0,none⟩) n K w:=by
 apply S.qaD0;obtain ⟨x,hx,h⟩:=ye h;refine ⟨_,rfl,_,h.ao rfl, ?_⟩;refine mC (bx:=m.bx) (by have:=hm.bx;have:=hm.n8;omega) hm.FY (h.pick (A:=cX x.b m.bx)) fun w h=>?_
 exact hK w (lH x hx h.sub)
theorem BE {K:Sl->Pw} (hm:bW nc N g m) (h:Ow B w0 w (dh b m::R)) (hK:∀s w',Ow B w0 w' (ah aG s m.line::dh b m::R)->K s w'):C.qaE (some ⟨b,0,none⟩) K w:=by
 apply S.qaE0;obtain ⟨x,hx,h⟩:=ye h;refine ⟨_,rfl,_,h.ao rfl, ?_⟩;refine sQ (by have:=hm.cs;have:=hm.n8;omega) (h.pick (A:=aQ x.l m.cs.length m.line)) fun s w h=>?_
 have h2:Ow B w0 w (aa b (da x)::aj x.k m.k::aQ x.l m.cs.length m.line::cX x.b m.bx::ah ct x.cs (jf x.ps x.xs)::ar (dW m.room) x.ps x.xs::ah bJ x.pr m.prog::ah aG s m.line::R):=h.sub;exact hK s w (Ow.dz (lH x hx h2))
theorem ze {K:Sl->Pw} (hm:bW nc N g m) (h:Ow B w0 w (dh b m::R)) (hK:∀s w',Ow B w0 w' (ah Sl.gZ s (iC m.k.H)::dh b m::R)->K s w'):C.qaJ (some ⟨b,0,none⟩) K w:=by
 apply S.qaJ0;obtain ⟨x,hx,h⟩:=ye h;refine ⟨_,rfl,_,h.aq rfl, ?_⟩;refine BC hm.k (h.pick (A:=aj x.k m.k)) fun s w h=>?_
 have h2:Ow B w0 w (aa b (da x)::aj x.k m.k::aQ x.l m.cs.length m.line::cX x.b m.bx::ah ct x.cs (jf x.ps x.xs)::ar (dW m.room) x.ps x.xs::ah bJ x.pr m.prog::ah Sl.gZ s (iC m.k.H)::R):=h.sub;exact hK s w (Ow.dz (lH x hx h2))
end
section
variable {B:Nat} {w0 w:World} {R L:List aA}
theorem uA {s5:Sl} {calls:List Call} {cb:Nat} {k:Sl->Pw} (hi5:As bJ w0 s5 calls) (h:Ow w0.heap.size w0 w (aa cb []::R))
  (hk:∀s' w',Ow w0.heap.size w0 w' (ah bJ s' (calls.take 40)::R)->k s' w'):
  ∃s' w',bo Tryz.prog [25,25] 25 (.slice (some (Addr.mk cb 0 none)) 0 0) (.slice (dV s5.a 0 s5.cap 6) ((ic (s5.len:Int) 40).toNat-0) (s5.cap-0)) w s' w'/\k s' w':=by
 have hlen:=hi5.len;have e:(ic (s5.len:Int) 40).toNat=min calls.length 40:=by unfold ic;omega
 rw[e];have h2:Ow w0.heap.size w0 w (ah bJ ⟨some (Addr.mk cb 0 none),0,0⟩ []::R):=Ow.empty h;have eb:Tryz.t76.bytes=48:=by kernel_rfl
 refine Ow.IZ (E:=bJ) (s:=⟨some (Addr.mk cb 0 none),0,0⟩) (xs:=[]) (ys:=calls) (n:=min calls.length 40) Tryz.underlying25 (show Tryz.prog.info? 76=some Tryz.t76 from by kernel_rfl) (zv:= .agg ⟨bJ.enc ⟨0,0,0,0,0,0⟩⟩) (by kernel_rfl) (by kernel_rfl) rfl (by decide) hi5 om h2 0 rfl (by rw[eb];simp only[List.length_nil];omega) fun s' w' _ h=>?_
 have et:calls.take (min calls.length 40)=calls.take 40:=by
  by_cases hl:calls.length≤40
  ·rw[List.take_of_length_le om,List.take_of_length_le hl]
  ·rw[show min calls.length 40=40 from by omega]
 rw[et] at h;exact hk s' w' h
set_option maxHeartbeats 1000000 in
theorem Dl {c bits lines rm:Int} {prios:List Int} {calls:List Call} {s s5:Sl} {K:Int->Int->Int->Sl->Sl->Int->Pw} (hi:As aG w0 s prios) (hi5:As bJ w0 s5 calls) (h:Ow w0.heap.size w0 w R)
  (hK:∀(n bi li:Nat) (ps:List Int) (room:Int) s' s5' w',1≤n->n≤3->6≤bi->bi≤12->li≤3->ps.length=n->(∀p∈ps,0≤p/\p<256)->1≤room->room≤8->
   Ow w0.heap.size w0 w' (ah bJ s5' (calls.take 40)::ah aG s' ps::R)->K (n:Int) (bi:Int) (li:Int) s' s5' room w'):C.qdm c bits lines s s5 rm K w:=by
 apply S.qdm0;obtain ⟨pr,hpr,er⟩:=Sl.uy rm 7 (by decide);have er:dw .i64 rm 7=(pr:Int):=er;have ew:IntKind.i64.wrap (1+(pr:Int))=1+(pr:Int):=wr om om;have hlen:=hi5.len;have hcap:=hi5.cap;refine h.a fun ab w1 h=>?_;refine h.a fun rb w2 h=>?_;refine h.dr fun w h=>?_
 refine h.gH (x3:=s) rfl ?_;refine ⟨s5,h.ao rfl,s5,h.ao rfl, ?_⟩;refine ⟨by unfold ic;omega,by unfold ic;omega,rm,h.ao rfl, ?_, ?_,trivial⟩
 ·refine sk hi h fun n bi li ps s' w n1 n3 b6 b12 l3 hpn hps h=>⟨h.ao rfl,h.ao rfl,h.ao rfl,Go.Vc.a2 ?_⟩
  refine h.al fun w3 h=>Go.Vc.a2 ?_
  generalize w.heap.size=cb at h⊢;refine uA hi5 h fun s5' w h=>⟨h.ao rfl,Go.Vc.a2 ?_⟩
  rw[er,ew];refine h.ax rfl rfl fun w h=>?_
  (try dsimp only[putAt,List.set_cons_zero,List.set_cons_succ] at h)
  refine h.aV (x3:=s') (x4:=s5') rfl ?_;exact hK n bi li ps _ s' s5' w n1 n3 b6 b12 l3 hpn hps om om h.sub
 ·refine h.al fun w3 h=>Go.Vc.a2 ?_
  generalize w.heap.size=cb at h⊢;refine sk hi h fun n bi li ps s' w n1 n3 b6 b12 l3 hpn hps h=>⟨h.ao rfl,h.ao rfl,h.ao rfl,Go.Vc.a2 ?_⟩
  refine uA hi5 (h.pick (A:=aa cb [])) fun s5' w h=>⟨h.ao rfl,Go.Vc.a2 ?_⟩
  rw[er,ew];refine h.ax rfl rfl fun w h=>?_
  (try dsimp only[putAt,List.set_cons_zero,List.set_cons_succ] at h)
  refine h.aV (x3:=s') (x4:=s5') rfl ?_;exact hK n bi li ps _ s' s5' w n1 n3 b6 b12 l3 hpn hps om om h.sub
theorem Dj {K:Int->Int->Int->Sl->Pw} (h:Ow B w0 w R) (hK:∀s w',Ow B w0 w' (ah aG s [5]::R)->K 1 10 2 s w'):C.qdC K w:=by
 apply S.qdC0;refine h.a fun ab w1 h=>?_;refine h.a fun pb w2 h=>?_;refine h.ax rfl rfl fun w h=>?_
 (try dsimp only[putAt,List.set_cons_zero,List.set_cons_succ] at h)
 refine h.gH (x3:=(⟨some ⟨pb,0,none⟩,1,1⟩:Sl)) rfl ?_;have h2:Ow B w0 w (ah aG ⟨some ⟨pb,0,none⟩,1,1⟩ [5]::_):=Ow.DA (h.pick (A:=aa pb [.z 5])) [5] rfl;exact hK _ w h2.sub
end
def cj:cQ Item:=⟨4,fun o=>[.z o.kind, .z o.core, .z o.a, .z o.b],fun _=>rfl,fun x v h=>by
 simp only[List.mem_cons,List.not_mem_nil,or_false] at h;rcases h with rfl|rfl|rfl|rfl<;>rfl,by decide⟩
theorem Eh {w:World} {a:Addr} {x:Item} {f:Int->Int->Int->Int->Prop} (g:∀c v,(cj.enc x)[c]?=some v->w.cell? (a.add c)=some v) (hf:f x.kind x.core x.a x.b):
  az w a 0 [.o, .o, .o, .o] f:=⟨_,g 0 _ rfl,_,g 1 _ rfl,_,g 2 _ rfl,_,g 3 _ rfl,hf⟩
def nP (c:Call):Prop:=(Lit.int .i64 c.ak).wf=true
theorem Jt {x:Int} (h:(Lit.int .i64 x).wf=true): -9223372036854775808≤x/\x<9223372036854775808:=by
 have h1:(decide (IntKind.i64.min≤x)&&decide (x≤IntKind.i64.max))=true:=h;rw[show IntKind.i64.min= -9223372036854775808 from rfl,show IntKind.i64.max=9223372036854775807 from rfl] at h1;simp only[Bool.and_eq_true,decide_eq_true_eq] at h1;omega
theorem Gu {calls:List Call} (h:∀c∈calls,nP c):Dk (calls.take 40):=fun c hc=>Jt (h c (List.mem_of_mem_take hc))
section
variable {nc N g:Nat} {m:bz}
theorem CY (n:Int):(m.step n).2.prog=m.prog:=by
 unfold bz.step;split
 ·rfl
 split
 ·rfl
 split
 ·split
  ·show (bz.kH n _ _).prog=m.prog
   have:∀(l:List dE) (m:bz),(bz.kH n l m).prog=m.prog:=fun l=>by
    induction l with
    |nil=>exact fun _=>rfl
    |cons x l ih=>exact fun m=>ih _
   exact this _ _
  ·rfl
 split
 ·rfl
 ·rfl
theorem C3 (x:Item):(m.user x).2.prog=m.prog:=by
 unfold bz.user;split
 ·rfl
 split
 ·rfl
 split<;>rfl
theorem Cf (x:Item):(m.item x).2.prog=m.prog:=by
 unfold bz.item;split
 ·rfl
 split
 ·exact C3 x
 split
 ·exact CY _
 split
 ·rfl
 split<;>rfl
end
structure nE (nc:Nat) (m:bz):Prop where
 ds:∀c:Int,0≤c->c<(nc:Int)->((m.ag c).aT=0∨(m.ag c).aT=1)/\c∉m.line∨((m.ag c).aT=2∨(m.ag c).aT=3)/\c∈m.line
 hd:∀c:Int,0≤c->c<(nc:Int)->(m.ag c).aT=3->m.line.head?=some c
 bx:∀l∈m.bx,∀y∈l,(0≤y.eS/\y.eS<(nc:Int))/\(m.ag y.eS).aT=3
section
variable {nc N g:Nat} {m:bz}
theorem toNat_ne {a c:Int} (ha:0≤a) (hc:0≤c) (h:a≠c):a.toNat≠c.toNat:=fun e=>h om
theorem eU {n c:Int} {x:oJ} (h0:0≤n) (hc:0≤c) (hl:n.toNat<m.cs.length):(m.dx n x).ag c=if c=n then x else m.ag c:=by
 by_cases e:c=n
 ·rw[if_pos e,e];exact oP hl
 ·rw[if_neg e];exact DL (toNat_ne hc h0 e)
theorem nE.same {m':bz} (h:nE nc m) (hd:∀c:Int,0≤c->(m'.ag c).aT=(m.ag c).aT) (hl:m'.line=m.line) (hb:∀l∈m'.bx,∀y∈l,∃l'∈m.bx,y∈l'):nE nc m':=by
 refine ⟨fun c h0 h1=>?_,fun c h0 h1 e=>?_,fun l hl' y hy=>?_⟩
 ·rw[hd c h0,hl];exact h.ds c h0 h1
 ·rw[hl];exact h.hd c h0 h1 (by rw[←hd c h0];exact e)
 ·obtain ⟨l',hl2,hy2⟩:=hb l hl' y hy
  obtain ⟨h1,h2⟩:=h.bx l' hl2 y hy2;exact ⟨h1,by rw[hd _ h1.1];exact h2⟩
theorem EA {f a:Int} {bx:List (List cP)} {l:List cP} {y:cP} (hl:l∈iP f a bx) (hy:y∈l):(∃l'∈bx,y∈l')∨y=⟨f,0,a⟩:=by
 unfold iP at hl;split at hl
 ·exact .inl ⟨l,hl,hy⟩
 ·obtain ⟨i,hi,e⟩:=List.mem_mapIdx.1 hl
  split at e
  ·exact .inl ⟨_,List.getElem_mem hi,by rw[e];exact hy⟩
  ·rw[←e] at hy
   rcases List.mem_append.1 hy with hy|hy
   ·exact .inl ⟨_,List.getElem_mem hi,hy⟩
   ·exact .inr (List.mem_singleton.1 hy)
theorem ra {n:Int}:∀(F:List dE) {bx:List (List cP)} {l:List cP} {y:cP},l∈sendAll n F bx->y∈l->(∃l'∈bx,y∈l')∨y.eS=n
 | [],bx,l,y,hl,hy=> .inl ⟨l,hl,hy⟩
 |x::F,bx,l,y,hl,hy=>by
  rcases ra F (show l∈sendAll n F (iP n (iV x) bx) from hl) hy with ⟨l',h1,h2⟩|h
  ·rcases EA h1 h2 with h|h
   ·exact .inl h
   ·exact .inr (by rw[h])
  ·exact .inr h
theorem CC {bx:List (List cP)} {c:Int} (h:eG bx c=0):∀l∈bx,∀y∈l,y.eS≠c:=fun l hl y hy e=>by
 have h1:(l.filter fun m=>decide (m.eS=c)).length≠0:=fun h0=>by
  have:=List.eq_nil_of_length_eq_zero h0;rw[List.filter_eq_nil_iff] at this;exact this y hy (decide_eq_true e)
 have h2:∀(bx:List (List cP)),l∈bx->(l.filter fun m=>decide (m.eS=c)).length≤(bx.map fun l=>(l.filter fun m=>decide (m.eS=c)).length).sum:=fun bx hb=>by
  induction bx with
  |nil=>cases hb
  |cons r bx ih=>
   simp only[List.map_cons,List.sum_cons];rcases List.mem_cons.1 hb with e|hb
   ·rw[e];omega
   ·have:=ih hb;omega
 have:=h2 bx hl;unfold eG at h;omega
theorem nE.new (k:ai) (prog:List Call) (room:Int):nE nc (eh k nc prog room):=by
 have hc:∀c:Int,((eh k nc prog room).ag c).aT=0:=fun c=>by
  unfold bz.ag eh;dsimp only;rw[List.getElem?_replicate];split<;>rfl
 refine ⟨fun c h0 h1=> .inl ⟨.inl (hc c),fun hh=>by cases hh⟩,fun c h0 h1 e=>?_,fun l hl y hy=>?_⟩
 ·rw[hc c] at e;cases e
 ·have:=List.eq_of_mem_replicate hl
  rw[this] at hy;cases hy
theorem nE.step (h:nE nc m) (hm:bW nc N g m) {n:Int} (h0:0≤n) (h1:n<(nc:Int)):nE nc (m.step n).2:=by
 have hcs:=hm.cs;have hlt:n.toNat<m.cs.length:=by omega
 unfold bz.step;split
 ·rename_i x r hb
  refine h.same (fun c hc=>?_) rfl (fun l hl y hy=>?_)
  ·show ((bz.dx { m with bx:=m.bx.set n.toNat (m.box n).tail} n { m.ag n with tl:=_}).ag c).aT=_
   rw[eU (m:={ m with bx:=m.bx.set n.toNat (m.box n).tail}) h0 hc hlt];split
   ·rename_i e;rw[e]
   ·rfl
  ·rcases gx hl with hl|hl
   ·exact ⟨l,hl,hy⟩
   ·rw[hl] at hy
    have hm2:m.box n∈m.bx:=by
     unfold bz.box at hb⊢;cases e:m.bx[n.toNat]? with
     |none=>rw[e] at hb;cases hb
     |some l=>exact List.mem_of_getElem? e
    exact ⟨m.box n,hm2,List.mem_of_mem_tail hy⟩
 split
 ·rename_i e1
  have hn:n∉m.line:=by
   rcases h.ds n h0 h1 with ⟨_,h⟩|⟨h,_⟩
   ·exact h
   ·rw[e1] at h;omega
  have he:cZ m.line n=m.line++ [n]:=by unfold cZ;rw[if_neg hn]
  have hca:∀c:Int,0≤c->((bz.dx { m with line:=cZ m.line n} n { m.ag n with aT:=2}).ag c)=if c=n then { m.ag n with aT:=2} else m.ag c:=fun c hc=>eU (m:={ m with line:=cZ m.line n}) h0 hc hlt
  refine ⟨fun c hc hc1=>?_,fun c hc hc1 e=>?_,fun l hl y hy=>?_⟩
  ·show (_∨_)/\c∉cZ m.line n∨(_∨_)/\c∈cZ m.line n
   rw[hca c hc,he];by_cases e:c=n
   ·rw[if_pos e];exact .inr ⟨.inl rfl,by rw[e];exact List.mem_append_right _ (List.mem_singleton.2 rfl)⟩
   ·rw[if_neg e]
    rcases h.ds c hc hc1 with ⟨a,b⟩|⟨a,b⟩
    ·exact .inl ⟨a,fun hh=>(List.mem_append.1 hh).elim b fun hh=>e (List.mem_singleton.1 hh)⟩
    ·exact .inr ⟨a,List.mem_append_left _ b⟩
  ·rw[hca c hc] at e
   by_cases e2:c=n
   ·rw[if_pos e2] at e;cases e
   ·rw[if_neg e2] at e
    have:=h.hd c hc hc1 e;show (cZ m.line n).head?=_;rw[he];cases hl:m.line with
    |nil=>rw[hl] at this;cases this
    |cons d ds=>rw[hl] at this;exact this
  ·obtain ⟨a,b⟩:=h.bx l hl y hy
   refine ⟨a, ?_⟩;rw[hca _ a.1];split
   ·rename_i e2;rw[e2,e1] at b;cases b
   ·exact b
 split
 ·split
  ·rename_i e2 hp
   have hhd:m.line.head?=some n:=of_decide_eq_true hp;rw[sC hlt];have hca:∀c:Int,0≤c->((bz.dx { m with k:=(m.k.do n (m.aC n)).2,bx:=sendAll n (m.k.do n (m.aC n)).1.forget m.bx} n ⟨cq (m.k.do n (m.aC n)).1.forget (m.ag n).tl,3,(m.ag n).n,(m.k.do n (m.aC n)).1⟩).ag c)=if c=n then ⟨cq (m.k.do n (m.aC n)).1.forget (m.ag n).tl,3,(m.ag n).n,(m.k.do n (m.aC n)).1⟩ else m.ag c:=fun c hc=>eU (m:={ m with k:=(m.k.do n (m.aC n)).2,bx:=sendAll n (m.k.do n (m.aC n)).1.forget m.bx}) h0 hc hlt
   show nE nc (bz.dx { m with k:=(m.k.do n (m.aC n)).2,bx:=sendAll n (m.k.do n (m.aC n)).1.forget m.bx} n ⟨cq (m.k.do n (m.aC n)).1.forget (m.ag n).tl,3,(m.ag n).n,(m.k.do n (m.aC n)).1⟩);refine ⟨fun c hc hc1=>?_,fun c hc hc1 e=>?_,fun l hl y hy=>?_⟩
   ·rw[hca c hc]
    by_cases e:c=n
    ·rw[if_pos e];exact .inr ⟨.inr rfl,by rw[e];exact List.mem_of_mem_head? hhd⟩
    ·rw[if_neg e];exact h.ds c hc hc1
   ·rw[hca c hc] at e
    by_cases e3:c=n
    ·rw[e3];exact hhd
    ·rw[if_neg e3] at e;exact h.hd c hc hc1 e
   ·rcases ra _ (show l∈sendAll n _ m.bx from hl) hy with ⟨l',h2,h3⟩|hf
    ·obtain ⟨a,b⟩:=h.bx l' h2 y h3
     refine ⟨a, ?_⟩;rw[hca _ a.1];split
     ·rfl
     ·exact b
    ·rw[hf,hca _ h0,if_pos rfl]
     exact ⟨⟨h0,h1⟩,rfl⟩
  ·exact h
 split
 ·rename_i e1 e2 e3
  obtain ⟨e3,e4⟩:=e3;have hhd:=h.hd n h0 h1 e3;have hnone:=CC e4;have hlv:dJ m.line n=m.line.tail:=by unfold dJ;rw[if_pos hhd]
  obtain ⟨cs,hline⟩:∃cs,m.line=n::cs:=by
   cases hl:m.line with
   |nil=>rw[hl] at hhd;cases hhd
   |cons d ds=>rw[hl] at hhd;cases hhd;exact ⟨ds,rfl⟩
  have hnd:=hm.G7;rw[hline] at hnd hlv;have hnn:=(List.nodup_cons.1 hnd).1;have hca:∀c:Int,0≤c->((bz.dx { m with line:=dJ m.line n} n { m.ag n with aT:=0}).ag c)=if c=n then { m.ag n with aT:=0} else m.ag c:=fun c hc=>eU (m:={ m with line:=dJ m.line n}) h0 hc hlt
  have hlv2:(bz.dx { m with line:=dJ m.line n} n { m.ag n with aT:=0}).line=cs:=by show dJ m.line n=cs;rw[hline,hlv];rfl
  refine ⟨fun c hc hc1=>?_,fun c hc hc1 e=>?_,fun l hl y hy=>?_⟩
  ·rw[hca c hc,hlv2]
   by_cases e:c=n
   ·rw[if_pos e];exact .inl ⟨.inl rfl,by rw[e];exact hnn⟩
   ·rw[if_neg e]
    have:=h.ds c hc hc1;rw[hline] at this;rcases this with ⟨a,b⟩|⟨a,b⟩
    ·exact .inl ⟨a,fun hh=>b (List.mem_cons_of_mem _ hh)⟩
    ·exact .inr ⟨a,(List.mem_cons.1 b).resolve_left e⟩
  ·rw[hca c hc] at e
   by_cases e5:c=n
   ·rw[if_pos e5] at e;cases e
   ·rw[if_neg e5] at e
    have:=h.hd c hc hc1 e;rw[hhd] at this;exact absurd (Option.some.inj this).symm e5
  ·obtain ⟨a,b⟩:=h.bx l hl y hy
   have:=h.hd _ a.1 a.2 b;rw[hhd] at this;exact absurd (Option.some.inj this).symm (hnone l hl y hy)
 ·exact h
theorem nE.user (h:nE nc m) (hm:bW nc N g m) {x:Item} (h0:0≤x.core) (h1:x.core<(nc:Int)):nE nc (m.user x).2:=by
 have hcs:=hm.cs;have hlt:x.core.toNat<m.cs.length:=by omega
 unfold bz.user;split
 ·exact h
 rename_i e0;have e0:(m.ag x.core).aT=0:=Decidable.byContradiction e0
 have hn:x.core∉m.line:=by
  rcases h.ds x.core h0 h1 with ⟨_,h⟩|⟨h,_⟩
  ·exact h
  ·rw[e0] at h;omega
 split
 ·refine h.same (fun c hc=>?_) rfl fun l hl y hy=>⟨l,hl,hy⟩
  show ((bz.dx m x.core _).ag c).aT=_;rw[eU h0 hc hlt];split
  ·rename_i e;rw[e]
  ·rfl
 split
 ·have hca:∀c:Int,0≤c->((bz.dx m x.core { m.ag x.core with aT:=1,n:=x.a}).ag c)=if c=x.core then { m.ag x.core with aT:=1,n:=x.a} else m.ag c:=fun c hc=>eU h0 hc hlt
  refine ⟨fun c hc hc1=>?_,fun c hc hc1 e=>?_,fun l hl y hy=>?_⟩
  ·rw[hca c hc]
   by_cases e:c=x.core
   ·rw[if_pos e];exact .inl ⟨.inr rfl,by rw[e];exact hn⟩
   ·rw[if_neg e];exact h.ds c hc hc1
  ·rw[hca c hc] at e
   by_cases e2:c=x.core
   ·rw[if_pos e2] at e;cases e
   ·rw[if_neg e2] at e;exact h.hd c hc hc1 e
  ·obtain ⟨a,b⟩:=h.bx l hl y hy
   refine ⟨a, ?_⟩;rw[hca _ a.1];split
   ·rename_i e2;rw[e2,e0] at b;cases b
   ·exact b
 ·exact h
theorem nE.item (h:nE nc m) (hm:bW nc N g m) (x:Item):nE nc (m.item x).2:=by
 have hcs:=hm.cs;unfold bz.item;split
 ·exact h
 rename_i hr;have hr:bj x m.cs.length=true:=by cases e:bj x m.cs.length with|true=>rfl|false=>exact absurd e hr
 obtain ⟨k0,k1,c0,c1,_,_⟩:=ik.1 hr;have c2:x.core<(nc:Int):=by omega
 split
 ·exact h.user hm c0 c2
 split
 ·exact h.step hm c0 c2
 split
 ·exact h
 split
 ·exact h.same (fun _ _=>rfl) rfl fun l hl y hy=>⟨l,hl,hy⟩
 ·exact h.same (fun _ _=>rfl) rfl fun l hl y hy=>⟨l,hl,hy⟩
end
def jE (bx:List (List cP)):Nat:=(bx.map List.length).sum
def wt (d:Int):Nat:=if d=1 then 5 else if d=2 then 4 else if d=3 then 1 else 0
def kA (m:bz):Nat:=jE m.bx+2*jG m.k.ae
def Dc (m:bz):Nat:=(m.cs.map fun c=>wt c.aT).sum+kA m
theorem rW {α:Type} (f:α->Nat):∀{l:List α} {i:Nat} {x y:α},l[i]?=some y->((l.set i x).map f).sum+f y=(l.map f).sum+f x
 | [],_,_,_,h=>by simp at h
 |a::l,0,x,y,h=>by
  cases h;simp only[List.set_cons_zero,List.map_cons,List.sum_cons];omega
 |a::l,i+1,x,y,h=>by
  have:=rW f (l:=l) (i:=i) (x:=x) (y:=y) h;simp only[List.set_cons_succ,List.map_cons,List.sum_cons];omega
theorem IN (d:Int):wt d≤5:=by
 unfold wt;split
 ·omega
 split
 ·omega
 split<;>omega
theorem Ct (f a:Int) {bx:List (List cP)} (h0:0≤f) (h1:f<(bx.length:Int)) (h3:bx.length≤3):jE (iP f a bx)≤jE bx+2:=by
 unfold iP;split
 ·omega
 ·match bx,h1,h3 with
  | [x],h1,_=>
   have:f=0:=by simp at h1;omega
   subst this;simp[jE]
  | [x,y],h1,_=>
   have:f=0∨f=1:=by simp at h1;omega
   rcases this with rfl|rfl<;>simp[jE]<;>omega
  | [x,y,z],h1,_=>
   have:f=0∨f=1∨f=2:=by simp at h1;omega
   rcases this with rfl|rfl|rfl<;>simp[jE]<;>omega
  | [],h1,_=>simp at h1;omega
  |_::_::_::_::_,_,h3=>simp at h3
theorem mZ (n:Int):∀(F:List dE) {bx:List (List cP)},0≤n->n<(bx.length:Int)->bx.length≤3->jE (sendAll n F bx)≤jE bx+2*F.length
 | [],bx,_,_,_=>by show jE bx≤_;simp
 |x::F,bx,h0,h1,h3=>by
  have a:=Ct n (iV x) h0 h1 h3;have b:=mZ n F (bx:=iP n (iV x) bx) h0 (by rw[nL];exact h1) (by rw[nL];exact h3);show jE (sendAll n F (iP n (iV x) bx))≤_;simp only[List.length_cons];omega
section
variable {nc N g:Nat} {m:bz}
theorem zq (hm:bW nc N g m) {n:Int} (h0:0≤n) (h1:n<(nc:Int)):m.bx[n.toNat]?=some (m.box n):=by
 have:=hm.bx;have e:m.bx[n.toNat]?=some (m.bx[n.toNat]'om):=gE om;unfold bz.box;rw[e];rfl
theorem ES (hm:bW nc N g m) (h3:nc≤3) {n:Int} (h0:0≤n) (h1:n<(nc:Int)):
  ((m.step n).2=m/\m.box n= []/\(m.ag n).aT≠1/\((m.ag n).aT=2->fG m.line n=false)/\((m.ag n).aT=3->eG m.bx n≠0))∨Dc (m.step n).2+1≤Dc m:=by
 obtain ⟨hc1,hc2⟩:=hm.F9 h0 h1;have hb:=zq hm h0 h1;have hbx:=hm.bx;have hlt:n.toNat<m.cs.length:=(List.getElem?_eq_some_iff.1 hc1).1;have hset:∀c:oJ,((m.cs.set n.toNat c).map fun c=>wt c.aT).sum+wt (m.ag n).aT=(m.cs.map fun c=>wt c.aT).sum+wt c.aT:=fun c=>rW (fun c=>wt c.aT) hc1
 unfold bz.step;split
 ·rename_i x r hx
  refine .inr ?_;rw[hx] at hb;have h1:=rW List.length (x:=r) hb;have h2:=hset { m.ag n with tl:=drop (IntKind.i64.wrap (x.about.tdiv 4096)) (x.about.tmod 4096) (m.ag n).tl};unfold Dc kA jE bz.heard;rw[hx];simp only[List.length_cons] at h1;dsimp only[List.tail_cons] at h1 h2⊢;omega
 ·rename_i hx
  by_cases e1:(m.ag n).aT=1
  ·rw[if_pos e1]
   refine .inr ?_;have h2:=hset { m.ag n with aT:=2};rw[e1] at h2;have w1:wt 1=5:=rfl;have w2:wt 2=4:=rfl;unfold Dc kA bz.dx;dsimp only at h2⊢;omega
  rw[if_neg e1];by_cases e2:(m.ag n).aT=2
  ·rw[if_pos e2]
   cases hp:fG m.line n with
   |false=>
    rw[if_neg (by decide)];exact .inl ⟨rfl,hx,e1,fun _=>rfl,fun h=>by omega⟩
   |true=>
    rw[if_pos rfl];refine .inr ?_;dsimp only;rw[sC hlt];obtain ⟨p1,_⟩:=AF hm.k n (m.aC n);have h2:=hset ⟨cq (m.k.do n (m.aC n)).1.forget (m.ag n).tl,3,(m.ag n).n,(m.k.do n (m.aC n)).1⟩;have h4:=mZ n (m.k.do n (m.aC n)).1.forget (bx:=m.bx) h0 om om;rw[e2] at h2;have w1:wt 3=1:=rfl;have w2:wt 2=4:=rfl;unfold Dc kA;dsimp only at h2⊢;omega
  rw[if_neg e2];by_cases e3:(m.ag n).aT=3/\eG m.bx n=0
  ·rw[if_pos e3]
   refine .inr ?_;have h2:=hset { m.ag n with aT:=0};rw[e3.1] at h2;have w1:wt 3=1:=rfl;have w2:wt 0=0:=rfl;unfold Dc kA bz.dx;dsimp only at h2⊢;omega
  ·rw[if_neg e3]
   exact .inl ⟨rfl,hx,e1,fun h=>absurd h e2,fun h hh=>e3 ⟨h,hh⟩⟩
def Rest (nc:Nat) (m:bz):Prop:=∀c:Int,0≤c->c<(nc:Int)->(m.ag c).aT=0
theorem GA (hm:bW nc N g m) (h:nE nc m) (hall:∀n:Int,0≤n->n<(nc:Int)->m.box n= []/\(m.ag n).aT≠1/\((m.ag n).aT=2->fG m.line n=false)/\((m.ag n).aT=3->eG m.bx n≠0)):Rest nc m:=by
 have hbx:=hm.bx
 have hz:∀l∈m.bx,l= []:=fun l hl=>by
  obtain ⟨i,hi⟩:=List.mem_iff_getElem?.1 hl;have hlt:=(List.getElem?_eq_some_iff.1 hi).1;have:=(hall (i:Int) om om).1;unfold bz.box at this;rw[Int.toNat_natCast,hi] at this;exact this
 have ho:∀c,eG m.bx c=0:=fun c=>by
  unfold eG
  have:(m.bx.map fun l=>(l.filter fun m=>decide (m.eS=c)).length).sum=0:=by
   have hh:∀(b:List (List cP)),(∀l∈b,l= [])->(b.map fun l=>(l.filter fun m=>decide (m.eS=c)).length).sum=0:=fun b hb=>by
    induction b with
    |nil=>rfl
    |cons r b ih=>
     rw[List.map_cons,List.sum_cons,ih fun l hl=>hb l (List.mem_cons_of_mem _ hl),hb r List.mem_cons_self];rfl
   exact hh m.bx hz
  rw[this];rfl
 have hl:m.line= []:=by
  cases hl:m.line with
  |nil=>rfl
  |cons d ds=>
   have hd:d∈m.line:=by rw[hl];exact List.mem_cons_self
   obtain ⟨d0,d1⟩:=hm.lr d hd;obtain ⟨_,_,a2,a3⟩:=hall d d0 d1;rcases h.ds d d0 d1 with ⟨_,hn⟩|⟨h23,_⟩
   ·exact absurd hd hn
   ·rcases h23 with e|e
    ·have:=a2 e
     unfold fG at this;rw[hl] at this;simp at this
    ·exact absurd (ho d) (a3 e)
 intro c c0 c1;rcases h.ds c c0 c1 with ⟨h01,_⟩|⟨_,hin⟩
 ·rcases h01 with e|e
  ·exact e
  ·exact absurd e (hall c c0 c1).2.1
 ·rw[hl] at hin;cases hin
theorem DC (hm:bW nc N g m) (h3:nc≤3) (x:Item):kA (m.item x).2≤kA m+2:=by
 have hcs:=hm.cs;have hbx:=hm.bx;unfold bz.item;split
 ·exact Nat.le_add_right _ _
 rename_i hr;have hr:bj x m.cs.length=true:=by cases e:bj x m.cs.length with|true=>rfl|false=>exact absurd e hr
 obtain ⟨k0,k1,c0,c1,_,_⟩:=ik.1 hr;have c2:x.core<(nc:Int):=by omega
 split
 ·unfold bz.user
  split
  ·exact Nat.le_add_right _ _
  split
  ·exact Nat.le_add_right _ _
  split
  ·exact Nat.le_add_right _ _
  ·exact Nat.le_add_right _ _
 split
 ·unfold bz.step
  split
  ·rename_i y r hx
   have hb:=zq hm c0 c2;rw[hx] at hb;have h1:=rW List.length (x:=r) hb;unfold kA jE bz.heard;rw[hx];simp only[List.length_cons] at h1;dsimp only[List.tail_cons] at h1⊢;omega
  split
  ·exact Nat.le_add_right _ _
  split
  ·split
   ·dsimp only
    rw[sC (show x.core.toNat<m.cs.length by omega)];obtain ⟨p1,_⟩:=AF hm.k x.core (m.aC x.core);have h4:=mZ x.core (m.k.do x.core (m.aC x.core)).1.forget (bx:=m.bx) c0 om om;unfold kA;dsimp only;omega
   ·exact Nat.le_add_right _ _
  split
  ·exact Nat.le_add_right _ _
  ·exact Nat.le_add_right _ _
 split
 ·exact Nat.le_add_right _ _
 split
 ·unfold kA
  dsimp only;rw[D9];omega
 ·exact Nat.le_add_right _ _
theorem HI (hm:bW nc N g m) (h3:nc≤3):Dc m≤kA m+15:=by
 have h1:∀l:List oJ,(l.map fun c=>wt c.aT).sum≤5*l.length:=fun l=>by
  induction l with
  |nil=>simp
  |cons c l ih=>
   have:=IN c.aT;simp only[List.map_cons,List.sum_cons,List.length_cons];omega
 have:=h1 m.cs;have:=hm.cs;unfold Dc;omega
end
structure FL where
 n:Int
 nF:Bool
 t:Told
 fs:Sl
 waits:Int
structure vC where
 line:List Int
 ent:Int->FL
 dR:Int
def du (s:vC) (x:Seen) (fs:Sl):Option vC:=
 if x.kind=0 then (if x.core∈s.line then none else some ⟨s.line++ [x.core],fun c=>if c=x.core then ⟨x.n,false,tZ,⟨none,0,0⟩,0⟩ else s.ent c,s.dR⟩)
 else if x.kind=1 then (if s.line.head?=some x.core/\(s.ent x.core).n=x.n/\(s.ent x.core).nF=false then some { s with ent:=fun c=>if c=x.core then ⟨x.n,true,x.t,fs,(s.ent x.core).waits⟩ else s.ent c} else none)
 else if x.kind=2 then (if s.line.head?=some x.core/\(s.ent x.core).n=x.n/\(s.ent x.core).nF=true/\(s.ent x.core).t=x.t then some ⟨s.line.tail,fun c=>{ s.ent c with waits:=(s.ent c).waits+1},ph s.dR (s.ent x.core).waits⟩ else none)
 else if x.kind=3 then (if x.core∈s.line then none else some s)
 else if x.kind=4∨x.kind=5 then (if s.line= [] then some s else none) else none
def pQ:vC->List (Seen × Sl)->Option vC
 |s,[]=>some s
 |s,(x,fs)::l=>(du s x fs).bind fun s=>pQ s l
theorem yZ:∀(l:List (Seen × Sl)) (s:vC) (x:Seen × Sl),pQ s (l++ [x])=(pQ s l).bind fun s=>du s x.1 x.2
 | [],s,x=>by
  show (du s x.1 x.2).bind (fun s=>pQ s [])=du s x.1 x.2;cases du s x.1 x.2<;>rfl
 |y::l,s,x=>by
  show (du s y.1 y.2).bind (fun s=>pQ s (l++ [x]))=((du s y.1 y.2).bind fun s=>pQ s l).bind fun s=>du s x.1 x.2
  cases du s y.1 y.2 with
  |none=>rfl
  |some s'=>exact yZ l s' x
def wT:vC:=⟨[],fun _=>⟨0,false,tZ,⟨none,0,0⟩,0⟩,0⟩
structure kK (nc:Nat) (m:bz) (s:vC):Prop where
 line:s.line=m.line
 n:∀c∈m.line,(s.ent c).n=(m.ag c).n
 nF:∀c∈m.line,(s.ent c).nF=decide ((m.ag c).aT=3)
 t:∀c∈m.line,(m.ag c).aT=3->(s.ent c).t=(m.ag c).told
 wt:∀(i:Nat) (c:Int),m.line[i]?=some c->0≤(s.ent c).waits/\(s.ent c).waits+(i:Int)+1≤(nc:Int)
 dR:0≤s.dR/\s.dR+1≤(nc:Int)
section
variable {nc N g:Nat} {m:bz} {s:vC}
theorem kK.new (k:ai) (prog:List Call) (room:Int) (h1:1≤nc):kK nc (eh k nc prog room) wT:=
 ⟨rfl,fun c h=>by (cases h),fun c h=>by (cases h),fun c h=>by (cases h),fun i c h=>by simp[eh] at h,by show (0:Int)≤0/\(0:Int)+1≤(nc:Int);omega⟩
theorem kK.same {m':bz} (h:kK nc m s) (hl:m'.line=m.line) (hc:∀c∈m.line,(m'.ag c).n=(m.ag c).n/\(m'.ag c).aT=(m.ag c).aT/\(m'.ag c).told=(m.ag c).told):kK nc m' s:=
 ⟨h.line.trans hl.symm,fun c hm=>by rw[hl] at hm;rw[(hc c hm).1];exact h.n c hm,fun c hm=>by rw[hl] at hm;rw[(hc c hm).2.1];exact h.nF c hm,
  fun c hm e=>by rw[hl] at hm;rw[(hc c hm).2.2];exact h.t c hm (by rw[←(hc c hm).2.1];exact e),fun i c hi=>h.wt i c (by rw[←hl];exact hi),h.dR⟩
def FP (nc:Nat) (s:vC) (r:Option Seen × bz):Prop:=match r.1 with
 |none=>kK nc r.2 s
 |some y=>∀fs,∃s',du s y fs=some s'/\kK nc r.2 s'
theorem w3 {x:Seen} {fs:Sl} (h:x.kind=3) (hn:x.core∉s.line):du s x fs=some s:=by
 unfold du;rw[if_neg om,if_neg om,if_neg om,if_pos h,if_neg hn]
theorem yU {x:Seen} {fs:Sl} (h:x.kind=4∨x.kind=5) (hn:s.line= []):du s x fs=some s:=by
 unfold du;rw[if_neg om,if_neg om,if_neg om,if_neg om,if_pos h,if_pos hn]
theorem kK.user (h:kK nc m s) (ho:nE nc m) (hm:bW nc N g m) {x:Item} (c0:0≤x.core) (c1:x.core<(nc:Int)):FP nc s (m.user x):=by
 have hcs:=hm.cs;have hlt:x.core.toNat<m.cs.length:=by omega
 unfold bz.user;by_cases d0:(m.ag x.core).aT≠0
 ·rw[if_pos d0];exact h
 rw[if_neg d0];have d0:(m.ag x.core).aT=0:=Decidable.byContradiction d0
 have hn:x.core∉m.line:=by
  rcases ho.ds x.core c0 c1 with ⟨_,h⟩|⟨h,_⟩
  ·exact h
  ·rw[d0] at h;omega
 have key:∀c:oJ,kK nc (m.dx x.core c) s:=fun c=>h.same rfl fun d hd=>by
  rw[eU c0 (hm.lr d hd).1 hlt,if_neg (fun e:d=x.core=>hn (e▸hd))];exact ⟨rfl,rfl,rfl⟩
 split
 ·exact fun fs=>⟨s,w3 rfl (by rw[h.line];exact hn),key _⟩
 split
 ·exact key _
 ·exact h
theorem kK.step (h:kK nc m s) (ho:nE nc m) (hm:bW nc N g m) {n:Int} (c0:0≤n) (c1:n<(nc:Int)):FP nc s (m.step n):=by
 have hcs:=hm.cs;have hlt:n.toNat<m.cs.length:=by omega
 have hco:∀(m1:bz) (c:oJ),m1.cs.length=m.cs.length->∀d∈m.line,(m1.dx n c).ag d=if d=n then c else m1.ag d:=fun m1 c he d hd=>eU c0 (hm.lr d hd).1 om
 unfold bz.step;split
 ·rename_i y r hb
  refine h.same rfl fun d hd=>?_
  have e:=hco { m with bx:=m.bx.set n.toNat (m.box n).tail} { m.ag n with tl:=drop (IntKind.i64.wrap (y.about.tdiv 4096)) (y.about.tmod 4096) (m.ag n).tl} rfl d hd;have e:(m.heard n y).ag d=_:=e;rw[show ((none:Option Seen),m.heard n y).2.ag d=_ from e];split
  ·rename_i e2;rw[e2];exact ⟨rfl,rfl,rfl⟩
  ·exact ⟨rfl,rfl,rfl⟩
 split
 ·rename_i e1
  have hn:n∉m.line:=by
   rcases ho.ds n c0 c1 with ⟨_,h⟩|⟨h,_⟩
   ·exact h
   ·rw[e1] at h;omega
  have he:cZ m.line n=m.line++ [n]:=by unfold cZ;rw[if_neg hn]
  refine fun fs=>⟨_,by unfold du;rw[if_pos rfl,if_neg (by rw[h.line];exact hn)], ?_⟩
  have hlen:m.line.length+1≤nc:=by
   have:=Th.zT nc (m.line++ [n]) (List.nodup_append.2 ⟨hm.G7,by simp,fun a ha b hb=>by rw[List.mem_singleton.1 hb];exact fun e=>hn (e▸ha)⟩) (fun x hx=>by
    rcases List.mem_append.1 hx with hx|hx
    ·exact hm.lr x hx
    ·rw[List.mem_singleton.1 hx];exact ⟨c0,c1⟩)
   rw[List.length_append] at this;exact this
  have hca:∀d,0≤d->(bz.dx { m with line:=cZ m.line n} n { m.ag n with aT:=2}).ag d=if d=n then { m.ag n with aT:=2} else m.ag d:=fun d hd=>eU (m:={ m with line:=cZ m.line n}) c0 hd hlt
  have hd0:∀d∈cZ m.line n,0≤d:=fun d hd=>by
   rw[he] at hd;rcases List.mem_append.1 hd with hd|hd
   ·exact (hm.lr d hd).1
   ·rw[List.mem_singleton.1 hd];exact c0
  have hdl:∀d∈cZ m.line n,d≠n->d∈m.line:=fun d hd e=>by
   rw[he] at hd;rcases List.mem_append.1 hd with hd|hd
   ·exact hd
   ·exact absurd (List.mem_singleton.1 hd) e
  refine ⟨by show s.line++ [n]=cZ m.line n;rw[he,h.line],fun d hd=>?_,fun d hd=>?_,fun d hd e=>?_,fun i d hi=>?_,h.dR⟩
  ·rw[hca d (hd0 d hd)]
   show (if d=n then _ else s.ent d).n=_;by_cases e:d=n
   ·rw[if_pos e,if_pos e]
   ·rw[if_neg e,if_neg e];exact h.n d (hdl d hd e)
  ·rw[hca d (hd0 d hd)]
   show (if d=n then _ else s.ent d).nF=_;by_cases e:d=n
   ·rw[if_pos e,if_pos e];rfl
   ·rw[if_neg e,if_neg e];exact h.nF d (hdl d hd e)
  ·rw[hca d (hd0 d hd)] at e⊢
   show (if d=n then _ else s.ent d).t=_;by_cases e2:d=n
   ·rw[if_pos e2] at e;cases e
   ·rw[if_neg e2] at e⊢;rw[if_neg e2];exact h.t d (hdl d hd e2) e
  ·have hi:(cZ m.line n)[i]?=some d:=hi
   rw[he] at hi;show 0≤(if d=n then _ else s.ent d).waits/\(if d=n then _ else s.ent d).waits+(i:Int)+1≤(nc:Int);by_cases e:d=n
   ·rw[if_pos e]
    have:=(List.getElem?_eq_some_iff.1 hi).1;rw[List.length_append] at this;simp only[List.length_cons,List.length_nil] at this;show (0:Int)≤0/\(0:Int)+(i:Int)+1≤(nc:Int);omega
   ·rw[if_neg e]
    refine h.wt i d ?_;by_cases hl:i<m.line.length
    ·rw[List.getElem?_append_left hl] at hi;exact hi
    ·have:=(List.getElem?_eq_some_iff.1 hi).1
     rw[List.length_append] at this;simp only[List.length_cons,List.length_nil] at this;rw[show i=m.line.length by omega,List.getElem?_append_right (Nat.le_refl _),Nat.sub_self] at hi;cases hi;exact absurd rfl e
 split
 ·rename_i e2
  split
  ·rename_i hp
   have hh:m.line.head?=some n:=of_decide_eq_true hp;have hin:n∈m.line:=List.mem_of_mem_head? hh
   refine fun fs=>⟨_,by
    show du s ⟨1,n,(m.ag n).n,(m.k.do n (m.aC n)).1,(0,0),false⟩ fs=_;unfold du;rw[if_neg (show ¬(1:Int)=0 by decide),if_pos rfl];exact if_pos ⟨by rw[h.line];exact hh,h.n n hin,by rw[h.nF n hin,e2];rfl⟩, ?_⟩
   have hw:kK nc (m.nF n).2 ⟨s.line,fun c=>if c=n then ⟨(m.ag n).n,true,(m.k.do n (m.aC n)).1,fs,(s.ent n).waits⟩ else s.ent c,s.dR⟩:=by
    rw[sC hlt];have hca:∀d∈m.line,(bz.dx { m with k:=(m.k.do n (m.aC n)).2,bx:=sendAll n (m.k.do n (m.aC n)).1.forget m.bx} n ⟨cq (m.k.do n (m.aC n)).1.forget (m.ag n).tl,3,(m.ag n).n,(m.k.do n (m.aC n)).1⟩).ag d=if d=n then ⟨cq (m.k.do n (m.aC n)).1.forget (m.ag n).tl,3,(m.ag n).n,(m.k.do n (m.aC n)).1⟩ else m.ag d:=fun d hd=>eU (m:={ m with k:=(m.k.do n (m.aC n)).2,bx:=sendAll n (m.k.do n (m.aC n)).1.forget m.bx}) c0 (hm.lr d hd).1 hlt
    refine ⟨h.line,fun d hd=>?_,fun d hd=>?_,fun d hd e=>?_,fun i d hi=>?_,h.dR⟩
    ·refine Eq.trans ?_ (congrArg oJ.n (hca d hd)).symm
     show (if d=n then _ else s.ent d).n=_;by_cases e:d=n
     ·rw[if_pos e,if_pos e]
     ·rw[if_neg e,if_neg e];exact h.n d hd
    ·refine Eq.trans ?_ (congrArg (fun c:oJ=>decide (c.aT=3)) (hca d hd)).symm
     show (if d=n then _ else s.ent d).nF=_;by_cases e:d=n
     ·rw[if_pos e,if_pos e];rfl
     ·rw[if_neg e,if_neg e];exact h.nF d hd
    ·refine Eq.trans ?_ (congrArg oJ.told (hca d hd)).symm
     have e:(oJ.aT _)=3:=(congrArg oJ.aT (hca d hd)).symm.trans e;show (if d=n then _ else s.ent d).t=_;by_cases e3:d=n
     ·rw[if_pos e3,if_pos e3]
     ·rw[if_neg e3] at e;rw[if_neg e3,if_neg e3];exact h.t d hd e
    ·show 0≤(if d=n then _ else s.ent d).waits/\(if d=n then _ else s.ent d).waits+(i:Int)+1≤(nc:Int)
     have:=h.wt i d hi;by_cases e:d=n
     ·rw[if_pos e];rw[e] at this;exact this
     ·rw[if_neg e];exact this
   exact hw
  ·exact h
 split
 ·rename_i e3
  have hh:=ho.hd n c0 c1 e3.1;have hin:n∈m.line:=List.mem_of_mem_head? hh;have hll:dJ m.line n=m.line.tail:=by unfold dJ;rw[if_pos hh]
  refine fun fs=>⟨_,by
   unfold du;rw[if_neg (show ¬(2:Int)=0 by decide),if_neg (show ¬(2:Int)=1 by decide),if_pos rfl];exact if_pos ⟨by rw[h.line];exact hh,h.n n hin,by rw[h.nF n hin,e3.1];rfl,h.t n hin e3.1⟩, ?_⟩
  obtain ⟨rest,hr⟩:∃rest,m.line=n::rest:=by
   cases hl:m.line with
   |nil=>rw[hl] at hh;cases hh
   |cons a r=>rw[hl] at hh;cases hh;exact ⟨r,rfl⟩
  have hnd:=hm.G7;rw[hr] at hnd;have hnr:=(List.nodup_cons.1 hnd).1;have hlr:(dJ m.line n)=rest:=by rw[hll,hr];rfl
  have hca:∀d∈rest,(bz.dx { m with line:=dJ m.line n} n { m.ag n with aT:=0}).ag d=m.ag d:=fun d hd=>by
   rw[eU (m:={ m with line:=dJ m.line n}) c0 (hm.lr d (by rw[hr];exact List.mem_cons_of_mem _ hd)).1 hlt,if_neg (fun e:d=n=>hnr (e▸hd))];rfl
  have hml:∀d∈rest,d∈m.line:=fun d hd=>by rw[hr];exact List.mem_cons_of_mem _ hd
  have h0:=h.wt 0 n (by rw[hr];rfl);refine ⟨by show s.line.tail=dJ m.line n;rw[h.line,hll],fun d hd=>?_,fun d hd=>?_,fun d hd e=>?_,fun i d hi=>?_, ?_⟩
  ·have hd:d∈rest:=by rw[←hlr];exact hd
   rw[hca d hd];exact h.n d (hml d hd)
  ·have hd:d∈rest:=by rw[←hlr];exact hd
   rw[hca d hd];exact h.nF d (hml d hd)
  ·have hd:d∈rest:=by rw[←hlr];exact hd
   rw[hca d hd] at e⊢;exact h.t d (hml d hd) e
  ·have hi:rest[i]?=some d:=by rw[←hlr];exact hi
   have:=h.wt (i+1) d (by rw[hr];exact hi);show 0≤(s.ent d).waits+1/\(s.ent d).waits+1+(i:Int)+1≤(nc:Int);omega
  ·have:=h.dR
   show 0≤ph s.dR (s.ent n).waits/\ph s.dR (s.ent n).waits+1≤(nc:Int);unfold ph;split<;>omega
 ·exact h
theorem kK.item (h:kK nc m s) (ho:nE nc m) (hm:bW nc N g m) (x:Item):FP nc s (m.item x):=by
 have hcs:=hm.cs;unfold bz.item;split
 ·exact h
 rename_i hr;have hr:bj x m.cs.length=true:=by cases e:bj x m.cs.length with|true=>rfl|false=>exact absurd e hr
 obtain ⟨k0,k1,c0,c1,_,_⟩:=ik.1 hr;have c2:x.core<(nc:Int):=by omega
 split
 ·exact h.user ho hm c0 c2
 split
 ·exact h.step ho hm c0 c2
 split
 ·exact h
 rename_i hl;have hl:s.line= []:=by rw[h.line];exact Decidable.byContradiction hl
 split
 ·exact fun fs=>⟨s,yU (.inl rfl) hl,h.same rfl fun _ _=>⟨rfl,rfl,rfl⟩⟩
 ·exact fun fs=>⟨s,yU (.inr rfl) hl,h.same rfl fun _ _=>⟨rfl,rfl,rfl⟩⟩
end
def oj (b:Nat):Value:= .pointer (some ⟨b,0,none⟩)
def sD (e:FL):List Value:=[.z e.n, .bool e.nF, .z e.t.e, .y e.t.w, .z e.t.dg, .slice e.fs.a e.fs.len e.fs.cap, .z e.waits]
def gl (b:Nat) (e:FL):aA:=aa b (sD e)
structure Wx where
 l:Nat
 m:Nat
 ps:List Nat
def rv (b nc:Nat) (s:vC):aA:=pV fun x:Wx=>bh [aa b [.pointer (some ⟨x.l,0,none⟩), .map (some x.m), .z s.dR],aQ x.l nc s.line,dI (Value.int .i64) oj x.m (s.line.zip x.ps),ar gl x.ps (s.line.map s.ent)]
theorem IA {x y:Operand} (a:dE):FM Tryz.prog .neq 153 x y (.agg ⟨aw.enc a⟩) (.agg ⟨aw.enc a⟩) false:=by
 have h:oQ Tryz.prog 9 153 (aw.enc a) (aw.enc a)=some true:=by
  have h:oQ Tryz.prog 9 153 (aw.enc a) (aw.enc a)=some (a.space==a.space&&(a.a8==a.a8&&((a.frame==a.frame&&(a.au==a.au&&true))&&true))):=by kernel_rfl
  rw[h];simp
 exact IC (x:=x) (y:=y) (P:=Tryz.prog) (t:=153) (xs:=aw.enc a) (ys:=aw.enc a) (by kernel_rfl) (by kernel_rfl) (by kernel_rfl) h
section
variable {B:Nat} {w0 w:World} {R L:List aA} {b nc:Nat} {s:vC}
theorem IK (h:Ow B w0 w (rv b nc s::R)):∃x:Wx,x.ps.length=s.line.length/\Ow B w0 w (aa b [.pointer (some ⟨x.l,0,none⟩), .map (some x.m), .z s.dR]::aQ x.l nc s.line::dI (Value.int .i64) oj x.m (s.line.zip x.ps)::ar gl x.ps (s.line.map s.ent)::R):=by
 obtain ⟨x,h⟩:=h.ex;have h:Ow B w0 w (aa b [.pointer (some ⟨x.l,0,none⟩), .map (some x.m), .z s.dR]::aQ x.l nc s.line::dI (Value.int .i64) oj x.m (s.line.zip x.ps)::ar gl x.ps (s.line.map s.ent)::R):=h.star;have hl:=(h.pick (A:=ar gl x.ps (s.line.map s.ent))).eQ;exact ⟨x,by rw[hl,List.length_map],h⟩
theorem sT (x:Wx) (h:Ow B w0 w (aa b [.pointer (some ⟨x.l,0,none⟩), .map (some x.m), .z s.dR]::aQ x.l nc s.line::dI (Value.int .i64) oj x.m (s.line.zip x.ps)::ar gl x.ps (s.line.map s.ent)::R)):Ow B w0 w (rv b nc s::R):=Ow.eP x (Ow.aY h)
theorem tK:∀{l:List Int} {ps:List Nat} {c:Int},c∉l->cF (l.zip ps) c=none
 | [],_,_,_=>rfl
 |_::_,[],_,_=>rfl
 |a::l,p::ps,c,h=>by
  show (if a=c then some p else cF (l.zip ps) c)=none;rw[if_neg (fun e=>h (by rw[e];exact List.mem_cons_self)),tK fun hh=>h (List.mem_cons_of_mem _ hh)]
theorem Bt:∀{l:List Int} {ps:List Nat} {c:Int} {p:Nat},c∉l->ps.length=l.length->iQ (l.zip ps) c p=(l++ [c]).zip (ps++ [p])
 | [],[],_,_,_,_=>rfl
 | [],_::_,_,_,_,h=>by simp at h
 |_::_,[],_,_,_,h=>by simp at h
 |a::l,q::ps,c,p,h,hl=>by
  show (if a=c then _ else (a,q)::iQ (l.zip ps) c p)=(a,q)::(l++ [c]).zip (ps++ [p]);rw[if_neg (fun e=>h (by rw[e];exact List.mem_cons_self)),Bt (fun hh=>h (List.mem_cons_of_mem _ hh)) (by simpa using hl)]
theorem Br (w:World):(zeroValue 177).run Tryz.prog w= .ok (.pointer none) w:=Tryz.zeroValue177 w
theorem _root_.Go.Vc.Ow.Jm {T kt el t:TypeId} {K V:Type} {enc:K->Value} {encV:V->Value} {m:Nat} {M:List (K × V)} (hu:Tryz.prog.underlying T=some (.map kt el)) (h:Ow B w0 w L) (i:Nat) (hi:L[i]?=some (dI enc encV m M)):FN Tryz.prog T t (some m) w (M.length:Int):=by
 have hM:je enc encV w m M:=(h.take i hi).head fun _ h=>h.2
 obtain ⟨es,c,h1,h2,_⟩:=hM.ex
 have hl:es.size=M.length:=by
  have:=congrArg List.length h2;simpa using this
 unfold FN Builtin.len_;rw[←hl];simp[Go.Vc.aN hu,Go.Vc.run_getObj_map h1,goInt]
theorem BB {p q:Sl} {xs:List dE} {K:Bool->Pw} (h:Ow B w0 w L) (r1:Rd aw B w0 L p xs) (r2:Rd aw B w0 L q xs) (hbig:xs.length≤1000000) (hK:∀w',Ow B w0 w' L->K true w'):C.qF p q K w:=by
 apply S.qF0;have h1:=r1.len;have h2:=r2.len;refine fP om ?_;intro l hl
 have loop:∀(d i:Nat) (w:World),i+d=xs.length->Ow B w0 w L->l (i:Int) w:=by
  intro d
  induction d with
  |zero=>
   intro i w hi h;apply hl;exact aE om (hK w h)
  |succ d ih=>
   intro i w hi h;have hx:xs[i]?=some xs[i]:=gE om;apply hl;refine aR om ?_;refine h.dr fun w h=>?_
   refine r1.ix h rfl hx fun a ha h0 hc=>⟨_,h0 _ rfl,_,hc 1 _ rfl,_,hc 2 _ rfl,_,hc 3 _ rfl, ?_⟩
   refine r2.ix h rfl hx fun a ha h0 hc=>⟨_,h0 _ rfl,_,hc 1 _ rfl,_,hc 2 _ rfl,_,hc 3 _ rfl,_,IA xs[i], ?_⟩
   refine bD rfl ?_;rw[wI i om];exact ih (i+1) w om h
 exact loop xs.length 0 w om h
theorem zP {t:Told} {p q:Sl} {K:Bool->Pw} (h:Ow B w0 w L) (r1:Rd aw B w0 L p t.forget) (r2:Rd aw B w0 L q t.forget) (hbig:t.forget.length≤1000000) (hK:∀w',Ow B w0 w' L->K true w'):C.qdt t.e t.w t.dg p t.e t.w t.dg q K w:=by
 apply S.qdt0;refine h.a fun c1 w1 h=>?_;refine h.a fun c2 w2 h=>?_;refine ⟨_,h.aq rfl,_,h.aq rfl,rz rfl ⟨_,h.ao rfl,_,h.ao rfl,rz rfl ⟨_,h.ao rfl,_,h.ao rfl,rz rfl ⟨p,h.ao rfl,q,h.ao rfl, ?_⟩⟩⟩⟩;exact BB h r1.more r2.more hbig fun w h=>hK w h.drop.drop
theorem B5 {x:Wx} {c:Int} {K:Option Addr->Bool->Pw} (c0:0≤c) (c1:c<(nc:Int)) (hn:c∉s.line) (h:Ow B w0 w (aa b [.pointer (some ⟨x.l,0,none⟩), .map (some x.m), .z s.dR]::aQ x.l nc s.line::dI (Value.int .i64) oj x.m (s.line.zip x.ps)::R)) (hK:K none false w):C.qak (some ⟨b,0,none⟩) c K w:=by
 apply S.qak0;refine ⟨_,rfl,_,h.aq rfl, ?_⟩;refine eE c0 c1 (h.pick (A:=aQ x.l nc s.line)) ?_;rw[show fG s.line c=false from decide_eq_false fun e=>hn (List.mem_of_mem_head? e)];exact ⟨_,rfl,_,h.ao rfl,none,(h.nh Tryz.underlying81 (aF .i64 Tryz.underlying3) Br 2 rfl (tK hn)).2,bD rfl hK⟩
theorem zr {l m p:Nat} {cs:List Int} {ps:List Nat} {dR c:Int} {K:Option Addr->Bool->Pw} (c0:0≤c) (c1:c<(nc:Int)) (h:Ow B w0 w (aa b [.pointer (some ⟨l,0,none⟩), .map (some m), .z dR]::aQ l nc (c::cs)::dI (Value.int .i64) oj m ((c,p)::cs.zip ps)::R)) (hK:K (some ⟨p,0,none⟩) true w):C.qak (some ⟨b,0,none⟩) c K w:=by
 apply S.qak0;refine ⟨_,rfl,_,h.aq rfl, ?_⟩;refine eE c0 c1 (h.pick (A:=aQ l nc (c::cs))) ?_;rw[show fG (c::cs) c=true from decide_eq_true rfl,if_pos List.mem_cons_self];exact ⟨_,rfl,_,h.ao rfl,_,(h.mF (k:=c) (v:=p) Tryz.underlying81 (aF .i64 Tryz.underlying3) 2 rfl (by simp[cF])).2,bN rfl hK⟩
end
def BA (B:Nat) (w0:World) (L:List aA) (s:vC):Prop:=∀c∈s.line,(s.ent c).nF=true->Rd aw B w0 L (s.ent c).fs (s.ent c).t.forget/\(s.ent c).t.forget.length≤1000000
theorem uH:∀{l:List (Int × Nat)} {j:Nat} {k:Int} {v:Nat},(l.map (·.1)).Nodup->l[j]?=some (k,v)->k∉(l.eraseIdx j).map (·.1)
 | [],_,_,_,_,h=>by simp at h
 |a::l,0,k,v,hn,h=>by
  simp only[List.getElem?_cons_zero,Option.some.injEq] at h;subst h;exact (List.nodup_cons.1 hn).1
 |a::l,j+1,k,v,hn,h=>by
  rw[List.getElem?_cons_succ] at h;obtain ⟨h1,h2⟩:=List.nodup_cons.1 hn;rw[List.eraseIdx_cons_succ,List.map_cons,List.mem_cons];rintro (e|e)
  ·exact h1 (by show a.1∈_;rw[←e];exact List.mem_map.2 ⟨_,List.mem_of_getElem? h,rfl⟩)
  ·exact uH h2 h e
theorem xD:∀{l:List (Int × Nat)} {j:Nat} {k a:Int} {v:Nat},l[j]?=some (k,v)->a≠k->(a∈(l.eraseIdx j).map (·.1)↔a∈l.map (·.1))
 | [],_,_,_,_,h,_=>by simp at h
 |b::l,0,k,a,v,h,hn=>by
  simp only[List.getElem?_cons_zero,Option.some.injEq] at h;subst h;rw[List.eraseIdx_cons_zero,List.map_cons,List.mem_cons];exact ⟨.inr,fun h=>h.resolve_left hn⟩
 |b::l,j+1,k,a,v,h,hn=>by
  rw[List.getElem?_cons_succ] at h;rw[List.eraseIdx_cons_succ,List.map_cons,List.map_cons,List.mem_cons,List.mem_cons,xD h hn]
section
variable {B:Nat} {w0 w:World} {R L:List aA} {b nc:Nat} {s:vC}
theorem Cl {l m p:Nat} {c dR:Int} {cs:List Int} {ps:List Nat} {e:FL} {ent:Int->FL} {K:Pw} (hnd:(c::cs).Nodup) (hl:ps.length=cs.length) (hw:∀d∈cs,0≤(ent d).waits/\(ent d).waits≤1000000)
  (h:Ow B w0 w (aa b [.pointer (some ⟨l,0,none⟩), .map (some m), .z dR]::aQ l nc (c::cs)::dI (Value.int .i64) oj m ((c,p)::cs.zip ps)::aa p (sD e)::ar gl ps (cs.map ent)::R))
  (hK:∀w',Ow B w0 w' (aa b [.pointer (some ⟨l,0,none⟩), .map (some m), .z (ph dR e.waits)]::aQ l nc cs::dI (Value.int .i64) oj m (cs.zip ps)::ar gl ps (cs.map fun d=>{ ent d with waits:=(ent d).waits+1})::R)->K w'):C.qbX (some ⟨b,0,none⟩) c (some ⟨p,0,none⟩) K w:=by
 apply S.qbX0;refine h.dr fun w h=>?_
 refine ⟨_,rfl,_,h.ao rfl,_,rfl,_,h.ao rfl,_,rfl, ?_,trivial⟩;refine h.cC rfl rfl fun w h=>?_
 (try dsimp only[putAt,List.set_cons_zero,List.set_cons_succ] at h)
 refine ⟨_,rfl,_,h.aq rfl, ?_⟩;refine kC (h.pick (A:=aQ l nc (c::cs))) fun w h=>?_
 refine ⟨_,rfl,_,h.ao rfl, ?_⟩;have h:Ow B w0 w (dI (Value.int .i64) oj m ((c,p)::cs.zip ps)::ar gl ps (cs.map ent)::aQ l nc cs::aa b [.pointer (some ⟨l,0,none⟩), .map (some m), .z (ph dR e.waits)]::R):=h.sub;refine h.Ez (k:=c) (M:=(c,p)::cs.zip ps) (m:=m) (enc:=Value.int .i64) (encV:=oj) Tryz.underlying81 (aF .i64 Tryz.underlying3) 0 rfl fun w h=>?_
 rw[show kL ((c,p)::cs.zip ps) c=cs.zip ps from if_pos rfl] at h;have h:Ow B w0 w (dI (Value.int .i64) oj m (cs.zip ps)::ar gl ps (cs.map ent)::aQ l nc cs::aa b [.pointer (some ⟨l,0,none⟩), .map (some m), .z (ph dR e.waits)]::R):=h;refine ⟨_,rfl,_,h.ao rfl, ?_⟩;refine h.range (M:=cs.zip ps) (m:=m) (enc:=Value.int .i64) (encV:=oj) Tryz.underlying81 0 rfl fun w1 h=>?_
 generalize w.heap.size=it at h⊢;intro l22 hl22;have hcs:cs.Nodup:=(List.nodup_cons.1 hnd).2
 have loop:∀(d:Nat) (lf:List (Int × Nat)) (w:World),lf.length=d->(∀x∈lf,x∈cs.zip ps)->(lf.map (·.1)).Nodup->
   Ow B w0 w (pW (Value.int .i64) oj m it (cs.zip ps) lf::ar gl ps (cs.map fun d=>if d∈lf.map (·.1) then ent d else { ent d with waits:=(ent d).waits+1})::aQ l nc cs::aa b [.pointer (some ⟨l,0,none⟩), .map (some m), .z (ph dR e.waits)]::R)->l22 w:=by
  intro d
  induction d with
  |zero=>
   intro lf w hlf hsub hn h;apply hl22;refine h.next (left:=lf) 0 rfl (fun e0=>?_) (fun j k v w' hj h _=>?_)
   ·refine bD rfl (hK w ?_)
    have h:Ow B w0 w (dI (Value.int .i64) oj m (cs.zip ps)::_):=h.Gh 0 rfl;rw[e0] at h;simp only[List.map_nil,List.not_mem_nil,if_false] at h;exact h.sub
   ·have:=(List.getElem?_eq_some_iff.1 hj).1
    omega
  |succ d ih=>
   intro lf w hlf hsub hn h;apply hl22;refine h.next (left:=lf) 0 rfl (fun e0=>?_) (fun j k v w' hj h he=>?_)
   ·rw[e0] at hlf;cases hlf
   ·have hmem:=hsub _ (List.mem_of_getElem? hj)
    obtain ⟨i,hi⟩:=List.getElem?_of_mem hmem;rw[List.getElem?_zip_eq_some] at hi;obtain ⟨hi1,hi2⟩:=hi;have hkl:k∈lf.map (·.1):=List.mem_map.2 ⟨_,List.mem_of_getElem? hj,rfl⟩;have hkc:k∈cs:=List.mem_of_getElem? hi1;refine bN rfl ⟨_,_,he,_,rfl, ?_⟩;have h:Ow B w0 w' (ar gl ps (cs.map fun d=>if d∈lf.map (·.1) then ent d else { ent d with waits:=(ent d).waits+1})::pW (Value.int .i64) oj m it (cs.zip ps) (lf.eraseIdx j)::aQ l nc cs::aa b [.pointer (some ⟨l,0,none⟩), .map (some m), .z (ph dR e.waits)]::R):=Ow.dz h;have h:=h.zW (j:=i) (p:=v) (x:=ent k) hi2 (by rw[List.getElem?_map,hi1,Option.map_some,if_pos hkl]);have h:Ow B w0 w' (aa v (sD (ent k))::_):=h;have hwk:=hw k hkc;refine ⟨_,h.ao rfl,_,rfl, ?_⟩;refine h.cC rfl rfl fun w h=>?_
    rw[wr om om] at h;have h:Ow B w0 w (gl v { ent k with waits:=(ent k).waits+1}::_):=h;have h:=h.dp (by rw[List.length_map];exact hl) hi2;refine ih (lf.eraseIdx j) w (by rw[List.length_eraseIdx_of_lt (List.getElem?_eq_some_iff.1 hj).1];omega) (fun x hx=>hsub x (List.mem_of_mem_eraseIdx hx)) (List.Nodup.sublist ((List.eraseIdx_sublist lf j).map _) hn) ?_
    have hset:(cs.map fun d=>if d∈lf.map (·.1) then ent d else { ent d with waits:=(ent d).waits+1}).set i { ent k with waits:=(ent k).waits+1}=cs.map fun d=>if d∈(lf.eraseIdx j).map (·.1) then ent d else { ent d with waits:=(ent d).waits+1}:=by
     apply List.ext_getElem?;intro t;rw[List.getElem?_set];split
     ·rename_i e1
      subst e1;have hlt:=(List.getElem?_eq_some_iff.1 hi1).1;rw[if_pos (by rw[List.length_map];exact hlt),List.getElem?_map,hi1,Option.map_some,if_neg];exact fun hh=>uH hn hj hh
     ·rename_i e1
      rw[List.getElem?_map,List.getElem?_map];cases hct:cs[t]? with
      |none=>rfl
      |some a=>
       have hak:a≠k:=fun e2=>e1 ((List.getElem?_inj (List.getElem?_eq_some_iff.1 hi1).1 hcs).1 (by rw[hi1,hct,e2]))
       rw[Option.map_some,Option.map_some];have:a∈(lf.eraseIdx j).map (·.1)↔a∈lf.map (·.1):=xD hj hak;by_cases e3:a∈lf.map (·.1)
       ·rw[if_pos e3,if_pos (this.2 e3)]
       ·rw[if_neg e3,if_neg (fun e4=>e3 (this.1 e4))]
    rw[hset] at h;exact Ow.dz h
 refine loop (cs.zip ps).length (cs.zip ps) w1 rfl (fun x hx=>hx) ?_ ?_
 ·rw[List.map_fst_zip om];exact hcs
 ·have e1:(cs.map fun d=>if d∈(cs.zip ps).map (·.1) then ent d else { ent d with waits:=(ent d).waits+1})=cs.map ent:=List.map_congr_left fun a ha=>by rw[List.map_fst_zip om,if_pos ha]
  rw[e1];exact h
end
section
variable {nc N g:Nat} {m m0:bz} {items:List Item}
theorem uO (hm:bW nc N g m) {c:Int} (h0:0≤c) (h1:c<(nc:Int)):m.item ⟨0,c,0,0⟩=m.step c:=by
 have hcs:=hm.cs;have hn8:=hm.n8;have hr:bj ⟨0,c,0,0⟩ m.cs.length=true:=decide_eq_true (by dsimp only;omega);unfold bz.item;rw[if_neg (by rw[hr];decide),if_neg (show ¬(0:Int)=1 by decide),if_pos rfl]
theorem CL (hm:bW nc N g m) (h:nE nc m) (hr:Rest nc m) {c:Int} (h0:0≤c) (h1:c<(nc:Int)):(m.step c).2=m:=by
 have hb:m.box c= []:=by
  have:=zq hm h0 h1;cases hx:m.box c with
  |nil=>rfl
  |cons y r=>
   rw[hx] at this;obtain ⟨a,b⟩:=h.bx _ (List.mem_of_getElem? this) y List.mem_cons_self;rw[hr _ a.1 a.2] at b;cases b
 have hd:=hr c h0 h1;unfold bz.step;rw[hb];dsimp only;rw[hd,if_neg (by decide),if_neg (by decide),if_neg (fun hh=>by have:=hh.1;omega)]
theorem F3 (k:ai) (prog:List Call) (room:Int) (hk:jG k.ae=0):kA (eh k nc prog room)=0:=by
 unfold kA jE eh;dsimp only;rw[hk]
 have:∀n:Nat,((List.replicate n ([]:List cP)).map List.length).sum=0:=fun n=>by
  induction n with
  |zero=>rfl
  |succ n ih=>rw[List.replicate_succ,List.map_cons,List.sum_cons,ih];rfl
 rw[this]
end
structure Da (nc k:Nat) (s:vC):Prop where
 nd:s.line.Nodup
 lr:∀c∈s.line,0≤c/\c<(nc:Int)
 wt:∀c∈s.line,0≤(s.ent c).waits/\(s.ent c).waits≤(k:Int)
section
variable {nc k:Nat} {s s':vC} {x:Seen} {fs:Sl}
theorem Da.new:Da nc 0 wT:=⟨List.nodup_nil,fun c h=>(by cases h),fun c h=>(by cases h)⟩
theorem Da.mono (h:Da nc k s):Da nc (k+1) s:=⟨h.nd,h.lr,fun c hc=>by have:=h.wt c hc;omega⟩
theorem Da.step (h:Da nc k s) (c0:0≤x.core) (c1:x.core<(nc:Int)) (e:du s x fs=some s'):Da nc (k+1) s':=by
 unfold du at e;split at e
 ·split at e
  ·cases e
  ·rename_i hn
   cases e;refine ⟨?_, ?_, ?_⟩
   ·show (s.line++ [x.core]).Nodup
    exact List.nodup_append.2 ⟨h.nd,by simp,fun a ha b hb=>by rw[List.mem_singleton.1 hb];exact fun e=>hn (e▸ha)⟩
   ·intro c hc
    rcases List.mem_append.1 hc with hc|hc
    ·exact h.lr c hc
    ·rw[List.mem_singleton.1 hc];exact ⟨c0,c1⟩
   ·intro c hc
    show 0≤(if c=x.core then _ else s.ent c).waits/\(if c=x.core then _ else s.ent c).waits≤_;by_cases e:c=x.core
    ·rw[if_pos e];show (0:Int)≤0/\(0:Int)≤_;omega
    ·rw[if_neg e]
     have:=h.wt c ((List.mem_append.1 hc).resolve_right fun hh=>e (List.mem_singleton.1 hh));omega
 split at e
 ·split at e
  ·cases e
   refine ⟨h.nd,h.lr,fun c hc=>?_⟩;show 0≤(if c=x.core then _ else s.ent c).waits/\(if c=x.core then _ else s.ent c).waits≤_;have:=h.wt c hc;by_cases e:c=x.core
   ·rw[if_pos e];rw[e] at this;show 0≤(s.ent x.core).waits/\(s.ent x.core).waits≤_;omega
   ·rw[if_neg e];omega
  ·cases e
 split at e
 ·split at e
  ·cases e
   refine ⟨h.nd.sublist (List.tail_sublist _),fun c hc=>h.lr c (List.mem_of_mem_tail hc),fun c hc=>?_⟩;have:=h.wt c (List.mem_of_mem_tail hc);show 0≤(s.ent c).waits+1/\(s.ent c).waits+1≤_;omega
  ·cases e
 split at e
 ·split at e
  ·cases e
  ·cases e;exact h.mono
 split at e
 ·split at e
  ·cases e;exact h.mono
  ·cases e
 ·cases e
end
def HY (s:ByteArray) (j:Nat):Int:=((s[j]?.map UInt8.toNat).getD 0:Nat)
def Jg (s:ByteArray) (i:Nat):Item:=⟨HY s (i*4),HY s (i*4+1),HY s (i*4+2),HY s (i*4+3)⟩
def AP (s:ByteArray) (t:Nat):List Item:=(List.range t).map (Jg s)
def EL (s:ByteArray) (aO:Int) (t:Nat):List Item:=(AP s t).filter fun x=>bj x aO
theorem sK (s:ByteArray) (t:Nat):AP s (t+1)=AP s t++ [Jg s t]:=by unfold AP;rw[List.range_succ,List.map_append];rfl
theorem EM (s:ByteArray) (aO:Int) (t:Nat):(EL s aO t).length≤t:=by
 refine Nat.le_trans (List.length_filter_le _ _) ?_;unfold AP;rw[List.length_map,List.length_range];exact Nat.le_refl _
section
variable {nc N g:Nat} {m m0:bz}
theorem Ce (hm:bW nc N g m) (x:Item) {y:Seen} (h:(m.item x).1=some y):0≤y.core/\y.core<(nc:Int):=by
 have hcs:=hm.cs;unfold bz.item at h;split at h
 ·cases h
 rename_i hr;have hr:bj x m.cs.length=true:=by cases e:bj x m.cs.length with|true=>rfl|false=>exact absurd e hr
 obtain ⟨k0,k1,c0,c1,_,_⟩:=ik.1 hr;have c2:x.core<(nc:Int):=by omega
 split at h
 ·unfold bz.user at h
  split at h
  ·cases h
  split at h
  ·cases h;exact ⟨c0,c2⟩
  split at h<;>cases h
 split at h
 ·unfold bz.step at h
  split at h
  ·cases h
  split at h
  ·cases h;exact ⟨c0,c2⟩
  split at h
  ·split at h
   ·have h:some (m.nF x.core).1=some y:=h
    cases h;exact ⟨c0,c2⟩
   ·cases h
  split at h
  ·cases h;exact ⟨c0,c2⟩
  ·cases h
 split at h
 ·cases h
 split at h
 ·cases h;exact ⟨c0,c2⟩
 ·cases h;exact ⟨c0,c2⟩
structure Rn (nc N g:Nat) (m:bz) (l:List (Seen × Sl)):Prop where
 hm:bW nc N g m
 lo:nE nc m
 pr:Dk m.prog
 ws:∃s,pQ wT l=some s/\kK nc m s
 co:∀x∈l,0≤x.1.core/\x.1.core<(nc:Int)
 fw:∀x∈l,x.1.t.forget.length≤g
def uc (l:List (Seen × Sl)) (r:Option Seen) (fs:Sl):List (Seen × Sl):=match r with
 |none=>l
 |some y=>l++ [(y,fs)]
theorem Rn.next {l:List (Seen × Sl)} (h:Rn nc N g m l) (hN:N+64≤100000) (x:Item) (fs:Sl):Rn nc (N+64) (g+1) (m.item x).2 (uc l (m.item x).1 fs):=by
 obtain ⟨s,hs,hw⟩:=h.ws;have hone:=hw.item h.lo h.hm x;refine ⟨(h.hm.item om x).1,h.lo.item h.hm x,by rw[Cf];exact h.pr, ?_, ?_, ?_⟩
 ·unfold FP at hone
  cases hr:(m.item x).1 with
  |none=>
   rw[hr] at hone;exact ⟨s,hs,hone⟩
  |some y=>
   rw[hr] at hone;obtain ⟨s',h1,h2⟩:=hone fs;refine ⟨s', ?_,h2⟩;show pQ wT (l++ [(y,fs)])=some s';rw[yZ,hs];exact h1
 ·cases hr:(m.item x).1 with
  |none=>exact h.co
  |some y=>
   intro z hz;rcases List.mem_append.1 hz with hz|hz
   ·exact h.co z hz
   ·rw[List.mem_singleton.1 hz];exact Ce h.hm x hr
 ·have hf:=(h.hm.item om x).2
  cases hr:(m.item x).1 with
  |none=>exact fun z hz=>Nat.le_succ_of_le (h.fw z hz)
  |some y=>
   intro z hz;rcases List.mem_append.1 hz with hz|hz
   ·exact Nat.le_succ_of_le (h.fw z hz)
   ·rw[List.mem_singleton.1 hz];exact hf y hr
def pM (nc:Nat) (m0:bz):Nat->bz
 |0=>m0
 |i+1=>((pM nc m0 i).item ⟨0,((i%nc:Nat):Int),0,0⟩).2
def Idle (m:bz) (n:Int):Prop:=m.box n= []/\(m.ag n).aT≠1/\((m.ag n).aT=2->fG m.line n=false)/\((m.ag n).aT=3->eG m.bx n≠0)
theorem wR (hm:bW nc N g m0) (hl:nE nc m0) (hN:N+40000≤100000):∀i,i≤600->bW nc (N+64*i) (g+i) (pM nc m0 i)/\nE nc (pM nc m0 i)
 |0,_=>⟨hm,hl⟩
 |i+1,hi=>by
  obtain ⟨a,b⟩:=wR hm hl hN i om;exact ⟨((a.item om _).1).mono om (Nat.le_refl _),b.item a _⟩
theorem vp (hm:bW nc N g m0) (hl:nE nc m0) (h3:nc≤3) (hN:N+40000≤100000) {i:Nat} (hi:i+nc≤600):∀j,j≤nc->(pM nc m0 (i+j)=pM nc m0 i/\∀t,t<j->Idle (pM nc m0 i) (((i+t)%nc:Nat):Int))∨Dc (pM nc m0 (i+j))+1≤Dc (pM nc m0 i)
 |0,_=> .inl ⟨rfl,fun t ht=>by omega⟩
 |j+1,hj=>by
  obtain ⟨a,b⟩:=wR hm hl hN (i+j) om;have hlt:=Nat.mod_lt (i+j) (show 0<nc by omega)
  have e:pM nc m0 (i+(j+1))=((pM nc m0 (i+j)).step (((i+j)%nc:Nat):Int)).2:=by
   rw[show pM nc m0 (i+(j+1))=((pM nc m0 (i+j)).item ⟨0,(((i+j)%nc:Nat):Int),0,0⟩).2 from rfl,uO a om om]
  have hs:=ES a h3 (n:=(((i+j)%nc:Nat):Int)) om om;rw[←e] at hs;rcases vp hm hl h3 hN hi j om with ⟨h1,h2⟩|h1
  ·rcases hs with ⟨s1,s2⟩|hs
   ·refine .inl ⟨s1.trans h1,fun t ht=>?_⟩
    by_cases e:t=j
    ·subst e;rw[h1] at s2;exact s2
    ·exact h2 t om
   ·rw[h1] at hs;exact .inr hs
  ·rcases hs with ⟨s1,_⟩|hs
   ·rw[s1];exact .inr h1
   ·exact .inr om
theorem tC (hm:bW nc N g m0) (hl:nE nc m0) (hN:N+40000≤100000) {i:Nat} (hr:Rest nc (pM nc m0 i)):∀d,i+d≤600->Rest nc (pM nc m0 (i+d))
 |0,_=>hr
 |d+1,hd=>by
  have ih:=tC hm hl hN hr d om;obtain ⟨a,b⟩:=wR hm hl hN (i+d) om;have h1:=hm.n1;have hlt:=Nat.mod_lt (i+d) (show 0<nc by omega);rw[show pM nc m0 (i+(d+1))=((pM nc m0 (i+d)).item ⟨0,(((i+d)%nc:Nat):Int),0,0⟩).2 from rfl,uO a om om,CL a b ih om om];exact ih
theorem Fp (hm:bW nc N g m0) (hl:nE nc m0) (h3:nc≤3) (hN:N+40000≤100000) (hb:kA m0≤120):Rest nc (pM nc m0 600):=by
 have h1:=hm.n1;have hle:∀r,r≤200->nc*r≤600:=fun r hr=>Nat.mul_le_mul h3 hr
 have key:∀r,r≤200->Rest nc (pM nc m0 (nc*r))∨Dc (pM nc m0 (nc*r))+r≤Dc m0:=fun r=>by
  induction r with
  |zero=>exact fun _=> .inr (Nat.le_refl _)
  |succ r ih=>
   intro hr;have hle1:=hle (r+1) hr;rw[Nat.mul_succ] at hle1⊢;rcases ih om with h|h
   ·exact .inl (tC hm hl hN h nc hle1)
   ·rcases vp hm hl h3 hN hle1 nc (Nat.le_refl _) with ⟨e1,e2⟩|h2
    ·obtain ⟨a,b⟩:=wR hm hl hN (nc*r) om
     rw[e1];refine .inl (GA a b fun n n0 n1=>?_);have:=e2 n.toNat om;rw[Nat.mul_add_mod,Nat.mod_eq_of_lt om,Int.toNat_of_nonneg n0] at this;exact this
    ·exact .inr om
 have hp:=HI hm h3;rcases key 200 (Nat.le_refl _) with h|h
 ·have:=tC hm hl hN h (600-nc*200) (by have:=hle 200 (Nat.le_refl _);omega)
  rw[show nc*200+(600-nc*200)=600 by have:=hle 200 (Nat.le_refl _);omega] at this;exact this
 ·omega
end
section
variable {B:Nat} {w0 w:World} {R L:List aA} {α:Type} {A:Nat->α->aA} {ps:List Nat} {xs:List α} {p:Nat} {x:α}
theorem Gw (h:Ow B w0 w (ar A (p::ps) (x::xs)::R)):Ow B w0 w (A p x::ar A ps xs::R):=by
 obtain ⟨hl,h⟩:=h.zX;have h:Ow B w0 w (A p x::(List.zipWith A ps xs++R)):=h;exact Ow.dz (Ow.iH (by simpa using hl) (h.perm List.perm_middle.symm))
theorem CG (h:Ow B w0 w (A p x::ar A ps xs::R)):Ow B w0 w (ar A (p::ps) (x::xs)::R):=by
 obtain ⟨hl,h⟩:=(Ow.dz h).zX;exact Ow.iH (by simp[hl]) (show Ow B w0 w (A p x::(List.zipWith A ps xs++R)) from h.perm List.perm_middle)
end
section
variable {B:Nat} {w0 w:World} {R L:List aA} {b nc k:Nat} {s s':vC} {x:Seen} {fs:Sl}
theorem BA.step (h:BA B w0 R s) (hx:Rd aw B w0 R fs x.t.forget/\x.t.forget.length≤1000000) (e:du s x fs=some s'):BA B w0 R s':=by
 unfold du at e;split at e
 ·split at e
  ·cases e
  ·cases e
   intro c hc hd;have hd:(if c=x.core then _ else s.ent c).nF=true:=hd;show Rd aw B w0 R (if c=x.core then _ else s.ent c).fs (if c=x.core then _ else s.ent c).t.forget/\(if c=x.core then _ else s.ent c).t.forget.length≤_;by_cases e:c=x.core
   ·rw[if_pos e] at hd;cases hd
   ·rw[if_neg e] at hd⊢
    exact h c ((List.mem_append.1 hc).resolve_right fun hh=>e (List.mem_singleton.1 hh)) hd
 split at e
 ·split at e
  ·cases e
   intro c hc hd;have hd:(if c=x.core then _ else s.ent c).nF=true:=hd;show Rd aw B w0 R (if c=x.core then _ else s.ent c).fs (if c=x.core then _ else s.ent c).t.forget/\(if c=x.core then _ else s.ent c).t.forget.length≤_;by_cases e:c=x.core
   ·rw[if_pos e];exact hx
   ·rw[if_neg e] at hd⊢
    exact h c hc hd
  ·cases e
 split at e
 ·split at e
  ·cases e
   exact fun c hc hd=>h c (List.mem_of_mem_tail hc) hd
  ·cases e
 split at e
 ·split at e
  ·cases e
  ·cases e;exact h
 split at e
 ·split at e
  ·cases e;exact h
  ·cases e
 ·cases e
theorem Aq (e:du s x fs=some s'):x.core∉s.line∨s.line.head?=some x.core/\(x.kind=1∨x.kind=2):=by
 unfold du at e;split at e
 ·split at e
  ·cases e
  ·rename_i h;exact .inl h
 split at e
 ·split at e
  ·rename_i h1 h;exact .inr ⟨h.1, .inl h1⟩
  ·cases e
 split at e
 ·split at e
  ·rename_i h1 h;exact .inr ⟨h.1, .inr h1⟩
  ·cases e
 split at e
 ·split at e
  ·cases e
  ·rename_i h;exact .inl h
 split at e
 ·split at e
  ·rename_i h;exact .inl (by rw[h];exact List.not_mem_nil)
  ·cases e
 ·cases e
set_option maxHeartbeats 1000000 in
theorem Gp {K:Bool->Pw} (c0:0≤x.core) (c1:x.core<(nc:Int)) (hn:x.core∉s.line) (e:du s x fs=some s') (h:Ow B w0 w (rv b nc s::R))
  (hK:∀w',Ow B w0 w' (rv b nc s'::R)->K true w'):
  C.qat (some ⟨b,0,none⟩) x.kind x.core x.n x.t.e x.t.w x.t.dg fs x.p.1 x.p.2 x.is K w:=by
 apply S.qat0;refine h.a fun sb w1 h=>?_;refine ⟨_,h.ao rfl, ?_⟩;obtain ⟨y,hy,h⟩:=IK h.dz;refine B5 (x:=y) c0 c1 hn h ?_;refine h.dr fun w h=>?_
 refine ⟨_,rfl,_,h.ao rfl,_,h.ao rfl,⟨none,false,(h.nh Tryz.underlying81 (aF .i64 Tryz.underlying3) Br 2 rfl (tK hn)).1, ?_⟩,trivial⟩;refine ⟨_,h.aq rfl, ?_⟩;intro k24 hk24;unfold du at e;refine gB (fun e0=>?_) (fun e0=>?_)
 ·rw[if_pos e0,if_neg hn] at e
  cases e;refine h.dr fun w h=>?_
  refine ⟨_,rfl,_,h.aq rfl,_,h.ao rfl, ?_,trivial⟩;refine kB c0 c1 hn (h.pick (A:=aQ y.l nc s.line)) fun w h=>?_
  refine fP rfl ?_;refine h.dr fun w h=>?_
  refine ⟨_,rfl,_,h.ao rfl,_,h.ao rfl,_,h.ao rfl, ?_,trivial⟩;refine h.a fun p w1 h=>?_;refine ⟨?_,trivial⟩;have h:Ow B w0 w1 (dI (Value.int .i64) oj y.m (s.line.zip y.ps)::aa p [.z x.n, .bool false, .z 0, .y 0, .z 0, .slice none 0 0, .z 0]::aa b [.pointer (some ⟨y.l,0,none⟩), .map (some y.m), .z s.dR]::aQ y.l nc (s.line++ [x.core])::ar gl y.ps (s.line.map s.ent)::R):=h.sub;refine h.iS (k:=x.core) (v:=p) (M:=s.line.zip y.ps) (m:=y.m) (enc:=Value.int .i64) (encV:=oj) Tryz.underlying81 (aF .i64 Tryz.underlying3) 0 rfl fun w h=>?_
  rw[Bt hn hy] at h;have h:Ow B w0 w (dI (Value.int .i64) oj y.m ((s.line++ [x.core]).zip (y.ps++ [p]))::gl p ⟨x.n,false,tZ,⟨none,0,0⟩,0⟩::aa b [.pointer (some ⟨y.l,0,none⟩), .map (some y.m), .z s.dR]::aQ y.l nc (s.line++ [x.core])::ar gl y.ps (s.line.map s.ent)::R):=h;have h:Ow B w0 w (gl p ⟨x.n,false,tZ,⟨none,0,0⟩,0⟩::ar gl y.ps (s.line.map s.ent)::aa b [.pointer (some ⟨y.l,0,none⟩), .map (some y.m), .z s.dR]::aQ y.l nc (s.line++ [x.core])::dI (Value.int .i64) oj y.m ((s.line++ [x.core]).zip (y.ps++ [p]))::R):=h.sub;have h:=h.pz
  have em:(s.line++ [x.core]).map (fun c=>if c=x.core then (⟨x.n,false,tZ,⟨none,0,0⟩,0⟩:FL) else s.ent c)=s.line.map s.ent++ [⟨x.n,false,tZ,⟨none,0,0⟩,0⟩]:=by
   rw[List.map_append,List.map_cons,List.map_nil,if_pos rfl];congr 1;exact List.map_congr_left fun a ha=>if_neg (fun e=>hn (by rw[←e];exact ha))
  rw[←em] at h;refine hK w (sT ⟨y.l,y.m,y.ps++ [p]⟩ ?_);exact (h.sub:Ow B w0 w (aa b [.pointer (some ⟨y.l,0,none⟩), .map (some y.m), .z s.dR]::aQ y.l nc (s.line++ [x.core])::dI (Value.int .i64) oj y.m ((s.line++ [x.core]).zip (y.ps++ [p]))::ar gl (y.ps++ [p]) ((s.line++ [x.core]).map (fun c=>if c=x.core then (⟨x.n,false,tZ,⟨none,0,0⟩,0⟩:FL) else s.ent c))::R))
 rw[if_neg e0] at e;refine gB (fun e1=>?_) (fun e1=>?_)
 ·rw[if_pos e1,if_neg (fun hh=>hn (List.mem_of_mem_head? hh.1))] at e
  cases e
 rw[if_neg e1] at e;refine gB (fun e2=>?_) (fun e2=>?_)
 ·rw[if_pos e2,if_neg (fun hh=>hn (List.mem_of_mem_head? hh.1))] at e
  cases e
 rw[if_neg e2] at e;have fin:s'=s->Ow B w0 w (rv b nc s'::R):=fun e=>by rw[e];exact sT y h.sub
 refine gB (fun e3=>?_) (fun e3=>?_)
 ·rw[if_pos e3,if_neg hn] at e
  cases e;exact hK w (fin rfl)
 rw[if_neg e3] at e
 have go:x.kind=4∨x.kind=5->k24 w:=fun hh=>by
  rw[if_pos hh] at e;split at e
  ·rename_i hl
   cases e;apply hk24;have hlen:=h.Jm (t:=3) (M:=s.line.zip y.ps) (m:=y.m) (enc:=Value.int .i64) (encV:=oj) Tryz.underlying81 2 rfl;rw[hl] at hlen;exact ⟨_,rfl,_,h.ao rfl,_,hlen,hK w (fin rfl)⟩
  ·cases e
 refine gB (fun e4=>go (.inl e4)) (fun e4=>?_);refine gB (fun e5=>go (.inr e5)) (fun e5=>?_);rw[if_neg om] at e;cases e
set_option maxHeartbeats 1000000 in
theorem Ex {K:Bool->Pw} (hk:Da nc k s) (hk8:k≤1000000) (hh:s.line.head?=some x.core) (h12:x.kind=1∨x.kind=2) (rd:BA B w0 R s) (rx:Rd aw B w0 R fs x.t.forget/\x.t.forget.length≤1000000) (e:du s x fs=some s')
  (h:Ow B w0 w (rv b nc s::R)) (hK:∀w',Ow B w0 w' (rv b nc s'::R)->K true w'):
  C.qat (some ⟨b,0,none⟩) x.kind x.core x.n x.t.e x.t.w x.t.dg fs x.p.1 x.p.2 x.is K w:=by
 obtain ⟨line,ent,dR⟩:=s
 obtain ⟨cs,rfl⟩:∃cs,line=x.core::cs:=by
  cases line with
  |nil=>cases hh
  |cons a cs=>cases hh;exact ⟨cs,rfl⟩
 have hin:x.core∈(x.core::cs:List Int):=List.mem_cons_self;obtain ⟨c0,c1⟩:=hk.lr x.core hin;have hnd:(x.core::cs).Nodup:=hk.nd;have hnc:=(List.nodup_cons.1 hnd).1;have rdc:=rd x.core hin;have hwt:=hk.wt;dsimp only at hwt rdc;apply S.qat0;refine h.a fun sb w1 h=>?_;refine ⟨_,h.ao rfl, ?_⟩;obtain ⟨⟨yl,ym,yps⟩,hy,h⟩:=IK h.dz;dsimp only at hy h;cases yps with
 |nil=>cases hy
 |cons p ps=>
 have hps:ps.length=cs.length:=by simpa using hy
 have h:Ow B w0 w1 (aa b [.pointer (some ⟨yl,0,none⟩), .map (some ym), .z dR]::aQ yl nc (x.core::cs)::dI (Value.int .i64) oj ym ((x.core,p)::cs.zip ps)::ar gl (p::ps) (ent x.core::cs.map ent)::aa sb [.z x.kind, .z x.core, .z x.n, .z x.t.e, .y x.t.w, .z x.t.dg, .slice fs.a fs.len fs.cap, .z x.p.1, .z x.p.2, .bool x.is]::R):=h;refine zr c0 c1 h ?_;refine h.dr fun w h=>?_
 refine ⟨_,rfl,_,h.ao rfl,_,h.ao rfl,⟨_,true,(h.mF (k:=x.core) (v:=p) Tryz.underlying81 (aF .i64 Tryz.underlying3) 2 rfl (by simp[cF])).1, ?_⟩,trivial⟩;refine ⟨_,h.aq rfl, ?_⟩;intro k24 hk24;have h:Ow B w0 w (ar gl (p::ps) (ent x.core::cs.map ent)::aa b [.pointer (some ⟨yl,0,none⟩), .map (some ym), .z dR]::aQ yl nc (x.core::cs)::dI (Value.int .i64) oj ym ((x.core,p)::cs.zip ps)::aa sb [.z x.kind, .z x.core, .z x.n, .z x.t.e, .y x.t.w, .z x.t.dg, .slice fs.a fs.len fs.cap, .z x.p.1, .z x.p.2, .bool x.is]::R):=h.sub;have h:=Gw (A:=gl) h;have h:Ow B w0 w (aa p (sD (ent x.core))::_):=h;unfold du at e;rw[if_neg om] at e;refine vN om ?_;refine gB (fun e1=>?_) (fun e1=>?_)
 ·rw[if_pos e1] at e
  dsimp only at e;split at e
  case isFalse=>cases e
  rename_i hc;cases e;intro k42 hk42;refine h.dr fun w h=>?_
  refine bD rfl ?_;refine ⟨_,rfl,_,h.aq rfl,_,h.ao rfl, ?_⟩;refine fP hc.2.1 ?_;refine ⟨_,rfl,_,h.ao rfl, ?_⟩;apply hk42;refine bD hc.2.2 ?_;refine h.dr fun w h=>?_
  refine ⟨_,rfl, ?_⟩;simp only[aI,Nat.zero_add];refine h.gH (x3:=fs) rfl ?_;refine ⟨?_,trivial⟩;refine h.dy rfl rfl fun w h=>?_
  refine h.hd rfl ?_;refine ⟨_,rfl, ?_,trivial⟩;simp only[aI,Nat.zero_add];refine h.ax rfl rfl fun w h=>?_
  have h:Ow B w0 w (aa p [.z (ent x.core).n, .bool true, .z x.t.e, .y x.t.w, .z x.t.dg, .slice fs.a fs.len fs.cap, .z (ent x.core).waits]::_):=h;rw[hc.2.1] at h;have h:Ow B w0 w (gl p ⟨x.n,true,x.t,fs,(ent x.core).waits⟩::ar gl ps (cs.map ent)::aa b [.pointer (some ⟨yl,0,none⟩), .map (some ym), .z dR]::aQ yl nc (x.core::cs)::dI (Value.int .i64) oj ym ((x.core,p)::cs.zip ps)::aa sb _::R):=h;have h:=CG h;refine hK w (sT ⟨yl,ym,p::ps⟩ ?_)
  have em:(x.core::cs).map (fun c=>if c=x.core then (⟨x.n,true,x.t,fs,(ent x.core).waits⟩:FL) else ent c)=⟨x.n,true,x.t,fs,(ent x.core).waits⟩::cs.map ent:=by
   rw[List.map_cons,if_pos rfl];congr 1;exact List.map_congr_left fun a ha=>if_neg (fun e=>hnc (by rw[←e];exact ha))
  rw[←em] at h;exact (h.sub:Ow B w0 w (aa b [.pointer (some ⟨yl,0,none⟩), .map (some ym), .z dR]::aQ yl nc (x.core::cs)::dI (Value.int .i64) oj ym ((x.core,p)::cs.zip ps)::ar gl (p::ps) ((x.core::cs).map (fun c=>if c=x.core then (⟨x.n,true,x.t,fs,(ent x.core).waits⟩:FL) else ent c))::R))
 ·rw[if_neg e1,if_pos om] at e
  dsimp only at e;refine rz om ?_;split at e
  case isFalse=>cases e
  rename_i hc;obtain ⟨_,hcn,hcd,hct⟩:=hc;cases e;obtain ⟨r1,r2⟩:=rdc hcd;intro k60 hk60;refine h.dr fun w h=>?_
  refine bD rfl ?_;refine ⟨_,rfl,_,h.aq rfl,_,h.ao rfl, ?_⟩;refine fP hcn ?_;refine ⟨_,rfl,_,h.ao rfl, ?_⟩;refine bD (by rw[hcd];rfl) ?_;refine ⟨_,rfl, ?_⟩;simp only[aI,Nat.zero_add];refine h.gH (x3:=(ent x.core).fs) rfl ?_;refine h.gH (x3:=fs) rfl ?_;refine ⟨?_,trivial⟩;rw[hct] at r1⊢;refine zP h r1.more rx.1.more rx.2 fun w h=>?_
  apply hk60;refine bD rfl ?_;refine ⟨_,h.ao rfl, ?_⟩;refine Cl (l:=yl) (m:=ym) (p:=p) (e:=ent x.core) (ent:=ent) hnd hps (fun d hd=>by have:=hwt d (List.mem_cons_of_mem _ hd);omega) (h.sub:Ow B w0 w (aa b [.pointer (some ⟨yl,0,none⟩), .map (some ym), .z dR]::aQ yl nc (x.core::cs)::dI (Value.int .i64) oj ym ((x.core,p)::cs.zip ps)::aa p (sD (ent x.core))::ar gl ps (cs.map ent)::R)) fun w h=>?_
  exact hK w (sT ⟨yl,ym,ps⟩ h)
theorem Ey {K:Bool->Pw} (hk:Da nc k s) (hk8:k≤1000000) (c0:0≤x.core) (c1:x.core<(nc:Int)) (rd:BA B w0 R s) (rx:Rd aw B w0 R fs x.t.forget/\x.t.forget.length≤1000000) (e:du s x fs=some s')
  (h:Ow B w0 w (rv b nc s::R)) (hK:∀w',Ow B w0 w' (rv b nc s'::R)->K true w'):
  C.qat (some ⟨b,0,none⟩) x.kind x.core x.n x.t.e x.t.w x.t.dg fs x.p.1 x.p.2 x.is K w:=by
 rcases Aq e with hn|⟨hh,h12⟩
 ·exact Gp c0 c1 hn e h hK
 ·exact Ex hk hk8 hh h12 rd rx e h hK
end
def dC:cQ (Seen × Sl):=⟨10,fun x=>[.z x.1.kind, .z x.1.core, .z x.1.n, .z x.1.t.e, .y x.1.t.w, .z x.1.t.dg, .slice x.2.a x.2.len x.2.cap, .z x.1.p.1, .z x.1.p.2, .bool x.1.is],fun _=>rfl,fun x v h=>by
 simp only[List.mem_cons,List.not_mem_nil,or_false] at h;rcases h with rfl|rfl|rfl|rfl|rfl|rfl|rfl|rfl|rfl|rfl<;>rfl,by decide⟩
theorem Hy {w:World} {a:Addr} {x:Seen × Sl} {f:Int->Int->Int->Int->Int->Int->Sl->Int->Int->Bool->Prop} (g:∀c v,(dC.enc x)[c]?=some v->w.cell? (a.add c)=some v) (hf:f x.1.kind x.1.core x.1.n x.1.t.e x.1.t.w x.1.t.dg x.2 x.1.p.1 x.1.p.2 x.1.is):
  az w a 0 [.o, .o, .o, .o, .u, .o, .s, .o, .o, .b] f:=
 ⟨_,g 0 _ rfl,_,g 1 _ rfl,_,g 2 _ rfl,_,g 3 _ rfl,_,g 4 _ rfl,_,g 5 _ rfl,x.2,g 6 _ rfl,_,g 7 _ rfl,_,g 8 _ rfl,_,g 9 _ rfl,hf⟩
def tL (l:List (Seen × Sl)):aA:=bh (l.map fun x=>ah aw x.2 x.1.t.forget)
section
variable {B:Nat} {w0 w:World} {R L:List aA} {l:List (Seen × Sl)} {x:Seen × Sl} {nc:Nat}
theorem Ir [I:dG (tL l) L R] (h:Ow B w0 w L) (hx:x∈l):Rd aw B w0 L x.2 x.1.t.forget:=by
 obtain ⟨i,hi⟩:=List.getElem?_of_mem hx
 have hi2:(l.map (fun x=>ah aw x.2 x.1.t.forget)++R)[i]?=some (ah aw x.2 x.1.t.forget):=by
  rw[List.getElem?_append_left (by rw[List.length_map];exact (List.getElem?_eq_some_iff.1 hi).1),List.getElem?_map,hi];rfl
 have op:∀w',Ow B w0 w' L->Ow B w0 w' (l.map (fun x=>ah aw x.2 x.1.t.forget)++R):=fun w' h=>Ow.star (Ow.pick (I:=I) h)
 refine ⟨(op w h).len i hi2,fun w' h i2 j x hij hj=>?_⟩;have h:=op w' h;obtain ⟨b,o,ha,hc⟩:=h.get i hi2 hj;have e2:i2.toNat=j:=by omega
 refine ⟨_,ha,fun v hv=>?_,fun c v hv=>?_⟩
 ·rw[e2,aI]
  have:=hc 0 v hv;exact this
 ·rw[e2,aI,aI,Nat.add_assoc]
  exact hc c v hv
theorem DZ (h:Ow B w0 w R):Ow B w0 w (tL []::R):=Ow.aY h
theorem Hq {y:Seen} {fs:Sl} (h:Ow B w0 w (ah aw fs y.t.forget::tL l::R)):Ow B w0 w (tL (l++ [(y,fs)])::R):=by
 refine Ow.aY ?_;rw[List.map_append,List.append_assoc];exact ((Ow.dz h).star).perm (by exact List.Perm.refl _)
def IX (l:List (Seen × Sl)):Prop:=∀x∈l,x.1.t.forget.length≤1000000
set_option maxHeartbeats 1000000 in
theorem wU {s':vC} {sl:Sl} {K:Option Addr->Int->Pw} (n1:1≤nc) (n8:nc≤8) [I:bT sl L _ dC l] [J:dG (tL l) L R] (hco:∀x∈l,0≤x.1.core/\x.1.core<(nc:Int)) (hrun:pQ wT l=some s') (hfew:IX l) (hlen:l.length≤1000)
  (h:Ow B w0 w L) (hK:∀b w',Ow B w0 w' (rv b nc s'::L)->K (some ⟨b,0,none⟩) (-1) w'):C.qcL (nc:Int) sl K w:=by
 apply S.qcL0;have hrd:∀x∈l,Rd aw B w0 L x.2 x.1.t.forget/\x.1.t.forget.length≤1000000:=fun x hx=>⟨Ir h hx,hfew x hx⟩
 have hl:=h.br sl;refine mE n1 n8 h fun lb w h=>?_
 refine h.xk (Value.int .i64) oj fun w1 h=>?_
 generalize w.heap.size=mb at h⊢;refine h.a fun b w2 h=>?_;intro l8 hl8
 have loop:∀(d i:Nat) (s:vC) (w:World),i+d=l.length->pQ s (l.drop i)=some s'->Da nc i s->BA B w0 L s->Ow B w0 w (rv b nc s::L)->l8 (i:Int) w:=by
  intro d
  induction d with
  |zero=>
   intro i s w hi hr hok hent h;apply hl8;refine aE om ?_;rw[List.drop_eq_nil_of_le om] at hr;cases hr;exact hK b w h
  |succ d ih=>
   intro i s w hi hr hok hent h;obtain ⟨x,hx⟩:∃x,l[i]?=some x:=⟨_,gE om⟩
   have hxm:=List.mem_of_getElem? hx
   have hdr:l.drop i=x::l.drop (i+1):=by
    rw[List.drop_eq_getElem_cons om];congr 1;exact (List.getElem?_eq_some_iff.1 hx).2
   rw[hdr] at hr;have hr:((du s x.1 x.2).bind fun s=>pQ s (l.drop (i+1)))=some s':=hr;cases hs:du s x.1 x.2 with
   |none=>rw[hs] at hr;cases hr
   |some s1=>
   rw[hs] at hr;have hr:pQ s1 (l.drop (i+1))=some s':=hr;obtain ⟨c0,c1⟩:=hco x hxm;apply hl8;refine aR om ?_;refine h.dZ (s:=sl) (j:=i) rfl hx fun a ha hc0 hc=>?_
   refine Hy (x:=x) hc ?_;refine h.a fun tb w1 h=>?_;refine h.ax rfl rfl fun w h=>?_
   (try dsimp only[putAt,List.set_cons_zero,List.set_cons_succ] at h)
   intro k24 hk24;refine fP rfl ?_;refine ⟨_,h.ao rfl,aE om ⟨_,h.ao rfl,aE om ?_⟩⟩;refine h.nZ (x6:=x.2) rfl ?_;have h:Ow B w0 w (rv b nc s::aa tb _::L):=Ow.dz h;refine Ey (x:=x.1) (fs:=x.2) hok om c0 c1 (fun c hc hd=>⟨((hent c hc hd).1).more,(hent c hc hd).2⟩) ⟨((hrd x hxm).1).more,(hrd x hxm).2⟩ hs h fun w h=>?_
   apply hk24;refine bD rfl ?_;rw[wI i om];exact ih (i+1) s1 w om hr (hok.step c0 c1 hs) (hent.step (hrd x hxm) hs) h.yy
 refine loop l.length 0 wT w2 om hrun Da.new (fun c hc=>by cases hc) ?_;have h:Ow B w0 w2 (ar gl [] []::aa b [.pointer (some ⟨lb,0,none⟩), .map (some mb), .z 0]::dI (Value.int .i64) oj mb []::aQ lb nc []::L):=Ow.iH rfl h;have h:Ow B w0 w2 (aa b [.pointer (some ⟨lb,0,none⟩), .map (some mb), .z 0]::aQ lb nc []::dI (Value.int .i64) oj mb []::ar gl [] []::L):=h.sub;exact sT ⟨lb,mb,[]⟩ h
section
variable {s':vC} {sl:Sl}
theorem r6 {K:Int->Pw} (n1:1≤nc) (n8:nc≤8) [I:bT sl L _ dC l] [J:dG (tL l) L R] (hco:∀x∈l,0≤x.1.core/\x.1.core<(nc:Int)) (hrun:pQ wT l=some s') (hfew:IX l) (hlen:l.length≤1000)
  (h:Ow B w0 w L) (hK:∀w',Ow B w0 w' L->K (-1) w'):C.qcV (nc:Int) sl K w:=by
 apply S.qcV0;exact wU n1 n8 hco hrun hfew hlen h fun b w h=>hK w h.drop
end
end
end Go.Proofs.YtlhljbbfckbjpaaGreat.Mc
end
section
set_option maxRecDepth 8000
namespace Go.Proofs.YtlhljbbfckbjpaaGreat.Mc
open Go Go.Vc Go.Proofs Go.RowKit Go.Shelf
attribute [local go_sem] Oper.semAt_some
def IT (x:Item):Array Value:= #[.agg #[.z x.kind, .z x.core, .z x.a, .z x.b]]
theorem vJ {s:ByteArray} {t j:Nat} (h:t+j<s.size):∃h:j<(s.extract t s.size).size,HY s (t+j)=IntKind.i64.wrap (((s.extract t s.size)[j].toNat:Nat):Int):=by
 have h1:j<(s.extract t s.size).size:=by rw[ByteArray.size_extract];omega
 refine ⟨h1, ?_⟩;have h3:=UInt8.toNat_lt (s.extract t s.size)[j];rw[wr om om,ByteArray.getElem_extract];unfold HY;rw[getElem?_pos s (t+j) h];rfl
theorem AQ (s:ByteArray) (t:Nat):∀d,AP s t <+: AP s (t+d)
 |0=>List.prefix_refl _
 |d+1=>(AQ s t d).trans (by rw[show t+(d+1)=t+d+1 from rfl,sK];exact List.prefix_append _ _)
section
variable {F:Fence} {n:Nat} {P:Program} {md:Region.Mode} {ops:Array Oper} {Q:Exit->Act->Pw}
theorem JM {fuel:Nat} {l l':Array Bool} {a:Act} {w:World} (e:l=l') (h:wpAnyIn F n P md ops Q fuel l' a w):wpAnyIn F n P md ops Q fuel l a w:=e▸h
theorem JL {fuel:Nat} {l:Array Bool} {a a':Act} {w:World} (e:a=a') (h:wpAnyIn F n P md ops Q fuel l a' w):wpAnyIn F n P md ops Q fuel l a w:=e▸h
theorem share {p q:Prop} (h1:p->q) (h2:p):q:=h1 h2
theorem lV {i:Nat} {oi:Oper} {v:Value} {fuel:Nat} {listed:Array Bool} {a:Act} {w:World}
  (hi:ops[i]?=some oi) (hv:∀w,(execOp a.eval oi).run P w= .ok (.value v) w)
  (h:wpAnyIn F n P md ops Q fuel (listed.setIfInBounds i true) (a.put oi.dst v) w) (hQ:∀c a w,Q (.panic c) (a.put oi.dst v) w->Q (.panic c) a w:=by exact fun _ _ _ h=>h) (hw:Region.wanted oi (yielded ops a.tmps)=true:=by rfl) (hab:∀w,oi.about P w a.eval=none:=by exact fun _=>rfl)
  (hro:F.round=none:=by rfl) (hs:Region.noSelect ops=true:=by kernel_rfl) (hf:Region.free md ops listed i=true:=by kernel_rfl) (hr:(Region.ready md ops listed).contains i=true:=by decide +kernel):wpAnyIn F n P md ops Q (fuel+1) listed a w:=
 wpAnyIn_take hro hi hs hf hr hQ ⟨Or.inl ⟨hw,hv⟩,hab⟩ h
end
set_option maxRecDepth 100000 in
set_option maxHeartbeats 4000000 in
theorem Eb (n:Nat) (hn:1≤n) (l box:Nat) (s:ByteArray) (hs:s.size≤1000000) (J:ByteArray->List Item->Pw)
  (hU:∀v pre V,J v pre V->J v pre V.drew)
  (hR:∀v pre V,J v pre V->V.cell? ⟨box,0,none⟩=some (.string v)/\V.frozen? ⟨box,0,none⟩=false)
  (hW:∀v v' pre V,J v pre V->J v' pre (V.setCell ⟨box,0,none⟩ (.string v')))
  (hY:∀v pre x V,J v pre V->(pre++ [x]) <+: AP s (s.size / 4)->YieldAt Fence.wide (n-1) Tryz.prog l (IT x) V fun e V'=>e= .returned (.bool true)/\J v (pre++ [x]) V') (W:World) (h0:J s [] W):
  CallsIn Fence.wide n Tryz.prog 62 #[.func (.yield l) #[] #[], .pointer (some ⟨box,0,none⟩)] W fun e W'=>(∃v,e= .returned v)/\∃v,J v (AP s (s.size / 4)) W':=by
 refine callsIn_of_wp Tryz.func62 rfl trivial ?_ rfl;simp only[Tryz.ntmps62,List.size_toArray,List.length_cons,List.length_nil,Nat.reduceAdd,Nat.reduceSub,Array.replicate_succ,Array.replicate_zero,List.push_toArray,List.append_toArray,List.nil_append,List.cons_append];have hBs:=(hR _ _ _ h0).1
 gi_wp2
 gi_loopw [] (fun wr=>∃t:Nat,J (s.extract (t*4) s.size) (AP s t) wr/\t≤s.size / 4)
  (fun wr=>match wr.cell? ⟨box,0,none⟩ with|some (.string v)=>v.size|_=>0)
 case atStart=>exact ⟨0,by rw[Nat.zero_mul,ByteArray.extract_zero_size];exact h0,Nat.zero_le _⟩
 case round=>
  obtain ⟨t,hJ,ht⟩:=hrel;obtain ⟨hB2,hF2⟩:=hR _ _ _ hJ;by_cases hlt:t<s.size / 4
  ·have hsz:(s.extract (t*4) s.size).size=s.size-t*4:=by rw[ByteArray.size_extract,Nat.min_self]
   have q0:=vJ (s:=s) (t:=t*4) (j:=0) om;have q1:=vJ (s:=s) (t:=t*4) (j:=1) om;have q2:=vJ (s:=s) (t:=t*4) (j:=2) om;have q3:=vJ (s:=s) (t:=t*4) (j:=3) om;have hpre:=AQ s (t+1) (s.size / 4-(t+1));rw[show t+1+(s.size / 4-(t+1))=s.size / 4 by omega,sK] at hpre
   have hn1:∀v,v=s.extract (t*4) s.size->v.extract 4 v.size=s.extract ((t+1)*4) s.size:=fun v e=>by
    rw[e,hsz,ByteArray.extract_extract,show t*4+4=(t+1)*4 by omega,show min (t*4+(s.size-t*4)) s.size=s.size by omega]
   generalize s.extract (t*4) s.size=v at hJ hB2 hsz q0 q1 q2 q3 hn1;have hn1:=hn1 v rfl;obtain ⟨g0,q0⟩:=q0;obtain ⟨g1,q1⟩:=q1;obtain ⟨g2,q2⟩:=q2;obtain ⟨g3,q3⟩:=q3;obtain ⟨c0,e0⟩:∃c:UInt8,∀h:0<v.size,v[0]=c:=⟨v[0],fun _=>rfl⟩
   obtain ⟨c1,e1⟩:∃c:UInt8,∀h:1<v.size,v[1]=c:=⟨v[1],fun _=>rfl⟩
   obtain ⟨c2,e2⟩:∃c:UInt8,∀h:2<v.size,v[2]=c:=⟨v[2],fun _=>rfl⟩
   obtain ⟨c3,e3⟩:∃c:UInt8,∀h:3<v.size,v[3]=c:=⟨v[3],fun _=>rfl⟩
   rw[e0 g0] at q0;rw[e1 g1] at q1;rw[e2 g2] at q2;rw[e3 g3] at q3;obtain ⟨fn,tmps,assign,body,hy,hRn⟩:=hY _ _ _ _ (hU _ _ _ hJ) hpre;dsimp only[IT,Jg] at hy;rw[show t*4=t*4+0 from rfl,q0,q1,q2,q3] at hy;have h4:(4:Int)≤(v.size:Int):=by omega
   have l0:0<v.size:=by omega
   have m1:1<v.size:=by omega
   have m2:2<v.size:=by omega
   have m3:3<v.size:=by omega
   have m4:4≤v.size:=by omega
   have l1:(1:Int)<(v.size:Int):=by omega
   have l2:(2:Int)<(v.size:Int):=by omega
   have l3:(3:Int)<(v.size:Int):=by omega
   clear q0 q1 q2 q3 hpre g0 g1 g2 g3 hsz
   gi_wp2
   refine wpIn_region_any (by kernel_rfl) ?_;change wpAnyIn _ _ _ _ _ _ 16 _ _ (World.drew _);apply share
   focus
    intro hleaf
    (refine lV (i:=0) (v:= ?_) rfl ?_ ?_;rotate_left;focus (intro w;go_simp;all_goals with_reducible rfl))
    all_goals (first|(refine wpAnyIn_ready (rs:=[1,4,7,10]) (by decide +kernel) (by simp) ?_))
    all_goals (repeat' (first|with_reducible exact AllReadyIn.nil|with_reducible refine AllReadyIn.cons rfl (fun K hK=>?_) ?_))
    all_goals (go_simp;refine hK _ _ ?_;clear hK K)
    all_goals (first|((refine lV (i:=2) (v:= ?_) rfl ?_ ?_;rotate_left;focus (intro w;go_simp;all_goals with_reducible rfl));(refine lV (i:=3) (v:= ?_) rfl ?_ ?_;rotate_left;focus (intro w;go_simp;all_goals with_reducible rfl)))|((refine lV (i:=5) (v:= ?_) rfl ?_ ?_;rotate_left;focus (intro w;go_simp;all_goals with_reducible rfl));(refine lV (i:=6) (v:= ?_) rfl ?_ ?_;rotate_left;focus (intro w;go_simp;all_goals with_reducible rfl)))|((refine lV (i:=8) (v:= ?_) rfl ?_ ?_;rotate_left;focus (intro w;go_simp;all_goals with_reducible rfl));(refine lV (i:=9) (v:= ?_) rfl ?_ ?_;rotate_left;focus (intro w;go_simp;all_goals with_reducible rfl)))|((refine lV (i:=11) (v:= ?_) rfl ?_ ?_;rotate_left;focus (intro w;go_simp;all_goals with_reducible rfl));(refine lV (i:=12) (v:= ?_) rfl ?_ ?_;rotate_left;focus (intro w;go_simp;all_goals with_reducible rfl))))
    all_goals (first|(refine wpAnyIn_ready (rs:=[1,4,7]) (by decide +kernel) (by simp) ?_)|(refine wpAnyIn_ready (rs:=[1,4,10]) (by decide +kernel) (by simp) ?_)|(refine wpAnyIn_ready (rs:=[1,7,10]) (by decide +kernel) (by simp) ?_)|(refine wpAnyIn_ready (rs:=[4,7,10]) (by decide +kernel) (by simp) ?_))
    all_goals (repeat' (first|with_reducible exact AllReadyIn.nil|with_reducible refine AllReadyIn.cons rfl (fun K hK=>?_) ?_))
    all_goals (go_simp;refine hK _ _ ?_;clear hK K)
    all_goals (first|((refine lV (i:=2) (v:= ?_) rfl ?_ ?_;rotate_left;focus (intro w;go_simp;all_goals with_reducible rfl));(refine lV (i:=3) (v:= ?_) rfl ?_ ?_;rotate_left;focus (intro w;go_simp;all_goals with_reducible rfl)))|((refine lV (i:=5) (v:= ?_) rfl ?_ ?_;rotate_left;focus (intro w;go_simp;all_goals with_reducible rfl));(refine lV (i:=6) (v:= ?_) rfl ?_ ?_;rotate_left;focus (intro w;go_simp;all_goals with_reducible rfl)))|((refine lV (i:=8) (v:= ?_) rfl ?_ ?_;rotate_left;focus (intro w;go_simp;all_goals with_reducible rfl));(refine lV (i:=9) (v:= ?_) rfl ?_ ?_;rotate_left;focus (intro w;go_simp;all_goals with_reducible rfl)))|((refine lV (i:=11) (v:= ?_) rfl ?_ ?_;rotate_left;focus (intro w;go_simp;all_goals with_reducible rfl));(refine lV (i:=12) (v:= ?_) rfl ?_ ?_;rotate_left;focus (intro w;go_simp;all_goals with_reducible rfl))))
    all_goals (first|(refine wpAnyIn_ready (rs:=[1,4]) (by decide +kernel) (by simp) ?_)|(refine wpAnyIn_ready (rs:=[1,7]) (by decide +kernel) (by simp) ?_)|(refine wpAnyIn_ready (rs:=[1,10]) (by decide +kernel) (by simp) ?_)|(refine wpAnyIn_ready (rs:=[4,7]) (by decide +kernel) (by simp) ?_)|(refine wpAnyIn_ready (rs:=[4,10]) (by decide +kernel) (by simp) ?_)|(refine wpAnyIn_ready (rs:=[7,10]) (by decide +kernel) (by simp) ?_))
    all_goals (repeat' (first|with_reducible exact AllReadyIn.nil|with_reducible refine AllReadyIn.cons rfl (fun K hK=>?_) ?_))
    all_goals (go_simp;refine hK _ _ ?_;clear hK K)
    all_goals (first|((refine lV (i:=2) (v:= ?_) rfl ?_ ?_;rotate_left;focus (intro w;go_simp;all_goals with_reducible rfl));(refine lV (i:=3) (v:= ?_) rfl ?_ ?_;rotate_left;focus (intro w;go_simp;all_goals with_reducible rfl)))|((refine lV (i:=5) (v:= ?_) rfl ?_ ?_;rotate_left;focus (intro w;go_simp;all_goals with_reducible rfl));(refine lV (i:=6) (v:= ?_) rfl ?_ ?_;rotate_left;focus (intro w;go_simp;all_goals with_reducible rfl)))|((refine lV (i:=8) (v:= ?_) rfl ?_ ?_;rotate_left;focus (intro w;go_simp;all_goals with_reducible rfl));(refine lV (i:=9) (v:= ?_) rfl ?_ ?_;rotate_left;focus (intro w;go_simp;all_goals with_reducible rfl)))|((refine lV (i:=11) (v:= ?_) rfl ?_ ?_;rotate_left;focus (intro w;go_simp;all_goals with_reducible rfl));(refine lV (i:=12) (v:= ?_) rfl ?_ ?_;rotate_left;focus (intro w;go_simp;all_goals with_reducible rfl))))
    all_goals (first|(refine wpAnyIn_ready (rs:=[1]) (by decide +kernel) (by simp) ?_)|(refine wpAnyIn_ready (rs:=[4]) (by decide +kernel) (by simp) ?_)|(refine wpAnyIn_ready (rs:=[7]) (by decide +kernel) (by simp) ?_)|(refine wpAnyIn_ready (rs:=[10]) (by decide +kernel) (by simp) ?_))
    all_goals (repeat' (first|with_reducible exact AllReadyIn.nil|with_reducible refine AllReadyIn.cons rfl (fun K hK=>?_) ?_))
    all_goals (go_simp;refine hK _ _ ?_;clear hK K)
    all_goals (first|((refine lV (i:=2) (v:= ?_) rfl ?_ ?_;rotate_left;focus (intro w;go_simp;all_goals with_reducible rfl));(refine lV (i:=3) (v:= ?_) rfl ?_ ?_;rotate_left;focus (intro w;go_simp;all_goals with_reducible rfl)))|((refine lV (i:=5) (v:= ?_) rfl ?_ ?_;rotate_left;focus (intro w;go_simp;all_goals with_reducible rfl));(refine lV (i:=6) (v:= ?_) rfl ?_ ?_;rotate_left;focus (intro w;go_simp;all_goals with_reducible rfl)))|((refine lV (i:=8) (v:= ?_) rfl ?_ ?_;rotate_left;focus (intro w;go_simp;all_goals with_reducible rfl));(refine lV (i:=9) (v:= ?_) rfl ?_ ?_;rotate_left;focus (intro w;go_simp;all_goals with_reducible rfl)))|((refine lV (i:=11) (v:= ?_) rfl ?_ ?_;rotate_left;focus (intro w;go_simp;all_goals with_reducible rfl));(refine lV (i:=12) (v:= ?_) rfl ?_ ?_;rotate_left;focus (intro w;go_simp;all_goals with_reducible rfl))))
    all_goals refine JM (l':= #[true,true,true,true,true,true,true,true,true,true,true,true,true,false,false,false]) (by decide +kernel) ?_
    exact hleaf
    all_goals refine JL ?_ hleaf
    all_goals go_simp
   (refine lV (i:=13) (v:= ?_) rfl ?_ ?_;rotate_left;focus (intro w;go_simp;all_goals with_reducible rfl))
   refine wpAnyIn_ready (rs:=[14]) (by decide +kernel) (by simp) ?_;refine AllReadyIn.cons rfl (fun K hK=>?_) AllReadyIn.nil
   go_simp
   refine hRn.mono ?_;rintro e W3 ⟨rfl,hJ3⟩;obtain ⟨hB3,hF3⟩:=hR _ _ _ hJ3;have hJ4:=hW _ (v.extract 4 v.size) _ _ hJ3;have hB4:=(hR _ _ _ hJ4).1;rw[←sK] at hJ4;dsimp only;refine hK _ _ ?_;clear hK K
   (refine lV (i:=15) (v:= ?_) rfl ?_ ?_;rotate_left;focus (intro w;go_simp;all_goals with_reducible rfl))
   refine wpAnyIn_done (by kernel_rfl) ?_ _
   gi_wp2
   go_roundw
   case rel=>
    refine ⟨t+1, ?_,om⟩;rw[←hn1];exact hJ4
   case measure=>
    rw[hn1] at hB4;rw[hB4,hB2];show (s.extract ((t+1)*4) s.size).size<v.size;rw[←hn1,ByteArray.size_extract];omega
  ·obtain rfl:t=s.size / 4:=by omega
   have h4:¬(4:Int)≤((s.size-s.size / 4*4:Nat):Int):=by omega
   gi_wp2
   go_end0
   exact ⟨⟨_,rfl⟩,_,hJ⟩
end Go.Proofs.YtlhljbbfckbjpaaGreat.Mc
end
section
set_option maxRecDepth 8000
namespace Go.Proofs.YtlhljbbfckbjpaaGreat.Mc
open Go Go.Vc Go.Proofs Go.RowKit Go.Shelf
attribute [local go_sem] Oper.semAt_some
section
variable {B:Nat} {w0 w:World} {R L:List aA}
theorem BQ {s:Sl} {ys:List Item} {y:Item} {c:Nat} {k:Sl->Pw} [I:bT s L Item cj ys] [J:dG (ah cj s ys) L R] (h:Ow B w0 w (aa c (cj.enc y)::L)) (hbig:ys.length≤1000000)
  (hk:∀s' w',s'.len=ys.length+1->Ow B w0 w' (ah cj s' (ys++ [y])::R)->k s' w'):
  ∃s' w',bo Tryz.prog [56,56] 56 (.slice s.a s.len s.cap) (.slice (some (Addr.mk c 0 none)) 1 1) w s' w'/\k s' w':=
 Ow.fy (E:=cj) (y:=y) Tryz.underlying56 (show Tryz.prog.info? 44=some Tryz.t44 from by kernel_rfl) (zv:= .agg #[.z 0, .z 0, .z 0, .z 0]) (by kernel_rfl) (by kernel_rfl) rfl (by decide) h (by
  have e:Tryz.t44.bytes=32:=by kernel_rfl
  rw[e];omega) hk
end
section
variable {F:Fence} {n:Nat} {P:Program} {B:Nat} {w0 w:World} {L:List aA}
theorem zZ {α:Type} {bx:Nat} (v0:ByteArray) {g:Operand} {ps:Array Tmp} {assign body:Code} {Q:Exit->Act->Pw} {a:Act}
  (hro:F.round=none) (h1:1≤n) {gf:Nat} {lb:Array Value} (hg:a.eval g= .func (.func gf) #[] lb) (hFg:F.fn gf) (eg:∀args w,(callFunc gf args).run P w= .ok (.enter gf args) w)
  (encs:α->Array Value) (hps:∀x,(encs x).size=ps.size) (xs:List α) (I:List α->aA) (Ax:Act->α->aA)
  (h0:Ow B w0 w (aa bx [.string v0]::I []::L))
  (hseq:∀(l:Nat) (J:ByteArray->List α->Pw) (W:World),
   (∀v pre V,J v pre V->J v pre V.drew)->(∀v pre V,J v pre V->V.cell? ⟨bx,0,none⟩=some (.string v)/\V.frozen? ⟨bx,0,none⟩=false)->
   (∀v v' pre V,J v pre V->J v' pre (V.setCell ⟨bx,0,none⟩ (.string v')))->
   (∀v pre x V,J v pre V->(pre++ [x]) <+: xs->YieldAt F (n-1-1) P l (encs x) V fun e V'=>e= .returned (.bool true)/\J v (pre++ [x]) V')->
   J v0 [] W->CallsIn F (n-1) P gf (#[.func (.yield l) #[] #[]]++lb) W fun e W'=>(∃v,e= .returned v)/\∃v,J v xs W')
  (hassign:∀(l:Nat) (Z:List aA) (pre:List α) (x:α) (V:World) (K:Act->Pw),Ow B w0 V (I pre::Z++L)->(∀a' V',Ow B w0 V' (Ax a' x::I pre::Z++L)->K a' V')->
   assign.wpIn (F.inRound l) (n-1-1) P (Exit.then K (fun _ _ _=>False)) { tmps:=(ps.zip (encs x)).foldl (fun t (p,v)=>t.setIfInBounds p v) a.tmps,defers:=[]} V)
  (hbody:∀(l:Nat) (Z:List aA) (pre:List α) (x:α) (a':Act) (V:World),(pre++ [x]) <+: xs->Ow B w0 V (Ax a' x::I pre::Z++L)->
   body.wpIn (F.inRound l) (n-1-1) P (fun e _ V'=>e= .normal/\Ow B w0 V' (I (pre++ [x])::Z++L)) a' V)
  (hdone:∀(D:Nat) (v:ByteArray) (V:World),Ow B w0 V (dL D (.deferred (some []))::aa bx [.string v]::I xs::L)->Q .normal { a with defers:={ target:= .collected D,args:= #[]}::a.defers} V):
  (Code.rangeFunc g ps assign body).wpIn F n P Q a w:=by
 refine wpIn_rangeFunc fun fn hfn=>?_
 rw[hro];obtain ⟨rec,hrec⟩:∃rec:LoopState->Loop,rec=fun st=>{ state:=st,pending:=none,fn,tmps:=a.tmps,params:=ps,assign,body,defers:=w.heap.size}:=⟨_,rfl⟩
 obtain ⟨W1,hW1⟩:∃W1,(w.alloc (.deferred (some []))).alloc (.loop (rec .ready))=W1:=⟨_,rfl⟩
 have hO1:Ow B w0 W1 (dL (w.heap.size+1) (.loop (rec .ready))::dL w.heap.size (.deferred (some []))::aa bx [.string v0]::I []::L):=by
  have h2:=(h0.newObj (.deferred (some []))).newObj (.loop (rec .ready));rw[hW1,World.size_alloc] at h2;exact h2
 refine ⟨w.heap.size+1,[{ target:= .collected w.heap.size,args:= #[]}],W1,{ target:= .fn (.func gf) lb,args:= #[.func (.yield (w.heap.size+1)) #[] #[]]},W1,gf,
  #[.func (.yield (w.heap.size+1)) #[] #[]]++lb,W1, ?_, ?_, ?_, ?_,fun _=>h1, ?_⟩
 ·rw[←hW1,hrec];exact run_enterLoop_outer _ _ _ _ _
 ·simp only[resolve,hg]
  simp[go_sem]
 ·intro f' hf';simp[Target.leads] at hf';subst hf';exact hFg
 ·simp[invoke,go_sem,eg]
 generalize w.heap.size+1=l at hO1⊢;generalize w.heap.size=D at hO1 hrec⊢
 have hst:∀{v v':ByteArray} {pre:List α} {V:World},Ow B w0 V (dL l (.loop (rec .ready))::dL D (.deferred (some []))::aa bx [.string v]::I pre::L)->
   St V ⟨bx,0,none⟩ (.string v') fun V'=>Ow B w0 V' (dL l (.loop (rec .ready))::dL D (.deferred (some []))::aa bx [.string v']::I pre::L):=fun h=>h.st 2 rfl rfl rfl fun w' h=>h
 refine (hseq l (fun v pre V=>Ow B w0 V (dL l (.loop (rec .ready))::dL D (.deferred (some []))::aa bx [.string v]::I pre::L)) W1 ?_ ?_ ?_ ?_ hO1).mono ?_
 ·exact fun v pre V h=>h.same (jP rfl rfl rfl rfl)
 ·exact fun v pre V h=>⟨h.aq rfl,(hst (v':=v) h).2.1⟩
 ·exact fun v v' pre V h=>(hst h).2.2.2
 ·intro v pre x V h hpre
  have hy:=run_yield (P:=P) (args:=encs x) h.obj (by rw[hrec];exact hps x);rw[hrec] at hy;refine ⟨fn,_,assign,body,hy,roundIn_of_wpIn hfn ?_⟩;refine hassign l [dL l (.loop (rec .ready)),dL D (.deferred (some [])),aa bx [.string v]] pre x V _ h.vr fun a' V' h=>?_
  have h:=h.nC;have hb:=run_beginRound (P:=P) h.obj (by rw[hrec]);refine ⟨_,hb, ?_⟩;have h:=h.putObj (.loop { rec .ready with state:= .busy});refine wpIn_mono (hbody l [dL l (.loop { rec .ready with state:= .busy}),dL D (.deferred (some [])),aa bx [.string v]] pre x a' _ hpre ?_) ?_
  ·have h2:=h.perm (List.Perm.swap _ _ _)
   exact h2.perm (List.Perm.cons _ (List.Perm.swap _ _ _))
  ·rintro e a2 V2 ⟨rfl,h⟩
   have h:Ow B w0 V2 (dL l (.loop { rec .ready with state:= .busy})::I (pre++ [x])::dL D (.deferred (some []))::aa bx [.string v]::L):=h.perm (List.Perm.swap _ _ _);have he:=run_endRound (P:=P) none h.obj;refine ⟨_,_,he,rfl, ?_⟩;have h:=h.putObj (.loop {({ rec .ready with state:= .busy}:Loop) with state:=if (none:Option Code).isNone then .ready else .done,pending:=none});have e2:({({ rec .ready with state:= .busy}:Loop) with state:=if (none:Option Code).isNone then .ready else .done,pending:=none}:Loop)=rec .ready:=by rw[hrec];rfl
   rw[e2] at h⊢;have h:Ow B w0 _ (dL l (.loop (rec .ready))::I (pre++ [x])::dL D (.deferred (some []))::aa bx [.string v]::L):=h;exact h.perm (List.Perm.cons _ ((List.Perm.swap _ _ _).trans (List.Perm.cons _ (List.Perm.swap _ _ _))))
 ·rintro e W2 ⟨⟨v,rfl⟩,q,h⟩
  have he:=run_endLoop (P:=P) h.obj (by rw[hrec];simp);rw[show (rec .ready).pending=none from by rw[hrec]] at he;refine ⟨none,_,he, ?_⟩;exact hdone D q _ (h.putObj _).drop
end
theorem mA {F:Fence} {n:Nat} {P:Program} (w:World) {ops:Array Oper} {rest:List Oper} {o:Oper} {a:Act} {Q:Exit->Act->Pw}
  (hg:o.guard=none) (s x:Operand) (t:TypeId) (hop:o.op=Op.call { callee:=Callee.builtin Builtin.append,args:= #[s,x],argTypes:= #[t,t]})
  {v:Value} {w':World} (hrun:(Builtin.append_ #[t,t] o.type #[a.eval s,a.eval x]).run P w= .ok v w')
  (hK:wpListIn F n P ops Q rest (a.put o.dst v) w'):wpListIn F n P ops Q (o::rest) a w:=by
 refine wpListIn_plain hg fun K hK'=>?_
 unfold Oper.wpIn;refine ⟨?_, ?_⟩
 ·simp[Oper.about,hop,resolve,Target.leads,Sem.run_pure]
 ·rw[Oper.semAt_plain F _ _ (by rw[hop];intro c hc';cases hc')]
  simp[execOp,hop,resolve,invoke,builtin,hrun,Result.andThen];exact hK' _ _ hK
section
variable {B:Nat} {w0 w:World} {R L:List aA}
def zQ (ob cb:Nat) (aO:Int) (pre:List Item):aA:=pV fun so:Sl=>bh [aa ob [.slice so.a so.len so.cap],ah cj so (pre.filter fun x=>bj x aO),aa cb [.z aO]]
set_option maxRecDepth 100000 in
set_option maxHeartbeats 4000000 in
theorem mO {s:ByteArray} {aO:Int} {K:Sl->Pw} (hs:s.size≤1000000) (h:Ow B w0 w R) (hK:∀s' w',Ow B w0 w' (ah cj s' (EL s aO (s.size / 4))::R)->K s' w'):C.qdK s aO K w:=by
 unfold C.qdK;refine kh Tryz.func16 rfl ((callsIn_wide (n:=4)).1 ?_);refine callsIn_of_wp_marks Tryz.func16 rfl trivial ?_ rfl;simp only[Tryz.ntmps16,List.size_toArray,List.length_cons,List.length_nil,Nat.reduceAdd,Nat.reduceSub,Array.replicate_succ,Array.replicate_zero,List.push_toArray,List.append_toArray,List.nil_append,List.cons_append]
 gi_wp2
 refine ⟨trivial, ?_⟩;refine callsIn_of_wp Tryz.func35 rfl trivial ?_ rfl;simp only[Tryz.ntmps35,List.size_toArray,List.length_cons,List.length_nil,Nat.reduceAdd,Nat.reduceSub,Array.replicate_succ,Array.replicate_zero,List.push_toArray,List.append_toArray,List.nil_append,List.cons_append]
 gi_wp2
 have hA:Ow B w0 (w.alloc (.cells #[.z aO] 3)) (aa w.heap.size [.z aO]::R):=h.al (t:=3) (l:=[.z aO]) (k:=fun w'=>Ow B w0 w' (aa w.heap.size [.z aO]::R)) fun w' h=>h
 have hB:Ow B w0 ((w.alloc (.cells #[.z aO] 3)).alloc (.cells #[.slice none 0 0] 56)) (aa (w.heap.size+1) [.slice none 0 0]::aa w.heap.size [.z aO]::R):=
  hA.al (t:=56) (l:=[.slice none 0 0]) (k:=fun w'=>Ow B w0 w' (aa (w.heap.size+1) [.slice none 0 0]::aa w.heap.size [.z aO]::R)) fun w' h=>by rw[World.size_alloc] at h;exact h
 have hC:Ow B w0 (((w.alloc (.cells #[.z aO] 3)).alloc (.cells #[.slice none 0 0] 56)).alloc (.cells #[.string s] 9)) (aa (w.heap.size+1+1) [.string s]::aa (w.heap.size+1) [.slice none 0 0]::aa w.heap.size [.z aO]::R):=
  hB.al (t:=9) (l:=[.string s]) (k:=fun w'=>Ow B w0 w' (aa (w.heap.size+1+1) [.string s]::aa (w.heap.size+1) [.slice none 0 0]::aa w.heap.size [.z aO]::R)) fun w' h=>by rw[World.size_alloc,World.size_alloc] at h;exact h
 clear hA hB h;generalize ((w.alloc (.cells #[.z aO] 3)).alloc (.cells #[.slice none 0 0] 56)).alloc (.cells #[.string s] 9)=W at hC⊢;generalize w.heap.size+1+1=bx at hC⊢;generalize w.heap.size+1=ob at hC⊢;generalize w.heap.size=cb at hC⊢;have h:Ow B w0 W (aa bx [.string s]::zQ ob cb aO []::R):=Ow.dz (Ow.eP ⟨none,0,0⟩ (Ow.aY (M:=[aa ob [.slice none 0 0],ah cj ⟨none,0,0⟩ [],aa cb [.z aO]]) (show Ow B w0 W (aa ob [.slice none 0 0]::ah cj ⟨none,0,0⟩ []::aa cb [.z aO]::aa bx [.string s]::R) from Ow.sub (Ow.dK (E:=cj) hC))));clear hC
 refine zZ (bx:=bx) (n:=4) (α:=Item) s rfl (by decide) (gf:=62) (lb:= #[.pointer (some ⟨bx,0,none⟩)]) rfl trivial (enters_of Tryz.func62 (by kernel_rfl) rfl) IT (fun _=>rfl) (AP s (s.size / 4)) (zQ ob cb aO)
  (fun a' x=>pV fun p:Nat=>bh [dX (a'={ tmps:= #[.string s, .z aO,undef, .pointer (some ⟨cb,0,none⟩), .slice none 0 0, .pointer (some ⟨ob,0,none⟩), .pointer (some ⟨p,0,none⟩), .string s, .func (.func 62) #[] #[.pointer (some ⟨bx,0,none⟩)], .agg #[.z x.kind, .z x.core, .z x.a, .z x.b],undef,undef,undef,undef,undef,undef,undef,undef],defers:=[]}),aa p (cj.enc x)])
  h (fun l J W hU hR hW hY h0=>Eb 3 (by decide) l bx s hs J hU hR hW hY W h0) ?_ ?_ ?_
 ·intro l Z pre x V K hO hK
  have hK:=fun a' w' e h=>hK a' w' (Ow.eP V.heap.size (Ow.aY (Ow.dN e h)))
  have hO:=hO.al (t:=44) (l:=cj.enc x) (k:=fun w'=>Ow B w0 w' (aa V.heap.size (cj.enc x)::zQ ob cb aO pre::Z++R)) (fun w' h=>h);have hK:=hK _ _ rfl hO;clear hO;dsimp only[IT,cj] at hK⊢
  gi_wp2
  exact hK
 ·intro l Z pre x a' V hpre hO
  obtain ⟨p,hO⟩:=Ow.ex (hO:Ow B w0 V (pV _::(zQ ob cb aO pre::Z++R)));have hO:=hO.star;obtain ⟨ea,hO⟩:=Ow.pure (hO:Ow B w0 V (dX _::(aa p (cj.enc x)::zQ ob cb aO pre::Z++R)));have hO:Ow B w0 V (zQ ob cb aO pre::aa p (cj.enc x)::(Z++R)):=hO.perm (List.Perm.swap _ _ _);obtain ⟨so,hO⟩:=Ow.ex hO;have hO:Ow B w0 V (aa ob [.slice so.a so.len so.cap]::ah cj so (pre.filter fun x=>bj x aO)::aa cb [.z aO]::aa p (cj.enc x)::(Z++R)):=hO.star
  have hlen:(pre.filter fun x=>bj x aO).length≤1000000:=by
   have h1:=List.length_filter_le (fun x=>bj x aO) pre;have h2:=hpre.length_le;rw[List.length_append] at h2;have h3:(AP s (s.size / 4)).length=s.size / 4:=by unfold AP;rw[List.length_map,List.length_range]
   omega
  have hg:C.qcm x.kind x.core x.a x.b aO (fun r w'=>r=bj x aO/\Ow B w0 w' (aa ob [.slice so.a so.len so.cap]::ah cj so (pre.filter fun x=>bj x aO)::aa cb [.z aO]::aa p (cj.enc x)::(Z++R))) V:=Bd hO fun w' h=>⟨rfl,h⟩
  dsimp only[C.qcm] at hg;have hg:=rR hg;have hg:=(callsIn_wide (n:=1)).2 hg;have c1:V.cell? ⟨cb,0,none⟩=some (.z aO):=hO.aq rfl;have p0:V.cell? ⟨p,0,none⟩=some (.z x.kind):=hO.aq rfl;have p1:V.cell? ⟨p,1,none⟩=some (.z x.core):=hO.aq rfl;have p2:V.cell? ⟨p,2,none⟩=some (.z x.a):=hO.aq rfl;have p3:V.cell? ⟨p,3,none⟩=some (.z x.b):=hO.aq rfl;clear hO hpre;subst ea;have hg:=hg.inRound l
  gi_wp2
  refine ⟨trivial,hg.mono ?_⟩;rintro e w' ⟨r,rfl,rfl,hO⟩;cases hr:bj x aO with
  |false=>
   gi_wp2
   refine Ow.eP so (Ow.aY (M:=[aa ob [.slice so.a so.len so.cap],ah cj so ((pre++ [x]).filter fun x=>bj x aO),aa cb [.z aO]]) ?_)
   have e:(pre++ [x]).filter (fun x=>bj x aO)=pre.filter fun x=>bj x aO:=by
    rw[List.filter_append,List.filter_cons_of_neg (by rw[hr];decide),List.filter_nil,List.append_nil]
   rw[e];exact (hO.sub:Ow B w0 w' (aa ob [.slice so.a so.len so.cap]::ah cj so (pre.filter fun x=>bj x aO)::aa cb [.z aO]::(Z++R)))
  |true=>
   have o1:w'.cell? ⟨ob,0,none⟩=some (.slice so.a so.len so.cap):=hO.aq rfl;have p0:w'.cell? ⟨p,0,none⟩=some (.z x.kind):=hO.aq rfl;have p1:w'.cell? ⟨p,1,none⟩=some (.z x.core):=hO.aq rfl;have p2:w'.cell? ⟨p,2,none⟩=some (.z x.a):=hO.aq rfl;have p3:w'.cell? ⟨p,3,none⟩=some (.z x.b):=hO.aq rfl;have hX:=hO.al (t:=44) (l:=cj.enc x) (k:=fun w2=>Ow B w0 w2 (aa w'.heap.size (cj.enc x)::aa ob [.slice so.a so.len so.cap]::ah cj so (pre.filter fun x=>bj x aO)::aa cb [.z aO]::aa p (cj.enc x)::(Z++R))) (fun w2 h=>h);have hX:Ow B w0 (w'.alloc (.cells #[.z x.kind, .z x.core, .z x.a, .z x.b] 44)) (aa w'.heap.size (cj.enc x)::aa ob [.slice so.a so.len so.cap]::ah cj so (pre.filter fun x=>bj x aO)::aa cb [.z aO]::aa p (cj.enc x)::(Z++R)):=hX;obtain ⟨s2,w2,hap,hO2⟩:=BQ (s:=so) (k:=fun s2 w2=>Ow B w0 w2 (ah cj s2 (pre.filter (fun x=>bj x aO)++ [x])::aa ob [.slice so.a so.len so.cap]::aa cb [.z aO]::aa p (cj.enc x)::(Z++R))) hX hlen fun s2 w2 _ h=>h.sub
   unfold bo at hap;have hst:St w2 ⟨ob,0,none⟩ (.slice s2.a s2.len s2.cap) fun w3=>Ow B w0 w3 (ah cj s2 (pre.filter (fun x=>bj x aO)++ [x])::aa ob [.slice s2.a s2.len s2.cap]::aa cb [.z aO]::aa p (cj.enc x)::(Z++R)):=hO2.dy rfl rfl fun w3 h=>h
   obtain ⟨_,hfz,_,hO3⟩:=hst;have o2:w2.cell? ⟨ob,0,none⟩=some (.slice so.a so.len so.cap):=hO2.aq rfl;clear hX hO2 hO
   gi_wp2_with (gi_at_builtin;refine mA _ rfl _ _ 56 rfl hap ?_)
   refine Ow.eP s2 (Ow.aY (M:=[aa ob [.slice s2.a s2.len s2.cap],ah cj s2 ((pre++ [x]).filter fun x=>bj x aO),aa cb [.z aO]]) ?_)
   have e:(pre++ [x]).filter (fun x=>bj x aO)=pre.filter (fun x=>bj x aO)++ [x]:=by
    rw[List.filter_append,List.filter_cons,if_pos (show bj x aO=true from hr),List.filter_nil]
   rw[e];exact (hO3.sub:Ow B w0 _ (aa ob [.slice s2.a s2.len s2.cap]::ah cj s2 (pre.filter (fun x=>bj x aO)++ [x])::aa cb [.z aO]::(Z++R)))
 ·intro D v V hO
  have hO:Ow B w0 V (zQ ob cb aO (AP s (s.size / 4))::dL D (.deferred (some []))::aa bx [.string v]::R):=Ow.nC hO;obtain ⟨so,hO⟩:=Ow.ex hO;have hO:Ow B w0 V (aa ob [.slice so.a so.len so.cap]::ah cj so (EL s aO (s.size / 4))::aa cb [.z aO]::dL D (.deferred (some []))::aa bx [.string v]::R):=hO.star;have o1:V.cell? ⟨ob,0,none⟩=some (.slice so.a so.len so.cap):=hO.aq rfl
  gi_wp2
  refine ⟨by simp, .inl ⟨D,_,rfl,run_takeDeferred (hO.pick (A:=dL D (.deferred (some [])))).obj, ?_⟩⟩;have hO2:=((Ow.vr hO).putObj (.deferred none)).drop;refine ⟨_,results_tmp rfl _ _ _,so,rfl,hK so _ hO2.sub⟩
end
end Go.Proofs.YtlhljbbfckbjpaaGreat.Mc
end
section
set_option maxRecDepth 8000
namespace Go.Proofs.YtlhljbbfckbjpaaGreat.Mc
open Go Go.Vc Go.Proofs
section
variable {B:Nat} {w0 w:World} {R L:List aA} {l:List (Seen × Sl)} {nc N g:Nat} {m:bz} {mb:Nat} {sl:Sl}
theorem BV {y:Seen × Sl} {c:Nat} {k:Sl->Pw} [I:bT sl L _ dC l] [J:dG (ah dC sl l) L R] (h:Ow B w0 w (aa c (dC.enc y)::L)) (hbig:l.length≤1000000)
  (hk:∀s' w',s'.len=l.length+1->Ow B w0 w' (ah dC s' (l++ [y])::R)->k s' w'):
  ∃s' w',bo Tryz.prog [29,29] 29 (.slice sl.a sl.len sl.cap) (.slice (some (Addr.mk c 0 none)) 1 1) w s' w'/\k s' w':=
 Ow.fy (E:=dC) (y:=y) Tryz.underlying29 (show Tryz.prog.info? 40=some Tryz.t40 from by kernel_rfl) (zv:= .agg #[.z 0, .z 0, .z 0, .z 0, .y 0, .z 0, .slice none 0 0, .z 0, .z 0, .bool false]) (by kernel_rfl) (by kernel_rfl) rfl (by decide) h (by
  have e:Tryz.t40.bytes=96:=by kernel_rfl
  rw[e];omega) hk
set_option maxHeartbeats 1000000 in
theorem tq {it:Item} {k:Sl->Pw} (rn:Rn nc N g m l) (hN:N+64≤100000) (hl:l.length≤1000000) (hg:g≤900000) (h:Ow B w0 w (ah dC sl l::tL l::dh mb m::R))
  (hk:∀s' fs w',Rn nc (N+64) (g+1) (m.item it).2 (uc l (m.item it).1 fs)->Ow B w0 w' (ah dC s' (uc l (m.item it).1 fs)::tL (uc l (m.item it).1 fs)::dh mb (m.item it).2::R)->k s' w'):
  C.qM (some ⟨mb,0,none⟩) it.kind it.core it.a it.b (fun r31 r32 r33 r34 r35 r36 r37 r38 r39 r40 r41 w42=>
   Al w42 (.cells #[.z (0:Int), .z (0:Int), .z (0:Int), .z (0:Int), .y (0:Int), .z (0:Int), .slice none 0 0, .z (0:Int), .z (0:Int), .bool false] 40) fun w43=>
   aH w43 (Addr.mk w42.heap.size 0 none) 0 [.z r31, .z r32, .z r33, .z r34, .y r35, .z r36, .slice r37.a r37.len r37.cap, .z r38, .z r39, .bool r40] fun w44=>
   bif r41 then
   (az w44 (Addr.mk w42.heap.size 0 none) 0 [.o, .o, .o, .o, .u, .o, .s, .o, .o, .b] fun (t45:Int) (t46:Int) (t47:Int) (t48:Int) (t49:Int) (t50:Int) (t51:Sl) (t52:Int) (t53:Int) (t54:Bool)=>
   Al w44 (.cells #[.z t45, .z t46, .z t47, .z t48, .y t49, .z t50, .slice t51.a t51.len t51.cap, .z t52, .z t53, .bool t54] 40) fun w55=>
   ∃(t56:Sl) (w57:World),bo Tryz.prog [29,29] 29 (.slice sl.a sl.len sl.cap) (.slice (some (Addr.mk w44.heap.size 0 none)) 1 1) w55 t56 w57/\
   k t56 w57)
   else
   (k sl w44)) w:=by
 refine BH (it:=it) rn.hm hN hg rn.pr (h.pick (A:=dh mb m)) fun fs w h=>?_
 have hn:=fun fs=>rn.next hN it fs
 generalize (m.item it).1=r at h hn hk⊢;generalize (m.item it).2=m' at h hn hk⊢;refine h.al fun w2 h=>?_
 generalize w.heap.size=sb at h⊢;refine h.ax rfl rfl fun w h=>?_
 (try dsimp only[putAt,List.set_cons_zero,List.set_cons_succ] at h)
 cases r with
 |none=>
  refine bD rfl ?_;exact hk sl fs w (hn fs) (h.sub:Ow B w0 w (ah dC sl l::tL l::dh mb m'::R))
 |some y=>
  refine bN rfl ?_;refine h.nZ (x6:=fs) rfl ?_;refine h.al fun w3 h=>?_
  generalize w.heap.size=cb at h⊢;have h:Ow B w0 w3 (aa cb (dC.enc (y,fs))::_):=h;refine BV (l:=l) (y:=(y,fs)) h hl fun s' w _ h=>?_
  have h:Ow B w0 w (ah aw fs y.t.forget::tL l::ah dC s' (l++ [(y,fs)])::dh mb m'::R):=Ow.sub (show Ow B w0 w (ah dC s' (l++ [(y,fs)])::aa sb _::ah aw fs y.t.forget::_) from h);have h:=Hq h;exact hk s' fs w (hn fs) (h.sub:Ow B w0 w (ah dC s' (l++ [(y,fs)])::tL (l++ [(y,fs)])::dh mb m'::R))
theorem sr (r:Option Seen) (fs:Sl):(uc l r fs).length≤l.length+1:=by
 cases r with
 |none=>exact Nat.le_succ _
 |some y=>show (l++ [(y,fs)]).length≤_;rw[List.length_append];exact Nat.le_refl _
theorem Rn.gT (rn:Rn nc N g m l) (hg:g≤1000000):IX l:=fun x hx=>Nat.le_trans (rn.fw x hx) hg
end
section
variable {w0 w:World} {R:List aA}
set_option maxHeartbeats 2000000 in
theorem E6 {o1 o2 o3 o6:Int} {prios:List Int} {calls:List Call} {s4 s5:Sl} {s7:ByteArray} {K:Option Addr->Int->Int->Int->Sl->Sl->Int->Sl->Pw}
  (hi4:As aG w0 s4 prios) (hi5:As bJ w0 s5 calls) (hg5:∀c∈calls,nP c) (h:Ow w0.heap.size w0 w R)
  (hK:∀(n:Nat) (bi li room:Int) (s' s5' sl:Sl) (mb g:Nat) (m:bz) (l:List (Seen × Sl)) (w':World),n≤3->g≤60->Rn n (1+64*g) g m l->kA m≤2*g->l.length≤g->
   Ow w0.heap.size w0 w' (ah dC sl l::tL l::dh mb m::R)->K (some ⟨mb,0,none⟩) (n:Int) bi li s' s5' room sl w'):C.qdS o1 o2 o3 s4 s5 o6 s7 K w:=by
 apply S.qdS0;refine h.a fun ab w1 h=>?_;refine h.a fun rb w2 h=>?_;refine h.aV (x3:=s4) (x4:=s5) rfl ?_;refine Dl hi4 hi5 h fun n bi li ps room s' s5' w n1 n3 b6 b12 l3 hpn hps r1 r8 h=>?_
 refine h.a fun pb w3 h=>?_;refine h.ax rfl rfl fun w h=>?_
 (try dsimp only[putAt,List.set_cons_zero,List.set_cons_succ] at h)
 refine h.gH (x3:=s') rfl ?_;refine ⟨s5',h.ao rfl,_,h.ao rfl, ?_⟩;have hct:(calls.take 40).length≤40:=by rw[List.length_take];omega
 have hpr:=Gu hg5;refine gF (prios:=ps) (prog:=calls.take 40) (s:=s') (s5:=s5') n1 om om om hpn hps r1 r8 om h fun mb w h=>?_
 have k0:bW n 1 0 (eh (ai.iu n bi li ps) n (calls.take 40) room):=rQ n1 om om om hpn hps r1 r8;have b0:kA (eh (ai.iu n bi li ps) n (calls.take 40) room)=0:=F3 _ _ _ (Nat.le_zero.1 k0.pg);have rn0:Rn n 1 0 (eh (ai.iu n bi li ps) n (calls.take 40) room) []:=⟨k0,nE.new _ _ _,hpr,⟨wT,rfl,kK.new _ _ _ n1⟩,fun x hx=>(by cases hx),fun x hx=>(by cases hx)⟩
 generalize eh (ai.iu n bi li ps) n (calls.take 40) room=m0 at h b0 rn0;clear k0;intro k34 hk34;refine bD rfl ?_;apply hk34;refine fP rfl ?_;intro k51 hk51
 have J:∀(si sl:Sl) (its:List Item) (w:World),its.length≤60->Ow w0.heap.size w0 w (ah cj si its::ah dC sl []::dh mb m0::aa pb [.z (n:Int), .z (bi:Int), .z (li:Int), .slice s'.a s'.len s'.cap, .slice s5'.a s5'.len s5'.cap, .z room]::aa rb [.z 0, .z 0, .z 0, .slice none 0 0, .slice none 0 0, .z 0]::R)->k51 si sl w:=fun si sl its w h60 h=>by
  apply hk51;intro l55 hl55
  have loop:∀(d i:Nat) (sl:Sl) (l:List (Seen × Sl)) (m:bz) (w:World),i+d=its.length->Rn n (1+64*i) i m l->kA m≤2*i->l.length≤i->
    Ow w0.heap.size w0 w (ah dC sl l::tL l::dh mb m::ah cj si its::aa pb [.z (n:Int), .z (bi:Int), .z (li:Int), .slice s'.a s'.len s'.cap, .slice s5'.a s5'.len s5'.cap, .z room]::aa rb [.z 0, .z 0, .z 0, .slice none 0 0, .slice none 0 0, .z 0]::R)->l55 sl (i:Int) w:=by
   intro d
   induction d with
   |zero=>
    intro i sl l m w hi rn hb hll h;have hl:=h.br si;apply hl55;intro k59 hk59;refine aE om ?_;apply hk59;refine bD rfl ?_;refine h.dr fun w h=>?_
    refine h.aV (x3:=s') (x4:=s5') rfl ?_;refine ⟨?_,trivial⟩;refine h.ax rfl rfl fun w h=>?_
    (try dsimp only[putAt,List.set_cons_zero,List.set_cons_succ] at h)
    refine h.aV (x3:=s') (x4:=s5') rfl ?_;exact hK n bi li room s' s5' sl mb i m l w n3 om rn hb hll h.sub
   |succ d ih=>
    intro i sl l m w hi rn hb hll h;have hl:=h.br si;obtain ⟨x,hx⟩:∃x,its[i]?=some x:=⟨_,gE om⟩
    apply hl55;intro k59 hk59;refine aR om ?_;rw[show decide ((i:Int)<60)=true from decide_eq_true om];apply hk59;refine bN rfl ?_;refine h.dZ (s:=si) (j:=i) rfl hx fun a ha hc0 hc=>?_
    refine Eh (x:=x) hc ?_;have hb2:=DC rn.hm n3 x;refine tq (it:=x) (k:=fun s w=>l55 s (IntKind.i64.wrap ((i:Int)+1)) w) rn om om om h fun s2 fs w hn h=>?_
    show l55 s2 (IntKind.i64.wrap ((i:Int)+1)) w;rw[wI i om];have:=sr (l:=l) (m.item x).1 fs;refine ih (i+1) s2 _ (m.item x).2 w om ?_ om om h;rw[show 1+64*(i+1)=1+64*i+64 by omega];exact hn
  refine loop its.length 0 sl [] m0 w om rn0 om (Nat.le_refl _) ?_;have h:Ow w0.heap.size w0 w (tL []::ah cj si its::ah dC sl []::dh mb m0::aa pb [.z (n:Int), .z (bi:Int), .z (li:Int), .slice s'.a s'.len s'.cap, .slice s5'.a s5'.len s5'.cap, .z room]::aa rb [.z 0, .z 0, .z 0, .slice none 0 0, .slice none 0 0, .z 0]::R):=DZ h;exact h.sub
 have e7:(s7.extract 0 (ic (s7.size:Int) 240).toNat).size≤240:=by
  rw[ByteArray.size_extract];unfold ic;split<;>omega
 have e60:(EL (s7.extract 0 (ic (s7.size:Int) 240).toNat) (n:Int) ((s7.extract 0 (ic (s7.size:Int) 240).toNat).size / 4)).length≤60:=Nat.le_trans (EM _ _ _) om;refine h.dr fun w h=>?_
 refine ⟨by unfold ic;split<;>omega,by unfold ic;split<;>omega,_,h.aq rfl, ?_, ?_,trivial⟩
 ·refine mO om h fun si w h=>⟨?_,trivial⟩
  refine h.a fun eb w1 h=>?_;have h:Ow w0.heap.size w0 w1 (ah dC ⟨some ⟨eb,0,none⟩,0,0⟩ []::_):=Ow.empty h;exact J _ _ _ _ e60 h.sub
 ·refine h.a fun eb w1 h=>?_;refine ⟨?_,trivial⟩;have h:Ow w0.heap.size w0 w1 (ah dC ⟨some ⟨eb,0,none⟩,0,0⟩ []::_):=Ow.empty h;refine mO om h fun si w h=>?_
  exact J _ _ _ _ e60 h.sub
end
def HV:List Call:=[⟨0,1,20,6,0,1⟩,⟨0,1,21,7,0,1⟩,⟨12,21,3,0,0,0⟩,⟨13,20,3,2,7,0⟩,⟨14,3,0,2,0,0⟩]
def uu:bz:=eh (ai.iu 1 10 2 [5]) 1 HV 4
def Bq (n:Nat):List Item:=[⟨1,0,(n:Int),0⟩,⟨0,0,0,0⟩,⟨0,0,0,0⟩,⟨0,0,0,0⟩,⟨1,0,2,1⟩]
def feed:bz->List Item->List Seen × bz
 |m,[]=>([],m)
 |m,x::l=>((m.item x).1.toList++(feed (m.item x).2 l).1,(feed (m.item x).2 l).2)
theorem l7:∀(m:bz) (l:List Item) (x:Item),feed m (l++ [x])=((feed m l).1++((feed m l).2.item x).1.toList,((feed m l).2.item x).2)
 |m,[],x=>by simp[feed]
 |m,y::l,x=>by
  show ((m.item y).1.toList++(feed (m.item y).2 (l++ [x])).1,(feed (m.item y).2 (l++ [x])).2)=_;rw[l7 (m.item y).2 l x];show _=(((m.item y).1.toList++(feed (m.item y).2 l).1)++_,_)
  rw[List.append_assoc];rfl
def yY:Nat->List Item
 |0=>[]
 |n+1=>yY n++Bq n
theorem JR:(feed uu (yY 5)).1.length=20:=by kernel_rfl
theorem JS:((feed uu (yY 5)).1[15]?.map fun y=>(y.kind,y.is))=some (3,true):=by kernel_rfl
theorem JT:((feed uu (yY 5)).1[19]?.map fun y=>y.is)=some false:=by kernel_rfl
theorem JU:(iC (feed uu (yY 5)).2.k.H).length=8:=by kernel_rfl
theorem IL:∀n,n<5->EL ((⟨#[1,0]⟩:ByteArray)++⟨#[UInt8.ofNat n]⟩++⟨#[0,0,0,0,0,0,0,0,0,0,0,0,0,1,0,2,1]⟩) 1 5=Bq n
 |0,_=>by kernel_rfl
 |1,_=>by kernel_rfl
 |2,_=>by kernel_rfl
 |3,_=>by kernel_rfl
 |4,_=>by kernel_rfl
theorem Ju:Dk HV:=fun c hc=>by
 simp only[HV,List.mem_cons,List.not_mem_nil,or_false] at hc;rcases hc with rfl|rfl|rfl|rfl|rfl<;>exact ⟨by decide,by decide⟩
theorem vK (n:Nat):(⟨#[UInt8.ofNat n]⟩:ByteArray).size=1:=rfl
theorem Hk {B:Nat} {w0 w:World} {L:List aA} {b n:Nat} (hn:n<5) (h:Ow B w0 w (aa b [.int .u8 (IntKind.u8.wrap (n:Int))]::L)):wY Tryz.prog 78 9 (.slice (some (Addr.mk b 0 none)) 1 1) w ⟨#[UInt8.ofNat n]⟩:=by
 have hc:w.cell? ⟨b,0,none⟩=some (.int .u8 (IntKind.u8.wrap (n:Int))):=h.aq rfl;unfold wY
 have hb:IntKind.u8.wrap (n:Int)=(n:Int):=by
  have:n=0∨n=1∨n=2∨n=3∨n=4:=by omega
  rcases this with rfl|rfl|rfl|rfl|rfl<;>rfl
 rw[hb] at hc;rw[run_convert_bytes_string w _ _ 5 _ 1 1 Tryz.underlying78 Tryz.underlying5 Tryz.underlying9,run_bytesToString w _ 1 1 [(n:Int)] (by simp[loadCells,hc,go_sem])];rfl
theorem Dq (l:List (Seen × Sl)) (r:Option Seen) (fs:Sl):(uc l r fs).map (·.1)=l.map (·.1)++r.toList:=by
 cases r with
 |none=>simp[uc]
 |some y=>simp[uc]
section
variable {B:Nat} {w0 w:World} {R L:List aA}
set_option maxHeartbeats 1000000 in
theorem wV {K:Bool->Pw} (h:Ow B w0 w R) (hK:∀w',Ow B w0 w' R->K true w'):C.qdl K w:=by
 apply S.qdl0;refine h.a fun pb w1 h=>?_;have h:Ow B w0 w1 (ah bJ ⟨some ⟨pb,0,none⟩,5,5⟩ HV::R):=Ow.DA (E:=bJ) h HV rfl;refine Dj h fun s w h=>?_
 refine gF (c:=1) (bits:=10) (lines:=2) (prios:=[5]) (prog:=HV) (room:=4) (s:=s) (s5:=⟨some ⟨pb,0,none⟩,5,5⟩) (by decide) (by decide) (by decide) (by decide) rfl (fun p hp=>by rw[List.mem_singleton.1 hp];decide) (by decide) (by decide) (by decide) h fun mb w h=>?_
 have h:Ow B w0 w (dh mb uu::R):=Ow.sub (show Ow B w0 w (dh mb uu::ah aG s [5]::ah bJ ⟨some ⟨pb,0,none⟩,5,5⟩ HV::R) from h);have k0:bW 1 1 0 uu:=rQ (by decide) (by decide) (by decide) (by decide) rfl (fun p hp=>by rw[List.mem_singleton.1 hp];decide) (by decide) (by decide);have rn0:Rn 1 1 0 uu []:=⟨k0,nE.new _ _ _,Ju,⟨wT,rfl,kK.new _ _ _ (by decide)⟩,fun x hx=>(by cases hx),fun x hx=>(by cases hx)⟩
 intro k10 hk10;refine bD rfl ?_;apply hk10;refine fP rfl ?_;refine h.a fun eb w1 h=>?_;intro l14 hl14
 have loop:∀(d n:Nat) (sl:Sl) (l:List (Seen × Sl)) (w:World),n+d=5->l.map (·.1)=(feed uu (yY n)).1->Rn 1 (1+64*(5*n)) (5*n) (feed uu (yY n)).2 l->l.length≤5*n->
   Ow B w0 w (ah dC sl l::tL l::dh mb (feed uu (yY n)).2::R)->l14 sl (n:Int) w:=by
  intro d
  induction d with
  |zero=>
   intro n sl l w hn hl rn hll h;obtain rfl:n=5:=by omega
   have hlen:l.length=20:=by rw[←List.length_map (f:=(·.1)),hl];exact JR
   have hsl:=h.br sl;have h15:=JS;have h19:=JT;rw[←hl,List.getElem?_map] at h15 h19;obtain ⟨x15,e15⟩:∃x,l[15]?=some x:=⟨_,gE om⟩
   obtain ⟨x19,e19⟩:∃x,l[19]?=some x:=⟨_,gE om⟩
   rw[e15] at h15;rw[e19] at h19;simp only[Option.map_some,Option.some.injEq,Prod.mk.injEq] at h15 h19;obtain ⟨s',hrun,hrel⟩:=rn.ws;apply hl14;refine aE (by decide) ?_;refine rz om ?_;refine h.dZ (s:=sl) (j:=15) rfl e15 fun a ha hc0 hc=>⟨_,hc0 _ rfl,rz h15.1 ?_⟩
   refine h.dZ (s:=sl) (j:=15) rfl e15 fun a ha hc0 hc=>⟨_,hc 9 _ rfl,bN h15.2 ?_⟩
   refine h.dZ (s:=sl) (j:=19) rfl e19 fun a ha hc0 hc=>⟨_,hc 9 _ rfl,bN (by rw[h19];rfl) ?_⟩
   refine r6 (nc:=1) (by decide) (by decide) rn.co hrun (rn.gT (by decide)) om h fun w h=>?_
   refine rz rfl ?_;refine ze rn.hm (h.pick (A:=dh mb (feed uu (yY 5)).2)) fun s2 w h=>?_
   have hl2:=h.br s2;rw[JU] at hl2;rw[show ((s2.len:Int)==8)=true from by rw[hl2];rfl];exact hK w h.sub
  |succ d ih=>
   intro n sl l w hn hl rn hll h;apply hl14;refine aR om ?_;refine h.a fun bb w2 h=>?_;refine ⟨⟨#[UInt8.ofNat n]⟩,Hk om h,by rw[vK];decide,by rw[ByteArray.size_append,vK];decide, ?_⟩;have hsz:(((⟨#[1,0]⟩:ByteArray)++⟨#[UInt8.ofNat n]⟩)++(⟨#[0,0,0,0,0,0,0,0,0,0,0,0,0,1,0,2,1]⟩:ByteArray)).size=20:=by rw[ByteArray.size_append,ByteArray.size_append,vK];rfl
   refine mO (by rw[hsz];decide) h fun si w h=>?_
   rw[hsz,show 20 / 4=5 from rfl,IL n om] at h;intro l22 hl22
   have inner:∀(e i:Nat) (sl:Sl) (l:List (Seen × Sl)) (w:World),i+e=5->l.map (·.1)=(feed uu (yY n++(Bq n).take i)).1->Rn 1 (1+64*(5*n+i)) (5*n+i) (feed uu (yY n++(Bq n).take i)).2 l->l.length≤5*n+i->
     Ow B w0 w (ah dC sl l::tL l::dh mb (feed uu (yY n++(Bq n).take i)).2::ah cj si (Bq n)::R)->l22 sl (i:Int) w:=by
    intro e
    induction e with
    |zero=>
     intro i sl l w hi hl rn hll h;obtain rfl:i=5:=by omega
     have hsi:=h.br si;have h5:(Bq n).length=5:=rfl;apply hl22;refine aE om ?_;rw[wI n om];have h:Ow B w0 w (ah dC sl l::tL l::dh mb (feed uu (yY n++(Bq n).take 5)).2::R):=h.sub;exact ih (n+1) sl l w om hl rn hll h
    |succ e ih2=>
     intro i sl l w hi hl rn hll h;have hsi:=h.br si;have h5:(Bq n).length=5:=rfl;obtain ⟨x,hx⟩:∃x,(Bq n)[i]?=some x:=⟨_,gE om⟩
     apply hl22;refine aR om ?_;refine h.dZ (s:=si) (j:=i) rfl hx fun a ha hc0 hc=>?_
     refine Eh (x:=x) hc ?_;have et:yY n++(Bq n).take (i+1)=yY n++(Bq n).take i++ [x]:=by rw[List.take_add_one,hx,List.append_assoc];rfl
     refine tq (it:=x) (k:=fun s w=>l22 s (IntKind.i64.wrap ((i:Int)+1)) w) rn om om om h fun s2 fs w hn2 h=>?_
     show l22 s2 (IntKind.i64.wrap ((i:Int)+1)) w;rw[wI i om];have:=sr (l:=l) ((feed uu (yY n++(Bq n).take i)).2.item x).1 fs;refine ih2 (i+1) s2 (uc l ((feed uu (yY n++(Bq n).take i)).2.item x).1 fs) w om ?_ ?_ om ?_
     ·rw[et,l7,Dq,hl]
     ·rw[et,l7,show 1+64*(5*n+(i+1))=1+64*(5*n+i)+64 by omega]
      exact hn2
     ·rw[et,l7]
      exact h
   refine inner 5 0 sl l w om (by rw[List.take_zero,List.append_nil];exact hl) (by rw[List.take_zero,List.append_nil];exact rn) om ?_;rw[List.take_zero,List.append_nil];exact h.sub
 have h:Ow B w0 w1 (ah dC ⟨some ⟨eb,0,none⟩,0,0⟩ []::dh mb uu::R):=Ow.empty h;refine loop 5 0 ⟨some ⟨eb,0,none⟩,0,0⟩ [] w1 om rfl rn0 (Nat.le_refl _) ?_;have h:Ow B w0 w1 (tL []::ah dC ⟨some ⟨eb,0,none⟩,0,0⟩ []::dh mb uu::R):=DZ h;have h:Ow B w0 w1 (ah dC ⟨some ⟨eb,0,none⟩,0,0⟩ []::tL []::dh mb uu::R):=h.sub;exact h
end
end Go.Proofs.YtlhljbbfckbjpaaGreat.Mc
end
section
namespace Go.Proofs.YtlhljbbfckbjpaaGreat
open Go Go.Vc Go.ChangeShapes Go.WideShapes
theorem Mc.F5:∀cs,Fits [.int .i64, .int .i64, .int .i64, .int .i64, .int .i64, .int .i64] cs->∃x,cs=Mc.bJ.enc x/\Mc.nP x:=fun cs h0=>by
 obtain ⟨_,_,rfl,⟨a,rfl,_⟩,h1⟩:=h0.cM;obtain ⟨_,_,rfl,⟨b,rfl,_⟩,h2⟩:=h1.cM;obtain ⟨_,_,rfl,⟨c,rfl,hc⟩,h3⟩:=h2.cM;obtain ⟨_,_,rfl,⟨d,rfl,_⟩,h4⟩:=h3.cM;obtain ⟨_,_,rfl,⟨e,rfl,_⟩,h5⟩:=h4.cM;obtain ⟨_,_,rfl,⟨f,rfl,_⟩,h6⟩:=h5.cM;obtain rfl:=h6.AY;exact ⟨⟨a,b,c,d,e,f⟩,rfl,hc⟩
section
variable {H:Type} {enc:TypeId × Value->H} {P:Program} {held:Bool}
theorem FT {t e e1:TypeId} {f0 f1 f2 g0 g1 g2 g3:Field} {W:World} {sp:Nat->Bool} {v:Value} {dd:DataW H} {ps:List MemPlace} {r:Reach} {b0:Nat} (ht:P.underlying t=some (.struct #[f0,f1,f2])) (hb:P.underlying f0.type=some (.struct #[g0,g1,g2,g3]))
  (h0:P.underlying g0.type=some (.int .i64)) (h1:P.underlying g1.type=some (.int .i64)) (h2:P.underlying g2.type=some (.int .i64)) (h3:P.underlying g3.type=some (.slice e)) (h4:P.underlying f1.type=some (.slice e1)) (h5:P.underlying f2.type=some (.int .i64))
  (ho:(f0.offset,f1.offset,f2.offset,g0.offset,g1.offset,g2.offset,g3.offset)=(0,4,5,0,1,2,3)) (hcc:(P.cellsOf f0.type,P.cellsOf f1.type,P.cellsOf f2.type,P.cellsOf g0.type,P.cellsOf g1.type,P.cellsOf g2.type,P.cellsOf g3.type)=(4,1,1,1,1,1,1)) (hc:P.cellsOf t=6)
  (hval:Value.okWide P W r b0 t v) (h:DataW.Trod enc P W 0 sp held t v dd ps):
  ∃(x0 x1 x2 x5:Int) (s s':Sl) (d d':DataW H) (p p':List MemPlace),v= .agg #[.z x0, .z x1, .z x2, .slice s.a s.len s.cap, .slice s'.a s'.len s'.cap, .z x5]/\(Lit.int .i64 x0).wf=true/\(Lit.int .i64 x1).wf=true/\(Lit.int .i64 x2).wf=true/\(Lit.int .i64 x5).wf=true/\
   DataW.Trod enc P W 0 sp held g3.type (.slice s.a s.len s.cap) d p/\DataW.Trod enc P W 0 sp held f1.type (.slice s'.a s'.len s'.cap) d' p':=by
 simp only[Prod.mk.injEq] at ho hcc;obtain ⟨o0,o1,o2,q0,q1,q2,q3⟩:=ho;obtain ⟨c0,c1,c2,r0,r1,r2,r3⟩:=hcc;obtain ⟨cs,rfl,hsz⟩:=okWide_struct ht hval
 obtain ⟨x0,x1,x2,x3,x4,x5,rfl⟩:∃x0 x1 x2 x3 x4 x5,cs= #[x0,x1,x2,x3,x4,x5]:=by
  obtain ⟨l⟩:=cs
  match l,(hsz.trans hc) with
  | [c0,c1,c2,c3,c4,c5],_=>exact ⟨c0,c1,c2,c3,c4,c5,rfl⟩
 obtain ⟨fuel,hf⟩:=h;obtain ⟨xs,n,_,_,hl,hlen,hfs⟩:=DataW.trod_struct ht hf
 match xs,hlen with
 | [y0,y1,y2],_=>
  have k0:=hfs 0 f0 rfl;have k1:=hfs 1 f1 rfl;have k2:=hfs 2 f2 rfl;simp only[o0,o1,o2,c0,c1,c2,Value.cells] at k0 k1 k2;simp at k0 k1 k2;obtain ⟨zs,n',_,_,_,hlen',hgs⟩:=DataW.trod_struct hb k0
  match zs,hlen' with
  | [z0,z1,z2,z3],_=>
   have j0:=hgs 0 g0 rfl;have j1:=hgs 1 g1 rfl;have j2:=hgs 2 g2 rfl;have j3:=hgs 3 g3 rfl;simp only[q0,q1,q2,q3,r0,r1,r2,r3] at j0 j1 j2 j3;simp at j0 j1 j2 j3;obtain ⟨n0,e0,_,w0⟩:=DataW.trod_int h0 j0;obtain ⟨n1,e1,_,w1⟩:=DataW.trod_int h1 j1;obtain ⟨n2,e2,_,w2⟩:=DataW.trod_int h2 j2;obtain ⟨a3,l3,k3,e3⟩:=Go.Joins.slice_form h3 j3;obtain ⟨a4,l4,k4,e4⟩:=Go.Joins.slice_form h4 k1;obtain ⟨n5,e5,_,w5⟩:=DataW.trod_int h5 k2;simp only[List.cons.injEq,and_true] at e0 e1 e2 e3 e4 e5;subst e0;subst e1;subst e2;subst e3;subst e4;subst e5;exact ⟨n0,n1,n2,n5,⟨a3,l3,k3⟩,⟨a4,l4,k4⟩,z3.1,y1.1,z3.2,y1.2,rfl,w0,w1,w2,w5,⟨n',by simpa [Value.cells] using j3⟩,⟨n,by simpa [Value.cells] using k1⟩⟩
end
end Go.Proofs.YtlhljbbfckbjpaaGreat
end
