/- What the row rests on: the declarations that it needs, out of my texts (part 9). -/
import Derived.Test.YtghikphgplamkaaGreatZw8
set_option linter.unusedVariables false
set_option linter.unusedSimpArgs false
set_option linter.unusedSectionVars false
section
set_option maxRecDepth 8000
namespace Go.Proofs.YtghikphgplamkaaGreat.Mc
open Go Go.Vc Go.Proofs
section
variable {B:Nat} {w0 w:World} {R L R':List Asn} {b nc N g p:Nat} {m:Mch} {n:Int} {line:List Int}
theorem pages_le (hm:MOk nc N g m) (hN:N≤200000):(m.k.pagesR 0).length≤1000000000:=by
 unfold Ker.pagesR;split
 ·have:=SOk.pg_le (hm.k.sAtOk 0)
  omega
 ·simp
set_option maxHeartbeats 1000000 in
theorem user_spec {it:Item} {K:Int->Int->Int->Int->Int->Int->Sl->Int->Int->Bool->Bool->Pw} (hm:MOk nc N g m) (hN:N+64≤100000) (h0:0≤it.core) (h1:it.core<(nc:Int)) (h:Vc.Own B w0 w (MchA b m::R))
  (hK:∀fs w',Vc.Own B w0 w' (SlT lneE fs ((m.user it).1.getD noSeen).t.forget::MchA b (m.user it).2::R)->KSeen K (m.user it).1 fs w'):C.qaD (some ⟨b,0,none⟩) it.kind it.core it.a it.b K w:=by
 apply S.qaD0;refine h.al fun w1 h=>?_
 generalize w.heap.size=ci at h⊢;refine h.al fun w2 h=>?_
 generalize w1.heap.size=d at h⊢;refine h.dr fun w h=>?_
 obtain ⟨x,p,fs,Y,hZ,hzl,h,back⟩:=focus hm h0 h1 h.up2;obtain ⟨hc1,hc2⟩:=hm.cor h0 h1;have htl:=hm.tl _ hc2;have hr8:=hm.r8;have hr1:=hm.r1;have hlen:=h.lenc x.pr
 have none_:∀w,(m.user it)=(none,m)->Vc.Own B w0 w (OL b nc x p fs Y m (m.corAt it.core) (cms x.ps x.xs) (BlkA d [.z 0, .z 0, .z 0, .z 0, .y 0, .z 0, .slice none 0 0, .z 0, .z 0, .bool false]::BlkA ci [.z it.kind, .z it.core, .z it.a, .z it.b]::R))->
   StL w ⟨d,0,none⟩ 0 [.z (0:Int), .z (0:Int), .z (0:Int), .z (0:Int), .y (0:Int), .z (0:Int), .slice none 0 0, .z (0:Int), .z (0:Int), .bool false] fun w45=>
    LdL w45 ⟨d,0,none⟩ 0 [.o, .o, .o, .o, .u, .o, .s, .o, .o, .b] fun (r46:Int) (r47:Int) (r48:Int) (r49:Int) (r50:Int) (r51:Int) (r52:Sl) (r53:Int) (r54:Int) (r55:Bool)=>
    K r46 r47 r48 r49 r50 r51 r52 r53 r54 r55 false w45:=fun w es h=>by
  rw[es] at hK;have h:Vc.Own B w0 w (BlkA d [.z 0, .z 0, .z 0, .z 0, .y 0, .z 0, .slice none 0 0, .z 0, .z 0, .bool false]::OL b nc x p fs Y m (m.corAt it.core) (cms x.ps x.xs) R):=h.sub;exact zero_seen (K:=fun a b c d e f g h i j w=>K a b c d e f g h i j false w) rfl h fun w h=>hK ⟨none,0,0⟩ w (Vc.Own.nilS (back R m (m.corAt it.core) fs w (setZ hc1).symm rfl rfl (by rw[setZ hZ];exact h)))
 refine ⟨_,rfl,x.cs,h.ldd rfl,_,h.ldd rfl,?_⟩;refine corLd (s:=x.cs) h h0 hZ fun a ha hc0 hc=>⟨_,rfl,_,hc 1 _ rfl,?_⟩
 refine cne (fun e1=>?_) (fun e1=>?_)
 ·have e1:(m.corAt it.core).does≠0:=e1
  exact none_ w (by unfold Mch.user;rw[if_pos e1]) h
 have e1:(m.corAt it.core).does=0:=e1;refine ⟨_,h.ldd rfl,?_⟩;refine cdec (fun e2=>?_) (fun e2=>?_)
 ·refine ⟨_,h.ldd rfl,_,h.ldd rfl,?_⟩
  have es:m.user it=(some (m.load it.core it.a).1,(m.load it.core it.a).2):=by
   unfold Mch.user;rw[if_neg (fun hh=>hh e1),if_pos e2]
  rw[es] at hK;refine load_spec (m:=m) (x:=x) (p:=p) (fs:=fs) (Y:=Y) (c:=m.corAt it.core) (Z:=cms x.ps x.xs) h0 hZ hr1 (by omega) (pages_le hm (by omega)) h fun w h=>?_
  have h:Vc.Own B w0 w (BlkA d [.z 0, .z 0, .z 0, .z 0, .y 0, .z 0, .slice none 0 0, .z 0, .z 0, .bool false]::OL b nc x p fs Y m { m.corAt it.core with tl:=(m.loadT it.a (m.corAt it.core).tl).2.2} (cms x.ps x.xs) R):=h.sub;refine put_seen (K:=fun a b c d e f g h i j w=>K a b c d e f g h i j true w) (fs:=⟨none,0,0⟩) rfl h fun w h=>hK ⟨none,0,0⟩ w (Vc.Own.nilS (back R (m.load it.core it.a).2 { m.corAt it.core with tl:=(m.loadT it.a (m.corAt it.core).tl).2.2} fs w rfl rfl rfl ?_))
  rw[show cm p ({ m.corAt it.core with tl:=(m.loadT it.a (m.corAt it.core).tl).2.2},fs)=cm p (m.corAt it.core,fs) from rfl,setZ hZ];exact h
 ·refine h.dr fun w h=>?_
  refine ⟨_,h.ldd rfl,_,rfl,x.pr,h.ldd rfl,?_⟩;refine cdec (fun e3=>?_) (fun e3=>?_)
  ·refine h.dr fun w h=>?_
   refine ⟨_,rfl,_,h.ldd rfl,Go.Vc.a2 ?_⟩;refine corSt1 (s:=x.cs) h h0 hZ ha fun w h=>⟨h.ldd rfl,_,rfl,Go.Vc.a2 ?_⟩
   refine corSt2 (s:=x.cs) h h0 (List.getElem?_set_self (by rw[hzl];omega)) ha fun w h=>?_
   rw[List.set_set] at h
   have es:m.user it=(none,m.setC it.core { m.corAt it.core with does:=1,n:=it.a}):=by
    unfold Mch.user;rw[if_neg (fun hh=>hh e1),if_neg e2,if_pos (by omega)]
   rw[es] at hK;have h:Vc.Own B w0 w (BlkA d [.z 0, .z 0, .z 0, .z 0, .y 0, .z 0, .slice none 0 0, .z 0, .z 0, .bool false]::BlkA b (mcells x)::KerA x.k m.k::LockA x.l nc m.line::BoxA x.b m.bx::SlT corE x.cs ((cms x.ps x.xs).set it.core.toNat (cm p ({ m.corAt it.core with does:=1,n:=it.a},fs)))::TlbA p m.room (m.corAt it.core).tl::SlT lneE fs (m.corAt it.core).told.forget::Y::SlT callE x.pr m.prog::R):=Vc.Own.sub (show Vc.Own B w0 w (SlT corE x.cs ((cms x.ps x.xs).set it.core.toNat (cm p ({ m.corAt it.core with does:=1,n:=it.a},fs)))::_) from h);exact zero_seen (K:=fun a b c d e f g h i j w=>K a b c d e f g h i j false w) rfl h fun w h=>hK ⟨none,0,0⟩ w (Vc.Own.nilS (back R (m.setC it.core { m.corAt it.core with does:=1,n:=it.a}) { m.corAt it.core with does:=1,n:=it.a} fs w rfl rfl rfl h))
  ·exact none_ w (by unfold Mch.user;rw[if_neg (fun hh=>hh e1),if_neg e2,if_neg (by omega)]) h
set_option maxHeartbeats 1000000 in
theorem Step_spec {it:Item} {K:Int->Int->Int->Int->Int->Int->Sl->Int->Int->Bool->Bool->Pw} (hm:MOk nc N g m) (hN:N+64≤100000) (hg:g≤900000) (hpr:PrOk m.prog) (h:Vc.Own B w0 w (MchA b m::R))
  (hK:∀fs w',Vc.Own B w0 w' (SlT lneE fs ((m.item it).1.getD noSeen).t.forget::MchA b (m.item it).2::R)->KSeen K (m.item it).1 fs w'):C.qk (some ⟨b,0,none⟩) it.kind it.core it.a it.b K w:=by
 apply S.qk0;refine h.al fun w1 h=>?_
 generalize w.heap.size=ci at h⊢;refine h.al fun w2 h=>?_
 generalize w1.heap.size=d at h⊢;refine h.dr fun w h=>?_
 refine h.lc_4 rfl ?_;have h:Vc.Own B w0 w (MchA b m::BlkA d [.z 0, .z 0, .z 0, .z 0, .y 0, .z 0, .slice none 0 0, .z 0, .z 0, .bool false]::BlkA ci [.z it.kind, .z it.core, .z it.a, .z it.b]::R):=h.up2;have hcs:=hm.cs
 obtain ⟨s,hs1,hs2⟩:∃s:Sl,w.cell? ((Addr.mk b 0 none).add 3)=some (.slice s.a s.len s.cap)/\s.len=m.cs.length:=by
  obtain ⟨x,hx,h⟩:=mchO h;have hxl:x.xs.length=nc:=by rw[←hcs,←hx,List.length_map]
  have hpl:x.ps.length=x.xs.length:=Vc.Own.pts_len (h.pick (A:=PtsA (CoreA m.room) x.ps x.xs));have hlen:=h.lenc x.cs;rw[List.length_zipWith] at hlen;exact ⟨x.cs,h.ldd rfl,by omega⟩
 refine ⟨_,rfl,s,hs1,Go.Vc.a2 ?_⟩;rw[hs2];refine right_i (x:=it) h fun w h=>?_
 have none_:∀w,(m.item it)=(none,m)->Vc.Own B w0 w (MchA b m::BlkA d [.z 0, .z 0, .z 0, .z 0, .y 0, .z 0, .slice none 0 0, .z 0, .z 0, .bool false]::BlkA ci [.z it.kind, .z it.core, .z it.a, .z it.b]::R)->
   StL w ⟨d,0,none⟩ 0 [.z (0:Int), .z (0:Int), .z (0:Int), .z (0:Int), .y (0:Int), .z (0:Int), .slice none 0 0, .z (0:Int), .z (0:Int), .bool false] fun w45=>
    LdL w45 ⟨d,0,none⟩ 0 [.o, .o, .o, .o, .u, .o, .s, .o, .o, .b] fun (r46:Int) (r47:Int) (r48:Int) (r49:Int) (r50:Int) (r51:Int) (r52:Sl) (r53:Int) (r54:Int) (r55:Bool)=>
    K r46 r47 r48 r49 r50 r51 r52 r53 r54 r55 false w45:=fun w es h=>by
  rw[es] at hK;exact zero_seen (K:=fun a b c d e f g h i j w=>K a b c d e f g h i j false w) rfl h.up1 fun w h=>hK ⟨none,0,0⟩ w (Vc.Own.nilS h.sub)
 cases hr:rightI it m.cs.length with
 |false=>
  refine cbT rfl ?_;exact none_ w (by unfold Mch.item;rw[if_pos hr]) h
 |true=>
  refine cbF rfl ?_;obtain ⟨k0,k1,c0,c1,⟨a0,a1⟩,b0,b1⟩:=right_iff.1 hr;have c2:it.core<(nc:Int):=by omega
  have hnr:¬rightI it m.cs.length=false:=by rw[hr];decide
  refine ⟨_,h.ldc rfl,?_⟩;refine ceq (fun e1=>?_) (fun e1=>?_)
  ·refine h.lc_4 rfl ?_
   have es:m.item it=m.user it:=by unfold Mch.item;rw[if_neg hnr,if_pos e1]
   rw[es] at hK;refine user_spec (it:=it) hm hN c0 c2 h fun fs w h=>?_
   exact put_seen (K:=fun a b c d e f g h i j w=>K a b c d e f g h i j (m.user it).1.isSome w) (fs:=fs) rfl h.up2 fun w h=>hK fs w h.sub
  refine ⟨_,h.ldc rfl,?_⟩;refine ceq (fun e2=>?_) (fun e2=>?_)
  ·refine ⟨_,h.ldd rfl,?_⟩
   have es:m.item it=m.step it.core:=by unfold Mch.item;rw[if_neg hnr,if_neg e1,if_pos e2]
   rw[es] at hK;refine step_spec hm hN hg hpr c0 c2 h fun fs w h=>?_
   exact put_seen (K:=fun a b c d e f g h i j w=>K a b c d e f g h i j (m.step it.core).1.isSome w) (fs:=fs) rfl h.up2 fun w h=>hK fs w h.sub
  refine free_spec hm h fun w h=>?_
  by_cases e3:m.line= []
  ·rw[show m.line.isEmpty=true from by rw[e3];rfl]
   refine cbF rfl ?_;refine ⟨_,h.ldc rfl,?_⟩;obtain ⟨x,hx,h⟩:=mchO h;refine ceq (fun e4=>?_) (fun e4=>?_)
   ·have es:m.item it=(some ⟨4,it.core,it.a,⟨(m.k.irq it.a).1,0,(m.k.irq it.a).2.1,[]⟩,(0,0),false⟩,{ m with k:=(m.k.irq it.a).2.2}):=by
     unfold Mch.item;rw[if_neg hnr,if_neg e1,if_neg e2,if_neg (fun hh=>hh e3),if_pos e4]
    rw[es] at hK;refine h.dr fun w h=>?_
    refine ⟨_,rfl,_,h.ldc rfl,_,h.ldd rfl,Go.Vc.a2 ?_⟩;refine irq_spec hm.k (by omega) (h.pick (A:=KerA x.k m.k)) fun w h=>?_
    refine ⟨_,h.ldd rfl,_,h.ldd rfl,?_⟩;have h:Vc.Own B w0 w (BlkA d [.z 0, .z 0, .z 0, .z 0, .y 0, .z 0, .slice none 0 0, .z 0, .z 0, .bool false]::BlkA b (mcells x)::KerA x.k (m.k.irq it.a).2.2::LockA x.l m.cs.length m.line::BoxA x.b m.bx::SlT corE x.cs (cms x.ps x.xs)::PtsA (CoreA m.room) x.ps x.xs::SlT callE x.pr m.prog::R):=h.sub;exact put_seen (K:=fun a b c d e f g h i j w=>K a b c d e f g h i j true w) (fs:=⟨none,0,0⟩) rfl h fun w h=>hK ⟨none,0,0⟩ w (Vc.Own.nilS (mk_mch (m:={ m with k:=(m.k.irq it.a).2.2}) x hx h))
   ·have es:m.item it=(some ⟨5,it.core,0,tZ,(0,0),(m.k.t.runs? it.core).isSome⟩,{ m with k:=m.k.tick it.core}):=by
     unfold Mch.item;rw[if_neg hnr,if_neg e1,if_neg e2,if_neg (fun hh=>hh e3),if_neg e4]
    rw[es] at hK;refine h.dr fun w h=>?_
    refine ⟨_,rfl,_,h.ldc rfl,_,h.ldd rfl,_,h.ldd rfl,Go.Vc.a2 ?_⟩;refine Tick_spec hm.k (h.pick (A:=KerA x.k m.k)) fun w h=>⟨h.ldd rfl,Go.Vc.a2 ?_⟩
    have h:Vc.Own B w0 w (BlkA d [.z 0, .z 0, .z 0, .z 0, .y 0, .z 0, .slice none 0 0, .z 0, .z 0, .bool false]::BlkA b (mcells x)::KerA x.k (m.k.tick it.core)::LockA x.l m.cs.length m.line::BoxA x.b m.bx::SlT corE x.cs (cms x.ps x.xs)::PtsA (CoreA m.room) x.ps x.xs::SlT callE x.pr m.prog::R):=h.sub;exact put_seen (K:=fun a b c d e f g h i j w=>K a b c d e f g h i j true w) (fs:=⟨none,0,0⟩) rfl h fun w h=>hK ⟨none,0,0⟩ w (Vc.Own.nilS (mk_mch (m:={ m with k:=m.k.tick it.core}) x hx h))
  ·rw[show m.line.isEmpty=false from by cases hl:m.line with|nil=>exact absurd hl e3|cons _ _=>rfl]
   refine cbT rfl ?_;exact none_ w (by unfold Mch.item;rw[if_neg hnr,if_neg e1,if_neg e2,if_pos e3]) h
end
end Go.Proofs.YtghikphgplamkaaGreat.Mc
end
section
set_option maxRecDepth 8000
namespace Go.Proofs.YtghikphgplamkaaGreat
open Go Go.Vc Go.Proofs
section
variable {B:Nat} {w0 w:World} {R L:List Asn}
theorem app_int {xs:List Int} {y:Int} {b:Nat} {s:Sl} {k:Sl->Pw} [I:SlIn s L Int intE xs] {R:List Asn} [J:Pick (SlT intE s xs) L R]
  (h:Vc.Own B w0 w (BlkA b [.z y]::L)) (hl:xs.length≤1000000) (hk:∀s' w',s'.len=xs.length+1->Vc.Own B w0 w' (SlT intE s' (xs++ [y])::R)->k s' w'):
  ∃s' w',AppR Tryz.prog [22,22] 22 (.slice s.a s.len s.cap) (.slice (some (Addr.mk b 0 none)) 1 1) w s' w'/\k s' w':=
 Vc.Own.app1c (E:=intE) (y:=y) Tryz.underlying22 (show Tryz.prog.info? 3=some Tryz.t3 from by kernel_rfl) (zv:= .z 0) (by kernel_rfl) (by kernel_rfl) rfl (by decide) h (by
  have e:Tryz.t3.bytes=8:=by kernel_rfl
  rw[e];omega) hk
set_option maxHeartbeats 1000000 in
theorem Right_spec {c bits lines:Int} {prios:List Int} {s:Sl} {K:Int->Int->Int->Sl->Pw} (hi:Inp intE w0 s prios) (h:Vc.Own w0.heap.size w0 w R)
  (hK:∀(n bi li:Nat) (ps:List Int) s' w',1≤n->n≤3->6≤bi->bi≤12->li≤3->ps.length=n->(∀p∈ps,0≤p/\p<256)->Vc.Own w0.heap.size w0 w' (SlT intE s' ps::R)->K (n:Int) (bi:Int) (li:Int) s' w'):
  C.qcT c bits lines s K w:=by
 apply S.qcT0;obtain ⟨pc,_,ec⟩:=Sl.andle c 65535 (by decide);obtain ⟨pb,_,eb⟩:=Sl.andle bits 65535 (by decide);obtain ⟨pl,hpl,el⟩:=Sl.andle lines 3 (by decide);have ec:andI .i64 c 65535=(pc:Int):=ec;have eb:andI .i64 bits 65535=(pb:Int):=eb;have el:andI .i64 lines 3=(pl:Int):=el;have hlen:=hi.len;refine h.al fun w1 h=>?_
 generalize w.heap.size=ab at h⊢;refine h.al fun w2 h=>?_
 generalize w1.heap.size=rb at h⊢;refine ⟨_,h.ldc rfl,by decide,_,h.ldd rfl,by decide,_,h.ldd rfl,?_⟩;refine h.al fun w3 h=>?_
 generalize w2.heap.size=ob at h⊢;refine h.stLc rfl rfl fun w h=>?_
 (try dsimp only[putAt,List.set_cons_zero,List.set_cons_succ] at h)
 rw[ec,eb,el] at h;rw[ec];obtain ⟨n,hn⟩:∃n,n=1+pc%3:=⟨_,rfl⟩
 obtain ⟨bi,hb⟩:∃n,n=6+pb%7:=⟨_,rfl⟩
 have en:IntKind.i64.wrap (1+(pc:Int).tmod 3)=(n:Int):=by
  rw[show (pc:Int).tmod 3=((pc%3:Nat):Int) from (Int.ofNat_tmod pc 3).symm,wr (by omega) (by omega)];omega
 have ebi:IntKind.i64.wrap (6+(pb:Int).tmod 7)=(bi:Int):=by
  rw[show (pb:Int).tmod 7=((pb%7:Nat):Int) from (Int.ofNat_tmod pb 7).symm,wr (by omega) (by omega)];omega
 rw[en,ebi] at h;rw[en];have h:=Vc.Own.nilS (E:=intE) h;have h:Vc.Own w0.heap.size w0 w (SlT intE ⟨none,0,0⟩ []::BlkA ob [.z (n:Int), .z (bi:Int), .z (pl:Int), .slice none 0 0]::BlkA rb [.z 0, .z 0, .z 0, .slice none 0 0]::BlkA ab [.z c, .z bits, .z lines, .slice s.a s.len s.cap]::R):=h;intro l12 hl12
 have loop:∀(d i:Nat) (so:Sl) (ps:List Int) (w:World),i+d=n->ps.length=i->(∀p∈ps,0≤p/\p<256)->
   Vc.Own w0.heap.size w0 w (SlT intE so ps::BlkA ob [.z (n:Int), .z (bi:Int), .z (pl:Int), .slice so.a so.len so.cap]::BlkA rb [.z 0, .z 0, .z 0, .slice none 0 0]::BlkA ab [.z c, .z bits, .z lines, .slice s.a s.len s.cap]::R)->l12 (i:Int) w:=by
  intro d
  induction d with
  |succ d ih=>
   intro i so ps w hid hpl2 hps h;apply hl12;refine cdecT (by omega) ?_;refine ⟨s,h.ldd rfl,?_⟩;intro k16 hk16
   have key:∀(p:Int),0≤p->p<256->k16 p w:=by
    intro p p0 p1;apply hk16;refine ⟨so,h.ldd rfl,?_⟩;refine h.al fun w1 h=>?_
    generalize w.heap.size=tb at h⊢;refine app_int (s:=so) h (by omega) fun s' w _ h=>?_
    refine h.std rfl rfl fun w h=>?_
    (try dsimp only[putAt,List.set_cons_zero,List.set_cons_succ] at h)
    rw[show IntKind.i64.wrap ((i:Int)+1)=((i+1:Nat):Int) from by rw[wr (by omega) (by omega)];omega];refine ih (i+1) s' (ps++ [p]) w (by omega) (by rw[List.length_append];simp[hpl2]) ?_ ?_
    ·intro x hx
     rcases List.mem_append.1 hx with hx|hx
     ·exact hps x hx
     ·rw[List.mem_singleton.1 hx];exact ⟨p0,p1⟩
    ·exact h.sub
   refine cdec (fun e=>?_) (fun e=>?_)
   ·have hlt:i<prios.length:=by omega
    obtain ⟨a,ha,hg⟩:=hi.get h (gE hlt);obtain ⟨q,hq,eq⟩:=Sl.andle prios[i] 255 (by decide);have eq:andI .i64 prios[i] 255=(q:Int):=eq;refine ⟨s,h.ldd rfl,a,ha,by omega,e,prios[i],?_,?_⟩
    ·have:=hg 0 _ rfl
     rw[add_nil] at this;rw[show ((i:Int)).toNat=i from Int.toNat_natCast i];exact this
    ·rw[eq];exact key _ (by omega) (by omega)
   ·exact key 5 (by decide) (by decide)
  |zero=>
   intro i so ps w hid hpl2 hps h;have hin:i=n:=hid;apply hl12;refine cdecF (by omega) ?_;refine h.lc_4 rfl ?_;refine h.stLc rfl rfl fun w h=>?_
   (try dsimp only[putAt,List.set_cons_zero,List.set_cons_succ] at h)
   refine h.lc_4 rfl ?_;exact hK n bi pl ps so w (by omega) (by omega) (by omega) (by omega) (by omega) (by omega) hps h.sub
 exact loop n 0 ⟨none,0,0⟩ [] w (by omega) rfl (fun p hp=>by cases hp) h
end
end Go.Proofs.YtghikphgplamkaaGreat
end
section
set_option maxRecDepth 8000
namespace Go.Proofs.YtghikphgplamkaaGreat.Mc
open Go Go.Vc Go.Proofs
def corZ:Cor:=⟨[],0,0,tZ⟩
def newM (k:Ker) (nc:Nat) (prog:List Call) (room:Int):Mch:=⟨k,[],List.replicate nc [],List.replicate nc corZ,room,prog⟩
theorem newM_ok {c bits lines:Nat} {prios:List Int} {prog:List Call} {room:Int} (h1:1≤c) (h8:c≤8) (hb:4≤bits/\bits≤20) (hl:lines≤8) (hp:prios.length=c) (hps:∀p∈prios,0≤p/\p<256) (r1:1≤room) (r8:room≤8):
  MOk c 1 0 (newM (Ker.bootK c bits lines prios) c prog room):=by
 have hk:=(bootK_ok h8 hb hl hp hps).1;refine ⟨h1,h8,by simp[newM],by simp[newM],r1,r8,fun x hx=>?_,fun x hx=>?_,fun x hx=>?_,fun x hx=>?_,List.nodup_nil,fun x hx=>(by cases hx),hk.ok,?_⟩
 ·rw[List.eq_of_mem_replicate hx];show ((0:Nat):Int)≤room;omega
 ·rw[List.eq_of_mem_replicate hx];exact fun hh=>absurd rfl hh
 ·rw[List.eq_of_mem_replicate hx];exact Nat.le_refl _
 ·rw[List.eq_of_mem_replicate hx];exact Nat.zero_le _
 ·show pgN (Ker.bootK c bits lines prios).spaces≤0
  rw[hk.sp];exact Nat.le_refl _
section
variable {B:Nat} {w0 w:World} {R L R':List Asn} {b nc N g p:Nat} {m:Mch} {n:Int} {s:Sl}
theorem Clone_call {xs:List Call} {K:Sl->Pw} [I:SlIn s L Call callE xs] (h:Vc.Own B w0 w L) (hbig:xs.length≤1000000) (hK:∀s' w',Vc.Own B w0 w' (SlT callE s' xs::L)->K s' w'):C.qF s K w:=by
 apply S.qF0
 exact clone_g (s:=s) (E:=callE) (xs:=xs) (zv:= .agg ⟨callE.enc ⟨0,0,0,0,0,0⟩⟩) Tryz.underlying25 (show Tryz.prog.info? 91=some Tryz.t91 from by kernel_rfl) (by kernel_rfl) (by kernel_rfl) rfl (by decide) h (by
  have e:Tryz.t91.bytes=48:=by kernel_rfl
  rw[e];omega) hK
theorem app1_core {ys:List Cm} {y:Cm} {c:Nat} {k:Sl->Pw} [I:SlIn s L Cm corE ys] [J:Pick (SlT corE s ys) L R] (h:Vc.Own B w0 w (BlkA c (corE.enc y)::L)) (hbig:ys.length≤1000000)
  (hk:∀s' w',s'.len=ys.length+1->Vc.Own B w0 w' (SlT corE s' (ys++ [y])::R)->k s' w'):
  ∃s' w',AppR Tryz.prog [77,77] 77 (.slice s.a s.len s.cap) (.slice (some (Addr.mk c 0 none)) 1 1) w s' w'/\k s' w':=
 Vc.Own.app1c (E:=corE) (y:=y) Tryz.underlying77 (show Tryz.prog.info? 86=some Tryz.t86 from by kernel_rfl) (zv:= .agg #[.pointer none, .z 0, .z 0, .z 0, .y 0, .z 0, .slice none 0 0]) (by kernel_rfl) (by kernel_rfl) rfl (by decide) h (by
  have e:Tryz.t86.bytes=72:=by kernel_rfl
  rw[e];omega) hk
set_option maxHeartbeats 1000000 in
theorem New_spec {c bits lines:Nat} {prios:List Int} {prog:List Call} {room:Int} {s5:Sl} {K:Option Addr->Int->Pw} [I:SlIn s L Int intE prios] [I5:SlIn s5 L Call callE prog]
  (h1:1≤c) (h8:c≤8) (hb:4≤bits/\bits≤20) (hl:lines≤8) (hp:prios.length=c) (hps:∀p∈prios,0≤p/\p<256) (r1:1≤room) (r8:room≤8) (hpl:prog.length≤1000000) (h:Vc.Own B w0 w L)
  (hK:∀b w',Vc.Own B w0 w' (MchA b (newM (Ker.bootK c bits lines prios) c prog room)::L)->K (some ⟨b,0,none⟩) 0 w'):C.qbB (c:Int) (bits:Int) (lines:Int) s s5 room K w:=by
 apply S.qbB0;have hr:Ker.rightB (c:Int) (bits:Int) (lines:Int) prios=true:=decide_eq_true ⟨by omega,by omega,by omega,by omega,by omega,by omega,by omega,hps⟩;refine h.al fun w1 h=>?_
 generalize w.heap.size=ab at h⊢;refine h.lc_4 (x3:=s) rfl ?_;refine Boot_spec (s:=s) (prios:=prios) h (by omega) (fun e=>by rw[hr] at e;cases e) fun _ kb w h=>?_
 rw[show (c:Int).toNat=c from Int.toNat_natCast c,show (bits:Int).toNat=bits from Int.toNat_natCast bits,show (lines:Int).toNat=lines from Int.toNat_natCast lines] at h;generalize Ker.bootK c bits lines prios=k at h hK;refine cneF rfl ?_;refine Clone_call (s:=s5) (xs:=prog) h hpl fun s6 w h=>?_
 refine h.al fun w2 h=>?_
 generalize w.heap.size=mb at h⊢;refine ⟨_,h.ldc rfl,?_⟩;refine lock_New_spec h1 h8 h fun lb w h=>⟨_,rfl,?_⟩
 refine h.std rfl rfl fun w h=>?_
 (try dsimp only[putAt,List.set_cons_zero,List.set_cons_succ] at h)
 refine ⟨_,h.ldc rfl,?_⟩;refine box_New_spec h1 h8 h fun bb w h=>⟨_,rfl,?_⟩
 refine h.std rfl rfl fun w h=>?_
 (try dsimp only[putAt,List.set_cons_zero,List.set_cons_succ] at h)
 refine ⟨_,h.ldc rfl,?_⟩;intro l hl31
 have loop:∀(d j:Nat) (cs:Sl) (ps:List Nat) (xs:List (Cor × Sl)) (w:World),j+d=c->xs=List.replicate j (corZ,⟨none,0,0⟩)->
   Vc.Own B w0 w (BlkA mb [.pointer (some ⟨kb,0,none⟩), .pointer (some ⟨lb,0,none⟩), .pointer (some ⟨bb,0,none⟩), .slice cs.a cs.len cs.cap, .slice s6.a s6.len s6.cap]::SlT corE cs (cms ps xs)::PtsA (CoreA room) ps xs::BoxA bb (List.replicate c [])::LockA lb c []::SlT callE s6 prog::KerA kb k::L)->l (j:Int) w:=by
  intro d
  induction d with
  |zero=>
   intro j cs ps xs w hj hx h;have ej:j=c:=by omega
   subst ej;apply hl31;refine cdecF (by omega) ?_;refine hK mb w (mk_mch ⟨kb,lb,bb,cs,s6,ps,xs⟩ (by rw[hx];simp[newM]) ?_);have e:(newM k j prog room).cs.length=j:=by simp[newM]
   rw[e];have h2:Vc.Own B w0 w (BlkA mb [.pointer (some ⟨kb,0,none⟩), .pointer (some ⟨lb,0,none⟩), .pointer (some ⟨bb,0,none⟩), .slice cs.a cs.len cs.cap, .slice s6.a s6.len s6.cap]::KerA kb k::LockA lb j []::BoxA bb (List.replicate j [])::SlT corE cs (cms ps xs)::PtsA (CoreA room) ps xs::SlT callE s6 prog::L):=h.sub;exact h2
  |succ d ih=>
   intro j cs ps xs w hj hx h;have hpl2:ps.length=xs.length:=Vc.Own.pts_len (h.pick (A:=PtsA (CoreA room) ps xs));have hxl:xs.length=j:=by rw[hx,List.length_replicate]
   apply hl31;refine cdecT (by omega) ?_;refine tlb_New_spec r1 (by omega) h fun tb w h=>?_
   refine cneF rfl ⟨_,rfl,cs,h.ldd rfl,?_⟩;refine h.al fun w3 h=>?_
   generalize w.heap.size=ec at h⊢;have h:Vc.Own B w0 w3 (BlkA ec (corE.enc (cm tb (corZ,⟨none,0,0⟩)))::_):=h;refine app1_core (s:=cs) (ys:=cms ps xs) h (by rw[List.length_zipWith];omega) fun s' w hs' h=>⟨_,rfl,?_⟩
   refine h.std rfl rfl fun w h=>?_
   (try dsimp only[putAt,List.set_cons_zero,List.set_cons_succ] at h)
   rw[show IntKind.i64.wrap ((j:Int)+1)=((j+1:Nat):Int) from by rw[wr (by omega) (by omega)];omega];refine ih (j+1) s' (ps++ [tb]) (xs++ [(corZ,⟨none,0,0⟩)]) w (by omega) (by rw[hx,List.replicate_succ']) ?_
   have ez:cms (ps++ [tb]) (xs++ [(corZ,⟨none,0,0⟩)])=cms ps xs++ [cm tb (corZ,⟨none,0,0⟩)]:=by
    show List.zipWith cm _ _=_;rw[List.zipWith_append hpl2];rfl
   rw[ez];have h2:Vc.Own B w0 w (TlbA tb room []::SlT lneE ⟨none,0,0⟩ []::PtsA (CoreA room) ps xs::BlkA mb [.pointer (some ⟨kb,0,none⟩), .pointer (some ⟨lb,0,none⟩), .pointer (some ⟨bb,0,none⟩), .slice s'.a s'.len s'.cap, .slice s6.a s6.len s6.cap]::SlT corE s' (cms ps xs++ [cm tb (corZ,⟨none,0,0⟩)])::BoxA bb (List.replicate c [])::LockA lb c []::SlT callE s6 prog::KerA kb k::L):=Vc.Own.up1 (Vc.Own.nilS (h.sub));have h3:Vc.Own B w0 w (CoreA room tb (corZ,⟨none,0,0⟩)::PtsA (CoreA room) ps xs::_):=Vc.Own.mk_star (M:=[TlbA tb room [],SlT lneE ⟨none,0,0⟩ []]) h2;exact (h3.pt_add).sub
 have h2:Vc.Own B w0 w (PtsA (CoreA room) [] []::SlT corE ⟨none,0,0⟩ []::_):=Vc.Own.mk_pts rfl (Vc.Own.nilS h);have h3:Vc.Own B w0 w (BlkA mb [.pointer (some ⟨kb,0,none⟩), .pointer (some ⟨lb,0,none⟩), .pointer (some ⟨bb,0,none⟩), .slice none 0 0, .slice s6.a s6.len s6.cap]::SlT corE ⟨none,0,0⟩ []::PtsA (CoreA room) [] []::BoxA bb (List.replicate c [])::LockA lb c []::SlT callE s6 prog::KerA kb k::L):=h2.sub;refine loop c 0 ⟨none,0,0⟩ [] [] w (by omega) rfl h3
theorem Core_spec {K:Int->Bool->Pw} (hm:MOk nc N g m) (h:Vc.Own B w0 w (MchA b m::R))
  (hK:K (if 0≤n/\n<(nc:Int) then (m.corAt n).does else 0) (decide (0≤n/\n<(nc:Int))) w):C.qaB (some ⟨b,0,none⟩) n K w:=by
 apply S.qaB0;refine is_spec hm h ?_;by_cases e:0≤n/\n<(nc:Int)
 ·rw[if_pos e,decide_eq_true e] at hK
  rw[decide_eq_true e];refine cbF rfl ?_;obtain ⟨x,p,fs,Y,hZ,hzl,h,back⟩:=focus hm e.1 e.2 h;refine ⟨_,rfl,x.cs,h.ldd rfl,?_⟩;exact corLd (s:=x.cs) h e.1 hZ fun a ha hc0 hc=>⟨_,hc 1 _ rfl,hK⟩
 ·rw[if_neg e,decide_eq_false e] at hK
  rw[decide_eq_false e];exact cbT rfl hK
theorem Lines_spec {K:Sl->Pw} (hm:MOk nc N g m) (h:Vc.Own B w0 w (MchA b m::R))
  (hK:∀s w',Vc.Own B w0 w' (SlT lneE s (if 0≤n/\n<(nc:Int) then (m.corAt n).tl else [])::MchA b m::R)->K s w'):C.qas (some ⟨b,0,none⟩) n K w:=by
 apply S.qas0;refine is_spec hm h ?_;by_cases e:0≤n/\n<(nc:Int)
 ·rw[if_pos e] at hK
  rw[decide_eq_true e];refine cbF rfl ?_;obtain ⟨x,p,fs,Y,hZ,hzl,h,back⟩:=focus hm e.1 e.2 h;obtain ⟨hc1,hc2⟩:=hm.cor e.1 e.2;have htl:=hm.tl _ hc2;have hr8:=hm.r8;refine ⟨_,rfl,x.cs,h.ldd rfl,?_⟩;refine corLd (s:=x.cs) h e.1 hZ fun a ha hc0 hc=>⟨_,hc0 _ rfl,?_⟩
  refine tlb_Lines_spec (b:=p) (l:=(m.corAt n).tl) (room:=m.room) (by omega) (h.pick (A:=TlbA p m.room (m.corAt n).tl)) fun s w h=>?_
  have h:Vc.Own B w0 w (OL b nc x p fs Y m (m.corAt n) (cms x.ps x.xs) (SlT lneE s (m.corAt n).tl::R)):=h.sub;exact hK s w (Vc.Own.up1 (back (SlT lneE s (m.corAt n).tl::R) m (m.corAt n) fs w (setZ hc1).symm rfl rfl (by rw[setZ hZ];exact h)))
 ·rw[if_neg e] at hK
  rw[decide_eq_false e];exact cbT rfl (hK ⟨none,0,0⟩ w (Vc.Own.nilS h))
theorem Line_spec {K:Sl->Pw} (hm:MOk nc N g m) (h:Vc.Own B w0 w (MchA b m::R)) (hK:∀s w',Vc.Own B w0 w' (SlT intE s m.line::MchA b m::R)->K s w'):C.qaj (some ⟨b,0,none⟩) K w:=by
 apply S.qaj0;obtain ⟨x,hx,h⟩:=mchO h;refine ⟨_,rfl,_,h.ldd rfl,?_⟩;refine lock_Line_spec (by have:=hm.cs;have:=hm.n8;omega) (h.pick (A:=LockA x.l m.cs.length m.line)) fun s w h=>?_
 have h2:Vc.Own B w0 w (BlkA b (mcells x)::KerA x.k m.k::LockA x.l m.cs.length m.line::BoxA x.b m.bx::SlT corE x.cs (cms x.ps x.xs)::PtsA (CoreA m.room) x.ps x.xs::SlT callE x.pr m.prog::SlT intE s m.line::R):=h.sub;exact hK s w (Vc.Own.up1 (mk_mch x hx h2))
theorem MHeld_spec {K:Sl->Pw} (hm:MOk nc N g m) (h:Vc.Own B w0 w (MchA b m::R)) (hK:∀s w',Vc.Own B w0 w' (SlT Sl.heldE s (heldL m.k.H)::MchA b m::R)->K s w'):C.qaC (some ⟨b,0,none⟩) K w:=by
 apply S.qaC0;obtain ⟨x,hx,h⟩:=mchO h;refine ⟨_,rfl,_,h.ldc rfl,?_⟩;refine Held_spec hm.k (h.pick (A:=KerA x.k m.k)) fun s w h=>?_
 have h2:Vc.Own B w0 w (BlkA b (mcells x)::KerA x.k m.k::LockA x.l m.cs.length m.line::BoxA x.b m.bx::SlT corE x.cs (cms x.ps x.xs)::PtsA (CoreA m.room) x.ps x.xs::SlT callE x.pr m.prog::SlT Sl.heldE s (heldL m.k.H)::R):=h.sub;exact hK s w (Vc.Own.up1 (mk_mch x hx h2))
theorem MPages_spec {K:Sl->Pw} (h:Vc.Own B w0 w (MchA b m::R)) (hK:∀s w',Vc.Own B w0 w' (SlT Tb.laidE s (m.k.pagesR n)::MchA b m::R)->K s w'):C.qat (some ⟨b,0,none⟩) n K w:=by
 apply S.qat0;obtain ⟨x,hx,h⟩:=mchO h;refine ⟨_,rfl,_,h.ldc rfl,?_⟩;refine Pages_spec (h.pick (A:=KerA x.k m.k)) fun s w h=>?_
 have h2:Vc.Own B w0 w (BlkA b (mcells x)::KerA x.k m.k::LockA x.l m.cs.length m.line::BoxA x.b m.bx::SlT corE x.cs (cms x.ps x.xs)::PtsA (CoreA m.room) x.ps x.xs::SlT callE x.pr m.prog::SlT Tb.laidE s (m.k.pagesR n)::R):=h.sub;exact hK s w (Vc.Own.up1 (mk_mch x hx h2))
end
section
variable {B:Nat} {w0 w:World} {R L:List Asn}
theorem app_calls {s5:Sl} {calls:List Call} {cb:Nat} {k:Sl->Pw} (hi5:Inp callE w0 s5 calls) (h:Vc.Own w0.heap.size w0 w (BlkA cb []::R))
  (hk:∀s' w',Vc.Own w0.heap.size w0 w' (SlT callE s' (calls.take 40)::R)->k s' w'):
  ∃s' w',AppR Tryz.prog [25,25] 25 (.slice (some (Addr.mk cb 0 none)) 0 0) (.slice (slA s5.a 0 s5.cap 6) ((minI (s5.len:Int) 40).toNat-0) (s5.cap-0)) w s' w'/\k s' w':=by
 have hlen:=hi5.len;have e:(minI (s5.len:Int) 40).toNat=min calls.length 40:=by unfold minI;omega
 rw[e];have h2:Vc.Own w0.heap.size w0 w (SlT callE ⟨some (Addr.mk cb 0 none),0,0⟩ []::R):=Vc.Own.empty h;have eb:Tryz.t91.bytes=48:=by kernel_rfl
 refine Vc.Own.appI (E:=callE) (s:=⟨some (Addr.mk cb 0 none),0,0⟩) (xs:=[]) (ys:=calls) (n:=min calls.length 40) Tryz.underlying25 (show Tryz.prog.info? 91=some Tryz.t91 from by kernel_rfl) (zv:= .agg ⟨callE.enc ⟨0,0,0,0,0,0⟩⟩) (by kernel_rfl) (by kernel_rfl) rfl (by decide) hi5 (by omega) h2 0 rfl (by rw[eb];simp only[List.length_nil];omega) fun s' w' _ h=>?_
 have et:calls.take (min calls.length 40)=calls.take 40:=by
  by_cases hl:calls.length≤40
  ·rw[List.take_of_length_le (by omega),List.take_of_length_le hl]
  ·rw[show min calls.length 40=40 from by omega]
 rw[et] at h;exact hk s' w' h
set_option maxHeartbeats 1000000 in
theorem R19_spec {c bits lines rm:Int} {prios:List Int} {calls:List Call} {s s5:Sl} {K:Int->Int->Int->Sl->Sl->Int->Pw} (hi:Inp intE w0 s prios) (hi5:Inp callE w0 s5 calls) (h:Vc.Own w0.heap.size w0 w R)
  (hK:∀(n bi li:Nat) (ps:List Int) (room:Int) s' s5' w',1≤n->n≤3->6≤bi->bi≤12->li≤3->ps.length=n->(∀p∈ps,0≤p/\p<256)->1≤room->room≤8->
   Vc.Own w0.heap.size w0 w' (SlT callE s5' (calls.take 40)::SlT intE s' ps::R)->K (n:Int) (bi:Int) (li:Int) s' s5' room w'):C.qdj c bits lines s s5 rm K w:=by
 apply S.qdj0;obtain ⟨pr,hpr,er⟩:=Sl.andle rm 7 (by decide);have er:andI .i64 rm 7=(pr:Int):=er;have ew:IntKind.i64.wrap (1+(pr:Int))=1+(pr:Int):=wr (by omega) (by omega);have hlen:=hi5.len;have hcap:=hi5.cap;refine h.al fun w1 h=>?_
 generalize w.heap.size=ab at h⊢;refine h.al fun w2 h=>?_
 generalize w1.heap.size=rb at h⊢;refine h.dr fun w h=>?_
 refine h.lc_4 (x3:=s) rfl ?_;refine ⟨s5,h.ldd rfl,s5,h.ldd rfl,?_⟩;refine ⟨by unfold minI;omega,by unfold minI;omega,rm,h.ldd rfl,?_,?_,trivial⟩
 ·refine Right_spec hi h fun n bi li ps s' w n1 n3 b6 b12 l3 hpn hps h=>⟨h.ldd rfl,h.ldd rfl,h.ldd rfl,Go.Vc.a2 ?_⟩
  refine h.al fun w3 h=>Go.Vc.a2 ?_
  generalize w.heap.size=cb at h⊢;refine app_calls hi5 h fun s5' w h=>⟨h.ldd rfl,Go.Vc.a2 ?_⟩
  rw[er,ew];refine h.stLc rfl rfl fun w h=>?_
  (try dsimp only[putAt,List.set_cons_zero,List.set_cons_succ] at h)
  refine h.lc_6 (x3:=s') (x4:=s5') rfl ?_;exact hK n bi li ps _ s' s5' w n1 n3 b6 b12 l3 hpn hps (by omega) (by omega) h.sub
 ·refine h.al fun w3 h=>Go.Vc.a2 ?_
  generalize w.heap.size=cb at h⊢;refine Right_spec hi h fun n bi li ps s' w n1 n3 b6 b12 l3 hpn hps h=>⟨h.ldd rfl,h.ldd rfl,h.ldd rfl,Go.Vc.a2 ?_⟩
  refine app_calls hi5 (h.pick (A:=BlkA cb [])) fun s5' w h=>⟨h.ldd rfl,Go.Vc.a2 ?_⟩
  rw[er,ew];refine h.stLc rfl rfl fun w h=>?_
  (try dsimp only[putAt,List.set_cons_zero,List.set_cons_succ] at h)
  refine h.lc_6 (x3:=s') (x4:=s5') rfl ?_;exact hK n bi li ps _ s' s5' w n1 n3 b6 b12 l3 hpn hps (by omega) (by omega) h.sub
theorem One_spec {K:Int->Int->Int->Sl->Pw} (h:Vc.Own B w0 w R) (hK:∀s w',Vc.Own B w0 w' (SlT intE s [5]::R)->K 1 10 2 s w'):C.qdq K w:=by
 apply S.qdq0;refine h.al fun w1 h=>?_
 generalize w.heap.size=ab at h⊢;refine h.al fun w2 h=>?_
 generalize w1.heap.size=pb at h⊢;refine h.stLc rfl rfl fun w h=>?_
 (try dsimp only[putAt,List.set_cons_zero,List.set_cons_succ] at h)
 refine h.lc_4 (x3:=(⟨some ⟨pb,0,none⟩,1,1⟩:Sl)) rfl ?_;have h2:Vc.Own B w0 w (SlT intE ⟨some ⟨pb,0,none⟩,1,1⟩ [5]::_):=Vc.Own.asSl (h.pick (A:=BlkA pb [.z 5])) [5] rfl;exact hK _ w h2.sub
theorem New_bad {c bits lines:Nat} {prios:List Int} {room:Int} {s:Sl} {K:Option Addr->Int->Pw} [I:SlIn s L Int intE prios]
  (h1:1≤c) (h8:c≤8) (hb:4≤bits/\bits≤20) (hl:lines≤8) (hp:prios.length=c) (hps:∀p∈prios,0≤p/\p<256) (r1:room<1) (h:Vc.Own B w0 w L)
  (hK:∀w',Vc.Own B w0 w' L->K none 1 w'):C.qbB (c:Int) (bits:Int) (lines:Int) s ⟨none,0,0⟩ room K w:=by
 apply S.qbB0;have hr:Ker.rightB (c:Int) (bits:Int) (lines:Int) prios=true:=decide_eq_true ⟨by omega,by omega,by omega,by omega,by omega,by omega,by omega,hps⟩;refine h.al fun w1 h=>?_
 generalize w.heap.size=ab at h⊢;refine h.lc_4 (x3:=s) rfl ?_;refine Boot_spec (s:=s) (prios:=prios) h (by omega) (fun e=>by rw[hr] at e;cases e) fun _ kb w h=>?_
 refine cneF rfl ?_;have h:Vc.Own B w0 w (SlT callE ⟨none,0,0⟩ []::_):=Vc.Own.nilS h;refine Clone_call (s:=⟨none,0,0⟩) (xs:=[]) h (by simp) fun s6 w h=>?_
 refine h.al fun w2 h=>?_
 generalize w.heap.size=mb at h⊢;refine ⟨_,h.ldc rfl,?_⟩;refine lock_New_spec h1 h8 h fun lb w h=>⟨_,rfl,?_⟩
 refine h.std rfl rfl fun w h=>?_
 (try dsimp only[putAt,List.set_cons_zero,List.set_cons_succ] at h)
 refine ⟨_,h.ldc rfl,?_⟩;refine box_New_spec h1 h8 h fun bb w h=>⟨_,rfl,?_⟩
 refine h.std rfl rfl fun w h=>?_
 (try dsimp only[putAt,List.set_cons_zero,List.set_cons_succ] at h)
 refine ⟨_,h.ldc rfl,?_⟩;intro l hl31;apply hl31;refine cdecT (by omega) ?_;apply S.qdE0;intro k hk;refine cdecT (by omega) ?_;apply hk;refine cbT rfl ?_;refine cneT (by decide) ?_;exact hK w h.sub
end
def fx0:Mch:=newM (Ker.bootK 1 10 2 [5]) 1 [⟨0,1,20,6,0,1⟩] 4
def fx1:Mch:=(fx0.item ⟨1,0,0,0⟩).2
def fx2:Mch:=(fx1.item ⟨0,0,0,0⟩).2
def fx3:Mch:=(fx2.item ⟨0,0,0,0⟩).2
def fx4:Mch:=(fx3.item ⟨3,0,0,0⟩).2
def fx5:Mch:=(fx4.item ⟨0,0,0,0⟩).2
def fx6:Mch:=(fx5.item ⟨3,0,0,0⟩).2
def fx7:Mch:=(fx6.item ⟨1,0,5,1⟩).2
def fx8:Mch:=(fx7.item ⟨0,1,0,0⟩).2
theorem fa0:(fx0.item ⟨1,0,0,0⟩).1.isSome=false:=by kernel_rfl
theorem fa1:(fx1.corAt 0).does=1:=by kernel_rfl
theorem fa2:((fx1.item ⟨0,0,0,0⟩).1.getD noSeen).kind=0/\(fx1.item ⟨0,0,0,0⟩).1.isSome=true:=⟨by kernel_rfl,by kernel_rfl⟩
theorem fa3:((fx2.item ⟨0,0,0,0⟩).1.getD noSeen).kind=1/\((fx2.item ⟨0,0,0,0⟩).1.getD noSeen).t.e=0/\(fx2.item ⟨0,0,0,0⟩).1.isSome=true:=⟨by kernel_rfl,by kernel_rfl,by kernel_rfl⟩
theorem fa4:(fx3.item ⟨3,0,0,0⟩).1.isSome=false:=by kernel_rfl
theorem fa5:((fx4.item ⟨0,0,0,0⟩).1.getD noSeen).kind=2/\(fx4.item ⟨0,0,0,0⟩).1.isSome=true:=⟨by kernel_rfl,by kernel_rfl⟩
theorem fa6:((fx5.item ⟨3,0,0,0⟩).1.getD noSeen).is=true/\(fx5.item ⟨3,0,0,0⟩).1.isSome=true:=⟨by kernel_rfl,by kernel_rfl⟩
theorem fa7:((fx6.item ⟨1,0,5,1⟩).1.getD noSeen).kind=3/\((fx6.item ⟨1,0,5,1⟩).1.getD noSeen).is=false/\(fx6.item ⟨1,0,5,1⟩).1.isSome=true:=⟨by kernel_rfl,by kernel_rfl,by kernel_rfl⟩
theorem fa8:(fx7.item ⟨0,1,0,0⟩).1.isSome=false:=by kernel_rfl
theorem fa9:(heldL fx8.k.H).length=7:=by kernel_rfl
theorem prgOk:PrOk [⟨0,1,20,6,0,1⟩]:=fun c hc=>by rw[List.mem_singleton.1 hc];exact ⟨by decide,by decide⟩
theorem prg0:PrOk fx0.prog:=by rw[show fx0.prog= [⟨0,1,20,6,0,1⟩] from by kernel_rfl];exact prgOk
theorem prg1:PrOk fx1.prog:=by rw[show fx1.prog= [⟨0,1,20,6,0,1⟩] from by kernel_rfl];exact prgOk
theorem prg2:PrOk fx2.prog:=by rw[show fx2.prog= [⟨0,1,20,6,0,1⟩] from by kernel_rfl];exact prgOk
theorem prg3:PrOk fx3.prog:=by rw[show fx3.prog= [⟨0,1,20,6,0,1⟩] from by kernel_rfl];exact prgOk
theorem prg4:PrOk fx4.prog:=by rw[show fx4.prog= [⟨0,1,20,6,0,1⟩] from by kernel_rfl];exact prgOk
theorem prg5:PrOk fx5.prog:=by rw[show fx5.prog= [⟨0,1,20,6,0,1⟩] from by kernel_rfl];exact prgOk
theorem prg6:PrOk fx6.prog:=by rw[show fx6.prog= [⟨0,1,20,6,0,1⟩] from by kernel_rfl];exact prgOk
theorem prg7:PrOk fx7.prog:=by rw[show fx7.prog= [⟨0,1,20,6,0,1⟩] from by kernel_rfl];exact prgOk
theorem hm0:MOk 1 1 0 fx0:=newM_ok (by decide) (by decide) (by decide) (by decide) rfl (fun p hp=>by rw[List.mem_singleton.1 hp];decide) (by decide) (by decide)
theorem hm1:MOk 1 65 1 fx1:=(hm0.item (by decide) ⟨1,0,0,0⟩).1
theorem hm2:MOk 1 129 2 fx2:=(hm1.item (by decide) ⟨0,0,0,0⟩).1
theorem hm3:MOk 1 193 3 fx3:=(hm2.item (by decide) ⟨0,0,0,0⟩).1
theorem hm4:MOk 1 257 4 fx4:=(hm3.item (by decide) ⟨3,0,0,0⟩).1
theorem hm5:MOk 1 321 5 fx5:=(hm4.item (by decide) ⟨0,0,0,0⟩).1
theorem hm6:MOk 1 385 6 fx6:=(hm5.item (by decide) ⟨3,0,0,0⟩).1
theorem hm7:MOk 1 449 7 fx7:=(hm6.item (by decide) ⟨1,0,5,1⟩).1
theorem hm8:MOk 1 513 8 fx8:=(hm7.item (by decide) ⟨0,1,0,0⟩).1
section
variable {B:Nat} {w0 w:World} {R L:List Asn}
set_option maxHeartbeats 2000000 in
theorem fixed19_spec {K:Bool->Pw} (h:Vc.Own B w0 w R) (hK:∀w',Vc.Own B w0 w' R->K true w'):C.qdk K w:=by
 apply S.qdk0;refine One_spec h fun s w h=>?_
 refine h.al fun w1 h=>?_
 generalize w.heap.size=pb at h⊢;have h:Vc.Own B w0 w1 (SlT callE ⟨some ⟨pb,0,none⟩,1,1⟩ [⟨0,1,20,6,0,1⟩]::SlT intE s [5]::R):=Vc.Own.asSl (E:=callE) h ([⟨0,1,20,6,0,1⟩]:List Call) rfl;refine New_spec (c:=1) (bits:=10) (lines:=2) (prios:=[5]) (prog:=[⟨0,1,20,6,0,1⟩]) (room:=4) (s:=s) (s5:=⟨some ⟨pb,0,none⟩,1,1⟩) (by decide) (by decide) (by decide) (by decide) rfl (fun p hp=>by rw[List.mem_singleton.1 hp];decide) (by decide) (by decide) (by decide) h fun b w h=>?_
 have h:Vc.Own B w0 w (MchA b fx0::R):=Vc.Own.sub (show Vc.Own B w0 w (MchA b fx0::SlT callE ⟨some ⟨pb,0,none⟩,1,1⟩ [⟨0,1,20,6,0,1⟩]::SlT intE s [5]::R) from h);intro k hk;refine cbF rfl ?_;apply hk;refine cneF rfl ?_;refine Step_spec (it:=⟨1,0,0,0⟩) hm0 (by decide) (by decide) prg0 (h.pick (A:=MchA b fx0)) fun fs w h=>?_
 have h:Vc.Own B w0 w (SlT lneE fs _::MchA b fx1::_):=h;have h:=h.drop;refine h.al fun w2 h=>?_
 generalize w.heap.size=c0 at h⊢;refine h.stLc rfl rfl fun w h=>?_
 (try dsimp only[putAt,List.set_cons_zero,List.set_cons_succ] at h)
 refine Core_spec (n:=0) hm1 (h.pick (A:=MchA b fx1)) ?_;refine Step_spec (it:=⟨0,0,0,0⟩) hm1 (by decide) (by decide) prg1 (h.pick (A:=MchA b fx1)) fun fs w h=>?_
 have h:Vc.Own B w0 w (SlT lneE fs _::MchA b fx2::_):=h;have h:=h.drop;refine h.al fun w2 h=>?_
 generalize w.heap.size=c1 at h⊢;refine h.stLc rfl rfl fun w h=>?_
 (try dsimp only[putAt,List.set_cons_zero,List.set_cons_succ] at h)
 refine Step_spec (it:=⟨0,0,0,0⟩) hm2 (by decide) (by decide) prg2 (h.pick (A:=MchA b fx2)) fun fs w h=>?_
 have h:Vc.Own B w0 w (SlT lneE fs _::MchA b fx3::_):=h;have h:=h.drop;refine h.al fun w2 h=>?_
 generalize w.heap.size=c2 at h⊢;refine h.stLc rfl rfl fun w h=>?_
 (try dsimp only[putAt,List.set_cons_zero,List.set_cons_succ] at h)
 refine Step_spec (it:=⟨3,0,0,0⟩) hm3 (by decide) (by decide) prg3 (h.pick (A:=MchA b fx3)) fun fs w h=>?_
 have h:Vc.Own B w0 w (SlT lneE fs _::MchA b fx4::_):=h;have h:=h.drop;refine h.al fun w2 h=>?_
 generalize w.heap.size=c3 at h⊢;refine h.stLc rfl rfl fun w h=>?_
 (try dsimp only[putAt,List.set_cons_zero,List.set_cons_succ] at h)
 refine Step_spec (it:=⟨0,0,0,0⟩) hm4 (by decide) (by decide) prg4 (h.pick (A:=MchA b fx4)) fun fs w h=>?_
 have h:Vc.Own B w0 w (SlT lneE fs _::MchA b fx5::_):=h;have h:=h.drop;refine h.al fun w2 h=>?_
 generalize w.heap.size=c4 at h⊢;refine h.stLc rfl rfl fun w h=>?_
 (try dsimp only[putAt,List.set_cons_zero,List.set_cons_succ] at h)
 refine Step_spec (it:=⟨3,0,0,0⟩) hm5 (by decide) (by decide) prg5 (h.pick (A:=MchA b fx5)) fun fs w h=>?_
 have h:Vc.Own B w0 w (SlT lneE fs _::MchA b fx6::_):=h;have h:=h.drop;refine h.al fun w2 h=>?_
 generalize w.heap.size=c5 at h⊢;refine h.stLc rfl rfl fun w h=>?_
 (try dsimp only[putAt,List.set_cons_zero,List.set_cons_succ] at h)
 refine Step_spec (it:=⟨1,0,5,1⟩) hm6 (by decide) (by decide) prg6 (h.pick (A:=MchA b fx6)) fun fs w h=>?_
 have h:Vc.Own B w0 w (SlT lneE fs _::MchA b fx7::_):=h;have h:=h.drop;refine h.al fun w2 h=>?_
 generalize w.heap.size=c6 at h⊢;refine h.stLc rfl rfl fun w h=>?_
 (try dsimp only[putAt,List.set_cons_zero,List.set_cons_succ] at h)
 refine Step_spec (it:=⟨0,1,0,0⟩) hm7 (by decide) (by decide) prg7 (h.pick (A:=MchA b fx7)) fun fs w h=>?_
 have h:Vc.Own B w0 w (SlT lneE fs _::MchA b fx8::_):=h;have h:=h.drop;refine h.al fun w2 h=>?_
 generalize w.heap.size=c7 at h⊢;refine h.stLc rfl rfl fun w h=>?_
 (try dsimp only[putAt,List.set_cons_zero,List.set_cons_succ] at h)
 refine One_spec h fun s w h=>?_
 refine New_bad (c:=1) (bits:=10) (lines:=2) (prios:=[5]) (room:=0) (s:=s) (by decide) (by decide) (by decide) (by decide) rfl (fun p hp=>by rw[List.mem_singleton.1 hp];decide) (by decide) h fun w h=>?_
 refine cbT (by rw[fa0];rfl) ?_;refine ceqT (by rw[if_pos (by decide)];exact fa1) ?_;refine cbT rfl ?_;refine ⟨_,h.ldc rfl,ceqT fa2.1 (cbT fa2.2 ?_)⟩;refine ⟨_,h.ldc rfl,ceqT fa3.1 ?_⟩;refine ⟨_,h.ldd rfl,ceqT fa3.2.1 (cbT fa3.2.2 ?_)⟩;refine cbT (by rw[fa4];rfl) ?_;refine ⟨_,h.ldc rfl,ceqT fa5.1 (cbT fa5.2 ?_)⟩;refine ⟨_,h.ldd rfl,cbT fa6.1 (cbT fa6.2 ?_)⟩;refine ⟨_,h.ldc rfl,ceqT fa7.1 ?_⟩;refine ⟨_,h.ldd rfl,cbT (by rw[fa7.2.1];rfl) (cbT fa7.2.2 ?_)⟩;refine cbT (by rw[fa8];rfl) ?_;refine ceqT rfl ?_;refine MHeld_spec hm8 (h.pick (A:=MchA b fx8)) fun s2 w h=>?_
 have hl:=h.lenc s2;rw[fa9] at hl;rw[show ((s2.len:Int)==7)=true from by rw[hl];rfl];exact hK w h.sub
end
end Go.Proofs.YtghikphgplamkaaGreat.Mc
end
