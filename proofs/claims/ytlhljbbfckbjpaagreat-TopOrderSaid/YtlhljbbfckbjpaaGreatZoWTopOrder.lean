/- What the row rests on: the law, at the model and walked. -/
import Derived.Test.YtlhljbbfckbjpaaGreatZo10
set_option linter.unusedVariables false
set_option linter.unusedSimpArgs false
set_option linter.unusedSectionVars false
section
set_option maxRecDepth 8000
namespace Go.Proofs.YtlhljbbfckbjpaaGreat.Mc
open Go Go.Vc Go.Proofs
section
variable {w0 w:World}
set_option maxHeartbeats 1000000 in
theorem oE {o1 o2 o3 o6:Int} {prios:List Int} {calls:List Call} {s4 s5:Sl} {s7:ByteArray} {K:Bool->Pw}
  (_:(Lit.int .i64 o1).wf=true) (_:(Lit.int .i64 o2).wf=true) (_:(Lit.int .i64 o3).wf=true) (hi4:Ai aC w0 s4 prios) (_:∀x∈prios,(Lit.int .i64 x).wf=true) (hi5:Ai bI w0 s5 calls) (hg5:∀c∈calls,nP c) (_:(Lit.int .i64 o6).wf=true)
  (h:Ow w0.heap.size w0 w []) (hK:∀w',Ow w0.heap.size w0 w' []->K true w'):C.qdq o1 o2 o3 s4 s5 o6 s7 K w:=by
 apply S.qdq0;refine h.a fun ab w1 h=>?_;refine h.aU (x3:=s4) (x4:=s5) rfl ?_;refine EV hi4 hi5 hg5 h fun n bi li room s' s5' sl mb g m l w n3 hg rn hb hll h=>?_
 refine h.a fun pb w2 h=>?_;refine h.ax rfl rfl fun w h=>?_
 (try dsimp only[putAt,List.set_cons_zero,List.set_cons_succ] at h)
 refine bC rfl ?_;refine ⟨_,h.aq rfl, ?_⟩;obtain ⟨s,hrun,hrel⟩:=rn.ws;have n1:=rn.hm.n1;have hmost:=hrel.dJ;refine za n1 om rn.co hrun (rn.gA om) om h fun ln w h=>?_
 rw[hrel.line] at h;refine Bv rn.hm (h.pick (A:=dL mb m)) fun ln2 w h=>?_
 have h:Ow w0.heap.size w0 w [af aC ln2 m.line,af aC ln m.line,dL mb m,af df sl l,rH l,aa pb [.z (n:Int), .z bi, .z li, .slice s'.a s'.len s'.cap, .slice s5'.a s5'.len s5'.cap, .z room]]:=h.sub;have hl1:=h.br ln;have hl2:=h.br ln2;intro k31 hk31
 have J:∀w,Ow w0.heap.size w0 w [af aC ln2 m.line,af aC ln m.line,dL mb m,af df sl l,rH l,aa pb [.z (n:Int), .z bi, .z li, .slice s'.a s'.len s'.cap, .slice s5'.a s5'.len s5'.cap, .z room]]->k31 ((ln.len:Int) !=(ln2.len:Int)) w:=fun w h=>by
  rw[show ((ln.len:Int) !=(ln2.len:Int))=false from by rw[hl1,hl2];simp];apply hk31;refine bC rfl ?_;intro l34 hl34
  have loop:∀(d i:Nat) (w:World),i+d=m.line.length->Ow w0.heap.size w0 w [af aC ln2 m.line,af aC ln m.line,dL mb m,af df sl l,rH l,aa pb [.z (n:Int), .z bi, .z li, .slice s'.a s'.len s'.cap, .slice s5'.a s5'.len s5'.cap, .z room]]->l34 (i:Int) w:=by
   intro d
   induction d with
   |zero=>
    intro i w hi h;apply hl34;refine aD om ?_;exact wO (h.sub:Ow w0.heap.size w0 w []) hK
   |succ d ih=>
    intro i w hi h;have hbig:=rn.hm.F7;have hl8:=Th.wj n m.line hbig (fun x hx=>rn.hm.lr x hx);have hx:m.line[i]?=some m.line[i]:=gE om;apply hl34;refine aR om ?_;refine h.dr fun w h=>?_
    refine h.dV (s:=ln) (j:=i) rfl hx fun a ha hc0 hc=>⟨_,hc0 _ rfl, ?_⟩
    refine h.dV (s:=ln2) (j:=i) rfl hx fun a ha hc0 hc=>⟨_,hc0 _ rfl, ?_⟩
    refine fN rfl ?_;rw[wI i om];exact ih (i+1) w om h
  exact loop m.line.length 0 w om h
 refine h.dr fun w h=>?_
 refine ⟨_,h.aq rfl, ?_,trivial⟩;refine rX n1 om rn.co hrun (rn.gA om) om h fun w h=>?_
 refine fN rfl ?_;refine ⟨_,h.aq rfl, ?_,⟨_,h.aq rfl, ?_,trivial⟩,trivial⟩
 ·refine sk n1 om rn.co hrun (rn.gA om) om h fun w h=>?_
  refine ⟨_,h.aq rfl, ?_⟩;exact aD om (J w h)
 ·refine sk n1 om rn.co hrun (rn.gA om) om h fun w h=>?_
  exact aD om (J w h)
end
end Go.Proofs.YtlhljbbfckbjpaaGreat.Mc
end
