/- What the row rests on: the law, at the model and walked. -/
import Derived.Test.YtlhljbbfckbjpaaGreatZe10
set_option linter.unusedVariables false
set_option linter.unusedSimpArgs false
set_option linter.unusedSectionVars false
section
set_option maxRecDepth 8000
namespace Go.Proofs.YtlhljbbfckbjpaaGreat.Mc
open Go Go.Vc Go.Proofs
section
variable {nc N g:Nat} {m:bz}
theorem z8 (hm:bW nc N g m) (h:nE nc m) (hr:Rest nc m):m.line= []:=by
 cases hl:m.line with
 |nil=>rfl
 |cons d ds=>
  have hd:d∈m.line:=by rw[hl];exact List.mem_cons_self
  obtain ⟨d0,d1⟩:=hm.lr d hd;rcases h.ds d d0 d1 with ⟨_,hn⟩|⟨h23,_⟩
  ·exact absurd hd hn
  ·rw[hr d d0 d1] at h23;omega
theorem Aa (h:nE nc m) (hr:Rest nc m) (c:Int):eG m.bx c=0:=by
 have hz:∀l∈m.bx,l= []:=fun l hl=>by
  cases l with
  |nil=>rfl
  |cons y r=>
   obtain ⟨a,b⟩:=h.bx _ hl y List.mem_cons_self;rw[hr _ a.1 a.2] at b;cases b
 have hh:∀(b:List (List cP)),(∀l∈b,l= [])->(b.map fun l=>(l.filter fun m=>decide (m.eS=c)).length).sum=0:=fun b hb=>by
  induction b with
  |nil=>rfl
  |cons r b ih=>
   rw[List.map_cons,List.sum_cons,ih fun l hl=>hb l (List.mem_cons_of_mem _ hl),hb r List.mem_cons_self];rfl
 unfold eG;rw[hh m.bx hz];rfl
end
section
variable {w0 w:World}
set_option maxHeartbeats 1000000 in
theorem pL {o1 o2 o3 o6:Int} {prios:List Int} {calls:List Call} {s4 s5:Sl} {s7:ByteArray} {K:Bool->Pw}
  (_:(Lit.int .i64 o1).wf=true) (_:(Lit.int .i64 o2).wf=true) (_:(Lit.int .i64 o3).wf=true) (hi4:As aG w0 s4 prios) (_:∀x∈prios,(Lit.int .i64 x).wf=true) (hi5:As bJ w0 s5 calls) (hg5:∀c∈calls,nP c) (_:(Lit.int .i64 o6).wf=true)
  (h:Ow w0.heap.size w0 w []) (hK:∀w',Ow w0.heap.size w0 w' []->K true w'):C.qdz o1 o2 o3 s4 s5 o6 s7 K w:=by
 apply S.qdz0;refine h.a fun ab w1 h=>?_;refine h.aV (x3:=s4) (x4:=s5) rfl ?_;refine E6 hi4 hi5 hg5 h fun n bi li room s' s5' sl mb g m l w n3 hg rn hb hll h=>?_
 refine h.a fun pb w2 h=>?_;refine h.ax rfl rfl fun w h=>?_
 (try dsimp only[putAt,List.set_cons_zero,List.set_cons_succ] at h)
 refine bD rfl ?_;have n1:=rn.hm.n1;have hrest:=Fp rn.hm rn.lo n3 om om;intro l26 hl26
 have loop:∀(d i:Nat) (sl:Sl) (l:List (Seen × Sl)) (w:World),i+d=600->Rn n (1+64*(g+i)) (g+i) (pM n m i) l->l.length≤g+i->
   Ow w0.heap.size w0 w [ah dC sl l,tL l,dh mb (pM n m i),aa pb [.z (n:Int), .z bi, .z li, .slice s'.a s'.len s'.cap, .slice s5'.a s5'.len s5'.cap, .z room]]->l26 sl (i:Int) w:=by
  intro d
  induction d with
  |zero=>
   intro i sl l w hi rn hll h;obtain rfl:i=600:=by omega
   have hline:=z8 rn.hm rn.lo hrest;obtain ⟨s,hrun,hrel⟩:=rn.ws;apply hl26;refine aE (by decide) ?_;intro l58 hl58
   have inner:∀(d j:Nat) (w:World),j+d=n->Ow w0.heap.size w0 w [ah dC sl l,tL l,dh mb (pM n m 600),aa pb [.z (n:Int), .z bi, .z li, .slice s'.a s'.len s'.cap, .slice s5'.a s5'.len s5'.cap, .z room]]->l58 (j:Int) w:=by
    intro d
    induction d with
    |zero=>
     intro j w hj h;apply hl58;refine ⟨_,h.aq rfl, ?_⟩;refine aE om ?_;refine ⟨_,h.aq rfl, ?_⟩;refine r6 n1 om rn.co hrun (rn.gT om) om h fun w h=>?_
     refine rz rfl ?_;refine BE rn.hm (h.pick (A:=dh mb (pM n m 600))) fun sl2 w h=>?_
     have hsl:=h.br sl2;rw[hline] at hsl;refine rz (by rw[hsl];rfl) ?_;exact wV (h.sub:Ow w0.heap.size w0 w []) hK
    |succ d ih=>
     intro j w hj h;apply hl58;refine ⟨_,h.aq rfl, ?_⟩;refine aR om ?_;have hjn:(0:Int)≤(j:Int)/\(j:Int)<(n:Int):=by omega
     refine Bx (n:=(j:Int)) rn.hm (h.pick (A:=dh mb (pM n m 600))) ?_;rw[if_pos hjn,decide_eq_true hjn,hrest (j:Int) hjn.1 hjn.2];intro k65 hk65;refine bD rfl (fP rfl ?_);refine BF (n:=(j:Int)) rn.hm (h.pick (A:=dh mb (pM n m 600))) fun w h=>?_
     rw[Aa rn.lo hrest];apply hk65;refine fP rfl ?_;rw[wI j om];exact ih (j+1) w om h.sub
   exact inner n 0 w om h
  |succ d ih=>
   intro i sl l w hi rn hll h;apply hl26;refine aR om ?_;refine ⟨_,h.aq rfl,om, ?_⟩;rw[show (i:Int).tmod (n:Int)=((i%n:Nat):Int) from (Int.ofNat_tmod i n).symm];refine tq (it:=⟨0,((i%n:Nat):Int),0,0⟩) (k:=fun s w=>l26 s (IntKind.i64.wrap ((i:Int)+1)) w) rn om om om h fun s2 fs w hn2 h=>?_
   show l26 s2 (IntKind.i64.wrap ((i:Int)+1)) w;rw[wI i om];have:=sr (l:=l) ((pM n m i).item ⟨0,((i%n:Nat):Int),0,0⟩).1 fs;refine ih (i+1) s2 (uc l ((pM n m i).item ⟨0,((i%n:Nat):Int),0,0⟩).1 fs) w om ?_ om h;rw[show 1+64*(g+(i+1))=1+64*(g+i)+64 by omega];exact hn2
 refine loop 600 0 sl l w om rn om ?_;have h:Ow w0.heap.size w0 w [ah dC sl l,tL l,dh mb m,aa pb [.z (n:Int), .z bi, .z li, .slice s'.a s'.len s'.cap, .slice s5'.a s5'.len s5'.cap, .z room]]:=h.sub;exact h
end
end Go.Proofs.YtlhljbbfckbjpaaGreat.Mc
end
