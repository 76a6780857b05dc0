/- What the row rests on: the declarations that it needs, out of my texts (part 5). -/
import Derived.Test.YtogmbmdbgkopjaaGreatZb4
set_option linter.unusedVariables false
set_option linter.unusedSimpArgs false
set_option linter.unusedSectionVars false
section
set_option maxRecDepth 100000
namespace Go.Proofs.YtogmbmdbgkopjaaGreat
open Go Go.Vc Go.Proofs
theorem S.qbD0 {a K w}:Fr (C.qbD a K w) (∀b:Int->Pw,(∀(c:Int) (d:World),(bif decide (c≥0) then (C.qbI a c (fun a d=>bif decide ((a.len:Int)>0) then (∃b,a.a=some b/\(0:Int)≤0/\0<(a.len:Int)/\∃a,d.cell? (b.add ((0:Int).toNat*1))=some (.z a)/\K a true d) else (b (IntKind.i64.wrap (c-1)) d)) d) else (K 0 false d))->b c d)->b 255 w):=okT Tryz.func144 (.v (.y (.v (.x (.t (some [(4,.c (.i .i64))]) (.y (.v .w) (.x (.x (.v (.v (.x .w)))))) .u))) .w))
theorem S.qbU0 {a b c K w}:Fr (C.qbU a b c K w) (∀d:Bool->Pw,(∀(e:Bool) (f:World),(bif e then (K 1 f) else (C.qbu a c (fun _ e f=>bif e then (K 90 f) else (∃d,a=some d/\∃e:Sl,f.cell? d=some (.slice e.a e.len e.cap)/\Al f (.cells #[.z b, .z c] 374) fun b=>∃c d,AppR Tryz.prog [227,227] 227 (.slice e.a e.len e.cap) (.slice (some (.mk f.heap.size 0 none)) 1 1) b c d/\∃b,a=some b/\St d b (.slice c.a c.len c.cap) fun a=>K 0 a)) f))->d e f)->(bif decide (b<0) then (d true w) else (d (decide (b>255)) w))):=okT Tryz.func233 (.v (.y .g37 (.v .g53)))
theorem S.qbI0 {a b K w}:Fr (C.qbI a b K w) (Al w (.cells #[] 3) fun c=>∀d:Sl->Int->Pw,(∀(c:Sl) (e:Int) (f:World),(∃g,a=some g/\∃h:Sl,f.cell? g=some (.slice h.a h.len h.cap)/\bif decide (e<(h.len:Int)) then (∃g,a=some g/\∃h:Sl,f.cell? g=some (.slice h.a h.len h.cap)/\∃g,h.a=some g/\0≤e/\e<(h.len:Int)/\∃h,f.cell? (g.add (e.toNat*2))=some (.z h)/\bif h==b then (∃b,a=some b/\∃a:Sl,f.cell? b=some (.slice a.a a.len a.cap)/\∃b,a.a=some b/\0≤e/\e<(a.len:Int)/\∃a,f.cell? ((b.add (e.toNat*2)).add 1)=some (.z a)/\Al f (.cells #[.z a] 3) fun a=>∃b g,AppR Tryz.prog [26,26] 26 (.slice c.a c.len c.cap) (.slice (some (.mk f.heap.size 0 none)) 1 1) a b g/\d b (IntKind.i64.wrap (e+1)) g) else (d c (IntKind.i64.wrap (e+1)) f)) else (K c f))->d c e f)->d ⟨some (.mk w.heap.size 0 none),0,0⟩ 0 c):=okT Tryz.func234 (.v (.v (.y .g20 .w)))
theorem S.qbJ0 {a b K w}:Fr (C.qbJ a b K w) (Al w (.cells #[] 374) fun c=>∀d:Sl->Int->Pw,(∀(c:Sl) (e:Int) (f:World),(∃g,a=some g/\∃h:Sl,f.cell? g=some (.slice h.a h.len h.cap)/\bif decide (e<(h.len:Int)) then (∃g,a=some g/\∃h:Sl,f.cell? g=some (.slice h.a h.len h.cap)/\∃g,h.a=some g/\0≤e/\e<(h.len:Int)/\∃h,f.cell? ((g.add (e.toNat*2)).add 1)=some (.z h)/\bif h !=b then (∃b,a=some b/\∃a:Sl,f.cell? b=some (.slice a.a a.len a.cap)/\∃b,a.a=some b/\0≤e/\e<(a.len:Int)/\LdL f (b.add (e.toNat*2)) 0 [.o, .o] fun (a b:Int)=>Al f (.cells #[.z a, .z b] 374) fun a=>∃b g,AppR Tryz.prog [227,227] 227 (.slice c.a c.len c.cap) (.slice (some (.mk f.heap.size 0 none)) 1 1) a b g/\d b (IntKind.i64.wrap (e+1)) g) else (d c (IntKind.i64.wrap (e+1)) f)) else (∃b,a=some b/\∃d:Sl,f.cell? b=some (.slice d.a d.len d.cap)/\bif (c.len:Int)==(d.len:Int) then (K 91 f) else (∃b,a=some b/\St f b (.slice c.a c.len c.cap) fun a=>K 0 a)))->d c e f)->d ⟨some (.mk w.heap.size 0 none),0,0⟩ 0 c):=okT Tryz.func235 (.v (.v (.y .g20 .g53)))
theorem S.qbu0 {a b K w}:Fr (C.qbu a b K w) (∀c:Int->Pw,(∀(d:Int) (e:World),(∃f,a=some f/\∃g:Sl,e.cell? f=some (.slice g.a g.len g.cap)/\bif decide (d<(g.len:Int)) then (∃f,a=some f/\∃g:Sl,e.cell? f=some (.slice g.a g.len g.cap)/\∃f,g.a=some f/\0≤d/\d<(g.len:Int)/\∃g,e.cell? ((f.add (d.toNat*2)).add 1)=some (.z g)/\bif g==b then (∃b,a=some b/\∃a:Sl,e.cell? b=some (.slice a.a a.len a.cap)/\∃b,a.a=some b/\0≤d/\d<(a.len:Int)/\∃a,e.cell? (b.add (d.toNat*2))=some (.z a)/\K a true e) else (c (IntKind.i64.wrap (d+1)) e)) else (K 0 false e))->c d e)->c 0 w):=okT Tryz.func310 (.v (.y (.v (.x (.t (some [(6,.c (.i .i64))]) (.y (.v .w) (.x (.x (.v (.x .w))))) .u))) .w))
theorem S.qdg0 {a K w}:Fr (C.qdg a K w) (∀b:Bool->Pw,(∀(c:Bool) (d:World),(bif c then (K none 1 d) else (Al d (.cells #[.slice none 0 0, .slice none 0 0] 152) fun b=>∀c:Int->Pw,(∀(b:Int) (e:World),(bif decide (b<a) then (∃a,some (Addr.mk d.heap.size 0 none)=some a/\∃f:Sl,e.cell? (a.add 1)=some (.slice f.a f.len f.cap)/\Al e (.cells #[.slice none 0 0] 229) fun a=>Al a (.cells #[.pointer (some (.mk e.heap.size 0 none))] 226) fun e=>∃g h,AppR Tryz.prog [150,150] 150 (.slice f.a f.len f.cap) (.slice (some (.mk a.heap.size 0 none)) 1 1) e g h/\∃a,some (Addr.mk d.heap.size 0 none)=some a/\St h (a.add 1) (.slice g.a g.len g.cap) fun a=>c (IntKind.i64.wrap (b+1)) a) else (K (some (.mk d.heap.size 0 none)) 0 e))->c b e)->c 0 b))->b c d)->(bif decide (a<1) then (b true w) else (b (decide (a>8)) w))):=okT Tryz.func61 (.v (.y (.y (.r (some [(11,.c .b)]) .done) (.x .w)) (.v (.y (.v (.x (.t (some [(5,.c (.i .i64))]) (.y (.v .w) (.x .w)) .u))) .w))))
theorem S.qaR0 {a b c K w}:Fr (C.qaR a b c K w) (∀d:Bool->Pw,(∀(e:Bool) (f:World),(bif e then (K 0 1 f) else (∃d,a=some d/\∃e:Sl,f.cell? d=some (.slice e.a e.len e.cap)/\bif decide ((e.len:Int)≥64) then (K 0 2 f) else (∃d,a=some d/\∃e:Sl,f.cell? d=some (.slice e.a e.len e.cap)/\Al f (.cells #[.z 0, .z b, .z c, .z 5, .y 0, .y 0, .y 0, .y 0, .y 0, .y 0, .y 0, .y 0] 53) fun b=>∃c d,AppR Tryz.prog [149,149] 149 (.slice e.a e.len e.cap) (.slice (some (.mk f.heap.size 0 none)) 1 1) b c d/\∃b,a=some b/\St d b (.slice c.a c.len c.cap) fun b=>∃c,a=some c/\∃a:Sl,b.cell? c=some (.slice a.a a.len a.cap)/\K (IntKind.i64.wrap ((a.len:Int)-1)) 0 b)))->d e f)->(C.qcY b (fun b e=>bif !b then (d true e) else (C.qav a c (fun a b=>d (!a) b) e)) w)):=okT Tryz.func65 (.v (.y (.y (.r (some [(16,.c .b)]) .done) (.x .w)) .g53))
theorem S.qat0 {a b K w}:Fr (C.qat a b K w) (C.qaZ a b (fun c d=>bif !c then (K 100 d) else (∀c:Bool->Pw,(∀(d:Bool) (e:World),(bif d then (K 101 e) else (C.qba a b (fun a=>K 0 a) e))->c d e)->(∃e,a=some e/\∃f:Sl,d.cell? e=some (.slice f.a f.len f.cap)/\∃e,f.a=some e/\0≤b/\b<(f.len:Int)/\∃f,d.cell? (e.add (b.toNat*12))=some (.z f)/\bif f==1 then (c true d) else (∃e,a=some e/\∃a:Sl,d.cell? e=some (.slice a.a a.len a.cap)/\∃e,a.a=some e/\0≤b/\b<(a.len:Int)/\∃a,d.cell? (e.add (b.toNat*12))=some (.z a)/\c (a==2) d)))) w):=okT Tryz.func66 (.v (.y (.v (.x .w)) (.y (.y (.r (some [(28,.c .b)]) .done) (.x .w)) (.v .w))))
theorem S.qaS0 {a b K w}:Fr (C.qaS a b K w) (C.qav a b (fun c d=>bif !c then (K 0 false d) else (C.qU a b (fun c d e=>∃f,a=some f/\∃g:Sl,e.cell? (f.add 1)=some (.slice g.a g.len g.cap)/\∃f,g.a=some f/\0≤b/\b<(g.len:Int)/\∃g,e.cell? (f.add (b.toNat*1))=some (.pointer g)/\C.qbD g (fun e f g=>∀h:Bool->Pw,(∀(f:Bool) (g:World),(∀h:Pw,(∀c:World,(C.qU a b (fun a b c=>K a b c) c)->h c)->(bif f then (∀b:Pw,(∀c:World,(C.qaK a e (fun b=>∃c,a=some c/\∃a:Sl,b.cell? c=some (.slice a.a a.len a.cap)/\∃c,a.a=some c/\0≤e/\e<(a.len:Int)/\St b (c.add (e.toNat*12)) (.z 2) fun a=>h a) c)->b c)->(bif d then (C.qba a c (fun a=>b a) g) else (b g))) else (h g)))->h f g)->(Dr g fun b=>bif f then (bif !d then (h true b) else (∃d,a=some d/\∃f:Sl,b.cell? d=some (.slice f.a f.len f.cap)/\∃d,f.a=some d/\0≤e/\e<(f.len:Int)/\∃f,b.cell? ((d.add (e.toNat*12)).add 1)=some (.z f)/\∃d,a=some d/\∃a:Sl,b.cell? d=some (.slice a.a a.len a.cap)/\∃d,a.a=some d/\0≤c/\c<(a.len:Int)/\∃a,b.cell? ((d.add (c.toNat*12)).add 1)=some (.z a)/\h (decide (f>a)) b)) else (h false b))) e) d)) w):=okT Tryz.func67 (.v (.y (.v (.x .w)) (.v (.v (.y (.y .g1 (.t (some []) (.y .g50 .w) .u)) .w)))))
theorem S.qbi0 {a b K w}:Fr (C.qbi a b K w) (Al w (.cells #[.z 0, .z 0, .z 0, .z 0, .y 0, .y 0, .y 0, .y 0, .y 0, .y 0, .y 0, .y 0] 53) fun c=>C.qaZ a b (fun c d=>bif !c then (StL d (.mk w.heap.size 0 none) 0 [.z 0, .z 0, .z 0, .z 0, .y 0, .y 0, .y 0, .y 0, .y 0, .y 0, .y 0, .y 0] fun a=>LdL a (.mk w.heap.size 0 none) 0 [.o, .o, .o, .o, .u, .u, .u, .u, .u, .u, .u, .u] fun (b c d e f g h i j k l m:Int)=>K b c d e f g h i j k l m 100 a) else (∃c,a=some c/\∃a:Sl,d.cell? c=some (.slice a.a a.len a.cap)/\∃c,a.a=some c/\0≤b/\b<(a.len:Int)/\LdL d (c.add (b.toNat*12)) 0 [.o, .o, .o, .o, .u, .u, .u, .u, .u, .u, .u, .u] fun (a b c e f g h i j k l m:Int)=>StL d (.mk w.heap.size 0 none) 0 [.z a, .z b, .z c, .z e, .y f, .y g, .y h, .y i, .y j, .y k, .y l, .y m] fun a=>LdL a (.mk w.heap.size 0 none) 0 [.o, .o, .o, .o, .u, .u, .u, .u, .u, .u, .u, .u] fun (b c d e f g h i j k l m:Int)=>K b c d e f g h i j k l m 0 a)) c):=okT Tryz.func69 .g51
theorem S.qU0 {a b K w}:Fr (C.qU a b K w) (∀c:Int->Pw,(∀(d:Int) (e:World),(∃f,a=some f/\∃g:Sl,e.cell? f=some (.slice g.a g.len g.cap)/\bif decide (d<(g.len:Int)) then (∀f:Bool->Pw,(∀(a:Bool) (b:World),(bif a then (K d true b) else (c (IntKind.i64.wrap (d+1)) b))->f a b)->(∃c,a=some c/\∃g:Sl,e.cell? c=some (.slice g.a g.len g.cap)/\∃c,g.a=some c/\0≤d/\d<(g.len:Int)/\∃g,e.cell? (c.add (d.toNat*12))=some (.z g)/\bif g==2 then (∃c,a=some c/\∃a:Sl,e.cell? c=some (.slice a.a a.len a.cap)/\∃c,a.a=some c/\0≤d/\d<(a.len:Int)/\∃a,e.cell? ((c.add (d.toNat*12)).add 2)=some (.z a)/\f (a==b) e) else (f false e))) else (K 0 false e))->c d e)->c 0 w):=okT Tryz.func74 (.v (.y (.v (.x (.t (some [(6,.c (.i .i64))]) (.y (.v .w) (.x (.x (.y (.r (some [(36,.c .b)]) .done) (.x .w))))) .u))) .w))
theorem S.qcY0 {a K w}:Fr (C.qcY a K w) (bif decide (a≥0) then (K (decide (a≤255)) w) else (K false w)):=okT Tryz.func140 (.v .w)
theorem S.qav0 {a b K w}:Fr (C.qav a b K w) (bif decide (b≥0) then (∃c,a=some c/\∃a:Sl,w.cell? (c.add 1)=some (.slice a.a a.len a.cap)/\K (decide (b<(a.len:Int))) w) else (K false w)):=okT Tryz.func141 (.v .w)
theorem S.qaZ0 {a b K w}:Fr (C.qaZ a b K w) (bif decide (b≥0) then (∃c,a=some c/\∃a:Sl,w.cell? c=some (.slice a.a a.len a.cap)/\K (decide (b<(a.len:Int))) w) else (K false w)):=okT Tryz.func142 (.v .w)
theorem S.qba0 {a b K w}:Fr (C.qba a b K w) (∃c,a=some c/\∃d:Sl,w.cell? c=some (.slice d.a d.len d.cap)/\∃c,d.a=some c/\0≤b/\b<(d.len:Int)/\St w (c.add (b.toNat*12)) (.z 1) fun c=>Dr c fun c=>∃d,a=some d/\∃e:Sl,c.cell? (d.add 1)=some (.slice e.a e.len e.cap)/\∃d,a=some d/\∃f:Sl,c.cell? d=some (.slice f.a f.len f.cap)/\∃d,f.a=some d/\0≤b/\b<(f.len:Int)/\∃f,c.cell? ((d.add (b.toNat*12)).add 2)=some (.z f)/\∃d,e.a=some d/\0≤f/\f<(e.len:Int)/\∃e,c.cell? (d.add (f.toNat*1))=some (.pointer e)/\∃d,a=some d/\∃a:Sl,c.cell? d=some (.slice a.a a.len a.cap)/\∃d,a.a=some d/\0≤b/\b<(a.len:Int)/\∃a,c.cell? ((d.add (b.toNat*12)).add 1)=some (.z a)/\(C.qbU e a b (fun _ b=>K b) c)/\True):=okT Tryz.func143 (.v (.z (.o 0 8376304 (.o 1 8376304 (.o 2 8376304 (.o 3 8376304 (.o 4 8372480 (.o 5 8372480 (.o 6 8372480 (.o 7 8372480 (.o 8 8372224 (.o 9 8372224 (.o 10 8372224 (.o 11 8372224 (.o 12 8372224 (.o 13 8372224 (.o 14 4456448 (.o 15 4456448 (.o 16 4456448 (.o 17 4456448 (.o 18 4194304 (.o 19 4194304 (.o 20 4194304 (.o 21 4194304 (.o 22 0 (.e 23 .done))))))))))))))))))))))))))
theorem S.qaK0 {a b K w}:Fr (C.qaK a b K w) (Dr w fun c=>∃d,a=some d/\∃e:Sl,c.cell? (d.add 1)=some (.slice e.a e.len e.cap)/\∃d,a=some d/\∃a:Sl,c.cell? d=some (.slice a.a a.len a.cap)/\∃d,a.a=some d/\0≤b/\b<(a.len:Int)/\∃a,c.cell? ((d.add (b.toNat*12)).add 2)=some (.z a)/\∃d,e.a=some d/\0≤a/\a<(e.len:Int)/\∃e,c.cell? (d.add (a.toNat*1))=some (.pointer e)/\(C.qbJ e b (fun _ b=>K b) c)/\True):=okT Tryz.func145 (.z (.o 0 20464 (.o 1 20464 (.o 2 20464 (.o 3 20464 (.o 4 16640 (.o 5 16640 (.o 6 16640 (.o 7 16640 (.o 8 16384 (.o 9 16384 .g22)))))))))))
end Go.Proofs.YtogmbmdbgkopjaaGreat
end
section
set_option maxRecDepth 8000
namespace Go.Proofs.YtogmbmdbgkopjaaGreat.Th
open Go Go.Vc Go.Proofs
section
variable {B:Nat} {w0 w:World} {R:List Asn} {b:Nat} {m:Mt}
def Mt.make (m:Mt) (p c:Int):Mt:={ m with ths:=m.ths++ [⟨0,p,c,5,fun _=>0⟩]}
theorem MOk.make (hm:MOk m) {p c:Int} (hl:m.ths.length<64) (hc:m.isC c=true):MOk (m.make p c):=by
 obtain ⟨c0,c1⟩:=isC_iff.1 hc;unfold Mt.make;refine ⟨by simp;omega,hm.cores,hm.most,fun x hx=>?_,fun x hx=>rfl,fun n hn=>?_,fun Q hQ x hx=>?_⟩
 ·rcases List.mem_append.1 hx with h|h
  ·exact hm.core x h
  ·simp at h;subst h;exact ⟨c0,c1⟩
 ·rcases hm.run n hn with h|h
  ·exact .inl h
  ·exact .inr ⟨h.1,by simp;omega⟩
 ·have:=hm.line Q hQ x hx
  exact ⟨this.1,by simp;omega⟩
theorem thr_Make_spec {p c:Int} {K:Int->Int->Pw} (hm:MOk m) (h:Own B w0 w (ThrA b m::R))
  (hK0:¬(0≤p/\p<256/\m.isC c=true)->∀w',Own B w0 w' (ThrA b m::R)->K 0 1 w')
  (hK1:(0≤p/\p<256/\m.isC c=true)->64≤m.ths.length->∀w',Own B w0 w' (ThrA b m::R)->K 0 2 w')
  (hK2:(0≤p/\p<256/\m.isC c=true)->m.ths.length<64->∀w',Own B w0 w' (ThrA b (m.make p c)::R)->K (m.ths.length:Int) 0 w'):C.qC (some ⟨b,0,none⟩) p c K w:=by
 apply S.qC0;have hfew:=hm.few;obtain ⟨l,q,r,bs,hbs,h⟩:=h.thr;have hl:=h.lenc l;intro k hk;refine thr_prio_spec ?_;refine cnb (fun e=>?_) (fun e=>?_)
 ·refine hk _ _ (cbT rfl ?_)
  exact hK0 (fun hh=>by rw[decide_eq_true hh.1,decide_eq_true hh.2.1] at e;cases e) w (Own.mk_thr hbs h)
 simp only[Bool.and_eq_true,decide_eq_true_eq] at e;refine thr_core_o hbs h ?_;cases hc:m.isC c with
 |false=>
  refine hk _ _ (cbT rfl ?_);exact hK0 (fun hh=>by rw[hc] at hh;cases hh.2.2) w (Own.mk_thr hbs h)
 |true=>
  have hh:=And.intro e.1 (And.intro e.2 hc);refine hk _ _ (cbF rfl ?_);refine ⟨_,rfl,l,h.ldc rfl,?_⟩;refine cdec (fun e2=>?_) (fun e2=>?_)
  ·exact hK1 hh (by omega) w (Own.mk_thr hbs h)
  ·refine ⟨_,rfl,l,h.ldc rfl,?_⟩
   refine h.al fun w1 h=>?_
   generalize w.heap.size=d at h⊢
   refine Own.app1c (s:=l) (E:=thE) (xs:=m.ths) (y:=⟨0,p,c,5,fun _=>0⟩) Tryz.underlying149 (show Tryz.prog.info? 53=some Tryz.t53 from by kernel_rfl) (zv:=(Tryz.t53.zero).get (by kernel_rfl)) (by kernel_rfl) (by kernel_rfl) (by kernel_rfl) (by decide) h (by
    have e:Tryz.t53.bytes=96:=by kernel_rfl
    rw[e];omega) fun s' w hs' h=>?_
   refine ⟨_,rfl,?_⟩;have h:=h.up1;refine h.stc rfl rfl fun w h=>?_
   refine ⟨_,rfl,s',h.ldc rfl,?_⟩;rw[show IntKind.i64.wrap ((s'.len:Int)-1)=(m.ths.length:Int) from by rw[hs',wr (by omega) (by omega)];omega];exact hK2 hh (by omega) w (Own.mk_thr (m:=m.make p c) (l:=s') (q:=q) (r:=r) (bs:=bs) hbs h)
def Mt.yield (m:Mt) (c:Int):Mt:=match m.runs? c with
 |none=>m
 |some o=>(((m.setTh o { m.th o with le:=5}).leave o 1).lineUp o).pickC c
theorem setTh_isT {n k:Int} {t:Thd}:(m.setTh n t).isT k=m.isT k:=by unfold Mt.setTh Mt.isT;simp
theorem thr_Yield_spec {c:Int} {K:Bool->Pw} (hm:MOk m) (h:Own B w0 w (ThrA b m::R)) (hK:∀w',Own B w0 w' (ThrA b (m.yield c)::R)->K (m.runs? c).isSome w'):C.qaj (some ⟨b,0,none⟩) c K w:=by
 apply S.qaj0;refine thr_Runs_spec (c:=c) hm h fun w h=>?_
 unfold Mt.yield at hK;cases hr:m.runs? c with
 |none=>
  rw[hr] at hK;exact cbT rfl (hK w h)
 |some o=>
  rw[hr] at hK;obtain ⟨hc,hro,ho1,hoT⟩:=hm.runT hr;obtain ⟨o0,o1,hox⟩:=isT_get hoT;have ht:=hm.th hoT;refine cbF rfl ?_;obtain ⟨l,q,r,bs,hbs,h⟩:=h.thr;refine ⟨_,rfl,l,h.ldc rfl,?_⟩;refine h.ixc (s:=l) (i:=o) (j:=o.toNat) (by omega) hox fun a ha h0 hcc=>?_
  refine stTh (c:=3) (t':={ m.th o with le:=5}) h o0 hox ha rfl (by decide) rfl fun w h=>?_
  have h:Own B w0 w (ThrA b (m.setTh o { m.th o with le:=5})::R):=Own.mk_thr (m:=m.setTh o { m.th o with le:=5}) hbs h;have hm1:MOk (m.setTh o { m.th o with le:=5}):=hm.setTh (t:={ m.th o with le:=5}) ht.1 rfl;have hT1:(m.setTh o { m.th o with le:=5}).isT o=true:=by rw[setTh_isT];exact hoT
  refine thr_leave_spec hm1 hT1 h fun w h=>?_
  have hT2:((m.setTh o { m.th o with le:=5}).leave o 1).isT o=true:=by rw[leave_isT];exact hT1
  refine thr_lineUp_spec (hm1.leave hT1) hT2 h fun w h=>?_
  refine thr_Pick_spec ((hm1.leave hT1).lineUp hT2) h fun w h=>?_
  exact hK w h
end
section
variable {B:Nat} {w0 w:World} {R:List Asn} {b:Nat} {m:Mt}
theorem Mul_spec {c:Nat} (h1:1≤c) (h8:c≤8) {K:Int->Int->Pw} (hK:K 0 (c:Int) w):C.qcv (1:Int) (c:Int) K w:=by
 apply S.qcv0;apply S.qcr0;have:c=1∨c=2∨c=3∨c=4∨c=5∨c=6∨c=7∨c=8:=by omega
 rcases this with rfl|rfl|rfl|rfl|rfl|rfl|rfl|rfl<;>
 ·refine ⟨by decide,by decide,by decide,by decide,by decide,?_⟩
  refine Eq.mp ?_ hK;kernel_rfl
theorem Repeat_spec {x:Sl} {c:Nat} {K:Sl->Pw} (h1:1≤c) (h8:c≤8) (hl:x.len=1) (h:Own B w0 w (SlT intE x [-1]::R)) (hK:∀s w',Own B w0 w' (SlT intE s (List.replicate c (-1))::R)->K s w'):C.qak x (c:Int) K w:=by
 apply S.qak0;intro k3 hk3;refine cdecF (by omega) (hk3 _ ?_);rw[hl,show IntKind.u64.wrap ((1:Nat):Int)=1 from wru (by omega) (by omega),wru (x:=(c:Int)) (by omega) (by omega)];refine Mul_spec h1 h8 ?_;intro k8 hk8;refine cdecF (by omega) (hk8 _ _ ?_);intro k11 hk11;refine cdecF (by omega) (hk11 _ ?_);rw[wr (x:=(c:Int)) (by omega) (by omega)];have hb:Tryz.t3.bytes=8:=by kernel_rfl
 have hp48:(2:Int)^48=281474976710656:=by decide
 refine Own.mkSl (E:=intE) (z0:=(0:Int)) (zv:= .z 0) Tryz.underlying26 (show Tryz.prog.info? 3=some Tryz.t3 from by kernel_rfl) (by kernel_rfl) (by kernel_rfl) rfl (n:=(c:Int)) (inf:=Tryz.t3) h (by omega) (by rw[hb,hp48];omega) (by rw[hp48];omega) fun t w ht h=>?_
 rw[Int.toNat_natCast] at ht h;have hx0:([-1]:List Int)[0]?=some (-1):=rfl;obtain ⟨bx,ox,hax,hcx⟩:=h.get 1 rfl hx0;obtain ⟨bt,ot,hat,hct⟩:=h.get 0 rfl (show (List.replicate c (0:Int))[0]?=some 0 from by rw[List.getElem?_replicate,if_pos (by omega)])
 have first:∃n w',CopyR Tryz.prog [26,26] 3 (.slice t.a t.len t.cap) (.slice x.a x.len x.cap) w n w'/\(n=1/\Own B w0 w' (SlT intE t ([-1]++List.replicate (c-1) 0)::SlT intE x [-1]::R)):=by
  have e:min x.len t.len=1:=by rw[hl,ht];omega
  have:=Own.copyT (P:=Tryz.prog) (T:=26) (t:=3) (E:=intE) (s:=t) (xs:=List.replicate c (0:Int)) (p:=0) (dl:=t.len) (dc:=t.cap) (sl:=x.len) (sc:=x.cap) (zs:=[-1]) (sa:=⟨bx,ox+(0*intE.z+0),none⟩) (k:=fun n w'=>n=1/\Own B w0 w' (SlT intE t ([-1]++List.replicate (c-1) 0)::SlT intE x [-1]::R))
   Tryz.underlying26 (show Tryz.prog.info? 3=some Tryz.t3 from by kernel_rfl) (by kernel_rfl) h hat (by rw[e];rfl) (by simp;omega) (fun j v hv=>by
    cases j with
    |zero=>simp only[List.flatMap_cons,List.flatMap_nil,List.append_nil] at hv;exact hcx 0 v hv
    |succ j=>simp[intE] at hv) fun w' h'=>⟨by rw[e];rfl,by simpa [List.drop_replicate] using h'⟩
  rw[hat,hax];exact this
 obtain ⟨n,w',hcp,rfl,h⟩:=first
 rw[hl] at hcp;refine ⟨_,w',hcp,?_⟩;intro l17 hl17
 have loop:∀(k n:Nat) (w:World),c≤n+k->1≤n->n≤c->Own B w0 w (SlT intE t (List.replicate n (-1)++List.replicate (c-n) 0)::SlT intE x [-1]::R)->l17 (n:Int) w:=by
  intro k
  induction k with
  |zero=>
   intro n w hk hn1 hnc h;obtain rfl:n=c:=by omega
   apply hl17;refine cdecF (by omega) ?_;rw[Nat.sub_self,List.replicate_zero,List.append_nil] at h;exact hK t w h.rm1
  |succ k ih=>
   intro n w hk hn1 hnc h;apply hl17;refine cdec (fun e=>?_) (fun e=>?_)
   ·refine h.dr fun w h=>?_
    have hcap:=h.slRaw.le_cap;have hln:=h.len 0 rfl;refine ⟨by omega,by omega,by omega,by omega,Go.Vc.a2 ?_⟩;rw[Int.toNat_natCast];have e2:min (n-0) (t.len-n)=min n (c-n):=by rw[ht];rfl
    have hd:∃bt' ot',t.a=some ⟨bt',ot',none⟩/\∀j,j<n->w.cell? ⟨bt',ot'+j,none⟩=some (.z (-1)):=by
     obtain ⟨b0,o0,ha0,_⟩:=h.get 0 rfl (show (List.replicate n (-1:Int)++List.replicate (c-n) 0)[0]?=some (-1) from by rw[List.getElem?_append_left (by simp;omega),List.getElem?_replicate,if_pos (by omega)]);refine ⟨b0,o0,ha0,fun j hj=>?_⟩;obtain ⟨b1,o1,ha1,hc1⟩:=h.get 0 rfl (j:=j) (x:=(-1:Int)) (by rw[List.getElem?_append_left (by simp;omega),List.getElem?_replicate,if_pos hj]);rw[ha0] at ha1;cases ha1;have:=hc1 0 _ rfl
     rwa [show o0+(j*intE.z+0)=o0+j from by show o0+(j*1+0)=_;omega] at this
    obtain ⟨b0,o0,ha0,hcells⟩:=hd;have hsl1:slA t.a n t.cap 1=some ⟨b0,o0+n*1,none⟩:=slA_some ha0 (by omega);have hsl2:slA t.a 0 t.cap 1=some ⟨b0,o0,none⟩:=by rw[slA_some ha0 (by omega),Nat.zero_mul,Nat.add_zero]
    rw[hsl1,hsl2];have hlenz:(List.replicate (min n (c-n)) (-1:Int)).length=min (n-0) (t.len-n):=by rw[List.length_replicate,e2]
    refine Own.copyT (P:=Tryz.prog) (T:=26) (t:=3) (E:=intE) (s:=t) (xs:=List.replicate n (-1)++List.replicate (c-n) 0) (p:=n) (dl:=t.len-n) (dc:=t.cap-n) (sl:=n-0) (sc:=t.cap-0) (zs:=List.replicate (min n (c-n)) (-1)) (sa:=⟨b0,o0,none⟩)
     Tryz.underlying26 (show Tryz.prog.info? 3=some Tryz.t3 from by kernel_rfl) (by kernel_rfl) h ha0 hlenz (by simp;omega) (fun j v hv=>?_) fun w' h'=>?_
    ·have hfl:(List.replicate (min n (c-n)) (-1:Int)).flatMap intE.enc=List.replicate (min n (c-n)) (.z (-1)):=by
      induction (min n (c-n)) with
      |zero=>rfl
      |succ q ihq=>rw[List.replicate_succ,List.flatMap_cons,ihq,List.replicate_succ];rfl
     rw[hfl,List.getElem?_replicate] at hv;split at hv
     ·cases hv;rw[add_mk];exact hcells j (by omega)
     ·cases hv
    ·rw[e2]
     have hs:IntKind.i64.wrap ((n:Int)+((min n (c-n):Nat):Int))=((n+min n (c-n):Nat):Int):=by rw[wr (by omega) (by omega)];omega
     rw[hs];refine ih (n+min n (c-n)) w' (by omega) (by omega) (by omega) ?_
     have hx:List.take n (List.replicate n (-1:Int)++List.replicate (c-n) 0)++List.replicate (min n (c-n)) (-1)++List.drop (n+(List.replicate (min n (c-n)) (-1:Int)).length) (List.replicate n (-1:Int)++List.replicate (c-n) 0)=List.replicate (n+min n (c-n)) (-1)++List.replicate (c-(n+min n (c-n))) 0:=by
      rw[List.take_left' (by simp),List.drop_append,List.drop_eq_nil_of_le (by simp),List.nil_append,List.drop_replicate,List.replicate_append_replicate];congr 2;simp;omega
     rw[hx] at h';exact h'
   ·obtain rfl:n=c:=by omega
    rw[Nat.sub_self,List.replicate_zero,List.append_nil] at h;exact hK t w h.rm1
 exact loop c 1 w' (by omega) (by omega) h1 h
theorem app1_ptr {s:Sl} {ys:List Nat} {y:Nat} {c:Nat} {L:List Asn} {k:Sl->Pw} [I:SlIn s L Nat ptrE ys] [J:Pick (SlT ptrE s ys) L R] (h:Own B w0 w (BlkA c [.pointer (some ⟨y,0,none⟩)]::L)) (hbig:ys.length≤1000000000)
  (hk:∀s' w',s'.len=ys.length+1->Own B w0 w' (SlT ptrE s' (ys++ [y])::R)->k s' w'):
  ∃s' w',AppR Tryz.prog [193,193] 193 (.slice s.a s.len s.cap) (.slice (some (Addr.mk c 0 none)) 1 1) w s' w'/\k s' w':=
 Own.app1c (E:=ptrE) (y:=y) Tryz.underlying193 (show Tryz.prog.info? 196=some Tryz.t196 from by kernel_rfl) (zv:= .pointer none) (by kernel_rfl) (by kernel_rfl) rfl (by decide) h (by
  have e:Tryz.t196.bytes=8:=by kernel_rfl
  rw[e];omega) hk
def newM (c:Nat):Mt:=⟨[],List.replicate c [],List.replicate c (-1)⟩
theorem newM_ok {c:Nat} (h8:c≤8):MOk (newM c):=by
 refine ⟨by simp[newM],by simp[newM],by simpa [newM] using h8,fun t h=>?_,fun t h=>rfl,fun n h=>?_,fun Q h x hx=>?_⟩
 ·simp[newM] at h
 ·simp only[newM,List.mem_replicate] at h;exact .inl h.2
 ·simp only[newM,List.mem_replicate] at h;rw[h.2] at hx;simp at hx
theorem thr_New_spec {n:Int} {K:Option Addr->Int->Pw} (h:Own B w0 w R) (hK0:¬(1≤n/\n≤8)->∀w',Own B w0 w' R->K none 1 w') (hK1:∀c:Nat,n=(c:Int)->1≤c->c≤8->∀b w',Own B w0 w' (ThrA b (newM c)::R)->K (some ⟨b,0,none⟩) 0 w'):C.qcO n K w:=by
 apply S.qcO0;intro k2 hk2;refine cdec (fun e=>hk2 _ _ (cbT rfl (hK0 (by omega) w h))) (fun e1=>hk2 _ _ ?_);refine cdec (fun e=>hK0 (by omega) w h) (fun e2=>?_);obtain ⟨c,rfl⟩:=Int.eq_ofNat_of_zero_le (show 0≤n by omega);refine h.al fun w1 h=>?_
 generalize w.heap.size=d at h⊢;have h:Own B w0 w1 (SlT intE ⟨some ⟨d,0,none⟩,1,1⟩ [-1]::R):=h.asSl [-1] rfl;refine Repeat_spec (by omega) (by omega) rfl h fun r w h=>?_
 refine h.al fun w2 h=>?_
 generalize w.heap.size=t at h⊢;have h:Own B w0 w2 (SlT ptrE ⟨none,0,0⟩ []::_):=Own.nilS h;have h:Own B w0 w2 (SlT thE ⟨none,0,0⟩ []::_):=Own.nilS h;intro l9 hl9
 have loop:∀(k j:Nat) (q:Sl) (bs:List Nat) (w:World),j+k=c->bs.length=j->Own B w0 w (BlkA t [slV ⟨none,0,0⟩,slV q,slV r]::SlT thE ⟨none,0,0⟩ []::SlT ptrE q bs::SlT intE r (List.replicate c (-1))::(List.zipWith QueueA bs (List.replicate j [])++R))->l9 (j:Int) w:=by
  intro k
  induction k with
  |zero=>
   intro j q bs w hj hbs h;obtain rfl:j=c:=by omega
   apply hl9;refine cdecF (by omega) ?_;exact hK1 j rfl (by omega) (by omega) t w (Own.mk_thr (m:=newM j) (l:=⟨none,0,0⟩) (q:=q) (r:=r) (bs:=bs) (by simp[newM];exact hbs) h)
  |succ k ih=>
   intro j q bs w hj hbs h;apply hl9;refine cdecT (by omega) ?_;refine h.dr fun w h=>?_
   refine ⟨_,rfl,q,h.ldd rfl,Go.Vc.a2 ?_⟩;refine ready_New_spec h fun b1 w h=>?_
   refine ⟨h.ldd rfl,Go.Vc.a2 ?_⟩;refine h.al fun w3 h=>?_
   generalize w.heap.size=d3 at h⊢;refine Go.Vc.a2 ?_;refine app1_ptr (s:=q) (ys:=bs) (y:=b1) h (by omega) fun q' w hq' h=>?_
   refine ⟨_,rfl,Go.Vc.a2 ?_⟩;refine h.std rfl rfl fun w h=>?_
   (try dsimp only[putAt,List.set_cons_zero,List.set_cons_succ] at h)
   rw[show IntKind.i64.wrap ((j:Int)+1)=((j+1:Nat):Int) from by rw[wr (by omega) (by omega)];omega];refine ih (j+1) q' (bs++ [b1]) w (by omega) (by simp[hbs]) ?_
   have ez:List.zipWith QueueA (bs++ [b1]) (List.replicate (j+1) [])=List.zipWith QueueA bs (List.replicate j [])++ [QueueA b1 []]:=by
    rw[List.replicate_succ',List.zipWith_append (by simp[hbs])];rfl
   rw[ez,List.append_assoc];have h2:Own B w0 w (BlkA t [slV ⟨none,0,0⟩, .slice q'.a q'.len q'.cap,slV r]::SlT thE ⟨none,0,0⟩ []::SlT ptrE q' (bs++ [b1])::SlT intE r (List.replicate c (-1))::QueueA b1 []::(List.zipWith QueueA bs (List.replicate j [])++R)):=h.sub;exact h2.perm ((((List.perm_middle.symm.cons _).cons _).cons _).cons _)
 have h3:Own B w0 w2 (BlkA t [slV ⟨none,0,0⟩,slV ⟨none,0,0⟩,slV r]::SlT thE ⟨none,0,0⟩ []::SlT ptrE ⟨none,0,0⟩ []::SlT intE r (List.replicate c (-1))::R):=h.up2;exact loop c 0 ⟨none,0,0⟩ [] w2 (by omega) rfl h3
end
section
variable {w0 w:World}
variable {B:Nat} {R:List Asn} {b:Nat} {m:Mt}
theorem MOk.setRT (hm:MOk m) {c n:Int} (h:m.isT n=true):MOk (m.setR c n):=hm.setR (.inr ⟨(isT_get h).1,(isT_get h).2.1⟩)
end
section
variable {B:Nat} {w0 w:World} {R L:List Asn} {b:Nat} {m:Mt}
theorem thr_first_spec {c:Nat} {a e2:Int} {K:Int->Pw} (h:Own B w0 w (BlkA c [.z a, .z e2]::L)) (hK:∀w',Own B w0 w' (BlkA c [.z a, .z e2]::L)->K (if a≠0 then a else e2) w'):C.qbg ⟨some ⟨c,0,none⟩,2,2⟩ K w:=by
 apply S.qbg0
 have tell:∀(x:Int) (w:World) (Q:Bool->Pw),Q (x !=0) w->C.qct x Q w:=fun x w Q h=>by
  apply S.qct0;exact h
 apply S.qt0;intro l3 hl3;refine hl3 _ _ (cdecT (by show (0:Int)<2;decide) ?_);refine ⟨_,rfl,by decide,by show (0:Int)<2;decide,a,h.ldd rfl,callV_mk (tell a w _ ?_)⟩;refine cb (fun e=>?_) (fun e=>?_)
 ·have ea:a≠0:=by simpa using e
  rw[if_pos ea] at hK;refine cdecF (by decide) ?_;exact ⟨_,rfl,by decide,by show (0:Int)<2;decide,a,h.ldd rfl,hK w h⟩
 ·have ea:a=0:=by simpa using e
  rw[if_neg (by simpa using ea)] at hK;rw[show IntKind.i64.wrap ((0:Int)+1)=1 from by decide];refine hl3 _ _ (cdecT (by show (1:Int)<2;decide) ?_);refine ⟨_,rfl,by decide,by show (1:Int)<2;decide,e2,h.ldd rfl,callV_mk (tell e2 w _ ?_)⟩;refine cb (fun e=>?_) (fun e=>?_)
  ·refine cdecF (by decide) ?_
   exact ⟨_,rfl,by decide,by show (1:Int)<2;decide,e2,h.ldd rfl,hK w h⟩
  ·have eb:e2=0:=by simpa using e
   rw[show IntKind.i64.wrap ((1:Int)+1)=2 from by decide];refine hl3 _ _ (cdecF (by show ¬(2:Int)<2;decide) ?_);refine cdecT (by decide) ?_;rw[eb] at hK h;exact hK w h
def Mt.reg (m:Mt) (n:Int) (i:Nat) (v:Int):Mt:=m.setTh n { m.th n with rg:=fun j=>if j=i then v else (m.th n).rg j}
theorem MOk.reg (hm:MOk m) {n v:Int} {i:Nat} (hn:m.isT n=true):MOk (m.reg n i v):=hm.setTh (t:={ m.th n with rg:=fun j=>if j=i then v else (m.th n).rg j}) (hm.th hn).1 rfl
theorem reg_p {n v:Int} {i:Nat} {K:Int->Pw} (hm:MOk m) (hT:m.isT n=true) (hi:i<8) (h:Own B w0 w (ThrA b m::R)) (hK:∀w',Own B w0 w' (ThrA b (m.reg n i v)::R)->K 0 w'):C.qu (some ⟨b,0,none⟩) n (i:Int) v K w:=by
 apply S.qu0;obtain ⟨l,q,r,bs,hbs,h⟩:=h.thr;obtain ⟨n0,n1,hx⟩:=isT_get hT;refine thr_one_o h (fun e=>by rw[hT] at e;cases e) fun a _ ha=>?_
 intro k7 hk7;refine thr_when_spec ?_;refine cdecF (by omega) ?_;refine thr_when_spec ?_;rw[decide_eq_false (show ¬(i:Int)≥8 by omega)];refine h.al fun w2 h=>?_
 generalize w.heap.size=d at h⊢;refine thr_first_spec h fun w h=>?_
 have h:=h.drop;refine hk7 _ _ (cneF rfl ?_);refine ⟨_,rfl,by omega,by omega,?_⟩
 have e1:((a.add (n.toNat*12)).add 4).add ((i:Int).toNat*1)=(a.add (n.toNat*12)).add (4+i):=by
  have:=h.slAddr l ha;rw[this,add_mk,add_mk,add_mk,add_mk,Int.toNat_natCast];congr 1;omega
 rw[e1];refine stTh (c:=4+i) (t':={ m.th n with rg:=fun j=>if j=i then v else (m.th n).rg j}) h n0 hx ha ?_ (by omega) rfl fun w h=>?_
 ·have:i=0∨i=1∨i=2∨i=3∨i=4∨i=5∨i=6∨i=7:=by omega
  rcases this with rfl|rfl|rfl|rfl|rfl|rfl|rfl|rfl<;>rfl
 ·exact hK w (Own.mk_thr (m:=m.reg n i v) hbs h)
theorem thr_leave_o {l q r:Sl} {bs:List Nat} {n s:Int} {K:Pw} (hm:MOk m) (hn:m.isT n=true) (hbs:bs.length=m.qs.length) (h:Own B w0 w (BlkA b [slV l,slV q,slV r]::SlT thE l m.ths::SlT ptrE q bs::SlT intE r m.runs::(List.zipWith QueueA bs m.qs++R)))
  (hK:∀w',Own B w0 w' (BlkA b [slV l,slV q,slV r]::SlT thE l (m.leave n s).ths::SlT ptrE q bs::SlT intE r (m.leave n s).runs::(List.zipWith QueueA bs (m.leave n s).qs++R))->K w'):C.qg (some ⟨b,0,none⟩) n s K w:=by
 apply S.qg0;obtain ⟨n0,n1,hx⟩:=isT_get hn;obtain ⟨⟨c0,c1⟩,_⟩:=hm.th hn;have hcr:=hm.cores;obtain ⟨b1,hb1⟩:∃x,bs[(m.th n).co.toNat]?=some x:=⟨_,gE (by omega)⟩
 refine thr_one_o h (fun e=>by rw[hn] at e;cases e) fun a _ ha=>?_
 refine ⟨_,rfl,_,ldTh (c:=0) h n0 hx ha rfl,?_⟩;intro k hk
 have fin:∀w,Own B w0 w (BlkA b [slV l,slV q,slV r]::SlT thE l m.ths::SlT ptrE q bs::SlT intE r (m.leave0 n).runs::(List.zipWith QueueA bs (m.leave0 n).qs++R))->k w:=fun w h=>by
  apply hk;refine ⟨_,rfl,?_⟩;refine stTh (c:=0) (t':={ m.th n with st:=s}) h n0 hx ha rfl (by decide) rfl fun w h=>?_
  refine hK w ?_;have e:(m.leave n s).ths=m.ths.set n.toNat { m.th n with st:=s}:=by unfold Mt.leave Mt.setTh;rw[leave0_len.1]
  rw[e];exact h
 refine ceq (fun e=>?_) (fun e=>?_)
 ·have e1:m.leave0 n=m.setQ (m.th n).co (takeR (m.q (m.th n).co) n).2:=by unfold Mt.leave0;rw[if_pos e]
  rw[e1] at fin;refine h.dr fun w h=>?_
  refine ⟨_,rfl,q,h.ldd rfl,_,rfl,_,ldTh (c:=2) h n0 hx ha rfl,?_⟩;refine h.ixc (s:=q) (j:=(m.th n).co.toNat) (by show (m.th n).co=_;omega) hb1 fun a2 ha2 h0 hc=>⟨_,h0 _ rfl,Go.Vc.a2 ?_⟩
  have h:=h.qout hb1 (q_get c0 c1);refine ready_Queue_Take_spec h fun w h=>?_
  exact fin w (h.qin (qs:=m.qs) hb1 (by omega))
 refine ceq (fun e2=>?_) (fun e2=>?_)
 ·have e1:m.leave0 n=m.setR (m.th n).co (-1):=by unfold Mt.leave0;rw[if_neg e,if_pos e2]
  rw[e1] at fin;refine h.dr fun w h=>?_
  refine ⟨_,rfl,r,h.ldd rfl,_,rfl,_,ldTh (c:=2) h n0 hx ha rfl,?_⟩;refine h.ixc (s:=r) (j:=(m.th n).co.toNat) (by show (m.th n).co=_;omega) (r_get (m:=m) c0 (by omega)) fun a2 ha2 h0 hc=>Go.Vc.a2 ?_
  refine Own.stEc (s:=r) (E:=intE) (xs:=m.runs) (i:=(m.th n).co) (j:=(m.th n).co.toNat) h (-1) (by omega) (by omega) ha2 rfl fun w h=>?_
  exact fin w h.up3.up3.up3
 ·have e1:m.leave0 n=m:=by unfold Mt.leave0;rw[if_neg e,if_neg e2]
  rw[e1] at fin;exact fin w h
end
section
variable {m:Mt}
theorem th_setTh {n k:Int} {t:Thd} (hn:m.isT n=true):(m.setTh n t).th k=if k=n then t else m.th k:=by
 obtain ⟨n0,n1,_⟩:=isT_get hn;unfold Mt.th Mt.setTh;by_cases hk:k<0
 ·rw[if_pos hk,if_pos hk,if_neg (by omega)]
 ·rw[if_neg hk,if_neg hk]
  simp only;rw[List.getElem?_set];by_cases e:k=n
  ·subst e;rw[if_pos rfl,if_pos (by omega),if_pos rfl];rfl
  ·rw[if_neg (by omega),if_neg e]
theorem q_setQ {c k:Int} {Q:Qs} (hc:m.isC c=true):(m.setQ c Q).q k=if k=c then Q else m.q k:=by
 obtain ⟨n0,n1⟩:=isC_iff.1 hc;unfold Mt.q Mt.setQ;by_cases hk:k<0
 ·rw[if_pos hk,if_pos hk,if_neg (by omega)]
 ·rw[if_neg hk,if_neg hk]
  simp only;rw[List.getElem?_set];by_cases e:k=c
  ·subst e;rw[if_pos rfl,if_pos (by omega),if_pos rfl];rfl
  ·rw[if_neg (by omega),if_neg e]
theorem run_setR {c k v:Int} (c0:0≤c) (c1:c<m.runs.length):(m.setR c v).run k=if k=c then v else m.run k:=by
 unfold Mt.run Mt.setR;by_cases hk:k<0
 ·rw[if_pos hk,if_pos hk,if_neg (by omega)]
 ·rw[if_neg hk,if_neg hk]
  simp only;rw[List.getElem?_set];by_cases e:k=c
  ·subst e;rw[if_pos rfl,if_pos (by omega),if_pos rfl];rfl
  ·rw[if_neg (by omega),if_neg e]
theorem setTh_q {n k:Int} {t:Thd}:(m.setTh n t).q k=m.q k:=rfl
theorem setTh_run {n k:Int} {t:Thd}:(m.setTh n t).run k=m.run k:=rfl
theorem setQ_th {n k:Int} {t:Qs}:(m.setQ n t).th k=m.th k:=rfl
theorem setQ_run {n k:Int} {t:Qs}:(m.setQ n t).run k=m.run k:=rfl
theorem setR_th {n k t:Int}:(m.setR n t).th k=m.th k:=rfl
theorem setR_q {n k t:Int}:(m.setR n t).q k=m.q k:=rfl
theorem setQ_isT {n k:Int} {t:Qs}:(m.setQ n t).isT k=m.isT k:=rfl
theorem setQ_isC {n k:Int} {t:Qs}:(m.setQ n t).isC k=m.isC k:=by unfold Mt.setQ Mt.isC;simp
structure InvX (o:Int) (m:Mt):Prop where
 ok:MOk m
 pr:∀n,m.isT n=true->0≤(m.th n).pr/\(m.th n).pr<256
 le:∀n,m.isT n=true->1≤(m.th n).le/\(m.th n).le≤5
 qok:∀c,QOk (m.q c)
 inq:∀c,m.isC c=true->∀(p:Nat) n,(p,n)∈m.q c↔(m.isT n=true/\n≠o/\(m.th n).co=c/\(m.th n).st=1/\(m.th n).pr=(p:Int))
 inr:∀c,m.isC c=true->∀n,m.isT n=true->(m.run c=n↔(n≠o/\(m.th n).co=c/\(m.th n).st=2))
theorem InvX.co {o:Int} (hi:InvX o m) {n:Int} (hn:m.isT n=true):m.isC (m.th n).co=true:=isC_iff.2 (hi.ok.th hn).1
theorem take_mem {Q:Qs} {n:Int} {p:Nat} {k:Int}:(p,k)∈(takeR Q n).2↔(p,k)∈Q/\k≠n:=by
 unfold takeR;split
 ·rw[List.mem_filter];simp
 ·rename_i e
  exact ⟨fun h=>⟨h,wh_none.1 e _ h⟩,fun h=>h.1⟩
theorem take_ok {Q:Qs} {n:Int} (h:QOk Q):QOk (takeR Q n).2:=by
 unfold takeR;split
 ·exact ⟨h.nodup.sublist (List.Sublist.map _ List.filter_sublist),fun x hx=>h.prio x (List.mem_filter.1 hx).1,Nat.le_trans (List.length_filter_le _ _) h.few⟩
 ·exact h
theorem InvX.leave0 (hi:InvX (-1) m) {n:Int} (hn:m.isT n=true):InvX n (m.leave0 n):=by
 have hc:=hi.co hn;have hok:=hi.ok;obtain ⟨c0,c1⟩:=isC_iff.1 hc;have hcr:=hi.ok.cores;obtain ⟨n0,_,_⟩:=isT_get hn;have neg:∀k,m.isT k=true->k≠ -1:=fun k hk=>by have:=(isT_get hk).1;omega
 unfold Mt.leave0;split
 ·rename_i hs
  refine ⟨hi.ok.setQ (takeR_ids hok.qline),hi.pr,hi.le,fun c=>?_,fun c hc2 p k=>?_,fun c hc2 k hk=>?_⟩
  ·rw[q_setQ hc];split
   ·exact take_ok (hi.qok _)
   ·exact hi.qok c
  ·rw[setQ_isC] at hc2
   rw[q_setQ hc,setQ_th,setQ_isT];split
   ·rename_i e
    subst e;rw[take_mem,hi.inq _ hc];constructor
    ·rintro ⟨⟨h1,h2,h3⟩,h4⟩;exact ⟨h1,h4,h3⟩
    ·rintro ⟨h1,h4,h3⟩;exact ⟨⟨h1,neg k h1,h3⟩,h4⟩
   ·rename_i e
    rw[hi.inq _ hc2];constructor
    ·rintro ⟨h1,h2,h3⟩;exact ⟨h1,fun e2=>e (by rw[←h3.1,e2]),h3⟩
    ·rintro ⟨h1,h4,h3⟩;exact ⟨h1,neg k h1,h3⟩
  ·rw[setQ_isC] at hc2
   rw[setQ_run,setQ_th,hi.inr c hc2 k hk];constructor
   ·rintro ⟨h1,h2,h3⟩;exact ⟨fun e=>by rw[e,hs] at h3;omega,h2,h3⟩
   ·rintro ⟨h1,h3⟩;exact ⟨neg k hk,h3⟩
 ·rename_i hs1
  split
  ·rename_i hs
   refine ⟨hi.ok.setR (.inl rfl),hi.pr,hi.le,hi.qok,fun c hc2 p k=>?_,fun c hc2 k hk=>?_⟩
   ·rw[setR_isC] at hc2
    rw[setR_q,setR_th,setR_isT,hi.inq c hc2];constructor
    ·rintro ⟨h1,h2,h3,h4,h5⟩;exact ⟨h1,fun e=>by rw[e,hs] at h4;omega,h3,h4,h5⟩
    ·rintro ⟨h1,h2,h3⟩;exact ⟨h1,neg k h1,h3⟩
   ·rw[setR_isC] at hc2
    rw[setR_isT] at hk;rw[run_setR c0 (by omega),setR_th];split
    ·rename_i e
     constructor
     ·intro e2;exact absurd e2.symm (neg k hk)
     ·rintro ⟨h1,h2,h3⟩
      have a1:=(hi.inr c hc2 k hk).2 ⟨neg k hk,h2,h3⟩;have a2:=(hi.inr c hc2 n hn).2 ⟨neg n hn,e.symm,hs⟩;exact absurd (a1.symm.trans a2) h1
    ·rename_i e
     rw[hi.inr c hc2 k hk];constructor
     ·rintro ⟨h1,h2,h3⟩;exact ⟨fun e2=>e (by rw[←h2,e2]),h2,h3⟩
     ·rintro ⟨h1,h3⟩;exact ⟨neg k hk,h3⟩
  ·rename_i hs2
   refine ⟨hi.ok,hi.pr,hi.le,hi.qok,fun c hc2 p k=>?_,fun c hc2 k hk=>?_⟩
   ·rw[hi.inq c hc2]
    constructor
    ·rintro ⟨h1,h2,h3,h4,h5⟩;exact ⟨h1,fun e=>by rw[e] at h4;exact hs1 h4,h3,h4,h5⟩
    ·rintro ⟨h1,h2,h3⟩;exact ⟨h1,neg k h1,h3⟩
   ·rw[hi.inr c hc2 k hk]
    constructor
    ·rintro ⟨h1,h2,h3⟩;exact ⟨fun e=>by rw[e] at h3;exact hs2 h3,h2,h3⟩
    ·rintro ⟨h1,h3⟩;exact ⟨neg k hk,h3⟩
theorem InvX.set {n:Int} (hi:InvX n m) (hn:m.isT n=true) {t:Thd} (h1:0≤t.co/\t.co<m.qs.length) (h2:0≤t.pr/\t.pr<256) (h3:1≤t.le/\t.le≤5):InvX n (m.setTh n t):=by
 refine ⟨hi.ok.setTh h1 rfl,fun k hk=>?_,fun k hk=>?_,hi.qok,fun c hc p k=>?_,fun c hc k hk=>?_⟩
 ·rw[th_setTh hn];rw[setTh_isT] at hk;split
  ·exact h2
  ·exact hi.pr k hk
 ·rw[th_setTh hn];rw[setTh_isT] at hk;split
  ·exact h3
  ·exact hi.le k hk
 ·rw[setTh_q,setTh_isT,th_setTh hn,hi.inq c hc]
  by_cases e:k=n
  ·subst e;exact ⟨fun h=>absurd rfl h.2.1,fun h=>absurd rfl h.2.1⟩
  ·rw[if_neg e]
 ·rw[setTh_isT] at hk
  rw[setTh_run,th_setTh hn,hi.inr c hc k hk];by_cases e:k=n
  ·subst e;exact ⟨fun h=>absurd rfl h.1,fun h=>absurd rfl h.1⟩
  ·rw[if_neg e]
theorem leave0_th {n k:Int}:(m.leave0 n).th k=m.th k:=by unfold Mt.th;rw[leave0_len.1]
theorem leave0_isT {n k:Int}:(m.leave0 n).isT k=m.isT k:=by unfold Mt.isT;rw[leave0_len.1]
theorem InvX.leave (hi:InvX (-1) m) {n s:Int} (hn:m.isT n=true):InvX n (m.leave n s):=by
 unfold Mt.leave;have h0:=hi.leave0 hn;have hn0:(m.leave0 n).isT n=true:=by rw[leave0_isT];exact hn
 refine h0.set hn0 ?_ (hi.pr n hn) (hi.le n hn);rw[leave0_len.2];exact (hi.ok.th hn).1
theorem th_leave {n s k:Int} (hn:m.isT n=true):(m.leave n s).th k=if k=n then { m.th n with st:=s} else m.th k:=by
 unfold Mt.leave;rw[th_setTh (by rw[leave0_isT];exact hn),leave0_th]
theorem th_lineUp {n k:Int} (hn:m.isT n=true):(m.lineUp n).th k=if k=n then { m.th n with st:=1} else m.th k:=by
 unfold Mt.lineUp;rw[setQ_th,th_setTh hn]
theorem InvX.noq {n:Int} (hi:InvX n m) {c:Int} (hc:m.isC c=true):wh (m.q c) n=none:=wh_none.2 fun x hx e=>by
 obtain ⟨p,k⟩:=x;exact ((hi.inq c hc p k).1 hx).2.1 e
theorem InvX.up {n:Int} (hi:InvX n m) (hn:m.isT n=true):InvX (-1) (m.lineUp n):=by
 have hc:=hi.co hn;have hw:=hi.noq hc;have hp:=hi.pr n hn;have hok:=hi.ok.lineUp hn;have hids:=ids_len (hi.qok _) (hi.ok.qline (c:=(m.th n).co));have hfew:=hi.ok.few;have neg:∀k,m.isT k=true->k≠ -1:=fun k hk=>by have:=(isT_get hk).1;omega
 have hput:(putR (m.q (m.th n).co) (m.th n).pr n).2=m.q (m.th n).co++ [((m.th n).pr.toNat,n)]:=by
  unfold putR;rw[if_neg (by omega),hw]
 have hpt:((m.th n).pr.toNat:Int)=(m.th n).pr:=by omega
 have hc1:(m.setTh n { m.th n with st:=1}).isC (m.th n).co=true:=hc;refine ⟨hok,fun k hk=>?_,fun k hk=>?_,fun c=>?_,fun c hc2 p k=>?_,fun c hc2 k hk=>?_⟩
 ·rw[th_lineUp hn];rw[lineUp_isT] at hk;split
  ·exact hp
  ·exact hi.pr k hk
 ·rw[th_lineUp hn];rw[lineUp_isT] at hk;split
  ·exact hi.le n hn
  ·exact hi.le k hk
 ·unfold Mt.lineUp
  rw[q_setQ hc1,hput,setTh_q];split
  ·exact put_ok (hi.qok _) (by omega) hw (by omega)
  ·exact hi.qok c
 ·rw[lineUp_isC] at hc2
  rw[lineUp_isT,th_lineUp hn]
  have e0:(m.lineUp n).q c=if c=(m.th n).co then m.q (m.th n).co++ [((m.th n).pr.toNat,n)] else m.q c:=by
   unfold Mt.lineUp;rw[q_setQ hc1,hput,setTh_q]
  rw[e0];by_cases e:c=(m.th n).co
  ·subst e
   rw[if_pos rfl,List.mem_append,List.mem_singleton,hi.inq _ hc2];by_cases ek:k=n
   ·subst ek
    rw[if_pos rfl];constructor
    ·rintro (h|h)
     ·exact absurd rfl h.2.1
     ·cases h;exact ⟨hn,neg k hn,rfl,rfl,hpt.symm⟩
    ·rintro ⟨_,_,_,_,h5⟩
     refine .inr ?_;have:(m.th k).pr.toNat=p:=by have h5:(m.th k).pr=p:=h5;omega
     rw[this]
   ·rw[if_neg ek]
    constructor
    ·rintro (⟨h1,h2,h3⟩|h)
     ·exact ⟨h1,neg k h1,h3⟩
     ·cases h;exact absurd rfl ek
    ·rintro ⟨h1,h2,h3⟩;exact .inl ⟨h1,ek,h3⟩
  ·rw[if_neg e,hi.inq _ hc2]
   by_cases ek:k=n
   ·subst ek
    rw[if_pos rfl];exact ⟨fun h=>absurd rfl h.2.1,fun h=>absurd h.2.2.1.symm e⟩
   ·rw[if_neg ek]
    exact ⟨fun h=>⟨h.1,neg k h.1,h.2.2⟩,fun h=>⟨h.1,ek,h.2.2⟩⟩
 ·rw[lineUp_isC] at hc2
  rw[lineUp_isT] at hk;rw[th_lineUp hn];show m.run c=k↔_;rw[hi.inr c hc2 k hk];by_cases ek:k=n
  ·subst ek
   rw[if_pos rfl];exact ⟨fun h=>absurd rfl h.1,fun h=>absurd (show (1:Int)=2 from h.2.2) (by decide)⟩
  ·rw[if_neg ek]
   exact ⟨fun h=>⟨neg k hk,h.2⟩,fun h=>⟨ek,h.2⟩⟩
theorem InvX.still {n:Int} (hi:InvX n m) (h1:(m.th n).st≠1) (h2:(m.th n).st≠2):InvX (-1) m:=by
 have neg:∀k,m.isT k=true->k≠ -1:=fun k hk=>by have:=(isT_get hk).1;omega
 refine ⟨hi.ok,hi.pr,hi.le,hi.qok,fun c hc p k=>?_,fun c hc k hk=>?_⟩
 ·rw[hi.inq c hc]
  exact ⟨fun h=>⟨h.1,neg k h.1,h.2.2⟩,fun h=>⟨h.1,fun e=>h1 (by rw[←e];exact h.2.2.2.1),h.2.2⟩⟩
 ·rw[hi.inr c hc k hk]
  exact ⟨fun h=>⟨neg k hk,h.2⟩,fun h=>⟨fun e=>h2 (by rw[←e];exact h.2.2),h.2⟩⟩
theorem InvX.out {n:Int} (hi:InvX (-1) m) (h1:(m.th n).st≠1) (h2:(m.th n).st≠2):InvX n m:=by
 have neg:∀k,m.isT k=true->k≠ -1:=fun k hk=>by have:=(isT_get hk).1;omega
 refine ⟨hi.ok,hi.pr,hi.le,hi.qok,fun c hc p k=>?_,fun c hc k hk=>?_⟩
 ·rw[hi.inq c hc]
  exact ⟨fun h=>⟨h.1,fun e=>h1 (by rw[←e];exact h.2.2.2.1),h.2.2⟩,fun h=>⟨h.1,neg k h.1,h.2.2⟩⟩
 ·rw[hi.inr c hc k hk]
  exact ⟨fun h=>⟨fun e=>h2 (by rw[←e];exact h.2.2),h.2⟩,fun h=>⟨neg k hk,h.2⟩⟩
theorem InvX.go {n c:Int} (hi:InvX n m) (hn:m.isT n=true) (h1:(m.th n).st=2) (h2:(m.th n).co=c) (hc:m.isC c=true) (hr:m.run c= -1):InvX (-1) (m.setR c n):=by
 have neg:∀k,m.isT k=true->k≠ -1:=fun k hk=>by have:=(isT_get hk).1;omega
 obtain ⟨c0,c1⟩:=isC_iff.1 hc;have hcr:=hi.ok.cores;refine ⟨hi.ok.setRT hn,hi.pr,hi.le,hi.qok,fun d hd p k=>?_,fun d hd k hk=>?_⟩
 ·rw[setR_isC] at hd
  rw[setR_q,setR_isT,setR_th,hi.inq d hd];exact ⟨fun h=>⟨h.1,neg k h.1,h.2.2⟩,fun h=>⟨h.1,fun e=>by rw[e,h1] at h;exact absurd h.2.2.2.1 (by decide),h.2.2⟩⟩
 ·rw[setR_isC] at hd
  rw[setR_isT] at hk;rw[run_setR c0 (by omega),setR_th];by_cases e:d=c
  ·subst e
   rw[if_pos rfl];constructor
   ·intro e2;subst e2;exact ⟨neg _ hk,h2,h1⟩
   ·rintro ⟨h3,h4⟩
    by_cases ek:k=n
    ·exact ek.symm
    ·have:=(hi.inr d hd k hk).2 ⟨ek,h4⟩
     rw[hr] at this;exact absurd this.symm (neg k hk)
  ·rw[if_neg e,hi.inr d hd k hk]
   exact ⟨fun h=>⟨neg k hk,h.2⟩,fun h=>⟨fun e2=>e (by rw[←h.2.1,e2,h2]),h.2⟩⟩
theorem InvX.keep (hi:InvX (-1) m) {n:Int} (hn:m.isT n=true) {t:Thd} (h1:t.co=(m.th n).co) (h2:t.st=(m.th n).st) (h3:(m.th n).st=1->t.pr=(m.th n).pr) (h4:0≤t.pr/\t.pr<256) (h5:1≤t.le/\t.le≤5):InvX (-1) (m.setTh n t):=by
 refine ⟨hi.ok.setTh (by rw[h1];exact (hi.ok.th hn).1) rfl,fun k hk=>?_,fun k hk=>?_,hi.qok,fun c hc p k=>?_,fun c hc k hk=>?_⟩
 ·rw[th_setTh hn];rw[setTh_isT] at hk;split
  ·exact h4
  ·exact hi.pr k hk
 ·rw[th_setTh hn];rw[setTh_isT] at hk;split
  ·exact h5
  ·exact hi.le k hk
 ·rw[setTh_q,setTh_isT,th_setTh hn,hi.inq c hc]
  by_cases e:k=n
  ·subst e
   rw[if_pos rfl,h1,h2];exact ⟨fun h=>⟨h.1,h.2.1,h.2.2.1,h.2.2.2.1,by rw[h3 h.2.2.2.1];exact h.2.2.2.2⟩,fun h=>⟨h.1,h.2.1,h.2.2.1,h.2.2.2.1,by rw[←h3 h.2.2.2.1];exact h.2.2.2.2⟩⟩
  ·rw[if_neg e]
 ·rw[setTh_isT] at hk
  rw[setTh_run,th_setTh hn,hi.inr c hc k hk];by_cases e:k=n
  ·subst e;rw[if_pos rfl,h1,h2]
  ·rw[if_neg e]
theorem th_make {p c k:Int}:(m.make p c).th k=if k=(m.ths.length:Int) then ⟨0,p,c,5,fun _=>0⟩ else m.th k:=by
 unfold Mt.th Mt.make;by_cases hk:k<0
 ·rw[if_pos hk,if_neg (by omega),if_pos hk]
 ·rw[if_neg hk]
  simp only;by_cases e:k=(m.ths.length:Int)
  ·subst e;rw[if_pos rfl,Int.toNat_natCast,List.getElem?_append_right (Nat.le_refl _),Nat.sub_self];rfl
  ·rw[if_neg e,if_neg hk]
   by_cases e2:k.toNat<m.ths.length
   ·rw[List.getElem?_append_left e2]
   ·rw[List.getElem?_eq_none (by simp;omega),List.getElem?_eq_none (by omega)]
theorem make_isT {p c k:Int}:(m.make p c).isT k=true↔(m.isT k=true∨k=(m.ths.length:Int)):=by
 unfold Mt.isT Mt.make;simp only[List.length_append,List.length_cons,List.length_nil,Bool.and_eq_true,decide_eq_true_eq];omega
theorem InvX.make (hi:InvX (-1) m) {p c:Int} (hl:m.ths.length<64) (hc:m.isC c=true) (hp:0≤p/\p<256):InvX (-1) (m.make p c):=by
 have notT:m.isT (m.ths.length:Int)≠true:=by unfold Mt.isT;simp
 refine ⟨hi.ok.make hl hc,fun k hk=>?_,fun k hk=>?_,hi.qok,fun d hd q k=>?_,fun d hd k hk=>?_⟩
 ·rw[th_make]
  rcases make_isT.1 hk with h|h
  ·split
   ·exact hp
   ·exact hi.pr k h
  ·rw[if_pos h];exact hp
 ·rw[th_make]
  rcases make_isT.1 hk with h|h
  ·split
   ·exact ⟨by show (1:Int)≤5;decide,by show (5:Int)≤5;decide⟩
   ·exact hi.le k h
  ·rw[if_pos h];exact ⟨by show (1:Int)≤5;decide,by show (5:Int)≤5;decide⟩
 ·show (q,k)∈m.q d↔_
  rw[hi.inq d hd,make_isT,th_make];by_cases e:k=(m.ths.length:Int)
  ·rw[if_pos e,e]
   exact ⟨fun h=>absurd h.1 notT,fun h=>absurd (show (0:Int)=1 from h.2.2.2.1) (by decide)⟩
  ·rw[if_neg e]
   exact ⟨fun h=>⟨.inl h.1,h.2⟩,fun h=>⟨h.1.resolve_right e,h.2⟩⟩
 ·show m.run d=k↔_
  rw[th_make];by_cases e:k=(m.ths.length:Int)
  ·rw[if_pos e,e]
   refine ⟨fun h=>?_,fun h=>absurd (show (0:Int)=2 from h.2.2) (by decide)⟩;obtain ⟨d0,d1⟩:=isC_iff.1 hd;have d1:d<(m.qs.length:Int):=d1;have hcr:=hi.ok.cores;have:=hi.ok.run _ (List.mem_of_getElem? (r_get (m:=m) d0 (by omega)));omega
  ·rw[if_neg e]
   exact hi.inr d hd k ((make_isT.1 hk).resolve_right e)
theorem newM_q {c:Nat} {d:Int}:(newM c).q d= []:=by
 unfold Mt.q newM;split
 ·rfl
 ·simp only
  cases e:(List.replicate c ([]:Qs))[d.toNat]? with
  |none=>rfl
  |some Q=>have:=List.mem_of_getElem? e;rw[List.mem_replicate] at this;rw[this.2];rfl
theorem newM_isT {c:Nat} {k:Int}:(newM c).isT k≠true:=by unfold Mt.isT newM;simp
theorem newM_inv {c:Nat} (h8:c≤8):InvX (-1) (newM c):=by
 refine ⟨newM_ok h8,fun k hk=>absurd hk newM_isT,fun k hk=>absurd hk newM_isT,fun d=>?_,fun d hd p k=>?_,fun d hd k hk=>absurd hk newM_isT⟩
 ·rw[newM_q];exact ⟨by simp,by simp,by simp⟩
 ·rw[newM_q];exact ⟨fun h=>by simp at h,fun h=>absurd h.1 newM_isT⟩
end
section
variable {B:Nat} {w0 w:World} {R L:List Asn} {b:Nat} {m:Mt}
def Mt.resumeR (m:Mt) (n:Int):Int × Mt:=if m.isT n=false then (100,m) else if (m.th n).st=1∨(m.th n).st=2 then (101,m) else (0,m.lineUp n)
def Mt.suspendR (m:Mt) (n:Int):Int × Mt:=if m.isT n=false then (100,m) else if (m.th n).st=0 then (101,m) else (0,m.leave n 0)
def Mt.blockR (m:Mt) (n:Int):Int × Mt:=if m.isT n=false then (100,m) else if (m.th n).st≠2 then (101,m) else (0,m.leave n 3)
def Mt.prioR (m:Mt) (n p:Int):Int × Mt:=if m.isT n=false then (100,m) else if ¬(0≤p/\p<256) then (1,m) else
 if (m.th n).st=1 then (0,((m.leave n 1).setTh n {(m.leave n 1).th n with pr:=p}).lineUp n) else (0,m.setTh n { m.th n with pr:=p})
def Mt.regR (m:Mt) (n i v:Int):Int × Mt:=if m.isT n=false then (100,m) else if ¬(0≤i/\i<8) then (1,m) else (0,m.reg n i.toNat v)
def Mt.makeR (m:Mt) (p c:Int):Int × Int × Mt:=if ¬(0≤p/\p<256/\m.isC c=true) then (0,1,m) else if 64≤m.ths.length then (0,2,m) else ((m.ths.length:Int),0,m.make p c)
theorem resume_g {n:Int} {K:Int->Pw} (hm:MOk m) (h:Own B w0 w (ThrA b m::R)) (hK:∀w',Own B w0 w' (ThrA b (m.resumeR n).2::R)->K (m.resumeR n).1 w'):C.qv (some ⟨b,0,none⟩) n K w:=by
 unfold Mt.resumeR at hK;refine thr_Resume_spec hm h (fun e w h=>?_) (fun e e1 w h=>?_) (fun e e1 e2 w h=>?_)
 ·rw[if_pos e] at hK;exact hK w h
 ·rw[if_neg (by rw[e];simp),if_pos e1] at hK;exact hK w h
 ·rw[if_neg (by rw[e];simp),if_neg (fun hh=>hh.elim e1 e2)] at hK;exact hK w h
theorem suspend_g {n:Int} {K:Int->Pw} (hm:MOk m) (h:Own B w0 w (ThrA b m::R)) (hK:∀w',Own B w0 w' (ThrA b (m.suspendR n).2::R)->K (m.suspendR n).1 w'):C.qA (some ⟨b,0,none⟩) n K w:=by
 unfold Mt.suspendR at hK;refine thr_Suspend_spec hm h (fun e w h=>?_) (fun e e1 w h=>?_) (fun e e1 w h=>?_)
 ·rw[if_pos e] at hK;exact hK w h
 ·rw[if_neg (by rw[e];simp),if_pos e1] at hK;exact hK w h
 ·rw[if_neg (by rw[e];simp),if_neg e1] at hK;exact hK w h
theorem block_g {n:Int} {K:Int->Pw} (hm:MOk m) (h:Own B w0 w (ThrA b m::R)) (hK:∀w',Own B w0 w' (ThrA b (m.blockR n).2::R)->K (m.blockR n).1 w'):C.qX (some ⟨b,0,none⟩) n K w:=by
 unfold Mt.blockR at hK;refine thr_Block_spec hm h (fun e w h=>?_) (fun e e1 w h=>?_) (fun e e1 w h=>?_)
 ·rw[if_pos e] at hK;exact hK w h
 ·rw[if_neg (by rw[e];simp),if_pos e1] at hK;exact hK w h
 ·rw[if_neg (by rw[e];simp),if_neg (fun hh=>hh e1)] at hK;exact hK w h
theorem make_g {p c:Int} {K:Int->Int->Pw} (hm:MOk m) (h:Own B w0 w (ThrA b m::R)) (hK:∀w',Own B w0 w' (ThrA b (m.makeR p c).2.2::R)->K (m.makeR p c).1 (m.makeR p c).2.1 w'):C.qC (some ⟨b,0,none⟩) p c K w:=by
 unfold Mt.makeR at hK;refine thr_Make_spec hm h (fun e w h=>?_) (fun e e1 w h=>?_) (fun e e1 w h=>?_)
 ·rw[if_pos e] at hK;exact hK w h
 ·rw[if_neg (fun hh=>hh e),if_pos e1] at hK;exact hK w h
 ·rw[if_neg (fun hh=>hh e),if_neg (by omega)] at hK;exact hK w h
theorem first2 {x y:Int} {K:Int->Pw} (h:Own B w0 w L) (hK:∀w',Own B w0 w' L->K (if x≠0 then x else y) w'):Al w (.cells #[.z x, .z y] 23) fun w12=>C.qbg ⟨some (Addr.mk w.heap.size 0 none),2,2⟩ K w12:=by
 refine h.al fun w2 h=>?_
 generalize w.heap.size=d at h⊢;exact thr_first_spec h fun w h=>hK w h.drop
theorem reg_g {n i v:Int} {K:Int->Pw} (hm:MOk m) (h:Own B w0 w (ThrA b m::R)) (hK:∀w',Own B w0 w' (ThrA b (m.regR n i v).2::R)->K (m.regR n i v).1 w'):C.qu (some ⟨b,0,none⟩) n i v K w:=by
 unfold Mt.regR at hK;by_cases hT:m.isT n=true
 ·rw[if_neg (by rw[hT];simp)] at hK
  by_cases hi:0≤i/\i<8
  ·rw[if_neg (fun hh=>hh hi)] at hK
   obtain ⟨k,rfl⟩:=Int.eq_ofNat_of_zero_le hi.1;exact reg_p hm hT (by omega) h hK
  ·rw[if_pos hi] at hK
   apply S.qu0;obtain ⟨l,q,r,bs,hbs,h⟩:=h.thr;refine thr_one_o h (fun e=>by rw[hT] at e;cases e) fun a _ ha=>?_
   intro k7 hk7;refine thr_when_spec ?_;refine cdec (fun e=>?_) (fun e=>?_)
   ·refine thr_when_spec (first2 h fun w h=>?_)
    exact hk7 _ _ (cneT (by simp) (hK w (Own.mk_thr hbs h)))
   ·refine thr_when_spec ?_
    rw[decide_eq_true (show i≥8 by omega)];refine first2 h fun w h=>?_
    exact hk7 _ _ (cneT (by simp) (hK w (Own.mk_thr hbs h)))
 ·have hF:m.isT n=false:=by simpa using hT
  rw[if_pos hF] at hK;apply S.qu0;obtain ⟨l,q,r,bs,hbs,h⟩:=h.thr;refine thr_one_o h (fun e=>?_) fun a e ha=>by rw[hF] at e;cases e
  intro k7 hk7;refine thr_when_spec ?_;refine cdec (fun e=>?_) (fun e=>?_)
  ·refine thr_when_spec (first2 h fun w h=>?_)
   exact hk7 _ _ (cneT (by simp) (hK w (Own.mk_thr hbs h)))
  ·refine thr_when_spec (first2 h fun w h=>?_)
   exact hk7 _ _ (cneT (by simp) (hK w (Own.mk_thr hbs h)))
theorem prio_g {n p:Int} {K:Int->Pw} (hm:MOk m) (h:Own B w0 w (ThrA b m::R)) (hK:∀w',Own B w0 w' (ThrA b (m.prioR n p).2::R)->K (m.prioR n p).1 w'):C.qax (some ⟨b,0,none⟩) n p K w:=by
 unfold Mt.prioR at hK;apply S.qax0;obtain ⟨l,q,r,bs,hbs,h⟩:=h.thr;refine thr_one_o h (fun e=>?_) fun a hT ha=>?_
 ·rw[if_pos e] at hK
  refine thr_when_spec (thr_prio_spec (thr_when_spec (first2 h fun w h=>?_)));exact cneT (by simp) (hK w (Own.mk_thr hbs h))
 ·rw[if_neg (by rw[hT];simp)] at hK
  obtain ⟨n0,n1,hx⟩:=isT_get hT;refine thr_when_spec (thr_prio_spec (thr_when_spec (first2 h fun w h=>?_)));by_cases hp:0≤p/\p<256
  ·rw[if_neg (fun hh=>hh hp)] at hK
   rw[decide_eq_true hp.1,decide_eq_true hp.2];refine cneF (by simp) ?_;refine ⟨_,rfl,_,ldTh (c:=0) h n0 hx ha rfl,?_⟩;refine cne (fun e=>?_) (fun e=>?_)
   ·rw[if_neg e] at hK
    refine ⟨_,rfl,?_⟩;refine stTh (c:=1) (t':={ m.th n with pr:=p}) h n0 hx ha rfl (by decide) rfl fun w h=>?_
    exact hK w (Own.mk_thr (m:=m.setTh n { m.th n with pr:=p}) hbs h)
   ·rw[if_pos e] at hK
    have hm1:=hm.leave (s:=1) hT;have hT1:(m.leave n 1).isT n=true:=by rw[leave_isT];exact hT
    have hq1:(m.leave n 1).qs.length=m.qs.length:=leave0_len.2;refine thr_leave_o hm hT hbs h fun w h=>?_
    obtain ⟨_,_,hx1⟩:=isT_get hT1;generalize m.leave n 1=mb at*
    refine ⟨_,rfl,?_⟩;refine stTh (c:=1) (t':={ mb.th n with pr:=p}) h n0 hx1 ha rfl (by decide) rfl fun w h=>?_
    have h:Own B w0 w (ThrA b (mb.setTh n { mb.th n with pr:=p})::R):=Own.mk_thr (m:=mb.setTh n { mb.th n with pr:=p}) (by show bs.length=mb.qs.length;omega) h;have hm2:MOk (mb.setTh n { mb.th n with pr:=p}):=hm1.setTh (t:={ mb.th n with pr:=p}) (hm1.th hT1).1 rfl;have hT2:(mb.setTh n { mb.th n with pr:=p}).isT n=true:=by rw[setTh_isT];exact hT1
    exact thr_lineUp_spec hm2 hT2 h hK
  ·rw[if_pos hp] at hK
   have e:(!(decide (0≤p)&&decide (p<256)))=true:=by
    by_cases e1:0≤p
    ·rw[decide_eq_true e1,decide_eq_false (by omega)];rfl
    ·rw[decide_eq_false e1];rfl
   rw[e];exact cneT (by simp) (hK w (Own.mk_thr hbs h))
theorem InvX.resume (hi:InvX (-1) m) (n:Int):InvX (-1) (m.resumeR n).2:=by
 unfold Mt.resumeR;split
 ·exact hi
 ·rename_i e
  have hT:m.isT n=true:=by simpa using e
  split
  ·exact hi
  ·rename_i e1
   exact (hi.out (fun h=>e1 (.inl h)) (fun h=>e1 (.inr h))).up hT
theorem InvX.suspend (hi:InvX (-1) m) (n:Int):InvX (-1) (m.suspendR n).2:=by
 unfold Mt.suspendR;split
 ·exact hi
 ·rename_i e
  have hT:m.isT n=true:=by simpa using e
  split
  ·exact hi
  ·refine (hi.leave hT).still ?_ ?_<;>(rw[th_leave hT,if_pos rfl];show (0:Int)≠_;decide)
theorem InvX.block (hi:InvX (-1) m) (n:Int):InvX (-1) (m.blockR n).2:=by
 unfold Mt.blockR;split
 ·exact hi
 ·rename_i e
  have hT:m.isT n=true:=by simpa using e
  split
  ·exact hi
  ·refine (hi.leave hT).still ?_ ?_<;>(rw[th_leave hT,if_pos rfl];show (3:Int)≠_;decide)
theorem InvX.reg (hi:InvX (-1) m) (n i v:Int):InvX (-1) (m.regR n i v).2:=by
 unfold Mt.regR;split
 ·exact hi
 ·rename_i e
  have hT:m.isT n=true:=by simpa using e
  split
  ·exact hi
  ·exact hi.keep hT rfl rfl (fun _=>rfl) (hi.pr n hT) (hi.le n hT)
theorem InvX.prio (hi:InvX (-1) m) (n p:Int):InvX (-1) (m.prioR n p).2:=by
 unfold Mt.prioR;split
 ·exact hi
 ·rename_i e
  have hT:m.isT n=true:=by simpa using e
  split
  ·exact hi
  ·rename_i hp
   have hp:0≤p/\p<256:=Decidable.not_not.1 hp;split
   ·have h1:=hi.leave (s:=1) hT
    have hT1:(m.leave n 1).isT n=true:=by rw[leave_isT];exact hT
    exact (h1.set (t:={(m.leave n 1).th n with pr:=p}) hT1 (h1.ok.th hT1).1 hp (h1.le n hT1)).up (by rw[setTh_isT];exact hT1)
   ·rename_i e1
    exact hi.keep (t:={ m.th n with pr:=p}) hT rfl rfl (fun h=>absurd h e1) hp (hi.le n hT)
theorem InvX.makeR (hi:InvX (-1) m) (p c:Int):InvX (-1) (m.makeR p c).2.2:=by
 unfold Mt.makeR;split
 ·exact hi
 ·rename_i e
  have e:=Decidable.not_not.1 e;split
  ·exact hi
  ·exact hi.make (by omega) e.2.2 ⟨e.1,e.2.1⟩
theorem InvX.nextIn (hi:InvX (-1) m) {c n:Int} (hc:m.isC c=true) (h:nextR (m.q c)=some n):m.isT n=true/\(m.th n).co=c/\(m.th n).st=1:=by
 obtain ⟨⟨p,k⟩,hx,e⟩:=next_mem h;have e:k=n:=e;subst e;have:=(hi.inq c hc p k).1 hx;exact ⟨this.1,this.2.2.1,this.2.2.2.1⟩
theorem InvX.runIn (hi:InvX (-1) m) {c n:Int} (h:m.runs? c=some n):m.isC c=true/\m.isT n=true/\(m.th n).co=c/\(m.th n).st=2:=by
 obtain ⟨hc,h1,h2,hT⟩:=hi.ok.runT h;have:=(hi.inr c hc n hT).1 h1;exact ⟨hc,hT,this.2⟩
theorem leave_run_same {n s:Int} (h:(m.th n).st≠2) (c:Int):(m.leave n s).run c=m.run c:=by
 unfold Mt.leave Mt.leave0;rw[setTh_run];split
 ·rfl
 ·rfl
theorem leave_run_off (hi:InvX (-1) m) {n s:Int} (hn:m.isT n=true) (h:(m.th n).st=2):(m.leave n s).run (m.th n).co= -1:=by
 obtain ⟨c0,c1⟩:=(hi.ok.th hn).1;have hcr:=hi.ok.cores;unfold Mt.leave Mt.leave0;rw[setTh_run,if_neg (by omega),if_pos h,run_setR c0 (by omega),if_pos rfl]
theorem InvX.pickC (hi:InvX (-1) m) (c:Int):InvX (-1) (m.pickC c):=by
 unfold Mt.pickC;split
 ·rename_i hc
  unfold Mt.pick;cases hn:nextR (m.q c) with
  |none=>exact hi
  |some n=>
   obtain ⟨hT,hco,hst⟩:=hi.nextIn hc hn;simp only
   have last:∀m1:Mt,InvX (-1) m1->m1.isT n=true->m1.isC c=true->(m1.th n).co=c->(m1.th n).st=1->m1.run c= -1->InvX (-1) ((m1.leave n 2).setR c n):=fun m1 hi hT hc hco hst hr=>by
    refine (hi.leave hT).go (by rw[leave_isT];exact hT) (by rw[th_leave hT,if_pos rfl]) (by rw[th_leave hT,if_pos rfl];exact hco) (by rw[leave_isC];exact hc) ?_;rw[leave_run_same (by omega)];exact hr
   split
   ·rename_i hr
    exact last m hi hT hc hco hst hr
   ·rename_i hr
    split
    ·exact hi
    ·have hr2:m.runs? c=some (m.run c):=by unfold Mt.runs?;rw[if_pos ⟨hc,hr⟩]
     obtain ⟨_,hoT,hoc,hos⟩:=hi.runIn hr2;have hoT1:(m.leave (m.run c) 1).isT (m.run c)=true:=by rw[leave_isT];exact hoT
     have hne:n≠m.run c:=fun e=>by rw[←e] at hos;omega
     refine last _ ((hi.leave hoT).up hoT1) (by rw[lineUp_isT,leave_isT];exact hT) (by rw[lineUp_isC,leave_isC];exact hc) ?_ ?_ ?_
     ·rw[th_lineUp hoT1,if_neg hne,th_leave hoT,if_neg hne];exact hco
     ·rw[th_lineUp hoT1,if_neg hne,th_leave hoT,if_neg hne];exact hst
     ·show (m.leave (m.run c) 1).run c= -1
      have:=leave_run_off (s:=1) hi hoT hos;rw[hoc] at this;exact this
 ·exact hi
theorem InvX.yield (hi:InvX (-1) m) (c:Int):InvX (-1) (m.yield c):=by
 unfold Mt.yield;cases hr:m.runs? c with
 |none=>exact hi
 |some o=>
  obtain ⟨_,hT,_,_⟩:=hi.runIn hr;have hT1:(m.setTh o { m.th o with le:=5}).isT o=true:=by rw[setTh_isT];exact hT
  have h1:=hi.keep (t:={ m.th o with le:=5}) hT rfl rfl (fun _=>rfl) (hi.pr o hT) ⟨by show (1:Int)≤5;decide,by show (5:Int)≤5;decide⟩;exact ((h1.leave hT1).up (by rw[leave_isT];exact hT1)).pickC c
end
end Go.Proofs.YtogmbmdbgkopjaaGreat.Th
end
section
set_option maxRecDepth 8000
namespace Go.Proofs.YtogmbmdbgkopjaaGreat.Tb
open Go Go.Vc Go.Proofs
abbrev Pg:=Int × Int
abbrev Pgs:=List (Int × Pg)
def Srt (P:Pgs):Prop:=P.Pairwise fun x y=>x.1<y.1
def look:Pgs->Int->Option Pg
 | [],_=>none
 |x::P,k=>if x.1=k then some x.2 else look P k
def insS:Pgs->Int->Pg->Pgs
 | [],k,v=>[(k,v)]
 |x::P,k,v=>if k<x.1 then (k,v)::x::P else if x.1=k then (k,v)::P else x::insS P k v
def delS (P:Pgs) (k:Int):Pgs:=P.filter fun x=>x.1 !=k
theorem look_mem {P:Pgs} {k:Int} {v:Pg} (h:look P k=some v):(k,v)∈P:=by
 induction P with
 |nil=>simp[look] at h
 |cons x P ih=>
  simp only[look] at h;split at h
  ·rename_i e;cases h;rw[←e];exact List.mem_cons_self
  ·exact List.mem_cons_of_mem _ (ih h)
theorem look_none {P:Pgs} {k:Int}:look P k=none↔∀x∈P,x.1≠k:=by
 induction P with
 |nil=>simp[look]
 |cons x P ih=>
  simp only[look,List.mem_cons,forall_eq_or_imp];split
  ·rename_i e;simp[e]
  ·rename_i e;rw[ih];simp[e]
theorem Srt.inj {P:Pgs} (h:Srt P) {x y:Int × Pg} (hx:x∈P) (hy:y∈P) (e:x.1=y.1):x=y:=by
 induction P with
 |nil=>simp at hx
 |cons a P ih=>
  have h:=List.pairwise_cons.1 h;rcases List.mem_cons.1 hx with hx|hx
  ·rcases List.mem_cons.1 hy with hy|hy
   ·rw[hx,hy]
   ·have:=h.1 y hy;rw[hx] at e;omega
  ·rcases List.mem_cons.1 hy with hy|hy
   ·have:=h.1 x hx;rw[hy] at e;omega
   ·exact ih h.2 hx hy
theorem Srt.look {P:Pgs} (h:Srt P) {k:Int} {v:Pg} (hm:(k,v)∈P):look P k=some v:=by
 cases e:Go.Proofs.YtogmbmdbgkopjaaGreat.Tb.look P k with
 |none=>exact absurd rfl (look_none.1 e _ hm)
 |some u=>have:=h.inj (look_mem e) hm rfl;cases this;rfl
theorem Srt.look_iff {P:Pgs} (h:Srt P) {k:Int} {v:Pg}:Go.Proofs.YtogmbmdbgkopjaaGreat.Tb.look P k=some v↔(k,v)∈P:=⟨look_mem,h.look⟩
theorem Srt.sub {P Q:Pgs} (h:Srt P) (hs:Q.Sublist P):Srt Q:=List.Pairwise.sublist hs h
theorem Srt.filter {P:Pgs} (h:Srt P) (f:Int × Pg->Bool):Srt (P.filter f):=h.sub List.filter_sublist
theorem Srt.nodup {P:Pgs} (h:Srt P):(P.map (·.1)).Nodup:=by
 unfold List.Nodup;rw[List.pairwise_map];exact h.imp fun hab e=>by omega
theorem ins_mem {P:Pgs} (h:Srt P) {k:Int} {v:Pg} (x:Int × Pg):x∈insS P k v↔x=(k,v)∨(x∈P/\x.1≠k):=by
 induction P with
 |nil=>simp[insS]
 |cons a P ih=>
  have h:=List.pairwise_cons.1 h;simp only[insS];split
  ·rename_i e
   rw[List.mem_cons];constructor
   ·rintro (h1|h1)
    ·exact .inl h1
    ·refine .inr ⟨h1,?_⟩
     rcases List.mem_cons.1 h1 with h2|h2
     ·rw[h2];omega
     ·have:=h.1 x h2;omega
   ·rintro (h1|h1)
    ·exact .inl h1
    ·exact .inr h1.1
  ·rename_i e
   split
   ·rename_i e2
    rw[List.mem_cons,List.mem_cons];constructor
    ·rintro (h1|h1)
     ·exact .inl h1
     ·have:=h.1 x h1;exact .inr ⟨.inr h1,by omega⟩
    ·rintro (h1|⟨h1|h1,h2⟩)
     ·exact .inl h1
     ·rw[h1] at h2;exact absurd e2 h2
     ·exact .inr h1
   ·rename_i e2
    rw[List.mem_cons,List.mem_cons,ih h.2];constructor
    ·rintro (h1|h1|h1)
     ·rw[h1];exact .inr ⟨.inl rfl,e2⟩
     ·exact .inl h1
     ·exact .inr ⟨.inr h1.1,h1.2⟩
    ·rintro (h1|⟨h1|h1,h2⟩)
     ·exact .inr (.inl h1)
     ·exact .inl h1
     ·exact .inr (.inr ⟨h1,h2⟩)
theorem ins_srt {P:Pgs} (h:Srt P) (k:Int) (v:Pg):Srt (insS P k v):=by
 induction P with
 |nil=>simp[insS,Srt]
 |cons a P ih=>
  have h':=List.pairwise_cons.1 h;simp only[insS];split
  ·rename_i e
   refine List.pairwise_cons.2 ⟨fun x hx=>?_,h⟩;show k<x.1;rcases List.mem_cons.1 hx with h2|h2
   ·rw[h2];exact e
   ·have:=h'.1 x h2;omega
  ·split
   ·rename_i e2
    refine List.pairwise_cons.2 ⟨fun x hx=>?_,h'.2⟩;show k<x.1;rw[←e2];exact h'.1 x hx
   ·rename_i e e2
    refine List.pairwise_cons.2 ⟨fun x hx=>?_,ih h'.2⟩;rcases (ins_mem (k:=k) (v:=v) h'.2 x).1 hx with h1|h1
    ·rw[h1];show a.1<k;omega
    ·exact h'.1 x h1.1
theorem del_mem {P:Pgs} {k:Int} (x:Int × Pg):x∈delS P k↔x∈P/\x.1≠k:=by unfold delS;rw[List.mem_filter];simp
theorem srt_ext {P Q:Pgs} (hP:Srt P) (hQ:Srt Q) (h:∀x,x∈P↔x∈Q):P=Q:=by
 refine List.Perm.eq_of_pairwise (le:=fun x y=>x.1≤y.1/\(x.1=y.1->x=y)) ?_ ?_ ?_ ?_
 ·intro a b _ _ h1 h2
  exact h1.2 (by omega)
 ·exact hP.imp fun h=>⟨by omega,fun e=>by omega⟩
 ·exact hQ.imp fun h=>⟨by omega,fun e=>by omega⟩
 ·refine (List.perm_ext_iff_of_nodup ?_ ?_).2 h
  ·exact hP.imp fun h e=>by rw[e] at h;omega
  ·exact hQ.imp fun h e=>by rw[e] at h;omega
theorem look_ins {P:Pgs} (h:Srt P) (k:Int) (v:Pg) (x:Int):look (insS P k v) x=if x=k then some v else look P x:=by
 have hs:=ins_srt h k v;by_cases e:x=k
 ·subst e;rw[if_pos rfl];exact hs.look ((ins_mem h _).2 (.inl rfl))
 ·rw[if_neg e]
  cases e2:look P x with
  |none=>
   refine look_none.2 fun y hy=>?_
   rcases (ins_mem h y).1 hy with h1|h1
   ·rw[h1];exact fun e3=>e e3.symm
   ·exact look_none.1 e2 y h1.1
  |some u=>exact hs.look ((ins_mem h _).2 (.inr ⟨look_mem e2,e⟩))
theorem look_del {P:Pgs} (h:Srt P) (k x:Int):look (delS P k) x=if x=k then none else look P x:=by
 have hs:Srt (delS P k):=h.filter _;by_cases e:x=k
 ·subst e;rw[if_pos rfl];exact look_none.2 fun y hy=>((del_mem y).1 hy).2
 ·rw[if_neg e]
  cases e2:look P x with
  |none=>exact look_none.2 fun y hy=>look_none.1 e2 y ((del_mem y).1 hy).1
  |some u=>exact hs.look ((del_mem _).2 ⟨look_mem e2,e⟩)
theorem look_filter {P:Pgs} (h:Srt P) (f:Int × Pg->Bool) (x:Int):look (P.filter f) x=(look P x).filter fun v=>f (x,v):=by
 have hs:=h.filter f;cases e2:look P x with
 |none=>exact look_none.2 fun y hy=>look_none.1 e2 y (List.mem_filter.1 hy).1
 |some u=>
  rw[Option.filter_some];by_cases e:f (x,u)=true
  ·rw[if_pos e];exact hs.look (List.mem_filter.2 ⟨look_mem e2,e⟩)
  ·rw[if_neg e]
   refine look_none.2 fun y hy e3=>?_
   obtain ⟨h1,h2⟩:=List.mem_filter.1 hy;have:y=(x,u):=h.inj h1 (look_mem e2) e3;rw[this] at h2;exact e h2
structure Spc where
 tb:Nat->Option Int
 pg:Pgs
structure SOk (m:Spc):Prop where
 srt:Srt m.pg
 bnd:∀x∈m.pg,0≤x.1/\x.1<4096/\(m.tb (x.1.toNat / 64)).isSome=true
 few:∀i,(m.tb i).isSome=true->i<64
def tabP (P:Pgs) (i:Nat):Pgs:=P.filter fun x=>x.1.toNat / 64==i
def Spc.at (m:Spc) (i:Int):Option Int:=if i<0 then none else m.tb i.toNat
def upT (tb:Nat->Option Int) (i:Nat) (v:Option Int):Nat->Option Int:=fun j=>if j=i then v else tb j
def Spc.tableR (m:Spc) (i n:Int):Int × Spc:=if ¬(0≤i/\i<64/\0≤n) then (1,m) else
 if (m.tb i.toNat).isSome=true∨(List.range 64).any (fun j=>m.tb j==some n)=true then (140,m) else (0,{ m with tb:=upT m.tb i.toNat (some n)})
def Spc.dropR (m:Spc) (i:Int):Pgs × Int × Spc:=if ¬(0≤i/\i<64) then ([],1,m) else if m.tb i.toNat=none then ([],141,m) else
 (tabP m.pg i.toNat,0,⟨upT m.tb i.toNat none,m.pg.filter fun x=>x.1.toNat / 64 !=i.toNat⟩)
def Spc.mapR (m:Spc) (k:Int) (p:Pg):Int × Spc:=if ¬(0≤k/\k<4096/\0≤p.1/\0≤p.2/\p.2≤7) then (1,m) else if m.tb (k.toNat / 64)=none then (141,m) else
 if (look m.pg k).isSome=true then (140,m) else (0,{ m with pg:=insS m.pg k p})
def Spc.unmapR (m:Spc) (k:Int):Pg × Int × Spc:=if ¬(0≤k/\k<4096) then ((0,0),1,m) else match look m.pg k with
 |none=>((0,0),141,m)
 |some p=>(p,0,{ m with pg:=delS m.pg k})
def newS:Spc:=⟨fun _=>none,[]⟩
section
variable {m:Spc}
theorem SOk.new:SOk newS:=⟨List.Pairwise.nil,fun x h=>by simp[newS] at h,fun i h=>by simp[newS] at h⟩
theorem SOk.out (h:SOk m) {k:Int} (hk:¬(0≤k/\k<4096)):look m.pg k=none:=look_none.2 fun x hx e=>by
 have:=h.bnd x hx;rw[e] at this;exact hk ⟨this.1,this.2.1⟩
theorem SOk.tab (h:SOk m) {k:Int} {p:Pg} (hl:look m.pg k=some p):0≤k/\k<4096/\(m.tb (k.toNat / 64)).isSome=true:=h.bnd _ (look_mem hl)
theorem SOk.table (h:SOk m) (i n:Int):SOk (m.tableR i n).2:=by
 unfold Spc.tableR;split
 ·exact h
 ·rename_i h1
  have h1:=Decidable.not_not.1 h1;split
  ·exact h
  ·refine ⟨h.srt,fun x hx=>?_,fun j hj=>?_⟩
   ·have:=h.bnd x hx
    refine ⟨this.1,this.2.1,?_⟩;show (upT m.tb i.toNat (some n) (x.1.toNat / 64)).isSome=true;unfold upT;split
    ·rfl
    ·exact this.2.2
   ·have hj:(upT m.tb i.toNat (some n) j).isSome=true:=hj
    unfold upT at hj;split at hj
    ·omega
    ·exact h.few j hj
theorem SOk.drop (h:SOk m) (i:Int):SOk (m.dropR i).2.2:=by
 unfold Spc.dropR;split
 ·exact h
 ·split
  ·exact h
  ·refine ⟨h.srt.filter _,fun x hx=>?_,fun j hj=>?_⟩
   ·obtain ⟨h1,h2⟩:=List.mem_filter.1 hx
    have:=h.bnd x h1;refine ⟨this.1,this.2.1,?_⟩;show (upT m.tb i.toNat none (x.1.toNat / 64)).isSome=true;unfold upT;rw[if_neg (by simpa using h2)];exact this.2.2
   ·have hj:(upT m.tb i.toNat none j).isSome=true:=hj
    unfold upT at hj;split at hj
    ·cases hj
    ·exact h.few j hj
theorem SOk.ins (h:SOk m) {k:Int} (hk:0≤k/\k<4096) (ht:(m.tb (k.toNat / 64)).isSome=true) (p:Pg):SOk { m with pg:=insS m.pg k p}:=by
 refine ⟨ins_srt h.srt k p,fun x hx=>?_,h.few⟩;rcases (ins_mem h.srt x).1 hx with h1|h1
 ·rw[h1];exact ⟨hk.1,hk.2,ht⟩
 ·exact h.bnd x h1.1
theorem SOk.map (h:SOk m) (k:Int) (p:Pg):SOk (m.mapR k p).2:=by
 unfold Spc.mapR;split
 ·exact h
 ·rename_i h1
  have h1:=Decidable.not_not.1 h1;split
  ·exact h
  ·rename_i h2
   split
   ·exact h
   ·exact h.ins ⟨h1.1,h1.2.1⟩ (Option.isSome_iff_ne_none.2 h2) p
theorem SOk.unmap (h:SOk m) (k:Int):SOk (m.unmapR k).2.2:=by
 unfold Spc.unmapR;split
 ·exact h
 ·cases e:look m.pg k with
  |none=>exact h
  |some p=>exact ⟨h.srt.filter _,fun x hx=>h.bnd x (List.mem_filter.1 hx).1,h.few⟩
theorem tab_ins {P:Pgs} (h:Srt P) (k:Int) (p:Pg) (i:Nat):tabP (insS P k p) i=if k.toNat / 64=i then insS (tabP P i) k p else tabP P i:=by
 have hs:Srt (tabP (insS P k p) i):=(ins_srt h k p).filter _;have ht:Srt (tabP P i):=h.filter _;split
 ·rename_i e
  refine srt_ext hs (ins_srt ht k p) fun x=>?_
  rw[ins_mem ht];unfold tabP;rw[List.mem_filter,List.mem_filter,ins_mem h];simp only[beq_iff_eq];constructor
  ·rintro ⟨h1|h1,h2⟩
   ·exact .inl h1
   ·exact .inr ⟨⟨h1.1,h2⟩,h1.2⟩
  ·rintro (h1|⟨⟨h1,h2⟩,h3⟩)
   ·exact ⟨.inl h1,by rw[h1];exact e⟩
   ·exact ⟨.inr ⟨h1,h3⟩,h2⟩
 ·rename_i e
  refine srt_ext hs ht fun x=>?_
  unfold tabP;rw[List.mem_filter,List.mem_filter,ins_mem h];simp only[beq_iff_eq];constructor
  ·rintro ⟨h1|h1,h2⟩
   ·rw[h1] at h2;exact absurd h2 e
   ·exact ⟨h1.1,h2⟩
  ·rintro ⟨h1,h2⟩
   exact ⟨.inr ⟨h1,fun e2=>by rw[e2] at h2;exact e h2⟩,h2⟩
theorem tab_del {P:Pgs} (k:Int) (i:Nat):tabP (delS P k) i=delS (tabP P i) k:=by
 unfold tabP delS;rw[List.filter_filter,List.filter_filter];congr 1;funext x;exact Bool.and_comm _ _
theorem tab_del_ne {P:Pgs} {k:Int} {i:Nat} (e:k.toNat / 64≠i):tabP (delS P k) i=tabP P i:=by
 rw[tab_del];unfold delS;rw[List.filter_eq_self];intro x hx;obtain ⟨_,h2⟩:=List.mem_filter.1 hx;simp only[beq_iff_eq] at h2;simp only[bne_iff_ne,ne_eq];intro e2;rw[e2] at h2;exact e h2
theorem tab_drop {P:Pgs} {i j:Nat} (e:j≠i):tabP (P.filter fun x=>x.1.toNat / 64 !=i) j=tabP P j:=by
 unfold tabP;rw[List.filter_filter];refine List.filter_congr fun x _=>?_
 by_cases h:x.1.toNat / 64=j
 ·simp[h,e]
 ·simp[h]
theorem tabs_all (h:SOk m):(List.range 64).flatMap (tabP m.pg)=m.pg:=by
 have key:∀n,(List.range n).flatMap (tabP m.pg)=m.pg.filter fun x=>decide (x.1.toNat / 64<n):=fun n=>by
  induction n with
  |zero=>simp
  |succ n ih=>
   rw[List.range_succ,List.flatMap_append,ih];simp only[List.flatMap_cons,List.flatMap_nil,List.append_nil];refine srt_ext ?_ (h.srt.filter _) fun x=>?_
   ·refine List.pairwise_append.2 ⟨h.srt.filter _,h.srt.filter _,fun x hx y hy=>?_⟩
    obtain ⟨hx1,hx2⟩:=List.mem_filter.1 hx;obtain ⟨hy1,hy2⟩:=List.mem_filter.1 hy;simp only[decide_eq_true_eq] at hx2;simp only[beq_iff_eq] at hy2;have:=h.bnd x hx1;have:=h.bnd y hy1;omega
   ·unfold tabP
    rw[List.mem_append,List.mem_filter,List.mem_filter,List.mem_filter];simp only[decide_eq_true_eq,beq_iff_eq];constructor
    ·rintro (h1|h1)
     ·exact ⟨h1.1,by omega⟩
     ·exact ⟨h1.1,by omega⟩
    ·rintro ⟨h1,h2⟩
     by_cases e:x.1.toNat / 64=n
     ·exact .inr ⟨h1,e⟩
     ·exact .inl ⟨h1,by omega⟩
 rw[key 64,List.filter_eq_self];intro x hx;have:=h.bnd x hx;simp only[decide_eq_true_eq];omega
end
theorem look_perm {M S:Pgs} (hp:M.Perm S) (hS:Srt S) (k:Int):mget M k=look S k:=by
 have hn:(M.map (·.1)).Nodup:=(hp.map _).nodup_iff.2 hS.nodup;cases e:mget M k with
 |some v=>exact (hS.look (hp.mem_iff.1 (mget_mem e))).symm
 |none=>
  refine (look_none.2 fun x hx e2=>?_).symm;exact mget_none.1 e (List.mem_map.2 ⟨x,hp.mem_iff.2 hx,e2⟩)
theorem mem_iff_mget {M:Pgs} (hn:(M.map (·.1)).Nodup) {k:Int} {v:Pg}:(k,v)∈M↔mget M k=some v:=by
 refine ⟨fun h=>?_,mget_mem⟩;cases e:mget M k with
 |none=>exact absurd (List.mem_map.2 ⟨_,h,rfl⟩) (mget_none.1 e)
 |some u=>
  have h2:=mget_mem e
  have:∀(M:Pgs),(M.map (·.1)).Nodup->(k,v)∈M->(k,u)∈M->v=u:=fun M=>by
   induction M with
   |nil=>intro _ h;simp at h
   |cons a M ih=>
    intro hn h1 h2;rw[List.map_cons,List.nodup_cons] at hn;rcases List.mem_cons.1 h1 with h1|h1
    ·rcases List.mem_cons.1 h2 with h2|h2
     ·have:=h1.trans h2.symm;cases this;rfl
     ·exact absurd (List.mem_map.2 ⟨_,h2,by rw[←h1]⟩) hn.1
    ·rcases List.mem_cons.1 h2 with h2|h2
     ·exact absurd (List.mem_map.2 ⟨_,h1,by rw[←h2]⟩) hn.1
     ·exact ih hn.2 h1 h2
  rw[this M hn h h2]
theorem nodup_of_keys {M:Pgs} (h:(M.map (·.1)).Nodup):M.Nodup:=List.Pairwise.of_map _ (fun a b h e=>h (by rw[e])) h
theorem aput_perm {M S:Pgs} (hp:M.Perm S) (hS:Srt S) (k:Int) (v:Pg):(aput M k v).Perm (insS S k v):=by
 have hn:(M.map (·.1)).Nodup:=(hp.map _).nodup_iff.2 hS.nodup;have hn2:=nodup_aput hn k v;have hS2:=ins_srt hS k v;refine (List.perm_ext_iff_of_nodup (nodup_of_keys hn2) (nodup_of_keys hS2.nodup)).2 fun x=>?_
 obtain ⟨a,b⟩:=x;rw[mem_iff_mget hn2,mget_aput,←hS2.look_iff,look_ins hS,look_perm hp hS];by_cases e:k=a
 ·rw[if_pos e,if_pos e.symm]
 ·rw[if_neg e,if_neg fun h=>e h.symm]
theorem adel_perm {M S:Pgs} (hp:M.Perm S) (hS:Srt S) (k:Int):(adel M k).Perm (delS S k):=by
 have hn:(M.map (·.1)).Nodup:=(hp.map _).nodup_iff.2 hS.nodup;have hn2:=nodup_adel hn k;have hS2:Srt (delS S k):=hS.filter _;refine (List.perm_ext_iff_of_nodup (nodup_of_keys hn2) (nodup_of_keys hS2.nodup)).2 fun x=>?_
 obtain ⟨a,b⟩:=x;rw[mem_iff_mget hn2,mget_adel hn,←hS2.look_iff,look_del hS,look_perm hp hS];by_cases e:k=a
 ·rw[if_pos e,if_pos e.symm]
 ·rw[if_neg e,if_neg fun h=>e h.symm]
end Go.Proofs.YtogmbmdbgkopjaaGreat.Tb
end
section
set_option maxRecDepth 100000
namespace Go.Proofs.YtogmbmdbgkopjaaGreat
open Go Go.Vc Go.Proofs
theorem S.qaF0 {a K w}:Fr (C.qaF a K w) (∀b:Addr->Pw,(∀(c:Addr) (d:World),(∃b,d.cell? c=some (.z b)/\∀c:Pw,(∀b:World,(∃c,a=some c/\∃d,b.cell? ((c.add 11).add 1)=some (.z d)/\C.qah a d (fun a b=>K a b) b)->c b)->(bif b==3 then (Dr d fun b=>∃d,a=some d/\∃e,b.cell? d=some (.pointer e)/\∃d,a=some d/\∃a,b.cell? ((d.add 11).add 1)=some (.z a)/\(C.qZ e a (fun a=>c a) b)/\True) else (c d)))->b c d)->(Dr w fun c=>∃d,a=some d/\∃e,c.cell? d=some (.pointer e)/\∃d,e=some d/\∃e,c.cell? (d.add 2)=some (.pointer e)/\∃d,a=some d/\∃a,c.cell? ((d.add 11).add 1)=some (.z a)/\(C.qY e a (fun a c d e f g h i j k l m _ o=>(Al o (.cells #[.z 0, .z 0, .z 0, .z 0, .y 0, .y 0, .y 0, .y 0, .y 0, .y 0, .y 0, .y 0] 53) fun n=>(StL n (.mk o.heap.size 0 none) 0 [.z a, .z c, .z d, .z e, .y f, .y g, .y h, .y i, .y j, .y k, .y l, .y m] fun a=>b (.mk o.heap.size 0 none) a)/\True)/\True) c)/\(Al c (.cells #[.z 0, .z 0, .z 0, .z 0, .y 0, .y 0, .y 0, .y 0, .y 0, .y 0, .y 0, .y 0] 53) fun d=>(C.qY e a (fun a d e f g h i j k l m n _ p=>(StL p (.mk c.heap.size 0 none) 0 [.z a, .z d, .z e, .z f, .y g, .y h, .y i, .y j, .y k, .y l, .y m, .y n] fun a=>b (.mk c.heap.size 0 none) a)/\True) d)/\True)/\True)):=okT Tryz.func124 (.v (.y (.y (.r (some [(3,.c .q)]) (.o 0 69504 (.o 1 69504 (.o 2 69504 (.o 3 69504 (.o 4 69504 (.o 5 69504 (.o 6 69504 (.o 7 65536 (.o 8 65536 (.o 9 65536 (.o 10 65536 (.o 11 65536 (.f 12 (.o 13 65536 (.o 14 98304 (.o 15 196608 .g44))) (.e 16 (.e 12 (.o 13 0 (.o 14 32768 (.o 15 131072 (.e 17 (.o 18 0 .done))))))))))))))))))))) (.v (.t (some []) .g11 .u))) .w))
theorem S.qau0 {a K w}:Fr (C.qau a K w) (Dr w fun b=>∃c,a=some c/\∃d,b.cell? c=some (.pointer d)/\∃c,a=some c/\∃e,b.cell? ((c.add 11).add 1)=some (.z e)/\(C.qZ d e (fun b=>Dr b fun b=>∃c,a=some c/\∃d,b.cell? c=some (.pointer d)/\∃c,d=some c/\∃d,b.cell? (c.add 2)=some (.pointer d)/\∃c,a=some c/\∃a,b.cell? ((c.add 11).add 1)=some (.z a)/\(C.qA d a (fun a b=>K a b) b)/\True) b)/\True):=okT Tryz.func125 (.v (.y .g11 (.x (.z (.o 0 3968 (.o 1 3968 (.o 2 3968 (.o 3 3968 (.o 4 3968 (.o 5 3968 (.o 6 3968 (.o 7 0 (.o 8 0 (.o 9 0 (.o 10 0 (.o 11 0 (.e 12 (.o 13 0 .done))))))))))))))))))
theorem S.qbm0 {a K w}:Fr (C.qbm a K w) (Dr w fun b=>∃c,a=some c/\∃d,b.cell? c=some (.pointer d)/\∃c,d=some c/\∃d,b.cell? (c.add 2)=some (.pointer d)/\∃c,a=some c/\∃e,b.cell? ((c.add 11).add 1)=some (.z e)/\∃c,a=some c/\∃a,b.cell? ((c.add 3).add 3)=some (.z a)/\(C.qax d e a (fun a b=>K a b) b)/\True):=okT Tryz.func126 (.v (.x (.z (.o 0 130944 (.o 1 130944 (.o 2 130944 (.o 3 130944 (.o 4 130944 (.o 5 130944 (.o 6 130944 (.o 7 126976 (.o 8 126976 (.o 9 126976 (.o 10 126976 (.o 11 126976 (.o 12 0 (.o 13 0 (.o 14 0 (.o 15 0 (.o 16 0 (.e 17 (.o 18 0 .done))))))))))))))))))))))
theorem S.qbn0 {a K w}:Fr (C.qbn a K w) (Dr w fun b=>∃c,a=some c/\∃d,b.cell? ((c.add 3).add 3)=some (.z d)/\∃c,a=some c/\∃e,b.cell? ((c.add 3).add 4)=some (.z e)/\∃c,a=some c/\∃f,b.cell? ((c.add 11).add 3)=some (.y f)/\(Al b (.cells #[.z 0, .y 0, .y 0, .y 0, .y 0, .y 0, .bool false] 223) fun c=>(StL c (.mk b.heap.size 0 none) 0 [.z d, .y (IntKind.u64.wrap e), .y 0, .y 0, .y 0, .y f, .bool false] fun c=>∀d:Addr->Int->Pw,(∀(b:Addr) (c:Int) (e:World),(bif c !=0 then (K c e) else (∃c,e.cell? b=some (.bool c)/\bif !c then (C.qao a (fun a=>K 0 a) e) else (∃c,e.cell? (b.add 2)=some (.z c)/\LdL e (b.add 3) 0 [.o, .u, .u, .u, .u, .u, .b] fun (d f g h i j:Int) (k:Bool)=>C.qaM a c d f g h i j k (fun c=>∃d,c.cell? (b.add 2)=some (.z d)/\C.qah a d (fun a b=>K a b) c) e)))->d b c e)->(Dr c fun c=>∃e,a=some e/\∃f,c.cell? e=some (.pointer f)/\∃e,f=some e/\∃f:Sl,c.cell? (e.add 5)=some (.slice f.a f.len f.cap)/\∃e,a=some e/\∃g,c.cell? ((e.add 11).add 1)=some (.z g)/\∃e,f.a=some e/\0≤g/\g<(f.len:Int)/\∃f,c.cell? (e.add (g.toNat*1))=some (.pointer f)/\∃e,a=some e/\∃g,c.cell? (e.add 2)=some (.z g)/\LdL c (.mk b.heap.size 0 none) 0 [.o, .u, .u, .u, .u, .u, .b] fun (b e h i j k:Int) (l:Bool)=>∃m,a=some m/\∃a,c.cell? ((m.add 3).add 5)=some (.z a)/\(C.qQ f g b e h i j k l (a !=0) (fun a b c e f g h i j k l m=>(Al m (.cells #[.bool false, .z 0, .z 0, .z 0, .y 0, .y 0, .y 0, .y 0, .y 0, .bool false] 267) fun n=>(StL n (.mk m.heap.size 0 none) 0 [.bool a, .z b, .z c, .z e, .y f, .y g, .y h, .y i, .y j, .bool k] fun a=>d (.mk m.heap.size 0 none) l a)/\True)/\True) c)/\(Al c (.cells #[.bool false, .z 0, .z 0, .z 0, .y 0, .y 0, .y 0, .y 0, .y 0, .bool false] 267) fun m=>(C.qQ f g b e h i j k l (a !=0) (fun a b e f g h i j k l m n=>(StL n (.mk c.heap.size 0 none) 0 [.bool a, .z b, .z e, .z f, .y g, .y h, .y i, .y j, .y k, .bool l] fun a=>d (.mk c.heap.size 0 none) m a)/\True) m)/\True)/\True))/\True)/\True):=okT Tryz.func127 (.v (.y (.z (.o 0 393184 (.o 1 393184 (.o 2 393184 (.o 3 393184 (.o 4 393184 (.o 5 389120 (.o 6 389120 (.o 7 389120 (.o 8 389120 (.o 9 389120 (.o 10 389120 (.o 11 389120 (.o 12 262144 (.o 13 262144 (.o 14 262144 (.o 15 262144 (.o 16 262144 (.o 17 262144 (.e 18 (.e 19 .done))))))))))))))))))))) (.y (.r (some [(4,.c .q),(5,.c (.i .i64))]) (.o 0 570412928 (.o 1 570412928 (.o 2 570412928 (.o 3 570412928 (.o 4 570412928 (.o 5 570412928 (.o 6 570412928 (.o 7 570408960 (.o 8 570408960 (.o 9 570408960 (.o 10 570408960 (.o 11 570408960 (.o 12 570408960 (.o 13 570408960 (.o 14 570163200 (.o 15 570163200 (.o 16 570163200 (.o 17 570163200 (.o 18 569901056 (.o 19 536870912 (.o 20 536870912 (.o 21 536870912 (.o 22 536870912 (.o 23 536870912 (.o 24 536870912 (.f 25 (.o 26 536870912 (.o 27 805306368 (.o 28 1610612736 (.e 29 (.e 30 (.o 31 0 .done)))))) (.e 29 (.e 25 (.o 26 0 (.o 27 268435456 (.o 28 1073741824 (.e 30 (.o 31 0 .done)))))))))))))))))))))))))))))))))) (.y (.x (.v (.y .w (.v (.x (.v .w)))))) (.v .w)))))
theorem S.qbo0 {a K w}:Fr (C.qbo a K w) (∀b:Addr->Int->Pw,(∀(c:Addr) (d:Int) (e:World),(bif d !=0 then (K d e) else (∃b,e.cell? c=some (.bool b)/\bif !b then (C.qao a (fun a=>K 0 a) e) else (Dr e fun b=>∃d,a=some d/\∃e,b.cell? (d.add 2)=some (.z e)/\LdL b (c.add 3) 0 [.o, .u, .u, .u, .u, .u, .b] fun (d f g h i j:Int) (k:Bool)=>(C.qaM a e d f g h i j k (fun b=>∃d,b.cell? (c.add 1)=some (.z d)/\C.qah a d (fun a b=>K a b) b) b)/\True)))->b c d e)->(Dr w fun c=>∃d,a=some d/\∃e,c.cell? d=some (.pointer e)/\∃d,e=some d/\∃e:Sl,c.cell? (d.add 5)=some (.slice e.a e.len e.cap)/\∃d,a=some d/\∃f,c.cell? ((d.add 11).add 1)=some (.z f)/\∃d,e.a=some d/\0≤f/\f<(e.len:Int)/\∃e,c.cell? (d.add (f.toNat*1))=some (.pointer e)/\∃d,a=some d/\∃f,c.cell? (d.add 2)=some (.z f)/\∃d,a=some d/\∃a,c.cell? ((d.add 3).add 5)=some (.z a)/\(C.qR e f (a !=0) (fun a c d e f g h i j k l m=>(Al m (.cells #[.bool false, .z 0, .z 0, .z 0, .y 0, .y 0, .y 0, .y 0, .y 0, .bool false] 267) fun n=>(StL n (.mk m.heap.size 0 none) 0 [.bool a, .z c, .z d, .z e, .y f, .y g, .y h, .y i, .y j, .bool k] fun a=>b (.mk m.heap.size 0 none) l a)/\True)/\True) c)/\(Al c (.cells #[.bool false, .z 0, .z 0, .z 0, .y 0, .y 0, .y 0, .y 0, .y 0, .bool false] 267) fun d=>(C.qR e f (a !=0) (fun a d e f g h i j k l m n=>(StL n (.mk c.heap.size 0 none) 0 [.bool a, .z d, .z e, .z f, .y g, .y h, .y i, .y j, .y k, .bool l] fun a=>b (.mk c.heap.size 0 none) m a)/\True) d)/\True)/\True)):=okT Tryz.func128 (.v (.y (.r (some [(3,.c .q),(4,.c (.i .i64))]) (.o 0 285200256 (.o 1 285200256 (.o 2 285200256 (.o 3 285200256 (.o 4 285200256 (.o 5 285200256 (.o 6 285200256 (.o 7 285196288 (.o 8 285196288 (.o 9 285196288 (.o 10 285196288 (.o 11 285196288 (.o 12 285196288 (.o 13 285196288 (.o 14 284950528 (.o 15 284950528 (.o 16 284950528 (.o 17 284950528 (.o 18 268435456 (.o 19 268435456 (.o 20 268435456 (.o 21 268435456 (.o 22 268435456 (.o 23 268435456 (.f 24 (.o 25 268435456 (.o 26 402653184 (.o 27 805306368 (.e 28 (.e 29 (.o 30 0 .done)))))) (.e 28 (.e 24 (.o 25 0 (.o 26 134217728 (.o 27 536870912 (.e 29 (.o 30 0 .done))))))))))))))))))))))))))))))))) (.y (.x (.v (.y .w (.v (.x (.v .w)))))) (.y (.z (.o 0 126 (.o 1 96 (.o 2 96 (.o 3 96 (.o 4 96 (.o 5 0 (.o 6 0 (.e 7 .done))))))))) .w))))
theorem S.qaf0 {a K w}:Fr (C.qaf a K w) (Dr w fun b=>∃c,a=some c/\∃d,b.cell? c=some (.pointer d)/\∃c,a=some c/\∃e,b.cell? ((c.add 11).add 1)=some (.z e)/\∃c,a=some c/\∃f,b.cell? ((c.add 11).add 3)=some (.y f)/\(C.qac d e f (fun b c=>∃d,a=some d/\(St c ((d.add 17).add 2) (.z b) fun a=>K 0 a)/\True) b)/\True):=okT Tryz.func129 (.v (.y (.z (.o 0 65534 (.o 1 32736 (.o 2 32736 (.o 3 32736 (.o 4 32736 (.o 5 31744 (.o 6 31744 (.o 7 31744 (.o 8 31744 (.o 9 31744 (.o 10 0 (.o 11 0 (.o 12 0 (.o 13 0 (.o 14 0 (.e 15 (.o 16 0 (.o 17 0 (.o 18 0 (.e 19 .done))))))))))))))))))))) .w))
theorem S.qbp0 {a K w}:Fr (C.qbp a K w) (Dr w fun b=>∃c,a=some c/\∃d,b.cell? c=some (.pointer d)/\∃c,d=some c/\∃d:Sl,b.cell? (c.add 6)=some (.slice d.a d.len d.cap)/\∃c,a=some c/\∃e,b.cell? ((c.add 11).add 1)=some (.z e)/\∃c,d.a=some c/\0≤e/\e<(d.len:Int)/\∃d,b.cell? (c.add (e.toNat*1))=some (.pointer d)/\∃c,a=some c/\∃e,b.cell? (c.add 2)=some (.z e)/\∃c,a=some c/\∃f,b.cell? ((c.add 3).add 5)=some (.z f)/\(C.qaV d e (f !=0) (fun b c d e=>bif d !=0 then (K d e) else (∀d:Pw,(∀c:World,(∃d,a=some d/\St c ((d.add 17).add 1) (.y b) fun a=>K 0 a)->d c)->(bif !c then (C.qao a (fun a=>d a) e) else (d e)))) b)/\True):=okT Tryz.func130 (.v (.y (.z (.o 0 16764800 (.o 1 16764800 (.o 2 16764800 (.o 3 16764800 (.o 4 16764800 (.o 5 16764800 (.o 6 16764800 (.o 7 16760832 (.o 8 16760832 (.o 9 16760832 (.o 10 16760832 (.o 11 16760832 (.o 12 16760832 (.o 13 16760832 (.o 14 16515072 (.o 15 16515072 (.o 16 16515072 (.o 17 16515072 (.o 18 0 (.o 19 0 (.o 20 0 (.o 21 0 (.o 22 0 (.o 23 0 (.e 24 (.o 25 0 (.o 26 402653184 (.o 27 805306368 (.o 28 1610612736 (.o 29 0 (.o 30 0 (.o 31 0 .done))))))))))))))))))))))))))))))))) (.y (.x (.v (.y .w .g50))) (.v .w))))
theorem S.qaT0 {a K w}:Fr (C.qaT a K w) (∀b:Addr->Bool->Pw,(∀(c:Addr) (d:Bool) (e:World),(bif !d then (K 181 e) else (Dr e fun b=>∃d,a=some d/\∃e,b.cell? d=some (.pointer e)/\∃d,e=some d/\∃e:Sl,b.cell? (d.add 7)=some (.slice e.a e.len e.cap)/\∃d,b.cell? (c.add 1)=some (.z d)/\∃c,e.a=some c/\0≤d/\d<(e.len:Int)/\∃e,b.cell? (c.add (d.toNat*1))=some (.pointer e)/\∃c,a=some c/\∃d,b.cell? ((c.add 3).add 3)=some (.z d)/\∃c,a=some c/\∃a,b.cell? ((c.add 11).add 1)=some (.z a)/\(C.qaW e d a (fun a b=>K a b) b)/\True))->b c d e)->(Dr w fun c=>∃d,a=some d/\∃e,c.cell? d=some (.pointer e)/\∃d,a=some d/\∃a,c.cell? ((d.add 3).add 2)=some (.z a)/\(C.qa e a 8 (fun a c d e f g h i j k=>(Al k (.cells #[.z 0, .z 0] 40) fun l=>(Al l (.cells #[.z 0, .z 0, .z 0, .y 0, .y 0, .z 0] 42) fun m=>(StL m (.mk k.heap.size 0 none) 0 [.z a, .z c] fun a=>(StL a (.mk l.heap.size 0 none) 0 [.z d, .z e, .z f, .y g, .y h, .z i] fun a=>b (.mk l.heap.size 0 none) j a)/\True)/\True)/\True)/\(Al k (.cells #[.z 0, .z 0, .z 0, .y 0, .y 0, .z 0] 42) fun l=>(Al l (.cells #[.z 0, .z 0] 40) fun m=>(StL m (.mk l.heap.size 0 none) 0 [.z a, .z c] fun a=>(StL a (.mk k.heap.size 0 none) 0 [.z d, .z e, .z f, .y g, .y h, .z i] fun a=>b (.mk k.heap.size 0 none) j a)/\True)/\True)/\True)/\True) c)/\(Al c (.cells #[.z 0, .z 0] 40) fun d=>(C.qa e a 8 (fun a d e f g h i j k l=>(Al l (.cells #[.z 0, .z 0, .z 0, .y 0, .y 0, .z 0] 42) fun m=>(StL m (.mk c.heap.size 0 none) 0 [.z a, .z d] fun a=>(StL a (.mk l.heap.size 0 none) 0 [.z e, .z f, .z g, .y h, .y i, .z j] fun a=>b (.mk l.heap.size 0 none) k a)/\True)/\True)/\True) d)/\(Al d (.cells #[.z 0, .z 0, .z 0, .y 0, .y 0, .z 0] 42) fun f=>(C.qa e a 8 (fun a e f g h i j k l m=>(StL m (.mk c.heap.size 0 none) 0 [.z a, .z e] fun a=>(StL a (.mk d.heap.size 0 none) 0 [.z f, .z g, .z h, .y i, .y j, .z k] fun a=>b (.mk d.heap.size 0 none) l a)/\True)/\True) f)/\True)/\True)/\(Al c (.cells #[.z 0, .z 0, .z 0, .y 0, .y 0, .z 0] 42) fun d=>(C.qa e a 8 (fun a d e f g h i j k l=>(Al l (.cells #[.z 0, .z 0] 40) fun m=>(StL m (.mk l.heap.size 0 none) 0 [.z a, .z d] fun a=>(StL a (.mk c.heap.size 0 none) 0 [.z e, .z f, .z g, .y h, .y i, .z j] fun a=>b (.mk c.heap.size 0 none) k a)/\True)/\True)/\True) d)/\(Al d (.cells #[.z 0, .z 0] 40) fun f=>(C.qa e a 8 (fun a e f g h i j k l m=>(StL m (.mk d.heap.size 0 none) 0 [.z a, .z e] fun a=>(StL a (.mk c.heap.size 0 none) 0 [.z f, .z g, .z h, .y i, .y j, .z k] fun a=>b (.mk c.heap.size 0 none) l a)/\True)/\True) f)/\True)/\True)/\True)):=okT Tryz.func131 (.v (.y .g0 (.y (.v (.x .w)) (.x (.z (.o 0 2095488 (.o 1 2095488 (.o 2 2095488 (.o 3 2095488 (.o 4 2095488 (.o 5 2095488 (.o 6 2095488 (.o 7 2095104 (.o 8 2095104 (.o 9 2095104 (.o 10 2095104 (.o 11 2031616 (.o 12 2031616 (.o 13 2031616 (.o 14 2031616 (.o 15 2031616 (.o 16 0 (.o 17 0 (.o 18 0 (.o 19 0 (.o 20 0 (.e 21 (.o 22 0 .done))))))))))))))))))))))))))))
theorem S.qaG0 {a K w}:Fr (C.qaG a K w) (∀b:Addr->Bool->Pw,(∀(c:Addr) (d:Bool) (e:World),(bif !d then (K 181 e) else (Dr e fun b=>∃d,a=some d/\∃e,b.cell? d=some (.pointer e)/\∃d,e=some d/\∃e:Sl,b.cell? (d.add 7)=some (.slice e.a e.len e.cap)/\∃d,b.cell? (c.add 1)=some (.z d)/\∃c,e.a=some c/\0≤d/\d<(e.len:Int)/\∃e,b.cell? (c.add (d.toNat*1))=some (.pointer e)/\∃c,a=some c/\∃d,b.cell? ((c.add 3).add 3)=some (.z d)/\∃c,a=some c/\∃f,b.cell? ((c.add 11).add 1)=some (.z f)/\∃c,a=some c/\∃g,b.cell? ((c.add 11).add 2)=some (.z g)/\∃c,a=some c/\∃a,b.cell? ((c.add 3).add 4)=some (.z a)/\(C.qbb e d f (andI .i64 g a) (fun a b=>K a b) b)/\True))->b c d e)->(Dr w fun c=>∃d,a=some d/\∃e,c.cell? d=some (.pointer e)/\∃d,a=some d/\∃a,c.cell? ((d.add 3).add 2)=some (.z a)/\(C.qa e a 8 (fun a c d e f g h i j k=>(Al k (.cells #[.z 0, .z 0] 40) fun l=>(Al l (.cells #[.z 0, .z 0, .z 0, .y 0, .y 0, .z 0] 42) fun m=>(StL m (.mk k.heap.size 0 none) 0 [.z a, .z c] fun a=>(StL a (.mk l.heap.size 0 none) 0 [.z d, .z e, .z f, .y g, .y h, .z i] fun a=>b (.mk l.heap.size 0 none) j a)/\True)/\True)/\True)/\(Al k (.cells #[.z 0, .z 0, .z 0, .y 0, .y 0, .z 0] 42) fun l=>(Al l (.cells #[.z 0, .z 0] 40) fun m=>(StL m (.mk l.heap.size 0 none) 0 [.z a, .z c] fun a=>(StL a (.mk k.heap.size 0 none) 0 [.z d, .z e, .z f, .y g, .y h, .z i] fun a=>b (.mk k.heap.size 0 none) j a)/\True)/\True)/\True)/\True) c)/\(Al c (.cells #[.z 0, .z 0] 40) fun d=>(C.qa e a 8 (fun a d e f g h i j k l=>(Al l (.cells #[.z 0, .z 0, .z 0, .y 0, .y 0, .z 0] 42) fun m=>(StL m (.mk c.heap.size 0 none) 0 [.z a, .z d] fun a=>(StL a (.mk l.heap.size 0 none) 0 [.z e, .z f, .z g, .y h, .y i, .z j] fun a=>b (.mk l.heap.size 0 none) k a)/\True)/\True)/\True) d)/\(Al d (.cells #[.z 0, .z 0, .z 0, .y 0, .y 0, .z 0] 42) fun f=>(C.qa e a 8 (fun a e f g h i j k l m=>(StL m (.mk c.heap.size 0 none) 0 [.z a, .z e] fun a=>(StL a (.mk d.heap.size 0 none) 0 [.z f, .z g, .z h, .y i, .y j, .z k] fun a=>b (.mk d.heap.size 0 none) l a)/\True)/\True) f)/\True)/\True)/\(Al c (.cells #[.z 0, .z 0, .z 0, .y 0, .y 0, .z 0] 42) fun d=>(C.qa e a 8 (fun a d e f g h i j k l=>(Al l (.cells #[.z 0, .z 0] 40) fun m=>(StL m (.mk l.heap.size 0 none) 0 [.z a, .z d] fun a=>(StL a (.mk c.heap.size 0 none) 0 [.z e, .z f, .z g, .y h, .y i, .z j] fun a=>b (.mk c.heap.size 0 none) k a)/\True)/\True)/\True) d)/\(Al d (.cells #[.z 0, .z 0] 40) fun f=>(C.qa e a 8 (fun a e f g h i j k l m=>(StL m (.mk d.heap.size 0 none) 0 [.z a, .z e] fun a=>(StL a (.mk c.heap.size 0 none) 0 [.z f, .z g, .z h, .y i, .y j, .z k] fun a=>b (.mk c.heap.size 0 none) l a)/\True)/\True) f)/\True)/\True)/\True)):=okT Tryz.func132 (.v (.y .g0 (.y (.v (.x .w)) (.x (.z (.o 0 8589932928 (.o 1 8589932928 (.o 2 8589932928 (.o 3 8589932928 (.o 4 8589932928 (.o 5 8589932928 (.o 6 8589932928 (.o 7 8589932544 (.o 8 8589932544 (.o 9 8589932544 (.o 10 8589932544 (.o 11 8589869056 (.o 12 8589869056 (.o 13 8589869056 (.o 14 8589869056 (.o 15 8589869056 (.o 16 4292870144 (.o 17 4292870144 (.o 18 4292870144 (.o 19 4292870144 (.o 20 4292870144 (.o 21 2080374784 (.o 22 2080374784 (.o 23 2080374784 (.o 24 2080374784 (.o 25 2080374784 (.o 26 0 (.o 27 0 (.o 28 0 (.o 29 0 (.o 30 0 (.o 31 0 (.o 32 0 (.e 33 (.o 34 0 .done))))))))))))))))))))))))))))))))))))))))
theorem S.qaU0 {a K w}:Fr (C.qaU a K w) (∀b:Addr->Int->Pw,(∀(c:Addr) (d:Int) (e:World),(bif d==0 then (Dr e fun b=>∃e,a=some e/\∃f,b.cell? ((e.add 11).add 1)=some (.z f)/\∃e,a=some e/\∃g,b.cell? ((e.add 3).add 3)=some (.z g)/\LdL b c 0 [.o, .o] fun (c e:Int)=>(C.qS a f g c e (fun a=>K d a) b)/\True) else (K d e))->b c d e)->(Dr w fun c=>∃d,a=some d/\∃e,c.cell? d=some (.pointer e)/\∃d,e=some d/\∃e:Sl,c.cell? (d.add 7)=some (.slice e.a e.len e.cap)/\∃d,a=some d/\∃f,c.cell? ((d.add 11).add 1)=some (.z f)/\∃d,e.a=some d/\0≤f/\f<(e.len:Int)/\∃e,c.cell? (d.add (f.toNat*1))=some (.pointer e)/\∃d,a=some d/\∃a,c.cell? ((d.add 3).add 3)=some (.z a)/\(C.qai e a (fun a c d e=>(Al e (.cells #[.z 0, .z 0] 59) fun f=>(StL f (.mk e.heap.size 0 none) 0 [.z a, .z c] fun a=>b (.mk e.heap.size 0 none) d a)/\True)/\True) c)/\(Al c (.cells #[.z 0, .z 0] 59) fun d=>(C.qai e a (fun a d e f=>(StL f (.mk c.heap.size 0 none) 0 [.z a, .z d] fun a=>b (.mk c.heap.size 0 none) e a)/\True) d)/\True)/\True)):=okT Tryz.func133 (.v (.y (.r (some [(3,.c .q),(4,.c (.i .i64))]) (.o 0 8900480 (.o 1 8900480 (.o 2 8900480 (.o 3 8900480 (.o 4 8900480 (.o 5 8900480 (.o 6 8900480 (.o 7 8896512 (.o 8 8896512 (.o 9 8896512 (.o 10 8896512 (.o 11 8896512 (.o 12 8896512 (.o 13 8896512 (.o 14 8388608 (.o 15 8388608 (.o 16 8388608 (.o 17 8388608 (.o 18 8388608 (.f 19 (.o 20 8388608 (.o 21 12582912 (.o 22 25165824 (.e 23 (.e 24 (.o 25 0 .done)))))) (.e 23 (.e 19 (.o 20 0 (.o 21 4194304 (.o 22 16777216 (.e 24 (.o 25 0 .done)))))))))))))))))))))))))))) (.y (.v (.x (.z (.o 0 8190 (.o 1 8128 (.o 2 8128 (.o 3 8128 (.o 4 8128 (.o 5 8128 (.o 6 2048 (.o 7 2048 (.o 8 2048 (.o 9 2048 (.o 10 2048 .g41)))))))))))))) .w)))
theorem S.qbq0 {a K w}:Fr (C.qbq a K w) (∀b:Addr->Bool->Pw,(∀(c:Addr) (d:Bool) (e:World),(bif !d then (K 181 e) else (Dr e fun b=>∃d,a=some d/\∃e,b.cell? d=some (.pointer e)/\∃d,e=some d/\∃e,b.cell? (d.add 3)=some (.pointer e)/\∃d,a=some d/\∃a,b.cell? ((d.add 11).add 1)=some (.z a)/\∃d,b.cell? (c.add 1)=some (.z d)/\∃f,b.cell? (c.add 3)=some (.y f)/\(C.qch e a d f (fun a b=>K a b) b)/\True))->b c d e)->(Dr w fun c=>∃d,a=some d/\∃e,c.cell? d=some (.pointer e)/\∃d,a=some d/\∃a,c.cell? ((d.add 3).add 2)=some (.z a)/\(C.qa e a 5 (fun a c d e f g h i j k=>(Al k (.cells #[.z 0, .z 0] 40) fun l=>(Al l (.cells #[.z 0, .z 0, .z 0, .y 0, .y 0, .z 0] 42) fun m=>(StL m (.mk k.heap.size 0 none) 0 [.z a, .z c] fun a=>(StL a (.mk l.heap.size 0 none) 0 [.z d, .z e, .z f, .y g, .y h, .z i] fun a=>b (.mk l.heap.size 0 none) j a)/\True)/\True)/\True)/\(Al k (.cells #[.z 0, .z 0, .z 0, .y 0, .y 0, .z 0] 42) fun l=>(Al l (.cells #[.z 0, .z 0] 40) fun m=>(StL m (.mk l.heap.size 0 none) 0 [.z a, .z c] fun a=>(StL a (.mk k.heap.size 0 none) 0 [.z d, .z e, .z f, .y g, .y h, .z i] fun a=>b (.mk k.heap.size 0 none) j a)/\True)/\True)/\True)/\True) c)/\(Al c (.cells #[.z 0, .z 0] 40) fun d=>(C.qa e a 5 (fun a d e f g h i j k l=>(Al l (.cells #[.z 0, .z 0, .z 0, .y 0, .y 0, .z 0] 42) fun m=>(StL m (.mk c.heap.size 0 none) 0 [.z a, .z d] fun a=>(StL a (.mk l.heap.size 0 none) 0 [.z e, .z f, .z g, .y h, .y i, .z j] fun a=>b (.mk l.heap.size 0 none) k a)/\True)/\True)/\True) d)/\(Al d (.cells #[.z 0, .z 0, .z 0, .y 0, .y 0, .z 0] 42) fun f=>(C.qa e a 5 (fun a e f g h i j k l m=>(StL m (.mk c.heap.size 0 none) 0 [.z a, .z e] fun a=>(StL a (.mk d.heap.size 0 none) 0 [.z f, .z g, .z h, .y i, .y j, .z k] fun a=>b (.mk d.heap.size 0 none) l a)/\True)/\True) f)/\True)/\True)/\(Al c (.cells #[.z 0, .z 0, .z 0, .y 0, .y 0, .z 0] 42) fun d=>(C.qa e a 5 (fun a d e f g h i j k l=>(Al l (.cells #[.z 0, .z 0] 40) fun m=>(StL m (.mk l.heap.size 0 none) 0 [.z a, .z d] fun a=>(StL a (.mk c.heap.size 0 none) 0 [.z e, .z f, .z g, .y h, .y i, .z j] fun a=>b (.mk c.heap.size 0 none) k a)/\True)/\True)/\True) d)/\(Al d (.cells #[.z 0, .z 0] 40) fun f=>(C.qa e a 5 (fun a e f g h i j k l m=>(StL m (.mk d.heap.size 0 none) 0 [.z a, .z e] fun a=>(StL a (.mk c.heap.size 0 none) 0 [.z f, .z g, .z h, .y i, .y j, .z k] fun a=>b (.mk c.heap.size 0 none) l a)/\True)/\True) f)/\True)/\True)/\True)):=okT Tryz.func134 (.v (.y .g0 (.y (.v (.x .w)) (.x (.z (.o 0 65408 (.o 1 65408 (.o 2 65408 (.o 3 65408 (.o 4 65408 (.o 5 65408 (.o 6 65408 (.o 7 61440 (.o 8 61440 (.o 9 61440 (.o 10 61440 (.o 11 61440 (.o 12 49152 (.o 13 49152 (.o 14 0 (.o 15 0 (.e 16 (.o 17 0 .done)))))))))))))))))))))))
theorem S.qbC0 {a K w}:Fr (C.qbC a K w) (Dr w fun b=>∃c,a=some c/\∃d,b.cell? c=some (.pointer d)/\∃c,d=some c/\∃d,b.cell? (c.add 3)=some (.pointer d)/\∃c,a=some c/\∃e,b.cell? ((c.add 11).add 1)=some (.z e)/\(C.qcx d e (fun b c d e f=>bif d then (∃d,a=some d/\∃g,f.cell? d=some (.pointer g)/\C.qac g b c (fun b c=>∃d,a=some d/\St c ((d.add 17).add 2) (.z b) fun a=>K e a) f) else (K e f)) b)/\True):=okT Tryz.func135 (.v (.y (.z (.o 0 3968 (.o 1 3968 (.o 2 3968 (.o 3 3968 (.o 4 3968 (.o 5 3968 (.o 6 3968 (.o 7 0 (.o 8 0 (.o 9 0 (.o 10 0 (.o 11 0 (.e 12 (.o 13 0 (.o 14 229376 (.o 15 458752 (.o 16 917504 (.o 17 1835008 (.o 18 0 (.o 19 0 (.o 20 0 (.o 21 0 .done))))))))))))))))))))))) (.y (.v .w) .w)))
theorem S.qag0 {a b K w}:Fr (C.qag a b K w) (Al w (.cells #[.z 0, .z 0] 40) fun c=>∀d:Bool->Pw,(∀(c:Bool) (e:World),(bif c then (StL e (.mk w.heap.size 0 none) 0 [.z 0, .z 0] fun a=>LdL a (.mk w.heap.size 0 none) 0 [.o, .o] fun (b c:Int)=>K b c false a) else (Al e (.cells #[.z 0, .z 0, .z 0, .y 0, .y 0, .z 0] 42) fun c=>StL c (.mk e.heap.size 0 none) 0 [.z 2, .z 0, .z 7, .y 0, .y 0, .z 0] fun c=>∀d:Addr->Int->Pw,(∀(a:Addr) (b:Int) (c:World),(LdL c a 0 [.o, .o] fun (a d:Int)=>StL c (.mk w.heap.size 0 none) 0 [.z a, .z d] fun a=>LdL a (.mk w.heap.size 0 none) 0 [.o, .o] fun (c d:Int)=>K c d (b==0) a)->d a b c)->(Dr c fun c=>∃f,a=some f/\∃a,c.cell? f=some (.pointer a)/\LdL c (.mk e.heap.size 0 none) 0 [.o, .o, .o, .u, .u, .o] fun (e f g h i j:Int)=>(C.qcG a e f g h i j (IntKind.u64.wrap b) 6 (fun a b c e=>(Al e (.cells #[.z 0, .z 0] 40) fun f=>(StL f (.mk e.heap.size 0 none) 0 [.z a, .z b] fun a=>d (.mk e.heap.size 0 none) c a)/\True)/\True) c)/\(Al c (.cells #[.z 0, .z 0] 40) fun k=>(C.qcG a e f g h i j (IntKind.u64.wrap b) 6 (fun a b e f=>(StL f (.mk c.heap.size 0 none) 0 [.z a, .z b] fun a=>d (.mk c.heap.size 0 none) e a)/\True) k)/\True)/\True)))->d c e)->(bif decide (b<0) then (d true c) else (d (decide (b≥64)) c))):=okT Tryz.func199 (.v (.y .g37 (.v (.y (.r (some [(7,.c .q),(8,.c (.i .i64))]) (.o 0 2160 (.o 1 2160 (.o 2 2160 (.o 3 2160 (.o 4 2144 (.o 5 2048 (.o 6 2048 (.f 7 (.o 8 2048 (.o 9 3072 (.o 10 6144 (.e 11 (.e 12 (.o 13 0 .done)))))) (.e 11 (.e 7 (.o 8 0 (.o 9 1024 (.o 10 4096 (.e 12 (.o 13 0 .done)))))))))))))))) .w))))
theorem S.qam0 {a b K w}:Fr (C.qam a b K w) (Al w (.cells #[.pointer a] 125) fun a=>∀c:Sl->Int->Pw,(∀(a:Sl) (d:Int) (e:World),(bif decide (d<b) then (∀b:Addr->Bool->Pw,(∀(e:Addr) (f:Bool) (g:World),(∀b:Bool->Pw,(∀(f:Bool) (g:World),(bif f then (K ⟨none,0,0⟩ 181 g) else (LdL g e 0 [.o, .o] fun (b e:Int)=>Al g (.cells #[.z b, .z e] 40) fun b=>∃e f,AppR Tryz.prog [79,79] 79 (.slice a.a a.len a.cap) (.slice (some (.mk g.heap.size 0 none)) 1 1) b e f/\c e (IntKind.i64.wrap (d+1)) f))->b f g)->(bif !f then (b true g) else (∃a,g.cell? (Addr.mk w.heap.size 0 none)=some (.pointer a)/\∃c,a=some c/\∃a,g.cell? ((c.add 3).add 2)=some (.z a)/\b (decide (a<0)) g)))->b e f g)->(Dr e fun a=>∃c,a.cell? (Addr.mk w.heap.size 0 none)=some (.pointer c)/\∃e,c=some e/\∃c,a.cell? e=some (.pointer c)/\∃e,a.cell? (Addr.mk w.heap.size 0 none)=some (.pointer e)/\∃f,e=some f/\∃e,a.cell? ((f.add 3).add 2)=some (.z e)/\(C.qag c (IntKind.i64.wrap (e+d)) (fun a c d e=>(Al e (.cells #[.z 0, .z 0] 40) fun f=>(StL f (.mk e.heap.size 0 none) 0 [.z a, .z c] fun a=>b (.mk e.heap.size 0 none) d a)/\True)/\True) a)/\(Al a (.cells #[.z 0, .z 0] 40) fun f=>(C.qag c (IntKind.i64.wrap (e+d)) (fun c d e f=>(StL f (.mk a.heap.size 0 none) 0 [.z c, .z d] fun c=>b (.mk a.heap.size 0 none) e c)/\True) f)/\True)/\True)) else (C.qj a (.func (.func 279) #[] #[.pointer (some (.mk w.heap.size 0 none))]) (fun b c=>bif b then (K ⟨none,0,0⟩ 51 c) else (K a 0 c)) e))->c a d e)->c ⟨none,0,0⟩ 0 a):=okT Tryz.func202 (.v (.v (.y (.v (.x (.t (some [(6,.c .s),(12,.c (.i .i64))]) (.v (.y .w (.x (.x (.v (.y (.r (some [(8,.c .q),(9,.c .b)]) (.o 0 34800 (.o 1 34800 (.o 2 34800 (.o 3 34800 (.o 4 33280 (.o 5 33280 (.o 6 33280 (.o 7 33280 (.o 8 33280 (.o 9 32768 (.o 10 32768 (.f 11 (.o 12 32768 (.o 13 49152 (.o 14 98304 (.e 15 (.e 16 (.o 17 0 .done)))))) (.e 15 (.e 11 (.o 12 0 (.o 13 16384 (.o 14 65536 (.e 16 (.o 17 0 .done)))))))))))))))))))) (.x (.y (.r (some [(39,.c .b)]) .done) (.x .w))))))))) .u))) .g51)))
theorem S.qaL0 {a b c d e f g h i K w}:Fr (C.qaL a b c d e f g h i K w) (Al w (.cells #[.z b, .z c] 40) fun b=>Al b (.cells #[.z d, .z e, .z f, .y g, .y h, .z i] 42) fun c=>Dr c fun c=>∃d,a=some d/\∃e,c.cell? d=some (.pointer e)/\∃d,e=some d/\∃e,c.cell? d=some (.pointer e)/\LdL c (.mk w.heap.size 0 none) 0 [.o, .o] fun (d f:Int)=>LdL c (.mk b.heap.size 0 none) 0 [.o, .o, .o, .u, .u, .o] fun (b g h i j k:Int)=>(C.qbw e d f b g h i j k (fun _ c=>Dr c fun b=>∃c,a=some c/\∃d,b.cell? c=some (.pointer d)/\∃c,d=some c/\∃d,b.cell? (c.add 1)=some (.pointer d)/\∃c,a=some c/\LdL b (c.add 9) 0 [.o, .o] fun (a c:Int)=>LdL b (.mk w.heap.size 0 none) 0 [.o, .o] fun (e f:Int)=>(C.qcA d a c e f (fun _ b=>K b) b)/\True) c)/\True):=okT Tryz.func203 (.v (.y (.z (.o 0 384 (.o 1 384 (.o 2 384 (.o 3 384 (.o 4 384 (.o 5 384 (.o 6 384 (.o 7 256 (.o 8 0 (.e 9 .done))))))))))) (.z (.o 0 3968 (.o 1 3968 (.o 2 3968 (.o 3 3968 (.o 4 3968 (.o 5 3968 (.o 6 3968 (.o 7 2048 (.o 8 2048 (.o 9 2048 (.o 10 2048 (.o 11 0 (.e 12 .done))))))))))))))))
theorem S.qbr0 {a b K w}:Fr (C.qbr a b K w) (∃c,a=some c/\∃d,w.cell? ((c.add 3).add 3)=some (.z d)/\bif d==1 then (Dr w fun c=>∃d,a=some d/\∃e,a=some e/\∃f,c.cell? e=some (.pointer f)/\∃e,f=some e/\∃f:Sl,c.cell? (e.add 4)=some (.slice f.a f.len f.cap)/\∃e,a=some e/\∃g,c.cell? ((e.add 3).add 4)=some (.z g)/\∃e,c.cell? d=some (.pointer e)/\(Al c (.cells #[.y b, .z g, .y 0] 86) fun b=>(∃g h,AppR Tryz.prog [84,84] 84 (.slice f.a f.len f.cap) (.slice (some (.mk c.heap.size 0 none)) 1 1) b g h/\h.cell? d=some (.pointer e)/\∃b,e=some b/\(St h (b.add 4) (.slice g.a g.len g.cap) fun b=>∃c,a=some c/\∃a,b.cell? c=some (.pointer a)/\∃c,a=some c/\∃a:Sl,b.cell? (c.add 4)=some (.slice a.a a.len a.cap)/\K (IntKind.i64.wrap ((a.len:Int)-1)) b)/\True)/\True)/\True) else (bif d==2 then (∃b,a=some b/\∃c,w.cell? b=some (.pointer c)/\∃b,c=some b/\∃d,w.cell? (b.add 10)=some (.z d)/\∃b,c=some b/\St w (b.add 10) (.z (IntKind.i64.wrap (d+1))) fun b=>Dr b fun b=>∃c,a=some c/\∃d,b.cell? c=some (.pointer d)/\∃c,d=some c/\∃d,b.cell? c=some (.pointer d)/\∃c,a=some c/\∃a,b.cell? ((c.add 3).add 4)=some (.z a)/\(C.qaX d a (fun a _ c=>K a c) b)/\True) else (bif d==3 then (∃b,a=some b/\∃c,w.cell? b=some (.pointer c)/\∃b,c=some b/\∃d,w.cell? (b.add 11)=some (.z d)/\∃b,c=some b/\St w (b.add 11) (.z (IntKind.i64.wrap (d+1))) fun b=>Dr b fun b=>∃c,a=some c/\∃d,b.cell? c=some (.pointer d)/\∃c,d=some c/\∃d,b.cell? (c.add 2)=some (.pointer d)/\∃c,a=some c/\∃a,b.cell? (c.add 1)=some (.z a)/\(C.qC d 0 a (fun a _ c=>K a c) b)/\True) else (bif d==4 then (Dr w fun b=>∃c,a=some c/\∃d,a=some d/\∃e,b.cell? c=some (.pointer e)/\∃f,b.cell? d=some (.pointer f)/\∃g,f=some g/\∃h:Sl,b.cell? (g.add 5)=some (.slice h.a h.len h.cap)/\(C.qcL (fun b i=>i.cell? (g.add 5)=some (.slice h.a h.len h.cap)/\i.cell? d=some (.pointer f)/\i.cell? c=some (.pointer e)/\(Al i (.cells #[.pointer b] 133) fun b=>(∃d f,AppR Tryz.prog [114,114] 114 (.slice h.a h.len h.cap) (.slice (some (.mk i.heap.size 0 none)) 1 1) b d f/\f.cell? c=some (.pointer e)/\∃b,e=some b/\(St f (b.add 5) (.slice d.a d.len d.cap) fun b=>∃c,a=some c/\∃a,b.cell? c=some (.pointer a)/\∃c,a=some c/\∃a:Sl,b.cell? (c.add 5)=some (.slice a.a a.len a.cap)/\K (IntKind.i64.wrap ((a.len:Int)-1)) b)/\True)/\True)/\True) b)/\True) else (bif d==5 then (Dr w fun b=>∃c,a=some c/\∃d,a=some d/\∃e,b.cell? c=some (.pointer e)/\∃f,b.cell? d=some (.pointer f)/\∃g,f=some g/\∃h:Sl,b.cell? (g.add 6)=some (.slice h.a h.len h.cap)/\(C.qdc (fun b i=>i.cell? (g.add 6)=some (.slice h.a h.len h.cap)/\i.cell? d=some (.pointer f)/\i.cell? c=some (.pointer e)/\(Al i (.cells #[.pointer b] 161) fun b=>(∃d f,AppR Tryz.prog [115,115] 115 (.slice h.a h.len h.cap) (.slice (some (.mk i.heap.size 0 none)) 1 1) b d f/\f.cell? c=some (.pointer e)/\∃b,e=some b/\(St f (b.add 6) (.slice d.a d.len d.cap) fun b=>∃c,a=some c/\∃a,b.cell? c=some (.pointer a)/\∃c,a=some c/\∃a:Sl,b.cell? (c.add 6)=some (.slice a.a a.len a.cap)/\K (IntKind.i64.wrap ((a.len:Int)-1)) b)/\True)/\True)/\True) b)/\True) else (bif d==8 then (Dr w fun b=>∃c,a=some c/\∃d,a=some d/\∃e,b.cell? c=some (.pointer e)/\∃f,b.cell? d=some (.pointer f)/\∃g,f=some g/\∃h:Sl,b.cell? (g.add 7)=some (.slice h.a h.len h.cap)/\(C.qbZ (fun b i=>i.cell? (g.add 7)=some (.slice h.a h.len h.cap)/\i.cell? d=some (.pointer f)/\i.cell? c=some (.pointer e)/\(Al i (.cells #[.pointer b] 109) fun b=>(∃d f,AppR Tryz.prog [111,111] 111 (.slice h.a h.len h.cap) (.slice (some (.mk i.heap.size 0 none)) 1 1) b d f/\f.cell? c=some (.pointer e)/\∃b,e=some b/\(St f (b.add 7) (.slice d.a d.len d.cap) fun b=>∃c,a=some c/\∃a,b.cell? c=some (.pointer a)/\∃c,a=some c/\∃a:Sl,b.cell? (c.add 7)=some (.slice a.a a.len a.cap)/\K (IntKind.i64.wrap ((a.len:Int)-1)) b)/\True)/\True)/\True) b)/\True) else (bif d==6 then (∃b,a=some b/\∃c,w.cell? b=some (.pointer c)/\∃b,c=some b/\∃d,w.cell? (b.add 8)=some (.z d)/\∃b,c=some b/\St w (b.add 8) (.z (IntKind.i64.wrap (d+1))) fun b=>∃c,a=some c/\∃a,b.cell? c=some (.pointer a)/\∃c,a=some c/\∃a,b.cell? (c.add 8)=some (.z a)/\K (IntKind.i64.wrap (a-1)) b) else (∃b,a=some b/\∃c,w.cell? b=some (.pointer c)/\∃b,c=some b/\∃d,w.cell? (b.add 9)=some (.z d)/\∃b,c=some b/\St w (b.add 9) (.z (IntKind.i64.wrap (d+1))) fun b=>∃c,a=some c/\∃a,b.cell? c=some (.pointer a)/\∃c,a=some c/\∃a,b.cell? (c.add 9)=some (.z a)/\K (IntKind.i64.wrap (a-1)) b)))))))):=okT Tryz.func204 (.v (.y (.v (.x (.v (.y (.y (.z (.o 0 1048560 (.o 1 1048560 (.o 2 1048560 (.o 4 522248 (.o 5 522248 (.o 6 522248 (.o 7 522248 (.o 8 522248 (.o 9 522248 (.o 10 522248 (.o 11 126984 (.o 12 8 (.o 13 8 (.o 14 8 (.o 15 8 (.o 16 8 (.o 17 8 (.hold 3 786432 4194303 (.e 18 (.e 19 (.o 20 0 (.o 21 0 (.e 22 .done)))))))))))))))))))))))) .w) (.v (.y (.v (.y (.z (.o 0 3968 (.o 1 3968 (.o 2 3968 (.o 3 3968 (.o 4 3968 (.o 5 3968 (.o 6 3968 (.o 7 0 (.o 8 0 (.o 9 0 (.o 10 0 (.o 11 0 (.e 12 (.o 13 0 (.o 14 32768 (.o 15 65536 (.o 16 0 (.o 17 0 .done))))))))))))))))))) .w)) (.v (.y (.v (.y (.z (.o 0 1920 (.o 1 1920 (.o 2 1920 (.o 3 1920 (.o 4 1920 (.o 5 1920 (.o 6 1920 (.o 7 0 (.o 8 0 (.o 9 0 (.o 10 0 (.e 11 (.o 12 0 (.o 13 16384 (.o 14 32768 (.o 15 0 (.o 16 0 .done)))))))))))))))))) .w)) (.v (.y .g3 (.v (.y .g3 (.v (.y .g3 (.v (.x (.v .w))))))))))))))))) (.v .w)))
theorem S.qan0 {a b c K w}:Fr (C.qan a b c K w) (Al w (.cells #[.z b, .z c] 40) fun b=>Dr b fun b=>∃c,a=some c/\∃d,b.cell? c=some (.pointer d)/\∃c,d=some c/\∃d,b.cell? (c.add 1)=some (.pointer d)/\LdL b (.mk w.heap.size 0 none) 0 [.o, .o] fun (c e:Int)=>(C.qck d c e (fun _ c=>∀b:Addr->Pw,(∀(c:Addr) (d:World),(∃b,a=some b/\∃e,d.cell? b=some (.pointer e)/\∃b,e=some b/\∃e,d.cell? b=some (.pointer e)/\C.qaY e (fun b d=>C.qk b (.func (.func 287) #[] #[.pointer (some c)]) (fun b d=>bif !b then (LdL d c 0 [.o, .o, .o, .u, .u, .o] fun (b c e f g h:Int)=>C.qbs a b c e f g h (fun a=>K a) d) else (K d)) d) d)->b c d)->(Dr c fun c=>∃d,a=some d/\∃a,c.cell? d=some (.pointer a)/\∃d,a=some d/\∃a,c.cell? d=some (.pointer a)/\LdL c (.mk w.heap.size 0 none) 0 [.o, .o] fun (d e:Int)=>(C.qbe a d e (fun a c d e f g _ i=>(Al i (.cells #[.z 0, .z 0, .z 0, .y 0, .y 0, .z 0] 42) fun h=>(StL h (.mk i.heap.size 0 none) 0 [.z a, .z c, .z d, .y e, .y f, .z g] fun a=>b (.mk i.heap.size 0 none) a)/\True)/\True) c)/\(Al c (.cells #[.z 0, .z 0, .z 0, .y 0, .y 0, .z 0] 42) fun f=>(C.qbe a d e (fun a d e f g h _ j=>(StL j (.mk c.heap.size 0 none) 0 [.z a, .z d, .z e, .y f, .y g, .z h] fun a=>b (.mk c.heap.size 0 none) a)/\True) f)/\True)/\True)) b)/\True):=okT Tryz.func208 (.v (.y (.z (.o 0 128 (.o 1 128 (.o 2 128 (.o 3 128 (.o 4 128 (.o 5 128 (.o 6 128 (.o 7 0 (.e 8 .done)))))))))) (.y .g2 (.v .w))))
theorem S.qZ0 {a b K w}:Fr (C.qZ a b K w) (∃c,a=some c/\∃d:Sl,w.cell? (c.add 5)=some (.slice d.a d.len d.cap)/\∀c:Int->Pw,(∀(e:Int) (f:World),(bif decide (e<(d.len:Int)) then (∃a,d.a=some a/\0≤e/\e<(d.len:Int)/\∃d,f.cell? (a.add (e.toNat*1))=some (.pointer d)/\C.qW d b (fun _ b=>c (IntKind.i64.wrap (e+1)) b) f) else (∃c,a=some c/\∃a:Sl,f.cell? (c.add 6)=some (.slice a.a a.len a.cap)/\∀c:Int->Pw,(∀(d:Int) (e:World),(bif decide (d<(a.len:Int)) then (∃f,a.a=some f/\0≤d/\d<(a.len:Int)/\∃a,e.cell? (f.add (d.toNat*1))=some (.pointer a)/\C.qay a b (fun _ b=>c (IntKind.i64.wrap (d+1)) b) e) else (K e))->c d e)->c 0 f))->c e f)->c 0 w):=okT Tryz.func212 (.y (.v (.x (.t (some [(13,.c (.i .i64))]) .g52 .u))) (.v (.x (.t (some [(26,.c (.i .i64))]) .g52 .u))))
theorem S.qah0 {a b K w}:Fr (C.qah a b K w) (∃c,a=some c/\∃d,w.cell? c=some (.pointer d)/\∃c,d=some c/\∃d,w.cell? (c.add 2)=some (.pointer d)/\C.qv d b (fun c d=>bif c==0 then (∃e,a=some e/\St d ((e.add 17).add 2) (.z b) fun a=>K c a) else (K c d)) w):=okT Tryz.func213 (.v (.v (.y (.v .w) .w)))
theorem S.qao0 {a K w}:Fr (C.qao a K w) (∃b,a=some b/\∃c,w.cell? ((b.add 3).add 5)=some (.z c)/\bif c !=0 then (Dr w fun b=>∃c,a=some c/\∃d,b.cell? c=some (.pointer d)/\∃c,d=some c/\∃d,b.cell? (c.add 2)=some (.pointer d)/\∃c,a=some c/\∃e,b.cell? (c.add 2)=some (.z e)/\(C.qX d e (fun _ c=>Dr c fun b=>∃c,a=some c/\∃d,b.cell? c=some (.pointer d)/\∃c,d=some c/\∃d,b.cell? (c.add 2)=some (.pointer d)/\∃c,a=some c/\∃a,b.cell? (c.add 1)=some (.z a)/\(C.qD d a (fun _ _ c=>K c) b)/\True) b)/\True) else (K w)):=okT Tryz.func217 (.v (.x (.y .g8 .g8)))
theorem S.qaM0 {a b c d e f g h i K w}:Fr (C.qaM a b c d e f g h i K w) (Al w (.cells #[.z c, .y d, .y e, .y f, .y g, .y h, .bool i] 223) fun c=>∃d,c.cell? ((Addr.mk w.heap.size 0 none).add 5)=some (.y d)/\∃e,c.cell? (Addr.mk w.heap.size 0 none)=some (.z e)/\(0:Int)≤0/\(0:Int)<4/\∃f,c.cell? (((Addr.mk w.heap.size 0 none).add 1).add ((0:Int).toNat*1))=some (.y f)/\Al c (.cells #[.y d, .y (IntKind.u64.wrap e), .y f] 31) fun d=>∀e:Int->Pw,(∀(d:Int) (f:World),(bif decide (d<3) then (∃g,some (Addr.mk c.heap.size 0 none)=some g/\0≤d/\d<3/\∃c,f.cell? (g.add (d.toNat*1))=some (.y c)/\∃g,a=some g/\∃a,f.cell? g=some (.pointer a)/\∃g,a=some g/\∃a,f.cell? (g.add 2)=some (.pointer a)/\C.qu a b d c (fun _ b=>e (IntKind.i64.wrap (d+1)) b) f) else (K f))->e d f)->e 0 d):=okT Tryz.func218 (.v (.v (.x (.t (some [(18,.c (.i .i64))]) .g52 .u))))
theorem S.qS0 {a b c d e K w}:Fr (C.qS a b c d e K w) (Al w (.cells #[.z c, .z d, .z e] 61) fun c=>Dr c fun c=>∃d,a=some d/\∃e:Sl,c.cell? ((d.add 17).add 3)=some (.slice e.a e.len e.cap)/\∃d,c.cell? (Addr.mk w.heap.size 0 none)=some (.z d)/\LdL c ((Addr.mk w.heap.size 0 none).add 1) 0 [.o, .o] fun (f g:Int)=>(Al c (.cells #[.z b, .z d, .z f, .z g] 63) fun b=>(∃d f,AppR Tryz.prog [32,32] 32 (.slice e.a e.len e.cap) (.slice (some (.mk c.heap.size 0 none)) 1 1) b d f/\∃b,a=some b/\(St f ((b.add 17).add 3) (.slice d.a d.len d.cap) fun a=>K a)/\True)/\True)/\True):=okT Tryz.func224 (.v (.z (.o 0 16382 (.o 1 8128 (.o 2 8128 (.o 3 8128 (.o 4 8128 (.o 5 8128 (.o 6 1920 (.o 7 1536 (.o 8 1536 (.o 9 0 (.o 10 0 (.o 11 0 (.e 12 (.e 13 (.o 14 0 (.o 15 0 (.o 16 0 (.e 17 .done))))))))))))))))))))
theorem S.qaH0 {a b c K w}:Fr (C.qaH a b c K w) (Al w (.cells #[.z a, .z b] 40) fun a=>∀b:Addr->Pw,(∀(a:Addr) (c:World),(∃b,c.cell? a=some (.z b)/\K (b !=0) c)->b a c)->(Dr a fun a=>∃d,a.cell? c=some (.pointer d)/\∃c,d=some c/\∃d,a.cell? c=some (.pointer d)/\∃c,d=some c/\∃d,a.cell? c=some (.pointer d)/\LdL a (.mk w.heap.size 0 none) 0 [.o, .o] fun (c e:Int)=>(C.qL d c e (fun a c d e f g _ i=>(Al i (.cells #[.z 0, .z 0, .z 0, .y 0, .y 0, .z 0] 42) fun h=>(StL h (.mk i.heap.size 0 none) 0 [.z a, .z c, .z d, .y e, .y f, .z g] fun a=>b (.mk i.heap.size 0 none) a)/\True)/\True) a)/\(Al a (.cells #[.z 0, .z 0, .z 0, .y 0, .y 0, .z 0] 42) fun f=>(C.qL d c e (fun c d e f g h _ j=>(StL j (.mk a.heap.size 0 none) 0 [.z c, .z d, .z e, .y f, .y g, .z h] fun c=>b (.mk a.heap.size 0 none) c)/\True) f)/\True)/\True)):=okT Tryz.func279 (.v (.y .g2 .w))
theorem S.qaI0 {a b c d e f g h i K w}:Fr (C.qaI a b c d e f g h i K w) (Al w (.cells #[.z a, .z b, .z c, .z d, .z e, .y f, .y g, .z h] 44) fun a=>LdL a ((Addr.mk w.heap.size 0 none).add 2) 0 [.o, .o, .o, .u, .u, .o] fun (b c d e f g:Int)=>LdL a i 0 [.o, .o, .o, .u, .u, .o] fun (h i j k l m:Int)=>C.qdk b c d e f g h i j k l m (fun a b=>K a b) a):=okT Tryz.func287 (.v .w)
theorem S.qbs0 {a b c d e f g K w}:Fr (C.qbs a b c d e f g K w) (Al w (.cells #[.z b, .z c, .z d, .y e, .y f, .z g] 42) fun b=>∃c,b.cell? (Addr.mk w.heap.size 0 none)=some (.z c)/\bif c==3 then (Dr b fun b=>∃c,a=some c/\∃d,b.cell? c=some (.pointer d)/\∃c,b.cell? ((Addr.mk w.heap.size 0 none).add 1)=some (.z c)/\(C.qZ d c (fun b=>Dr b fun b=>∃c,a=some c/\∃a,b.cell? c=some (.pointer a)/\∃c,a=some c/\∃a,b.cell? (c.add 2)=some (.pointer a)/\∃c,b.cell? ((Addr.mk w.heap.size 0 none).add 1)=some (.z c)/\(C.qA a c (fun _ b=>K b) b)/\True) b)/\True) else (bif c==6 then (∃c,a=some c/\∃d,b.cell? c=some (.pointer d)/\∃c,d=some c/\∃d:Sl,b.cell? (c.add 7)=some (.slice d.a d.len d.cap)/\∀c:Int->Pw,(∀(b:Int) (e:World),(bif decide (b<(d.len:Int)) then (∃f,d.a=some f/\0≤b/\b<(d.len:Int)/\∃d,e.cell? (f.add (b.toNat*1))=some (.pointer d)/\∃f,e.cell? ((Addr.mk w.heap.size 0 none).add 1)=some (.z f)/\C.qaJ d f (fun e f=>∀g:Int->Pw,(∀(f:Int) (h:World),(bif decide (f<(e.len:Int)) then (∃c,e.a=some c/\0≤f/\f<(e.len:Int)/\∃e,h.cell? (c.add (f.toNat*1))=some (.z e)/\C.qai d e (fun c d _ i=>Al i (.cells #[.z 0, .z 0] 59) fun h=>StL h (.mk i.heap.size 0 none) 0 [.z c, .z d] fun c=>LdL c (.mk i.heap.size 0 none) 0 [.o, .o] fun (d h:Int)=>C.qS a b e d h (fun a=>g (IntKind.i64.wrap (f+1)) a) c) h) else (c (IntKind.i64.wrap (b+1)) h))->g f h)->g 0 f) e) else (K e))->c b e)->c 0 b) else (bif c==7 then (∃c,a=some c/\∃d,b.cell? c=some (.pointer d)/\∃c,d=some c/\∃d:Sl,b.cell? (c.add 7)=some (.slice d.a d.len d.cap)/\∀c:Int->Pw,(∀(b:Int) (e:World),(bif decide (b<(d.len:Int)) then (∃f,d.a=some f/\0≤b/\b<(d.len:Int)/\∃d,e.cell? (f.add (b.toNat*1))=some (.pointer d)/\∀f:Int->Pw,(∀(e:Int) (g:World),(bif decide (e<64) then (C.qbM d e (fun c g h=>∀i:Bool->Pw,(∀(c:Bool) (g:World),(bif c then (C.qbv d e (fun c _ g=>∀d:Int->Pw,(∀(g:Int) (h:World),(bif decide (g<(c.len:Int)) then (∃e,c.a=some e/\0≤g/\g<(c.len:Int)/\LdL h (e.add (g.toNat*3)) 0 [.o, .o, .o] fun (c e f:Int)=>Al h (.cells #[.z 0, .z 0, .z 0] 61) fun i=>StL i (.mk h.heap.size 0 none) 0 [.z c, .z e, .z f] fun c=>LdL c (.mk h.heap.size 0 none) 0 [.o, .o, .o] fun (e f h:Int)=>C.qS a b e f h (fun a=>d (IntKind.i64.wrap (g+1)) a) c) else (f (IntKind.i64.wrap (e+1)) h))->d g h)->d 0 g) g) else (f (IntKind.i64.wrap (e+1)) g))->i c g)->(bif g then (∃a,h.cell? ((Addr.mk w.heap.size 0 none).add 1)=some (.z a)/\i (c==a) h) else (i false h))) g) else (c (IntKind.i64.wrap (b+1)) g))->f e g)->f 0 e) else (K e))->c b e)->c 0 b) else (K b)))):=okT Tryz.func289 (.v (.v (.x (.v (.y (.y (.z (.o 0 48 (.o 1 48 (.o 2 48 (.o 3 48 (.o 4 0 (.o 5 0 (.e 6 .done)))))))) (.z (.o 0 384 (.o 1 384 (.o 2 384 (.o 3 384 (.o 4 384 (.o 5 384 (.o 6 384 .g46))))))))) (.v (.y (.v (.x (.t (some [(50,.c (.i .i64))]) (.v (.y .w (.x (.x (.v (.v (.x (.t (some [(60,.c (.i .i64))]) (.v (.y .w (.x (.x (.v .w))))) .u)))))))) .u))) (.v (.x (.v (.x (.t (some [(88,.c (.i .i64))]) (.v (.y .w (.x (.x (.v (.v (.x (.t (some [(93,.c (.i .i64))]) (.v (.y .w (.x (.x (.v (.v (.y (.r (some [(108,.c .b)]) .done) (.x (.v (.v (.x (.t (some [(117,.c (.i .i64))]) .g52 .u)))))))))))) .u)))))))) .u))))))))))))
end Go.Proofs.YtogmbmdbgkopjaaGreat
end
section
namespace Go.Proofs.YtogmbmdbgkopjaaGreat
open Go Go.Vc Go.Proofs
def cL:Code->Code| .seq a _=>a|c=>c
def cR:Code->Code| .seq _ b=>b|c=>c
noncomputable def codeB:Code:=bodyOf Tryz.f123
noncomputable def codeA:Code:= .seq (cL codeB) (.seq (cL (cR codeB)) (cL (cL (cR (cR codeB)))))
noncomputable def codeZ:Code:=cR (cR (cR codeB))
noncomputable def codeL:Code:=cR (cL (cR (cR codeB)))
def S.qdw (d1:Option Addr) (K:Option Addr->Addr->Int->Sl->Value->Pw) (w:World):Prop:=Al w (.cells #[.pointer d1] 125) fun w2=>Dr w2 fun w3=>∃t4:Option Addr,w3.cell? (Addr.mk w.heap.size 0 none)=some (.pointer t4)/\∃a5:Addr,t4=some a5/\∃kernel6:Option Addr,w3.cell? a5=some (.pointer kernel6)/\∃a7:Addr,kernel6=some a7/\∃tr8:Option Addr,w3.cell? (a7.add 1)=some (.pointer tr8)/\∃t9:Option Addr,w3.cell? (Addr.mk w.heap.size 0 none)=some (.pointer t9)/\∃a10:Addr,t9=some a10/\LdL w3 (a10.add 9) 0 [.o, .o] fun (s11:Int) (s12:Int)=>(C.qbT tr8 s11 s12 (fun r13 w14=>C.qx r13 (fun r15 w16=>K d1 (Addr.mk w.heap.size 0 none) (0:Int) r13 r15 w16) w14) w3)/\True
def codeAAn:An:= .t none (.u) (.t none (.r none (.one 0 1920 (.one 1 1920 (.one 2 1920 (.one 3 1920 (.one 4 1920 (.one 5 1920 (.one 6 1920 (.one 7 0 (.one 8 0 (.one 9 0 (.one 10 0 (.alt 11 (.one 12 0 (.done)) (.none)))))))))))))) (.u))
def codeACs:List (Nat × Sh):=[(0, .c (.p)),(1, .c (.q)),(2, .c (.i .i64)),(3, .c (.s)),(4, .c (.v))]
noncomputable def codeAF:Func:={ Tryz.f123 with results:= #[.tmp 0, .tmp 1, .tmp 2, .tmp 3, .tmp 19],body:=some codeA}
set_option maxRecDepth 100000 in
theorem S.qdw1 (d1:Option Addr) (K:Option Addr->Addr->Int->Sl->Value->Pw) (w:World):vc Tryz.prog codeA codeAAn (fun e w'=>resL Tryz.prog codeAF.results.toList e w' [] fun vs=>appE codeACs K (nth vs) w') (fun _ _ _=>False) (fun _ _=>False) (nth [.pointer d1]) w=S.qdw d1 K w:=by kernel_rfl
def S.qdx (d1:Option Addr) (d2:Addr) (t3:Int) (l4:Sl) (K:Int->Pw) (w:World):Prop:=∃t5:Option Addr,w.cell? d2=some (.pointer t5)/\∃a6:Addr,t5=some a6/\St w ((a6.add 17).add 1) (.y (IntKind.u64.wrap (l4.len:Int))) fun w7=>∃t8:Option Addr,w7.cell? d2=some (.pointer t8)/\∃a9:Addr,t8=some a9/\∃kind10:Int,w7.cell? (a9.add 11)=some (.z kind10)/\bif kind10==(1:Int) then (Dr w7 fun w11=>∃t12:Option Addr,w11.cell? d2=some (.pointer t12)/\∃a13:Addr,t12=some a13/\∃kernel14:Option Addr,w11.cell? a13=some (.pointer kernel14)/\∃a15:Addr,kernel14=some a15/\∃u16:Sl,w11.cell? (a15.add 4)=some (.slice u16.a u16.len u16.cap)/\∃t17:Option Addr,w11.cell? d2=some (.pointer t17)/\∃a18:Addr,t17=some a18/\∃obj19:Int,w11.cell? ((a18.add 11).add 1)=some (.z obj19)/\∃a20:Addr,u16.a=some a20/\0≤obj19/\obj19<(u16.len:Int)/\LdL w11 (a20.add (obj19.toNat*3)) 0 [.u, .o, .u] fun (t21:Int) (t22:Int) (t23:Int)=>∃t24:Option Addr,w11.cell? d2=some (.pointer t24)/\∃a25:Addr,t24=some a25/\∃kernel26:Option Addr,w11.cell? a25=some (.pointer kernel26)/\∃a27:Addr,kernel26=some a27/\∃u28:Sl,w11.cell? (a27.add 4)=some (.slice u28.a u28.len u28.cap)/\∃t29:Option Addr,w11.cell? d2=some (.pointer t29)/\∃a30:Addr,t29=some a30/\∃obj31:Int,w11.cell? ((a30.add 11).add 1)=some (.z obj31)/\(C.qcw t21 t22 t23 (fun r32 r33 r34 w35=>w35.cell? ((a30.add 11).add 1)=some (.z obj31)/\w35.cell? d2=some (.pointer t29)/\w35.cell? (a27.add 4)=some (.slice u28.a u28.len u28.cap)/\w35.cell? a25=some (.pointer kernel26)/\w35.cell? d2=some (.pointer t24)/\∃a36:Addr,u28.a=some a36/\0≤obj31/\obj31<(u28.len:Int)/\(StL w35 (a36.add (obj31.toNat*3)) 0 [.y r32, .z r33, .y r34] fun w37=>K (0:Int) w37)/\True) w11)/\True) else (K (0:Int) w7)
def codeZAn:An:= .t none (.u) (.t none (.t none (.u) (.t none (.r none (.one 12 16257023 (.one 13 16257023 (.one 14 16257023 (.one 15 16257023 (.one 16 16257023 (.one 17 16257023 (.one 18 16257023 (.one 19 4095 (.one 20 4095 (.one 21 4095 (.one 22 4095 (.one 23 4095 (.one 24 4095 (.one 25 4095 (.hold 0 67112832 268435455 (.one 1 67112832 (.one 2 67112832 (.hold 3 67112832 268435455 (.one 4 67112832 (.one 5 67112832 (.hold 6 67112832 268435455 (.hold 7 67108864 268435455 (.one 8 67108864 (.one 9 67108864 (.one 10 67108864 (.hold 11 67108864 268435455 (.alt 26 (.one 27 0 (.alt 28 (.done) (.none))) (.none))))))))))))))))))))))))))))) (.u))) (.t none (.u) (.u)))
def codeZCs:List (Nat × Sh):=[(0, .c (.i .i64))]
noncomputable def codeZF:Func:={ Tryz.f123 with results:= #[.tmp 2],body:=some codeZ}
set_option maxRecDepth 100000 in
theorem S.qdx1 (d1:Option Addr) (d2:Addr) (t3:Int) (l4:Sl) (K:Int->Pw) (w:World):fnV Tryz.prog codeZF codeZ codeZAn codeZCs [.pointer d1, .pointer (some d2), .z t3, .slice l4.a l4.len l4.cap] K w=S.qdx d1 d2 t3 l4 K w:=by kernel_rfl
end Go.Proofs.YtogmbmdbgkopjaaGreat
end
section
set_option maxRecDepth 100000
namespace Go.Proofs.YtogmbmdbgkopjaaGreat
open Go Go.Vc Go.Proofs
theorem S.qbO0 {a b c d K w}:Fr (C.qbO a b c d K w) (Al w (.cells #[.z a, .z b, .z c, .slice d.a d.len d.cap] 28) fun a=>Al a (.cells #[] 3) fun b=>∃c:Sl,b.cell? ((Addr.mk w.heap.size 0 none).add 3)=some (.slice c.a c.len c.cap)/\∃d:Sl,b.cell? ((Addr.mk w.heap.size 0 none).add 3)=some (.slice d.a d.len d.cap)/\0≤minI (d.len:Int) 20/\minI (d.len:Int) 20≤(c.cap:Int)/\∃e f,AppR Tryz.prog [26,26] 26 (.slice (some (.mk a.heap.size 0 none)) 0 0) (.slice (slA c.a 0 c.cap 1) (((minI (d.len:Int) 20).toNat)-0) (c.cap-0)) b e f/\St f ((Addr.mk w.heap.size 0 none).add 3) (.slice e.a e.len e.cap) fun a=>LdL a (.mk w.heap.size 0 none) 0 [.o, .o, .o, .s] fun (b c d:Int) (e:Sl)=>C.qcm b c d e (fun a b c=>LdL c (.mk w.heap.size 0 none) 0 [.o, .o, .o, .s] fun (d e f:Int) (g:Sl)=>C.qcU d e f g (fun c d e=>∀f:Bool->Pw,(∀(b:Bool) (d:World),(bif b then (K false d) else (∀b:Bool->Pw,(∀(d:Bool) (e:World),(bif d then (C.qaO (fun a b=>K a b) e) else (∀b:Int->Pw,(∀(d:Int) (e:World),(∃f,e.cell? (Addr.mk w.heap.size 0 none)=some (.z f)/\bif decide (d<f) then (C.qaq a d (fun a c e=>∀f:Bool->Pw,(∀(a:Bool) (c:World),(bif a then (K false c) else (b (IntKind.i64.wrap (d+1)) c))->f a c)->(bif !c then (f true e) else (f (a !=d) e))) e) else (Dr e fun b=>∃d,b.cell? (Addr.mk w.heap.size 0 none)=some (.z d)/\(C.qcV a c d (fun b c=>bif b then ((C.qp a (fun a b=>∃c,b.cell? (Addr.mk w.heap.size 0 none)=some (.z c)/\∃d,b.cell? ((Addr.mk w.heap.size 0 none).add 2)=some (.z d)/\bif (a.len:Int)==(IntKind.i64.wrap ((IntKind.i64.wrap (3+c))+d)) then ((C.qaO (fun a b=>K a b) b)/\True) else ((K false b)/\True)) c)/\(∃b,c.cell? (Addr.mk w.heap.size 0 none)=some (.z b)/\(C.qp a (fun a c=>∃d,c.cell? ((Addr.mk w.heap.size 0 none).add 2)=some (.z d)/\bif (a.len:Int)==(IntKind.i64.wrap ((IntKind.i64.wrap (3+b))+d)) then ((C.qaO (fun a b=>K a b) c)/\True) else ((K false c)/\True)) c)/\(∃d,c.cell? ((Addr.mk w.heap.size 0 none).add 2)=some (.z d)/\(C.qp a (fun a c=>bif (a.len:Int)==(IntKind.i64.wrap ((IntKind.i64.wrap (3+b))+d)) then ((C.qaO (fun a b=>K a b) c)/\True) else ((K false c)/\True)) c)/\True)/\True)/\(∃b,c.cell? ((Addr.mk w.heap.size 0 none).add 2)=some (.z b)/\(C.qp a (fun a c=>∃d,c.cell? (Addr.mk w.heap.size 0 none)=some (.z d)/\bif (a.len:Int)==(IntKind.i64.wrap ((IntKind.i64.wrap (3+d))+b)) then ((C.qaO (fun a b=>K a b) c)/\True) else ((K false c)/\True)) c)/\(∃d,c.cell? (Addr.mk w.heap.size 0 none)=some (.z d)/\(C.qp a (fun a c=>bif (a.len:Int)==(IntKind.i64.wrap ((IntKind.i64.wrap (3+d))+b)) then ((C.qaO (fun a b=>K a b) c)/\True) else ((K false c)/\True)) c)/\True)/\True)/\True) else (((K false c)/\True)/\(((K false c)/\True)/\(((K false c)/\True)/\True)/\True)/\(((K false c)/\True)/\(((K false c)/\True)/\True)/\True)/\True)) b)/\True))->b d e)->b 0 e))->b d e)->(bif a.isNone then (b true d) else (b c.isNone d))))->f b d)->(bif b !=d then (f true e) else (f (!(a.isNone==c.isNone)) e))) c) a):=okT Tryz.func8 (.v (.v (.v (.v (.y (.y (.r (some [(39,.c .b)]) .done) (.x .w)) (.y (.y (.r (some [(45,.c .b)]) .done) (.x .w)) (.y (.v (.x (.t (some [(7,.c (.i .i64))]) (.y (.v .w) (.x (.x (.v (.y (.r (some [(65,.c .b)]) .done) (.x .w)))))) .u))) (.x (.z (.o 0 14 (.o 1 12 (.o 2 0 (.o 3 0 (.e 4 (.o 5 0 (.o 6 32256 (.o 9 12672 (.o 12 3456 (.f 7 (.o 8 27648 (.o 10 8192 (.o 11 8192 .g21))) (.f 10 (.o 11 8576 (.f 7 (.o 8 24576 .g21) (.e 13 .g18))) (.e 13 (.f 7 (.o 8 19456 (.o 10 0 (.o 11 0 .g24))) (.e 10 (.o 11 384 .g18))))))))))))))))))))))))
theorem S.qaO0 {K w}:Fr (C.qaO K w) (C.qdo (fun a b c d e=>C.qcm a b c d (fun a b c=>∀d:Bool->Pw,(∀(b:Bool) (c:World),(bif b then (K false c) else (C.qz a 0 0 1 20 4 0 1 (fun b c d e f=>Al f (.cells #[.z 0, .y 0, .z 0, .slice none 0 0] 34) fun g=>StL g (.mk f.heap.size 0 none) 0 [.z b, .y c, .z d, .slice e.a e.len e.cap] fun b=>C.qz a 0 1 20 21 2 7 0 (fun b c d e g=>Al g (.cells #[.z 0, .y 0, .z 0, .slice none 0 0] 34) fun h=>StL h (.mk g.heap.size 0 none) 0 [.z b, .y c, .z d, .slice e.a e.len e.cap] fun b=>C.qz a 0 9 21 0 0 0 0 (fun b c d e h=>Al h (.cells #[.z 0, .y 0, .z 0, .slice none 0 0] 34) fun i=>StL i (.mk h.heap.size 0 none) 0 [.z b, .y c, .z d, .slice e.a e.len e.cap] fun b=>C.qp a (fun b c=>C.qz a 0 4 1 0 0 0 0 (fun c d e i j=>Al j (.cells #[.z 0, .y 0, .z 0, .slice none 0 0] 34) fun k=>StL k (.mk j.heap.size 0 none) 0 [.z c, .y d, .z e, .slice i.a i.len i.cap] fun c=>C.qz a 0 18 0 0 0 0 0 (fun c d e i k=>Al k (.cells #[.z 0, .y 0, .z 0, .slice none 0 0] 34) fun l=>StL l (.mk k.heap.size 0 none) 0 [.z c, .y d, .z e, .slice i.a i.len i.cap] fun c=>C.qz a 1 0 0 0 0 0 0 (fun c d e i l=>Al l (.cells #[.z 0, .y 0, .z 0, .slice none 0 0] 34) fun m=>StL m (.mk l.heap.size 0 none) 0 [.z c, .y d, .z e, .slice i.a i.len i.cap] fun c=>C.qH a 0 (fun c d e i m=>Al m (.cells #[.y 0, .z 0, .y 0] 86) fun n=>StL n (.mk m.heap.size 0 none) 0 [.y c, .z d, .y e] fun c=>C.qz a 0 6 2 0 0 0 0 (fun c d e n o=>Al o (.cells #[.z 0, .y 0, .z 0, .slice none 0 0] 34) fun p=>StL p (.mk o.heap.size 0 none) 0 [.z c, .y d, .z e, .slice n.a n.len n.cap] fun c=>C.qz a 0 17 0 0 0 0 0 (fun c d e n p=>Al p (.cells #[.z 0, .y 0, .z 0, .slice none 0 0] 34) fun q=>StL q (.mk p.heap.size 0 none) 0 [.z c, .y d, .z e, .slice n.a n.len n.cap] fun c=>C.qcm 0 0 0 ⟨none,0,0⟩ (fun _ d e=>∃c,e.cell? (Addr.mk f.heap.size 0 none)=some (.z c)/\bif c==0 then (∃c,e.cell? ((Addr.mk f.heap.size 0 none).add 2)=some (.z c)/\bif c==(-1) then (∃c,e.cell? (Addr.mk g.heap.size 0 none)=some (.z c)/\bif c==0 then (∃c,e.cell? (Addr.mk h.heap.size 0 none)=some (.z c)/\bif c==181 then (bif (b.len:Int)==8 then (∃b,e.cell? (Addr.mk j.heap.size 0 none)=some (.z b)/\bif b==0 then (∃b,e.cell? ((Addr.mk j.heap.size 0 none).add 1)=some (.y b)/\bif b==2 then (C.qp a (fun a b=>bif (a.len:Int)==6 then (∃a,b.cell? (Addr.mk k.heap.size 0 none)=some (.z a)/\bif a==180 then (∃a,b.cell? (Addr.mk l.heap.size 0 none)=some (.z a)/\bif a==182 then (LdL b (.mk m.heap.size 0 none) 0 [.u, .o, .u] fun (a c e:Int)=>∃f,EqB Tryz.prog .eql 86 (.tmp 113) (.tmp 114) (.agg #[.y a, .z c, .y e]) (.agg #[.y 0, .z 10, .y 0]) f/\bif f then (bif i then (∃a,b.cell? (Addr.mk o.heap.size 0 none)=some (.z a)/\bif a==0 then (∃a,b.cell? (Addr.mk p.heap.size 0 none)=some (.z a)/\bif a==182 then (K (d==1) b) else (K false b)) else (K false b)) else (K false b)) else (K false b)) else (K false b)) else (K false b)) else (K false b)) e) else (K false e)) else (K false e)) else (K false e)) else (K false e)) else (K false e)) else (K false e)) else (K false e)) c) c) c) c) c) c) c) b) b) b) c))->d b c)->(bif a.isNone then (d true c) else (d (b !=0) c))) e) w):=okT Tryz.func18 (.v (.v (.y (.y .g47 (.x .w)) .g30)))
theorem S.qcV0 {a b c K w}:Fr (C.qcV a b c K w) (∀d:Bool->Pw,(∀(e:Bool) (f:World),(bif e then (K false f) else (∀d:Int->Pw,(∀(e:Int) (f:World),(∃g,b=some g/\∃h,f.cell? (g.add 2)=some (.pointer h)/\∃g,h=some g/\∃h:Sl,f.cell? g=some (.slice h.a h.len h.cap)/\bif decide (e≤(h.len:Int)) then (C.qar a e (fun a c f g h i j k l m n o p q=>Al q (.cells #[.z 0, .z 0, .z 0, .z 0, .y 0, .y 0, .y 0, .y 0, .y 0, .y 0, .y 0, .y 0] 53) fun r=>StL r (.mk q.heap.size 0 none) 0 [.z a, .z c, .z f, .z g, .y h, .y i, .y j, .y k, .y l, .y m, .y n, .y o] fun a=>∃c,b=some c/\∃b,a.cell? (c.add 2)=some (.pointer b)/\C.qbi b e (fun a b c f g h i j k l m n o r=>Al r (.cells #[.z 0, .z 0, .z 0, .z 0, .y 0, .y 0, .y 0, .y 0, .y 0, .y 0, .y 0, .y 0] 53) fun s=>StL s (.mk r.heap.size 0 none) 0 [.z a, .z b, .z c, .z f, .y g, .y h, .y i, .y j, .y k, .y l, .y m, .y n] fun a=>∀b:Bool->Pw,(∀(a:Bool) (c:World),(bif a then (K false c) else (d (IntKind.i64.wrap (e+1)) c))->b a c)->(LdL a (.mk q.heap.size 0 none) 0 [.o, .o, .o, .o, .u, .u, .u, .u, .u, .u, .u, .u] fun (c d e f g h i j k l m n:Int)=>LdL a (.mk r.heap.size 0 none) 0 [.o, .o, .o, .o, .u, .u, .u, .u, .u, .u, .u, .u] fun (q r s t u v w x y z A B:Int)=>∃D,EqB Tryz.prog .neq 53 (.tmp 81) (.tmp 82) (.agg #[.z c, .z d, .z e, .z f, .y g, .y h, .y i, .y j, .y k, .y l, .y m, .y n]) (.agg #[.z q, .z r, .z s, .z t, .y u, .y v, .y w, .y x, .y y, .y z, .y A, .y B]) D/\bif D then (b true a) else (b (p !=o) a))) a) f) else (∀d:Int->Pw,(∀(e:Int) (f:World),(∃g,b=some g/\∃h:Sl,f.cell? (g.add 4)=some (.slice h.a h.len h.cap)/\bif decide (e<(h.len:Int)) then (C.qH a e (fun a c f g h=>Al h (.cells #[.y 0, .z 0, .y 0] 86) fun i=>StL i (.mk h.heap.size 0 none) 0 [.y a, .z c, .y f] fun a=>∀c:Bool->Pw,(∀(a:Bool) (b:World),(bif a then (K false b) else (d (IntKind.i64.wrap (e+1)) b))->c a b)->(Dr a fun a=>bif !g then (c true a) else (LdL a (.mk h.heap.size 0 none) 0 [.u, .o, .u] fun (d f g:Int)=>∃h,b=some h/\∃b:Sl,a.cell? (h.add 4)=some (.slice b.a b.len b.cap)/\∃h,b.a=some h/\0≤e/\e<(b.len:Int)/\LdL a (h.add (e.toNat*3)) 0 [.u, .o, .u] fun (b e h:Int)=>∃i,EqB Tryz.prog .neq 86 (.tmp 107) (.tmp 114) (.agg #[.y d, .z f, .y g]) (.agg #[.y b, .z e, .y h]) i/\c i a))) f) else (∀d:Int->Pw,(∀(e:Int) (f:World),(∃g,b=some g/\∃h:Sl,f.cell? (g.add 5)=some (.slice h.a h.len h.cap)/\bif decide (e<(h.len:Int)) then (C.qdt a e (fun a c f=>∃g,b=some g/\∃b:Sl,f.cell? (g.add 5)=some (.slice b.a b.len b.cap)/\∃g,b.a=some g/\0≤e/\e<(b.len:Int)/\∃b,f.cell? (g.add (e.toNat*1))=some (.pointer b)/\C.qds b (fun b f g=>∀h:Bool->Pw,(∀(a:Bool) (b:World),(bif a then (K false b) else (d (IntKind.i64.wrap (e+1)) b))->h a b)->(C.qdy a b (fun a b=>bif !a then (h true b) else (h (!(c==f)) b)) g)) f) f) else (∀d:Int->Pw,(∀(e:Int) (f:World),(∃g,b=some g/\∃h:Sl,f.cell? (g.add 6)=some (.slice h.a h.len h.cap)/\bif decide (e<(h.len:Int)) then (C.qdu a e (fun a c f=>∃g,b=some g/\∃b:Sl,f.cell? (g.add 6)=some (.slice b.a b.len b.cap)/\∃g,b.a=some g/\0≤e/\e<(b.len:Int)/\∃b,f.cell? (g.add (e.toNat*1))=some (.pointer b)/\C.qdv b (fun b f g=>∀h:Bool->Pw,(∀(a:Bool) (b:World),(bif a then (K false b) else (d (IntKind.i64.wrap (e+1)) b))->h a b)->(bif a !=b then (h true g) else (h (!(c==f)) g))) f) f) else (∀d:Int->Pw,(∀(e:Int) (f:World),(∃g,b=some g/\∃h:Sl,f.cell? (g.add 7)=some (.slice h.a h.len h.cap)/\bif decide (e≤(h.len:Int)) then (Al f (.cells #[] 61) fun c=>∃g,b=some g/\∃h:Sl,c.cell? (g.add 7)=some (.slice h.a h.len h.cap)/\∀g:Sl->Pw,(∀(b:Sl) (c:World),(C.qaC a e (fun a c=>C.qcW a b (fun a b=>bif !a then (K false b) else (d (IntKind.i64.wrap (e+1)) b)) c) c)->g b c)->(bif decide (e<(h.len:Int)) then (∃a,b=some a/\∃b:Sl,c.cell? (a.add 7)=some (.slice b.a b.len b.cap)/\∃a,b.a=some a/\0≤e/\e<(b.len:Int)/\∃b,c.cell? (a.add (e.toNat*1))=some (.pointer b)/\C.qbj b (fun a b=>g a b) c) else (g ⟨some (.mk f.heap.size 0 none),0,0⟩ c))) else (∀d:Int->Pw,(∀(e:Int) (f:World),(bif decide (e≤c) then (C.qaq a e (fun a c f=>∃g,b=some g/\∃b,f.cell? (g.add 2)=some (.pointer b)/\C.qU b e (fun b f g=>∀h:Bool->Pw,(∀(a:Bool) (b:World),(bif a then (K false b) else (d (IntKind.i64.wrap (e+1)) b))->h a b)->(bif a !=b then (h true g) else (h (!(c==f)) g))) f) f) else (K true f))->d e f)->d 0 f))->d e f)->d 0 f))->d e f)->d 0 f))->d e f)->d 0 f))->d e f)->d 0 f))->d e f)->d 0 f))->d e f)->(Dr w fun c=>∃e,b=some e/\∃f,c.cell? e=some (.pointer f)/\(C.qp a (fun c g=>g.cell? e=some (.pointer f)/\(C.qbA f (fun e f=>(C.qcT c e (fun c e=>bif !c then (((d true e)/\True)/\(((d true e)/\True)/\(((d true e)/\True)/\True)/\True)/\True) else (∃c,b=some c/\(C.qae a (fun a b=>∃e,b.cell? (c.add 1)=some (.pointer e)/\∃c,e=some c/\∃e:Sl,b.cell? c=some (.slice e.a e.len e.cap)/\(C.qco a e (fun a b=>d (!a) b) b)/\True) e)/\(∃b,e.cell? (c.add 1)=some (.pointer b)/\∃c,b=some c/\(C.qae a (fun a b=>∃e:Sl,b.cell? c=some (.slice e.a e.len e.cap)/\(C.qco a e (fun a b=>d (!a) b) b)/\True) e)/\(∃b:Sl,e.cell? c=some (.slice b.a b.len b.cap)/\(C.qae a (fun a c=>(C.qco a b (fun a b=>d (!a) b) c)/\True) e)/\True)/\True)/\True)) f)/\True) g)/\True) c)/\True)):=okT Tryz.func25 (.v (.y (.y (.r (some [(53,.c .b)]) (.o 0 60 (.o 2 2 (.o 3 2 (.o 4 2 (.hold 5 2 3667775 (.e 1 (.e 6 (.e 7 (.o 8 0 (.o 9 0 (.o 10 520192 (.o 12 2048 (.o 13 2048 (.o 14 2048 (.f 11 (.o 15 0 (.o 16 0 (.o 17 0 (.o 18 0 .g42)))) (.e 15 (.o 16 2048 (.o 17 2048 (.f 11 (.o 18 0 .g42) (.e 18 (.e 11 .g42)))))))))))))))))))))) (.x .w)) (.y (.v (.x (.t (some [(7,.c (.i .i64))]) (.y (.v .w) (.x (.x (.v (.v (.y (.r (some [(88,.c .b)]) .done) (.x .w))))))) .u))) (.y (.v (.x (.t (some [(12,.c (.i .i64))]) (.y (.v .w) (.x (.x (.v (.y (.r (some [(116,.c .b)]) (.o 0 0 (.o 1 0 (.o 2 0 (.o 3 2032 (.o 4 256 (.o 5 256 (.o 6 256 (.o 7 256 (.o 8 0 (.o 9 0 (.o 10 0 (.o 11 0 (.o 12 0 .done)))))))))))))) (.x .w)))))) .u))) (.y (.v (.x (.t (some [(15,.c (.i .i64))]) (.y (.v .w) (.x (.x (.v (.v (.y (.r (some [(151,.c .b)]) .done) (.x .w))))))) .u))) (.y (.v (.x (.t (some [(20,.c (.i .i64))]) (.y (.v .w) (.x (.x (.v (.v (.y (.r (some [(185,.c .b)]) .done) (.x .w))))))) .u))) (.y (.v (.x (.t (some [(25,.c (.i .i64))]) (.y (.v .w) (.x (.x (.v (.y (.v (.t (some [(26,.c .s)]) .u .u)) (.v (.x .w))))))) .u))) (.y (.v (.x (.t (some [(27,.c (.i .i64))]) (.y (.v .w) (.x (.x (.v (.v (.y (.r (some [(244,.c .b)]) .done) (.x .w))))))) .u))) .w))))))))
theorem S.qdo0 {K w}:Fr (C.qdo K w) (Al w (.cells #[.z 0, .z 0, .z 0, .slice none 0 0] 28) fun a=>Al a (.cells #[.z 5] 3) fun b=>StL b (.mk w.heap.size 0 none) 0 [.z 1, .z 10, .z 2, .slice (some (.mk a.heap.size 0 none)) 1 1] fun a=>LdL a (.mk w.heap.size 0 none) 0 [.o, .o, .o, .s] fun (b c d:Int) (e:Sl)=>K b c d e a):=okT Tryz.func54 (.v .w)
theorem S.qcT0 {a b K w}:Fr (C.qcT a b K w) (bif (a.len:Int) !=(b.len:Int) then (K false w) else (∀c:Int->Pw,(∀(d:Int) (e:World),(bif decide (d<(a.len:Int)) then (Dr e fun e=>∃f,a.a=some f/\0≤d/\d<(a.len:Int)/\LdL e (f.add (d.toNat*8)) 0 [.o, .o, .o, .o, .o, .u, .u, .o] fun (a f g h i j k l:Int)=>∃m,b.a=some m/\0≤d/\d<(b.len:Int)/\LdL e (m.add (d.toNat*8)) 0 [.o, .o, .o, .o, .o, .u, .u, .o] fun (b m n o p q r s:Int)=>∃t,EqB Tryz.prog .neq 44 (.tmp 20) (.tmp 24) (.agg #[.z a, .z f, .z g, .z h, .z i, .y j, .y k, .z l]) (.agg #[.z b, .z m, .z n, .z o, .z p, .y q, .y r, .z s]) t/\bif t then (K false e) else (c (IntKind.i64.wrap (d+1)) e)) else (K true e))->c d e)->c 0 w)):=okT Tryz.func17 .g4
theorem S.qbz0 {a b K w}:Fr (C.qbz a b K w) (∀c:Bool->Pw,(∀(d:Bool) (e:World),(bif d then (K 0 1 e) else (∃c,a=some c/\∃d:Sl,e.cell? c=some (.slice d.a d.len d.cap)/\bif decide ((d.len:Int)≥64) then (K 0 2 e) else (∀c:Pw,(∀b:World,(∃c,a=some c/\∃a:Sl,b.cell? c=some (.slice a.a a.len a.cap)/\K (IntKind.i64.wrap ((a.len:Int)-1)) 0 b)->c b)->(Dr e fun d=>∃e,a=some e/\(∃f:Sl,d.cell? e=some (.slice f.a f.len f.cap)/\(C.qcP b (fun b d=>(∃(e:Sl) (g:World),MkSlR Tryz.prog 233 (.z (IntKind.i64.wrap b)) (.z (IntKind.i64.wrap b)) d e g/\(Al g (.cells #[.slice e.a e.len e.cap] 233) fun b=>(∃d e,AppR Tryz.prog [139,139] 139 (.slice f.a f.len f.cap) (.slice (some (.mk g.heap.size 0 none)) 1 1) b d e/\∃b,a=some b/\(St e b (.slice d.a d.len d.cap) fun a=>c a)/\True)/\True)/\True)/\True) d)/\True)/\(C.qcP b (fun b d=>(∃f:Sl,d.cell? e=some (.slice f.a f.len f.cap)/\(∃(e:Sl) (g:World),MkSlR Tryz.prog 233 (.z (IntKind.i64.wrap b)) (.z (IntKind.i64.wrap b)) d e g/\(Al g (.cells #[.slice e.a e.len e.cap] 233) fun b=>(∃d e,AppR Tryz.prog [139,139] 139 (.slice f.a f.len f.cap) (.slice (some (.mk g.heap.size 0 none)) 1 1) b d e/\∃b,a=some b/\(St e b (.slice d.a d.len d.cap) fun a=>c a)/\True)/\True)/\True)/\True)/\(∃(f:Sl) (g:World),MkSlR Tryz.prog 233 (.z (IntKind.i64.wrap b)) (.z (IntKind.i64.wrap b)) d f g/\∃b:Sl,g.cell? e=some (.slice b.a b.len b.cap)/\(Al g (.cells #[.slice f.a f.len f.cap] 233) fun d=>(∃e f,AppR Tryz.prog [139,139] 139 (.slice b.a b.len b.cap) (.slice (some (.mk g.heap.size 0 none)) 1 1) d e f/\∃b,a=some b/\(St f b (.slice e.a e.len e.cap) fun a=>c a)/\True)/\True)/\True)/\True) d)/\True))))->c d e)->(bif decide (b<1) then (c true w) else (c (decide (b>8)) w))):=okT Tryz.func63 (.v (.y (.y (.r (some [(11,.c .b)]) .done) (.x .w)) (.y (.v (.x .w)) (.y (.r (some []) (.o 0 2046 (.o 1 992 (.o 2 992 (.o 3 992 (.o 5 16 (.f 4 (.e 6 (.o 7 0 .g33)) (.e 6 (.o 7 16 (.f 4 .g33 (.e 8 (.o 4 512 (.e 9 (.e 10 .g41)))))))))))))) .w))))
theorem S.qbA0 {a K w}:Fr (C.qbA a K w) (Al w (.cells #[] 44) fun b=>∀c:Sl->Int->Pw,(∀(b:Sl) (d:Int) (e:World),(∃f,a=some f/\∃g:Sl,e.cell? f=some (.slice g.a g.len g.cap)/\bif decide (d<(g.len:Int)) then (∀f:Sl->Int->Pw,(∀(b:Sl) (e:Int) (g:World),(∃h,a=some h/\∃i:Sl,g.cell? h=some (.slice i.a i.len i.cap)/\∃h,i.a=some h/\0≤d/\d<(i.len:Int)/\∃i:Sl,g.cell? (h.add (d.toNat*1))=some (.slice i.a i.len i.cap)/\bif decide (e<(i.len:Int)) then (∃c,a=some c/\∃h:Sl,g.cell? c=some (.slice h.a h.len h.cap)/\∃c,h.a=some c/\0≤d/\d<(h.len:Int)/\∃h:Sl,g.cell? (c.add (d.toNat*1))=some (.slice h.a h.len h.cap)/\∃c,h.a=some c/\0≤e/\e<(h.len:Int)/\∃h,g.cell? (c.add (e.toNat*6))=some (.z h)/\bif h !=0 then (∃c,a=some c/\∃a:Sl,g.cell? c=some (.slice a.a a.len a.cap)/\∃c,a.a=some c/\0≤d/\d<(a.len:Int)/\∃a:Sl,g.cell? (c.add (d.toNat*1))=some (.slice a.a a.len a.cap)/\∃c,a.a=some c/\0≤e/\e<(a.len:Int)/\LdL g (c.add (e.toNat*6)) 0 [.o, .o, .o, .u, .u, .o] fun (a c h i j k:Int)=>Al g (.cells #[.z d, .z e, .z a, .z c, .z h, .y i, .y j, .z k] 44) fun a=>∃c d,AppR Tryz.prog [29,29] 29 (.slice b.a b.len b.cap) (.slice (some (.mk g.heap.size 0 none)) 1 1) a c d/\f c (IntKind.i64.wrap (e+1)) d) else (f b (IntKind.i64.wrap (e+1)) g)) else (c b (IntKind.i64.wrap (d+1)) g))->f b e g)->f b 0 e) else (K b e))->c b d e)->c ⟨some (.mk w.heap.size 0 none),0,0⟩ 0 b):=okT Tryz.func68 (.v (.v (.y (.v (.x (.t (some [(3,.c .s),(4,.c (.i .i64))]) (.y (.v .w) .g15) .u))) .w)))
theorem S.qbQ0 {a b c d e f g h i K w}:Fr (C.qbQ a b c d e f g h i K w) (Al w (.cells #[.z b, .z c] 40) fun b=>Al b (.cells #[.z d, .z e, .z f, .y g, .y h, .z i] 42) fun c=>LdL c (.mk w.heap.size 0 none) 0 [.o, .o] fun (d e:Int)=>C.qci a d e (fun c d=>bif !c then (K 50 d) else (LdL d (.mk b.heap.size 0 none) 0 [.o, .o, .o, .u, .u, .o] fun (c e f g h i:Int)=>C.qcQ c e f g h i (fun c d=>bif c !=0 then (K c d) else (∃c,d.cell? (Addr.mk b.heap.size 0 none)=some (.z c)/\bif c==0 then (K 1 d) else (Dr d fun c=>∃d,a=some d/\∃e:Sl,c.cell? d=some (.slice e.a e.len e.cap)/\∃d,c.cell? (Addr.mk w.heap.size 0 none)=some (.z d)/\∃f,e.a=some f/\0≤d/\d<(e.len:Int)/\∃e:Sl,c.cell? (f.add (d.toNat*1))=some (.slice e.a e.len e.cap)/\∃d,c.cell? ((Addr.mk w.heap.size 0 none).add 1)=some (.z d)/\∃f,e.a=some f/\0≤d/\d<(e.len:Int)/\∃e,c.cell? (f.add (d.toNat*6))=some (.z e)/\bif e !=0 then (K 51 c) else (Dr c fun c=>∃d,a=some d/\∃a:Sl,c.cell? d=some (.slice a.a a.len a.cap)/\∃d,c.cell? (Addr.mk w.heap.size 0 none)=some (.z d)/\∃e,a.a=some e/\0≤d/\d<(a.len:Int)/\∃a:Sl,c.cell? (e.add (d.toNat*1))=some (.slice a.a a.len a.cap)/\∃d,c.cell? ((Addr.mk w.heap.size 0 none).add 1)=some (.z d)/\LdL c (.mk b.heap.size 0 none) 0 [.o, .o, .o, .u, .u, .o] fun (b e f g h i:Int)=>∃j,a.a=some j/\0≤d/\d<(a.len:Int)/\(StL c (j.add (d.toNat*6)) 0 [.z b, .z e, .z f, .y g, .y h, .z i] fun a=>K 0 a)/\True)))) d)) c):=okT Tryz.func138 (.v (.y (.v (.x .w)) (.v (.y (.v (.x .w)) (.y (.v (.x .w)) (.y (.y (.z (.o 0 816 (.o 1 816 (.o 2 816 (.o 3 816 (.o 4 768 (.o 5 768 (.o 6 768 (.o 7 768 (.o 8 0 .g34)))))))))) (.x .w)) (.y (.z (.o 0 1840 (.o 1 1840 (.o 2 1840 (.o 3 1840 (.o 4 1792 (.o 5 1792 (.o 6 1792 (.o 7 1792 (.o 8 1024 (.o 9 1024 (.o 10 0 (.o 11 0 (.e 12 .done)))))))))))))) .w)))))))
theorem S.qci0 {a b c K w}:Fr (C.qci a b c K w) (Al w (.cells #[.z b, .z c] 40) fun b=>Dr b fun b=>∃c,b.cell? (Addr.mk w.heap.size 0 none)=some (.z c)/\bif decide (c≥0) then (∃c,b.cell? (Addr.mk w.heap.size 0 none)=some (.z c)/\∃d,a=some d/\∃e:Sl,b.cell? d=some (.slice e.a e.len e.cap)/\bif decide (c<(e.len:Int)) then (∃c,b.cell? ((Addr.mk w.heap.size 0 none).add 1)=some (.z c)/\bif decide (c≥0) then (∃c,b.cell? ((Addr.mk w.heap.size 0 none).add 1)=some (.z c)/\∃d,a=some d/\∃a:Sl,b.cell? d=some (.slice a.a a.len a.cap)/\∃d,b.cell? (Addr.mk w.heap.size 0 none)=some (.z d)/\∃e,a.a=some e/\0≤d/\d<(a.len:Int)/\∃a:Sl,b.cell? (e.add (d.toNat*1))=some (.slice a.a a.len a.cap)/\K (decide (c<(a.len:Int))) b) else (K false b)) else (K false b)) else (K false b)):=okT Tryz.func229 (.v (.x (.z (.o 0 0 (.o 1 0 (.o 2 0 (.o 3 0 (.o 4 1984 (.o 5 1984 (.o 6 0 (.o 7 0 (.o 8 0 (.o 9 0 (.o 10 0 (.o 11 0 (.o 12 0 (.o 13 0 (.o 14 0 (.o 15 0 (.o 16 0 (.o 17 0 (.o 18 0 (.o 19 1071644672 (.o 20 1071644672 (.o 21 100663296 (.o 22 100663296 (.o 23 100663296 (.o 24 100663296 (.o 25 0 (.o 26 0 (.o 27 0 (.o 28 0 (.o 29 0 (.o 30 0 (.o 31 0 (.o 32 0 .done))))))))))))))))))))))))))))))))))))
theorem S.qco0 {a b K w}:Fr (C.qco a b K w) (bif (a.len:Int) !=(b.len:Int) then (K false w) else (∀c:Int->Pw,(∀(d:Int) (e:World),(bif decide (d<(a.len:Int)) then (Dr e fun e=>∃f,a.a=some f/\0≤d/\d<(a.len:Int)/\LdL e (f.add (d.toNat*2)) 0 [.o, .o] fun (a f:Int)=>∃g,b.a=some g/\0≤d/\d<(b.len:Int)/\LdL e (g.add (d.toNat*2)) 0 [.o, .o] fun (b g:Int)=>∃h,EqB Tryz.prog .neq 40 (.tmp 20) (.tmp 24) (.agg #[.z a, .z f]) (.agg #[.z b, .z g]) h/\bif h then (K false e) else (c (IntKind.i64.wrap (d+1)) e)) else (K true e))->c d e)->c 0 w)):=okT Tryz.func31 .g4
theorem S.qbR0 {a b c K w}:Fr (C.qbR a b c K w) (Al w (.cells #[.z b, .z c] 40) fun b=>LdL b (.mk w.heap.size 0 none) 0 [.o, .o] fun (c d:Int)=>C.qbH a c d (fun b c=>bif decide (b≥0) then (K 70 c) else (Dr c fun b=>∃c,a=some c/\∃d:Sl,b.cell? c=some (.slice d.a d.len d.cap)/\LdL b (.mk w.heap.size 0 none) 0 [.o, .o] fun (c e:Int)=>(C.qcj a (d.len:Int) c e 0 (fun a=>K 0 a) b)/\True)) b):=okT Tryz.func139 (.v (.y (.v (.x .w)) (.y (.z (.o 0 126 (.o 1 64 (.o 2 64 (.o 3 64 (.o 4 64 (.o 5 64 (.o 6 0 (.e 7 .done))))))))) .w)))
theorem S.qbH0 {a b c K w}:Fr (C.qbH a b c K w) (Al w (.cells #[.z b, .z c] 40) fun b=>∀c:Int->Pw,(∀(b:Int) (d:World),(∃e,a=some e/\∃f:Sl,d.cell? e=some (.slice f.a f.len f.cap)/\bif decide (b<(f.len:Int)) then (Dr d fun d=>∃e,a=some e/\∃a:Sl,d.cell? e=some (.slice a.a a.len a.cap)/\∃e,a.a=some e/\0≤b/\b<(a.len:Int)/\LdL d (e.add (b.toNat*2)) 0 [.o, .o] fun (a e:Int)=>LdL d (.mk w.heap.size 0 none) 0 [.o, .o] fun (f g:Int)=>∃h,EqB Tryz.prog .eql 40 (.tmp 21) (.tmp 22) (.agg #[.z a, .z e]) (.agg #[.z f, .z g]) h/\bif h then (K b d) else (c (IntKind.i64.wrap (b+1)) d)) else (K (-1) d))->c b d)->c 0 b):=okT Tryz.func231 (.v (.y (.v (.x (.t (some [(5,.c (.i .i64))]) (.y (.v .w) (.x (.x (.y (.z (.o 0 144 (.o 1 144 (.o 2 144 (.o 3 144 (.o 4 128 (.o 5 128 (.o 6 128 (.o 7 0 (.o 8 0 .done)))))))))) (.x .w))))) .u))) .w))
theorem S.qcj0 {a b c d e K w}:Fr (C.qcj a b c d e K w) (Al w (.cells #[.z c, .z d] 40) fun c=>Al c (.cells #[] 40) fun d=>Al d (.cells #[] 3) fun f=>∀g:Sl->Sl->Int->Pw,(∀(c d:Sl) (f:Int) (h:World),(∃i,a=some i/\∃j:Sl,h.cell? i=some (.slice j.a j.len j.cap)/\bif decide (f≤(j.len:Int)) then (∀i:Sl->Sl->Pw,(∀(b c:Sl) (d:World),(∃e,a=some e/\∃h:Sl,d.cell? e=some (.slice h.a h.len h.cap)/\bif decide (f<(h.len:Int)) then (∃e,a=some e/\∃h:Sl,d.cell? e=some (.slice h.a h.len h.cap)/\∃e,h.a=some e/\0≤f/\f<(h.len:Int)/\LdL d (e.add (f.toNat*2)) 0 [.o, .o] fun (e h:Int)=>Al d (.cells #[.z e, .z h] 40) fun e=>∃h i,AppR Tryz.prog [79,79] 79 (.slice b.a b.len b.cap) (.slice (some (.mk d.heap.size 0 none)) 1 1) e h i/\∃b,a=some b/\∃a:Sl,i.cell? (b.add 1)=some (.slice a.a a.len a.cap)/\∃b,a.a=some b/\0≤f/\f<(a.len:Int)/\∃a,i.cell? (b.add (f.toNat*1))=some (.z a)/\Al i (.cells #[.z a] 3) fun a=>∃b d,AppR Tryz.prog [26,26] 26 (.slice c.a c.len c.cap) (.slice (some (.mk i.heap.size 0 none)) 1 1) a b d/\g h b (IntKind.i64.wrap (f+1)) d) else (g b c (IntKind.i64.wrap (f+1)) d))->i b c d)->(bif f==b then (LdL h (.mk w.heap.size 0 none) 0 [.o, .o] fun (a b:Int)=>Al h (.cells #[.z a, .z b] 40) fun a=>∃b f,AppR Tryz.prog [79,79] 79 (.slice c.a c.len c.cap) (.slice (some (.mk h.heap.size 0 none)) 1 1) a b f/\Al f (.cells #[.z e] 3) fun a=>∃c e,AppR Tryz.prog [26,26] 26 (.slice d.a d.len d.cap) (.slice (some (.mk f.heap.size 0 none)) 1 1) a c e/\i b c e) else (i c d h))) else (∃b,a=some b/\St h b (.slice c.a c.len c.cap) fun b=>∃c,a=some c/\St b (c.add 1) (.slice d.a d.len d.cap) fun a=>K a))->g c d f h)->g ⟨some (.mk c.heap.size 0 none),0,0⟩ ⟨some (.mk d.heap.size 0 none),0,0⟩ 0 f):=okT Tryz.func232 (.v (.v (.y (.v (.x (.t (some [(8,.c .s),(9,.c .s),(10,.c (.i .i64))]) (.y (.v .w) (.x (.x (.y (.v (.t (some [(8,.c .s),(9,.c .s)]) .w .u)) (.v (.x .w)))))) .u))) .w)))
theorem S.qcW0 {a b K w}:Fr (C.qcW a b K w) (bif (a.len:Int) !=(b.len:Int) then (K false w) else (∀c:Int->Pw,(∀(d:Int) (e:World),(bif decide (d<(a.len:Int)) then (Dr e fun e=>∃f,a.a=some f/\0≤d/\d<(a.len:Int)/\LdL e (f.add (d.toNat*3)) 0 [.o, .o, .o] fun (a f g:Int)=>∃h,b.a=some h/\0≤d/\d<(b.len:Int)/\LdL e (h.add (d.toNat*3)) 0 [.o, .o, .o] fun (b h i:Int)=>∃j,EqB Tryz.prog .neq 61 (.tmp 20) (.tmp 24) (.agg #[.z a, .z f, .z g]) (.agg #[.z b, .z h, .z i]) j/\bif j then (K false e) else (c (IntKind.i64.wrap (d+1)) e)) else (K true e))->c d e)->c 0 w)):=okT Tryz.func32 .g4
theorem S.qbj0 {a K w}:Fr (C.qbj a K w) (Al w (.cells #[] 61) fun b=>∀c:Sl->Int->Pw,(∀(b:Sl) (d:Int) (e:World),(∀f:Bool->Pw,(∀(e:Bool) (g:World),(bif e then (∀e:Sl->Int->Pw,(∀(b:Sl) (f:Int) (g:World),(∃h,a=some h/\∃i:Sl,g.cell? (h.add 1)=some (.slice i.a i.len i.cap)/\bif decide (f<(i.len:Int)) then (∃c,a=some c/\∃h:Sl,g.cell? (c.add 1)=some (.slice h.a h.len h.cap)/\∃c,h.a=some c/\0≤f/\f<(h.len:Int)/\∃h,g.cell? (c.add (f.toNat*3))=some (.z h)/\bif h==d then (∃c,a=some c/\∃a:Sl,g.cell? (c.add 1)=some (.slice a.a a.len a.cap)/\∃c,a.a=some c/\0≤f/\f<(a.len:Int)/\LdL g (c.add (f.toNat*3)) 0 [.o, .o, .o] fun (a c d:Int)=>Al g (.cells #[.z a, .z c, .z d] 61) fun a=>∃c d,AppR Tryz.prog [56,56] 56 (.slice b.a b.len b.cap) (.slice (some (.mk g.heap.size 0 none)) 1 1) a c d/\e c (IntKind.i64.wrap (f+1)) d) else (e b (IntKind.i64.wrap (f+1)) g)) else (c b (IntKind.i64.wrap (d+1)) g))->e b f g)->e b 0 g) else (K b g))->f e g)->(bif decide (d<4096) then (∃c,a=some c/\∃a:Sl,e.cell? (c.add 1)=some (.slice a.a a.len a.cap)/\f (decide ((b.len:Int)<(a.len:Int))) e) else (f false e)))->c b d e)->c ⟨some (.mk w.heap.size 0 none),0,0⟩ 0 b):=okT Tryz.func73 (.v (.v (.y (.v (.x (.t (some [(3,.c .s),(4,.c (.i .i64))]) (.y (.y (.r (some [(18,.c .b)]) .done) .w) .g15) .u))) .w)))
theorem S.qcU0 {a b c d K w}:Fr (C.qcU a b c d K w) (Al w (.cells #[.z a, .z b, .z c, .slice d.a d.len d.cap] 28) fun a=>∀b:Bool->Pw,(∀(a:Bool) (c:World),(bif a then (K none 1 c) else (∀a:Int->Pw,(∀(b:Int) (c:World),(∃d:Sl,c.cell? ((Addr.mk w.heap.size 0 none).add 3)=some (.slice d.a d.len d.cap)/\bif decide (b<(d.len:Int)) then (∀d:Bool->Pw,(∀(c:Bool) (e:World),(bif c then (K none 1 e) else (a (IntKind.i64.wrap (b+1)) e))->d c e)->(∃a:Sl,c.cell? ((Addr.mk w.heap.size 0 none).add 3)=some (.slice a.a a.len a.cap)/\∃e,a.a=some e/\0≤b/\b<(a.len:Int)/\∃a,c.cell? (e.add (b.toNat*1))=some (.z a)/\bif decide (a<0) then (d true c) else (∃a:Sl,c.cell? ((Addr.mk w.heap.size 0 none).add 3)=some (.slice a.a a.len a.cap)/\∃e,a.a=some e/\0≤b/\b<(a.len:Int)/\∃a,c.cell? (e.add (b.toNat*1))=some (.z a)/\d (decide (a>255)) c))) else (∃a,c.cell? (Addr.mk w.heap.size 0 none)=some (.z a)/\C.qdg a (fun a _ c=>C.qdh 8 (fun b _ d=>Al d (.cells #[.slice none 0 0] 141) fun c=>Al c (.cells #[.slice none 0 0, .slice none 0 0] 143) fun e=>∃f,e.cell? ((Addr.mk w.heap.size 0 none).add 1)=some (.z f)/\Al e (.cells #[.y 0, .z f, .y 0] 86) fun f=>Al f (.cells #[.slice none 0 0, .slice none 0 0] 147) fun g=>Al g (.cells #[.pointer (some (.mk f.heap.size 0 none))] 144) fun f=>Al f (.cells #[.pointer (some (.mk d.heap.size 0 none)), .pointer (some (.mk c.heap.size 0 none)), .pointer a, .pointer b, .slice (some (.mk e.heap.size 0 none)) 1 1, .slice none 0 0, .slice none 0 0, .slice (some (.mk g.heap.size 0 none)) 1 1, .z 0, .z 0, .z 0, .y 0, .z 0, .slice none 0 0] 103) fun a=>∃b,some (Addr.mk f.heap.size 0 none)=some b/\∃c,a.cell? b=some (.pointer c)/\C.qbz c 6 (fun _ _ c=>C.qM (some (.mk f.heap.size 0 none)) 2 0 (fun a=>C.qM (some (.mk f.heap.size 0 none)) 1 0 (fun a=>∀b:Int->Pw,(∀(a:Int) (c:World),(∃d,c.cell? (Addr.mk w.heap.size 0 none)=some (.z d)/\bif decide (a<d) then (Dr c fun c=>∃d,some (Addr.mk f.heap.size 0 none)=some d/\∃e,c.cell? (d.add 2)=some (.pointer e)/\∃d:Sl,c.cell? ((Addr.mk w.heap.size 0 none).add 3)=some (.slice d.a d.len d.cap)/\∃g,d.a=some g/\0≤a/\a<(d.len:Int)/\∃d,c.cell? (g.add (a.toNat*1))=some (.z d)/\(C.qaR e d a (fun _ _ e=>∃c,some (Addr.mk f.heap.size 0 none)=some c/\∃d,e.cell? (c.add 2)=some (.pointer d)/\C.qat d a (fun _ d=>∃c,some (Addr.mk f.heap.size 0 none)=some c/\∃e,d.cell? (c.add 2)=some (.pointer e)/\C.qaS e a (fun _ _ e=>C.qM (some (.mk f.heap.size 0 none)) 3 a (fun c=>b (IntKind.i64.wrap (a+1)) c) e) d) e) c)/\True) else (C.qM (some (.mk f.heap.size 0 none)) 8 0 (fun a=>∀b:Int->Pw,(∀(a:Int) (c:World),(∃d,c.cell? ((Addr.mk w.heap.size 0 none).add 2)=some (.z d)/\bif decide (a<d) then (C.qM (some (.mk f.heap.size 0 none)) 9 a (fun c=>b (IntKind.i64.wrap (a+1)) c) c) else (K (some (.mk f.heap.size 0 none)) 0 c))->b a c)->b 0 a) c))->b a c)->b 0 a) a) c) a) c) c))->a b c)->a 0 c))->b a c)->(∃c,a.cell? (Addr.mk w.heap.size 0 none)=some (.z c)/\bif decide (c<1) then (b true a) else (∃c,a.cell? (Addr.mk w.heap.size 0 none)=some (.z c)/\bif decide (c>8) then (b true a) else (∃c,a.cell? ((Addr.mk w.heap.size 0 none).add 1)=some (.z c)/\bif decide (c<4) then (b true a) else (∃c,a.cell? ((Addr.mk w.heap.size 0 none).add 1)=some (.z c)/\bif decide (c>20) then (b true a) else (∃c,a.cell? ((Addr.mk w.heap.size 0 none).add 2)=some (.z c)/\bif decide (c<0) then (b true a) else (∃c,a.cell? ((Addr.mk w.heap.size 0 none).add 2)=some (.z c)/\bif decide (c>8) then (b true a) else (∃c:Sl,a.cell? ((Addr.mk w.heap.size 0 none).add 3)=some (.slice c.a c.len c.cap)/\∃d,a.cell? (Addr.mk w.heap.size 0 none)=some (.z d)/\b ((c.len:Int) !=d) a)))))))):=okT Tryz.func24 (.v (.y (.y (.r (some [(47,.c .b)]) .done) (.x .w)) (.y (.v (.x (.t (some [(4,.c (.i .i64))]) (.y (.v .w) (.x (.x (.y (.r (some [(68,.c .b)]) .done) (.x .w))))) .u))) (.v (.v (.v (.v (.v (.v (.y (.v (.x (.t (some [(10,.c (.i .i64))]) (.y (.v .w) (.x (.x (.y (.z (.o 0 1008 (.o 1 1008 (.o 2 1008 (.o 3 1008 (.o 4 576 (.o 5 576 (.o 6 512 (.o 7 512 (.o 8 512 (.o 9 0 (.e 10 .done)))))))))))) (.v .w))))) .u))) (.v (.y (.v (.x (.t (some [(11,.c (.i .i64))]) (.y (.v .w) (.x .w)) .u))) .w))))))))))))
theorem S.qM0 {a b c K w}:Fr (C.qM a b c K w) (∃d,a=some d/\∃e,w.cell? (d.add 1)=some (.pointer e)/\∃d,e=some d/\∃e:Sl,w.cell? d=some (.slice e.a e.len e.cap)/\Al w (.cells #[.z 0, .z 0] 40) fun d=>StL d (.mk w.heap.size 0 none) 0 [.z 0, .z (e.len:Int)] fun d=>Dr d fun d=>∃e,a=some e/\∃f,d.cell? e=some (.pointer f)/\LdL d (.mk w.heap.size 0 none) 0 [.o, .o] fun (e g:Int)=>(C.qbQ f e g b c 7 0 0 0 (fun _ c=>Dr c fun b=>∃c,a=some c/\∃a,b.cell? (c.add 1)=some (.pointer a)/\LdL b (.mk w.heap.size 0 none) 0 [.o, .o] fun (c d:Int)=>(C.qbR a c d (fun _ b=>K b) b)/\True) d)/\True):=okT Tryz.func64 (.v (.y .g13 .g25))
end Go.Proofs.YtogmbmdbgkopjaaGreat
end
section
set_option maxRecDepth 8000
namespace Go.Proofs.YtogmbmdbgkopjaaGreat.Sl
open Go Go.Vc Go.Proofs
def CapP (c:Cap):Prop:=1≤c.kind/\c.kind≤9/\0≤c.obj/\c.obj≤2147483647/\0≤c.rights/\c.rights≤7/\(limitedB c.kind=true∨c.rights=7)/\(badgedB c.kind=true∨c.badge=0)/\(c.kind=2∨(c.guard=0/\c.bits=0))/\guardB c.guard c.bits=true
theorem guard_zero {g b:Int} (h0:0≤g) (hb:b=0):guardB g b=true↔g=0:=by
 subst hb;unfold guardB;rw[decide_eq_true_iff];simp;omega
theorem capBad_iff {c:Cap} (hc:CapR c):capBad c=false↔CapP c:=by
 have hg:c.bits=0->(guardB c.guard c.bits=true↔c.guard=0):=guard_zero hc.g0;unfold capBad CapP;cases hl:limitedB c.kind<;>cases hb:badgedB c.kind<;>cases hgd:guardB c.guard c.bits<;>rw[hgd] at hg<;>simp at hg⊢<;>omega
theorem capErr_eq {c:Cap} (hc:CapR c):capErr c=0/\(c=zeroCap∨CapP c)∨capErr c=40/\c≠zeroCap/\¬CapP c:=by
 unfold capErr;by_cases e:c=zeroCap
 ·rw[if_pos e];exact .inl ⟨rfl, .inl e⟩
 ·rw[if_neg e]
  cases hb:capBad c with
  |false=>exact .inl ⟨by simp, .inr ((capBad_iff hc).1 hb)⟩
  |true=>exact .inr ⟨by simp,e,fun hp=>by rw[(capBad_iff hc).2 hp] at hb;cases hb⟩
theorem capErr_40 {c:Cap} (hc:CapR c) (h1:c≠zeroCap) (h2:¬CapP c):capErr c=40:=by
 rcases capErr_eq hc with ⟨_,h|h⟩|⟨h,_⟩
 ·exact absurd h h1
 ·exact absurd h h2
 ·exact h
theorem capErr_0 {c:Cap} (hc:CapR c) (h2:c=zeroCap∨CapP c):capErr c=0:=by
 rcases capErr_eq hc with ⟨h,_⟩|⟨_,h1,h3⟩
 ·exact h
 ·rcases h2 with h|h
  ·exact absurd h h1
  ·exact absurd h h3
section
variable {B:Nat} {w0 w:World} {R L:List Asn}
theorem ref01_Two_spec {n:Nat} {K:Int->Pw} (hn:n≤63) (hK:K ((2^n:Nat):Int) w):C.qcP (n:Int) K w:=by
 apply S.qcP0;intro l hl
 have loop:∀m i:Nat,i+m=n->l ((2^i:Nat):Int) (i:Int) w:=by
  intro m
  induction m with
  |zero=>
   intro i hi;obtain rfl:i=n:=by omega
   apply hl;exact cdecF (by omega) hK
  |succ m ih=>
   intro i hi;apply hl;refine cdecT (by omega) ?_;have h1:(2:Nat)^(i+1)≤2^63:=Nat.pow_le_pow_right (by omega) (by omega);have e2:(2:Nat)^63=9223372036854775808:=by decide
   rw[show (2:Int)*((2^i:Nat):Int)=((2^(i+1):Nat):Int) from by rw[Nat.pow_succ];omega,wru (Int.natCast_nonneg _) (by omega),wr (by omega) (by omega)];exact ih (i+1) (by omega)
 exact loop n 0 (by omega)
theorem ref04_limited_spec {k:Int} {K:Bool->Pw} (h:K (limitedB k) w):C.qcy k K w:=by
 apply S.qcy0;unfold limitedB at h;refine cb (fun e=>by rw[e] at h;exact h) (fun e=>?_);rw[e] at h;exact cb (fun e=>by rw[e] at h;exact h) (fun e=>by rw[e] at h;exact h)
theorem ref04_badged_spec {k:Int} {K:Bool->Pw} (h:K (badgedB k) w):C.qcq k K w:=by
 apply S.qcq0;unfold badgedB at h;exact cb (fun e=>by rw[e] at h;exact h) (fun e=>by rw[e] at h;exact h)
theorem ref04_guard_spec {g bits:Int} {K:Bool->Pw} (h0:0≤g) (h1:g<18446744073709551616) (h:K (guardB g bits) w):C.qcH g bits K w:=by
 apply S.qcH0;have hf:¬(0≤bits/\bits≤64)->guardB g bits=false:=fun hn=>by unfold guardB;rw[decide_eq_false];rintro ⟨a,b,_⟩;exact hn ⟨a,b⟩
 refine cdec (fun e=>?_) (fun e=>by rw[hf (by omega)] at h;exact h);refine cdec (fun e2=>?_) (fun e2=>by rw[hf (by omega)] at h;exact h);obtain ⟨n,rfl⟩:=Int.eq_ofNat_of_zero_le (show 0≤bits by omega)
 have hg:guardB g (n:Int)=decide (g<((2^n:Nat):Int)):=by
  unfold guardB;rw[decide_eq_decide,Int.toNat_natCast,show ((2:Int)^n)=((2^n:Nat):Int) from by simp];omega
 refine ceq (fun e3=>?_) (fun e3=>?_)
 ·have:n=64:=by omega
  subst this;have e64:(2:Nat)^64=18446744073709551616:=by decide
  rw[hg,e64,decide_eq_true (by omega)] at h;exact h
 ·refine ref01_Two_spec (by omega) ?_
  rw[hg] at h;exact h
theorem ref04_Check_spec {c:Cap} {K:Int->Pw} (h:Own B w0 w R) (hc:CapR c) (hK:∀w',Own B w0 w' R->K (capErr c) w'):C.qcQ c.kind c.obj c.rights c.badge c.guard c.bits K w:=by
 apply S.qcQ0;refine h.al fun w1 h=>?_
 have h:Own B w0 w1 (BlkA w.heap.size c.cells::R):=h;have f40:c≠zeroCap->¬CapP c->K 40 w1:=fun h1 h2=>by rw[←capErr_40 hc h1 h2];exact hK _ h.drop
 have f0:(c=zeroCap∨CapP c)->K 0 w1:=fun h1=>by rw[←capErr_0 hc h1];exact hK _ h.drop
 intro k8 hk8
 have main:c≠zeroCap->k8 false w1:=fun hz=>by
  apply hk8;refine cbF rfl ?_;intro k11 hk11;have t11:¬CapP c->k11 true w1:=fun hp=>hk11 _ _ (cbT rfl (f40 hz hp))
  (repeat (first|(refine h.al fun w h=>?_)|(refine h.dr fun w h=>?_)|(refine h.lc_2 rfl ?_)|(refine h.lc_6 rfl ?_)|(refine ⟨_,h.ldc rfl,?_⟩)|(refine ⟨_,h.ldd rfl,?_⟩)|(refine h.hd rfl ?_)|(refine ⟨h.ldc rfl,?_⟩)|(refine ⟨h.ldd rfl,?_⟩)|(refine h.stLc rfl rfl fun w h=>?_)|(refine exs ?_)|(refine _root_.Go.Vc.a2 ?_)|(refine h.stc rfl rfl fun w h=>?_)|(refine h.std rfl rfl fun w h=>?_)))
  refine cdec (fun e=>t11 fun hp=>by unfold CapP at hp;omega) (fun e1=>?_)
  (repeat (first|(refine h.al fun w h=>?_)|(refine h.dr fun w h=>?_)|(refine h.lc_2 rfl ?_)|(refine h.lc_6 rfl ?_)|(refine ⟨_,h.ldc rfl,?_⟩)|(refine ⟨_,h.ldd rfl,?_⟩)|(refine h.hd rfl ?_)|(refine ⟨h.ldc rfl,?_⟩)|(refine ⟨h.ldd rfl,?_⟩)|(refine h.stLc rfl rfl fun w h=>?_)|(refine exs ?_)|(refine _root_.Go.Vc.a2 ?_)|(refine h.stc rfl rfl fun w h=>?_)|(refine h.std rfl rfl fun w h=>?_)))
  refine cdec (fun e=>t11 fun hp=>by unfold CapP at hp;omega) (fun e2=>?_)
  (repeat (first|(refine h.al fun w h=>?_)|(refine h.dr fun w h=>?_)|(refine h.lc_2 rfl ?_)|(refine h.lc_6 rfl ?_)|(refine ⟨_,h.ldc rfl,?_⟩)|(refine ⟨_,h.ldd rfl,?_⟩)|(refine h.hd rfl ?_)|(refine ⟨h.ldc rfl,?_⟩)|(refine ⟨h.ldd rfl,?_⟩)|(refine h.stLc rfl rfl fun w h=>?_)|(refine exs ?_)|(refine _root_.Go.Vc.a2 ?_)|(refine h.stc rfl rfl fun w h=>?_)|(refine h.std rfl rfl fun w h=>?_)))
  refine cdec (fun e=>t11 fun hp=>by unfold CapP at hp;omega) (fun e3=>?_)
  (repeat (first|(refine h.al fun w h=>?_)|(refine h.dr fun w h=>?_)|(refine h.lc_2 rfl ?_)|(refine h.lc_6 rfl ?_)|(refine ⟨_,h.ldc rfl,?_⟩)|(refine ⟨_,h.ldd rfl,?_⟩)|(refine h.hd rfl ?_)|(refine ⟨h.ldc rfl,?_⟩)|(refine ⟨h.ldd rfl,?_⟩)|(refine h.stLc rfl rfl fun w h=>?_)|(refine exs ?_)|(refine _root_.Go.Vc.a2 ?_)|(refine h.stc rfl rfl fun w h=>?_)|(refine h.std rfl rfl fun w h=>?_)))
  refine cdec (fun e=>t11 fun hp=>by unfold CapP at hp;omega) (fun e4=>?_)
  (repeat (first|(refine h.al fun w h=>?_)|(refine h.dr fun w h=>?_)|(refine h.lc_2 rfl ?_)|(refine h.lc_6 rfl ?_)|(refine ⟨_,h.ldc rfl,?_⟩)|(refine ⟨_,h.ldd rfl,?_⟩)|(refine h.hd rfl ?_)|(refine ⟨h.ldc rfl,?_⟩)|(refine ⟨h.ldd rfl,?_⟩)|(refine h.stLc rfl rfl fun w h=>?_)|(refine exs ?_)|(refine _root_.Go.Vc.a2 ?_)|(refine h.stc rfl rfl fun w h=>?_)|(refine h.std rfl rfl fun w h=>?_)))
  refine cdec (fun e=>t11 fun hp=>by unfold CapP at hp;omega) (fun e5=>?_)
  (repeat (first|(refine h.al fun w h=>?_)|(refine h.dr fun w h=>?_)|(refine h.lc_2 rfl ?_)|(refine h.lc_6 rfl ?_)|(refine ⟨_,h.ldc rfl,?_⟩)|(refine ⟨_,h.ldd rfl,?_⟩)|(refine h.hd rfl ?_)|(refine ⟨h.ldc rfl,?_⟩)|(refine ⟨h.ldd rfl,?_⟩)|(refine h.stLc rfl rfl fun w h=>?_)|(refine exs ?_)|(refine _root_.Go.Vc.a2 ?_)|(refine h.stc rfl rfl fun w h=>?_)|(refine h.std rfl rfl fun w h=>?_)))
  by_cases e6:c.rights>7
  ·rw[decide_eq_true e6];exact t11 fun hp=>by unfold CapP at hp;omega
  rw[decide_eq_false e6];apply hk11;refine cbF rfl ?_;intro k14 hk14;have t14:¬CapP c->k14 true w1:=fun hp=>hk14 _ _ (cbT rfl (f40 hz hp))
  have hg0:=hc.g0;have hb0:=hc.b0
  have last:(limitedB c.kind=true∨c.rights=7)->(badgedB c.kind=true∨c.badge=0)->k14 false w1:=fun h7 h8=>by
   apply hk14;refine cbF rfl ?_
   have fin:(c.kind=2∨(c.guard=0/\c.bits=0))->bif !guardB c.guard c.bits then K 40 w1 else K 0 w1:=fun h9=>by
    refine cnb (fun e=>f40 hz fun hp=>?_) (fun e=>f0 (.inr ?_))
    ·obtain ⟨_,_,_,_,_,_,_,_,_,hp⟩:=hp
     rw[e] at hp;cases hp
    ·exact ⟨by omega,by omega,by omega,by omega,by omega,by omega,h7,h8,h9,e⟩
   (repeat (first|(refine h.al fun w h=>?_)|(refine h.dr fun w h=>?_)|(refine h.lc_2 rfl ?_)|(refine h.lc_6 rfl ?_)|(refine ⟨_,h.ldc rfl,?_⟩)|(refine ⟨_,h.ldd rfl,?_⟩)|(refine h.hd rfl ?_)|(refine ⟨h.ldc rfl,?_⟩)|(refine ⟨h.ldd rfl,?_⟩)|(refine h.stLc rfl rfl fun w h=>?_)|(refine exs ?_)|(refine _root_.Go.Vc.a2 ?_)|(refine h.stc rfl rfl fun w h=>?_)|(refine h.std rfl rfl fun w h=>?_)))
   refine cne (fun e=>?_) (fun e=>?_)
   ·(repeat (first|(refine h.al fun w h=>?_)|(refine h.dr fun w h=>?_)|(refine h.lc_2 rfl ?_)|(refine h.lc_6 rfl ?_)|(refine ⟨_,h.ldc rfl,?_⟩)|(refine ⟨_,h.ldd rfl,?_⟩)|(refine h.hd rfl ?_)|(refine ⟨h.ldc rfl,?_⟩)|(refine ⟨h.ldd rfl,?_⟩)|(refine h.stLc rfl rfl fun w h=>?_)|(refine exs ?_)|(refine _root_.Go.Vc.a2 ?_)|(refine h.stc rfl rfl fun w h=>?_)|(refine h.std rfl rfl fun w h=>?_)))
    refine cdec (fun e=>f40 hz fun hp=>by obtain ⟨_,_,_,_,_,_,_,_,hp,_⟩:=hp;omega) (fun e7=>?_)
    (repeat (first|(refine h.al fun w h=>?_)|(refine h.dr fun w h=>?_)|(refine h.lc_2 rfl ?_)|(refine h.lc_6 rfl ?_)|(refine ⟨_,h.ldc rfl,?_⟩)|(refine ⟨_,h.ldd rfl,?_⟩)|(refine h.hd rfl ?_)|(refine ⟨h.ldc rfl,?_⟩)|(refine ⟨h.ldd rfl,?_⟩)|(refine h.stLc rfl rfl fun w h=>?_)|(refine exs ?_)|(refine _root_.Go.Vc.a2 ?_)|(refine h.stc rfl rfl fun w h=>?_)|(refine h.std rfl rfl fun w h=>?_)))
    refine cne (fun e=>f40 hz fun hp=>by obtain ⟨_,_,_,_,_,_,_,_,hp,_⟩:=hp;omega) (fun e8=>?_)
    (repeat (first|(refine h.al fun w h=>?_)|(refine h.dr fun w h=>?_)|(refine h.lc_2 rfl ?_)|(refine h.lc_6 rfl ?_)|(refine ⟨_,h.ldc rfl,?_⟩)|(refine ⟨_,h.ldd rfl,?_⟩)|(refine h.hd rfl ?_)|(refine ⟨h.ldc rfl,?_⟩)|(refine ⟨h.ldd rfl,?_⟩)|(refine h.stLc rfl rfl fun w h=>?_)|(refine exs ?_)|(refine _root_.Go.Vc.a2 ?_)|(refine h.stc rfl rfl fun w h=>?_)|(refine h.std rfl rfl fun w h=>?_)))
    exact ref04_guard_spec hc.g0 hc.g1 (fin (.inr ⟨by omega,e8⟩))
   ·(repeat (first|(refine h.al fun w h=>?_)|(refine h.dr fun w h=>?_)|(refine h.lc_2 rfl ?_)|(refine h.lc_6 rfl ?_)|(refine ⟨_,h.ldc rfl,?_⟩)|(refine ⟨_,h.ldd rfl,?_⟩)|(refine h.hd rfl ?_)|(refine ⟨h.ldc rfl,?_⟩)|(refine ⟨h.ldd rfl,?_⟩)|(refine h.stLc rfl rfl fun w h=>?_)|(refine exs ?_)|(refine _root_.Go.Vc.a2 ?_)|(refine h.stc rfl rfl fun w h=>?_)|(refine h.std rfl rfl fun w h=>?_)))
    exact ref04_guard_spec hc.g0 hc.g1 (fin (.inl e))
  have bd:(limitedB c.kind=true∨c.rights=7)->(bif !badgedB c.kind then ∃badge35:Int,w1.cell? ((Addr.mk w.heap.size 0 none).add 3)=some (.y badge35)/\k14 (decide (badge35>(0:Int))) w1 else k14 false w1):=fun h7=>by
   refine cnb (fun e=>?_) (fun e=>last h7 (.inl e))
   (repeat (first|(refine h.al fun w h=>?_)|(refine h.dr fun w h=>?_)|(refine h.lc_2 rfl ?_)|(refine h.lc_6 rfl ?_)|(refine ⟨_,h.ldc rfl,?_⟩)|(refine ⟨_,h.ldd rfl,?_⟩)|(refine h.hd rfl ?_)|(refine ⟨h.ldc rfl,?_⟩)|(refine ⟨h.ldd rfl,?_⟩)|(refine h.stLc rfl rfl fun w h=>?_)|(refine exs ?_)|(refine _root_.Go.Vc.a2 ?_)|(refine h.stc rfl rfl fun w h=>?_)|(refine h.std rfl rfl fun w h=>?_)))
   by_cases e9:c.badge>0
   ·rw[decide_eq_true e9]
    refine t14 fun hp=>?_
    obtain ⟨_,_,_,_,_,_,_,hp,_⟩:=hp;rcases hp with hp|hp
    ·rw[e] at hp;cases hp
    ·omega
   ·rw[decide_eq_false e9];exact last h7 (.inr (by omega))
  (repeat (first|(refine h.al fun w h=>?_)|(refine h.dr fun w h=>?_)|(refine h.lc_2 rfl ?_)|(refine h.lc_6 rfl ?_)|(refine ⟨_,h.ldc rfl,?_⟩)|(refine ⟨_,h.ldd rfl,?_⟩)|(refine h.hd rfl ?_)|(refine ⟨h.ldc rfl,?_⟩)|(refine ⟨h.ldd rfl,?_⟩)|(refine h.stLc rfl rfl fun w h=>?_)|(refine exs ?_)|(refine _root_.Go.Vc.a2 ?_)|(refine h.stc rfl rfl fun w h=>?_)|(refine h.std rfl rfl fun w h=>?_)))
  refine ref04_limited_spec ?_;refine cnb (fun e=>?_) (fun e=>?_)
  ·(repeat (first|(refine h.al fun w h=>?_)|(refine h.dr fun w h=>?_)|(refine h.lc_2 rfl ?_)|(refine h.lc_6 rfl ?_)|(refine ⟨_,h.ldc rfl,?_⟩)|(refine ⟨_,h.ldd rfl,?_⟩)|(refine h.hd rfl ?_)|(refine ⟨h.ldc rfl,?_⟩)|(refine ⟨h.ldd rfl,?_⟩)|(refine h.stLc rfl rfl fun w h=>?_)|(refine exs ?_)|(refine _root_.Go.Vc.a2 ?_)|(refine h.stc rfl rfl fun w h=>?_)|(refine h.std rfl rfl fun w h=>?_)))
   refine cne (fun e7=>t14 fun hp=>?_) (fun e7=>?_)
   ·obtain ⟨_,_,_,_,_,_,hp,_⟩:=hp
    rcases hp with hp|hp
    ·rw[e] at hp;cases hp
    ·omega
   ·(repeat (first|(refine h.al fun w h=>?_)|(refine h.dr fun w h=>?_)|(refine h.lc_2 rfl ?_)|(refine h.lc_6 rfl ?_)|(refine ⟨_,h.ldc rfl,?_⟩)|(refine ⟨_,h.ldd rfl,?_⟩)|(refine h.hd rfl ?_)|(refine ⟨h.ldc rfl,?_⟩)|(refine ⟨h.ldd rfl,?_⟩)|(refine h.stLc rfl rfl fun w h=>?_)|(refine exs ?_)|(refine _root_.Go.Vc.a2 ?_)|(refine h.stc rfl rfl fun w h=>?_)|(refine h.std rfl rfl fun w h=>?_)))
    exact ref04_badged_spec (bd (.inr e7))
  ·(repeat (first|(refine h.al fun w h=>?_)|(refine h.dr fun w h=>?_)|(refine h.lc_2 rfl ?_)|(refine h.lc_6 rfl ?_)|(refine ⟨_,h.ldc rfl,?_⟩)|(refine ⟨_,h.ldd rfl,?_⟩)|(refine h.hd rfl ?_)|(refine ⟨h.ldc rfl,?_⟩)|(refine ⟨h.ldd rfl,?_⟩)|(refine h.stLc rfl rfl fun w h=>?_)|(refine exs ?_)|(refine _root_.Go.Vc.a2 ?_)|(refine h.stc rfl rfl fun w h=>?_)|(refine h.std rfl rfl fun w h=>?_)))
   exact ref04_badged_spec (bd (.inl e))
 (repeat (first|(refine h.al fun w h=>?_)|(refine h.dr fun w h=>?_)|(refine h.lc_2 rfl ?_)|(refine h.lc_6 rfl ?_)|(refine ⟨_,h.ldc rfl,?_⟩)|(refine ⟨_,h.ldd rfl,?_⟩)|(refine h.hd rfl ?_)|(refine ⟨h.ldc rfl,?_⟩)|(refine ⟨h.ldd rfl,?_⟩)|(refine h.stLc rfl rfl fun w h=>?_)|(refine exs ?_)|(refine _root_.Go.Vc.a2 ?_)|(refine h.stc rfl rfl fun w h=>?_)|(refine h.std rfl rfl fun w h=>?_)))
 refine ceq (fun e=>?_) (fun e=>main fun hz=>e (by rw[hz];rfl))
 (repeat (first|(refine h.al fun w h=>?_)|(refine h.dr fun w h=>?_)|(refine h.lc_2 rfl ?_)|(refine h.lc_6 rfl ?_)|(refine ⟨_,h.ldc rfl,?_⟩)|(refine ⟨_,h.ldd rfl,?_⟩)|(refine h.hd rfl ?_)|(refine ⟨h.ldc rfl,?_⟩)|(refine ⟨h.ldd rfl,?_⟩)|(refine h.stLc rfl rfl fun w h=>?_)|(refine exs ?_)|(refine _root_.Go.Vc.a2 ?_)|(refine h.stc rfl rfl fun w h=>?_)|(refine h.std rfl rfl fun w h=>?_)))
 refine ⟨_,capEq c zeroCap,?_⟩;by_cases hz:c=zeroCap
 ·rw[decide_eq_true hz]
  exact hk8 _ _ (cbT rfl (f0 (.inl hz)))
 ·rw[decide_eq_false hz];exact main hz
end
def rowOf (H:Hs) (n:Nat) (z:Int):List Cap:=if z= -1 then [] else (List.range (2^z.toNat)).map fun k:Nat=>(H ((n:Int),(k:Int))).getD zeroCap
def rowsOf (bits:List Int) (H:Hs):List (List Cap):=bits.mapIdx fun i z=>rowOf H i z
def RNodesA (b:Nat) (bits:List Int) (H:Hs):Asn:=ExA fun x:Sl × List Sl=>StarA [PureA (NOk bits H),BlkA b [slV x.1],SlT slE x.1 x.2,RowsA capE x.2 (rowsOf bits H)]
theorem ldCap {w:World} {a:Addr} {x:Cap} {f:Int->Int->Int->Int->Int->Int->Prop} (g:∀c v,(capE.enc x)[c]?=some v->w.cell? (a.add c)=some v) (hf:f x.kind x.obj x.rights x.badge x.guard x.bits):
  LdL w a 0 [.o, .o, .o, .u, .u, .o] f:=⟨_,g 0 _ rfl,_,g 1 _ rfl,_,g 2 _ rfl,_,g 3 _ rfl,_,g 4 _ rfl,_,g 5 _ rfl,hf⟩
theorem rows_len (bits:List Int) (H:Hs):(rowsOf bits H).length=bits.length:=by unfold rowsOf;simp
theorem rows_get {bits:List Int} {H:Hs} {n:Nat} {z:Int} (h:bits[n]?=some z):(rowsOf bits H)[n]?=some (rowOf H n z):=by
 unfold rowsOf;rw[List.getElem?_mapIdx,h];rfl
theorem row_len {H:Hs} {n:Nat} {z:Int} (h:z≠ -1):(rowOf H n z).length=2^z.toNat:=by unfold rowOf;rw[if_neg h];simp
theorem row_get {H:Hs} {n k:Nat} {z:Int} (h:z≠ -1) (hk:k<2^z.toNat):(rowOf H n z)[k]?=some ((H ((n:Int),(k:Int))).getD zeroCap):=by
 unfold rowOf;rw[if_neg h,List.getElem?_map,List.getElem?_range hk];rfl
theorem there_some {bits:List Int} {s:Slot} (h:thereB bits s=true):∃(n k:Nat) (z:Int),s=((n:Int),(k:Int))/\bits[n]?=some z/\z≠ -1/\k<2^z.toNat:=by
 unfold thereB at h;cases hz:sizeN bits s.1 with
 |none=>rw[hz] at h;cases h
 |some z=>
  rw[hz] at h;obtain ⟨h1,h2,h3⟩:=sizeN_some hz;simp only[decide_eq_true_eq] at h;rw[show ((2:Int)^z.toNat)=((2^z.toNat:Nat):Int) from by simp] at h;refine ⟨s.1.toNat,s.2.toNat,z,?_,h2,h3,by omega⟩;rw[Int.toNat_of_nonneg h1,Int.toNat_of_nonneg h.1]
theorem there_nat {bits:List Int} {n k:Nat} {z:Int} (h:bits[n]?=some z) (hz:z≠ -1):thereB bits ((n:Int),(k:Int))=decide (k<2^z.toNat):=by
 unfold thereB sizeN;simp only[Int.toNat_natCast,h,if_neg hz];rw[if_neg (by omega)];simp only[decide_eq_decide];rw[show ((2:Int)^z.toNat)=((2^z.toNat:Nat):Int) from by simp];omega
theorem rows_upd {bits:List Int} {H:Hs} {n k:Nat} {z:Int} (h:bits[n]?=some z) (hz:z≠ -1) (hk:k<2^z.toNat) (o:Option Cap):rowsOf bits (updH H ((n:Int),(k:Int)) o)=(rowsOf bits H).set n ((rowOf H n z).set k (o.getD zeroCap)):=by
 apply List.ext_getElem?;intro i;rw[List.getElem?_set];unfold rowsOf;rw[List.getElem?_mapIdx,List.getElem?_mapIdx];by_cases e:n=i
 ·subst e
  have hl:=(List.getElem?_eq_some_iff.1 h).1;rw[if_pos rfl,if_pos (by simpa using hl),h];simp only[Option.map_some,Option.some.injEq];apply List.ext_getElem?;intro j;rw[List.getElem?_set];unfold rowOf;rw[if_neg hz,if_neg hz,List.getElem?_map,List.getElem?_map];by_cases e2:k=j
  ·subst e2
   rw[if_pos rfl,if_pos (by simpa using hk),List.getElem?_range hk];simp[updH]
  ·rw[if_neg e2]
   have h0:updH H ((n:Int),(k:Int)) o ((n:Int),((j:Nat):Int))=H ((n:Int),((j:Nat):Int)):=by
    unfold updH;rw[if_neg];intro hc;simp only[Prod.mk.injEq] at hc;omega
   rcases Nat.lt_or_ge j (2^z.toNat) with hj|hj
   ·rw[List.getElem?_range hj];simp only[Option.map_some];rw[h0]
   ·rw[List.getElem?_eq_none (by simpa using hj)];rfl
 ·rw[if_neg e]
  cases hb:bits[i]? with
  |none=>rfl
  |some y=>
   simp only[Option.map_some,Option.some.injEq];unfold rowOf;split
   ·rfl
   ·apply List.map_congr_left
    intro j _;unfold updH;rw[if_neg];intro hc;simp only[Prod.mk.injEq] at hc;omega
section
variable {B:Nat} {w0 w:World} {R L:List Asn} {b:Nat} {bits:List Int} {H:Hs}
theorem _root_.Go.Vc.Own.rnodes (h:Own B w0 w (RNodesA b bits H::R)):∃s ss,NOk bits H/\ss.length=bits.length/\Own B w0 w (RowsA capE ss (rowsOf bits H)::BlkA b [slV s]::SlT slE s ss::R):=by
 obtain ⟨x,h⟩:=h.ex;obtain ⟨h1,h⟩:=Own.pure h.star;have h2:Own B w0 w (RowsA capE x.2 (rowsOf bits H)::BlkA b [slV x.1]::SlT slE x.1 x.2::R):=h.up2;exact ⟨x.1,x.2,h1,by rw[h2.rowsO.1,rows_len],h2⟩
theorem _root_.Go.Vc.Own.mk_rnodes {s:Sl} {ss:List Sl} (h1:NOk bits H) (h:Own B w0 w (RowsA capE ss (rowsOf bits H)::BlkA b [slV s]::SlT slE s ss::R)):Own B w0 w (RNodesA b bits H::R):=
 Own.mk_ex (s,ss) (Own.mk_star (Own.mk_pure h1 (h.sub:Own B w0 w (BlkA b [slV s]::SlT slE s ss::RowsA capE ss (rowsOf bits H)::R))))
theorem ref05_Is_spec {s:Slot} {K:Bool->Pw} (h:Own B w0 w (RNodesA b bits H::R)) (hK:∀w',Own B w0 w' (RNodesA b bits H::R)->K (thereB bits s) w'):C.qci (some ⟨b,0,none⟩) s.1 s.2 K w:=by
 apply S.qci0;obtain ⟨sl,ss,hk,hsl,h⟩:=h.rnodes;refine h.al fun w1 h=>?_
 refine h.dr fun w h=>?_
 have hlen:=h.lenc sl;have fin:Own B w0 w (RNodesA b bits H::R):=Own.mk_rnodes (s:=sl) (ss:=ss) hk h.sub;have hF:thereB bits s=false->K false w:=fun e=>by rw[←e];exact hK _ fin
 (repeat (first|(refine h.al fun w h=>?_)|(refine h.dr fun w h=>?_)|(refine h.lc_2 rfl ?_)|(refine h.lc_6 rfl ?_)|(refine ⟨_,h.ldc rfl,?_⟩)|(refine ⟨_,h.ldd rfl,?_⟩)|(refine h.hd rfl ?_)|(refine ⟨h.ldc rfl,?_⟩)|(refine ⟨h.ldd rfl,?_⟩)|(refine h.stLc rfl rfl fun w h=>?_)|(refine exs ?_)|(refine _root_.Go.Vc.a2 ?_)|(refine h.stc rfl rfl fun w h=>?_)|(refine h.std rfl rfl fun w h=>?_)))
 refine cdec (fun e1=>?_) (fun e1=>hF (by unfold thereB sizeN;rw[if_pos (by omega)]))
 (repeat (first|(refine h.al fun w h=>?_)|(refine h.dr fun w h=>?_)|(refine h.lc_2 rfl ?_)|(refine h.lc_6 rfl ?_)|(refine ⟨_,h.ldc rfl,?_⟩)|(refine ⟨_,h.ldd rfl,?_⟩)|(refine h.hd rfl ?_)|(refine ⟨h.ldc rfl,?_⟩)|(refine ⟨h.ldd rfl,?_⟩)|(refine h.stLc rfl rfl fun w h=>?_)|(refine exs ?_)|(refine _root_.Go.Vc.a2 ?_)|(refine h.stc rfl rfl fun w h=>?_)|(refine h.std rfl rfl fun w h=>?_)))
 refine cdec (fun e2=>?_) (fun e2=>hF (by unfold thereB sizeN;rw[if_neg (by omega),List.getElem?_eq_none (by omega)]));obtain ⟨n,hn⟩:=Int.eq_ofNat_of_zero_le (show 0≤s.1 by omega);have hnl:n<bits.length:=by omega
 have hb:bits[n]?=some bits[n]:=gE hnl;obtain ⟨sn,hss⟩:∃sn,ss[n]?=some sn:=⟨_,gE (by omega)⟩
 generalize bits[n]=z at hb;have hrl:=(h.drop.sub:Own B w0 w (RowsA capE ss (rowsOf bits H)::BlkA b [slV sl]::SlT slE sl ss::R)).row_len hss (rows_get hb)
 (repeat (first|(refine h.al fun w h=>?_)|(refine h.dr fun w h=>?_)|(refine h.lc_2 rfl ?_)|(refine h.lc_6 rfl ?_)|(refine ⟨_,h.ldc rfl,?_⟩)|(refine ⟨_,h.ldd rfl,?_⟩)|(refine h.hd rfl ?_)|(refine ⟨h.ldc rfl,?_⟩)|(refine ⟨h.ldd rfl,?_⟩)|(refine h.stLc rfl rfl fun w h=>?_)|(refine exs ?_)|(refine _root_.Go.Vc.a2 ?_)|(refine h.stc rfl rfl fun w h=>?_)|(refine h.std rfl rfl fun w h=>?_)))
 refine cdec (fun e3=>?_) (fun e3=>?_)
 ·(repeat (first|(refine h.al fun w h=>?_)|(refine h.dr fun w h=>?_)|(refine h.lc_2 rfl ?_)|(refine h.lc_6 rfl ?_)|(refine ⟨_,h.ldc rfl,?_⟩)|(refine ⟨_,h.ldd rfl,?_⟩)|(refine h.hd rfl ?_)|(refine ⟨h.ldc rfl,?_⟩)|(refine ⟨h.ldd rfl,?_⟩)|(refine h.stLc rfl rfl fun w h=>?_)|(refine exs ?_)|(refine _root_.Go.Vc.a2 ?_)|(refine h.stc rfl rfl fun w h=>?_)|(refine h.std rfl rfl fun w h=>?_)))
  refine h.ixc hn hss fun a ha hc0 hc=>?_
  refine ⟨_,hc0 _ rfl,?_⟩;obtain ⟨k,hk2⟩:=Int.eq_ofNat_of_zero_le (show 0≤s.2 by omega);have hs:s=((n:Int),(k:Int)):=by rw[←hn,←hk2]
  have ht:thereB bits s=decide (s.2<(sn.len:Int)):=by
   rw[hs,hrl];by_cases hz:z= -1
   ·have hg:thereB bits ((n:Int),(k:Int))=false:=by unfold thereB sizeN;simp only[Int.toNat_natCast,hb,if_pos hz];rw[if_neg (by omega)]
    rw[hg];unfold rowOf;rw[if_pos hz];simp
   ·rw[there_nat hb hz,row_len hz,decide_eq_decide];exact Int.ofNat_lt.symm
  rw[←ht];exact hK _ fin
 ·exact hF (by
   have hs2:s.2<0:=by omega
   unfold thereB;split
   ·rw[decide_eq_false];omega
   ·rfl)
end
theorem rows_snoc {bits:List Int} {H:Hs} (hk:NOk bits H) {z:Int} (hz:z≠ -1):rowsOf (bits++ [z]) H=rowsOf bits H++ [List.replicate (2^z.toNat) zeroCap]:=by
 unfold rowsOf;rw[List.mapIdx_concat];congr 2;unfold rowOf;rw[if_neg hz];apply List.ext_getElem?;intro k;rw[List.getElem?_map];rcases Nat.lt_or_ge k (2^z.toNat) with hj|hj
 ·rw[List.getElem?_range hj,List.getElem?_replicate,if_pos hj]
  simp only[Option.map_some,Option.some.injEq];cases hs:H ((bits.length:Int),(k:Int)) with
  |none=>rfl
  |some c=>
   have:=(hk.held _ _ hs).1;unfold thereB sizeN at this;rw[if_neg (by simp only;omega)] at this;simp only[Int.toNat_natCast,List.getElem?_eq_none (Nat.le_refl _)] at this;cases this
 ·rw[List.getElem?_eq_none (by simpa using hj),List.getElem?_eq_none (by simpa using hj)];rfl
section
variable {B:Nat} {w0 w:World} {R L:List Asn} {b:Nat} {bits:List Int} {H:Hs}
theorem app1_rows {w:World} {L R':List Asn} {s:Sl} {xs:List Sl} {y:Sl} {c:Nat} {k:Sl->Pw} [I:SlIn s L Sl slE xs] [J:Pick (SlT slE s xs) L R'] (h:Own B w0 w (BlkA c [.slice y.a y.len y.cap]::L)) (hbig:xs.length≤1000000)
  (hk:∀s' w',s'.len=xs.length+1->Own B w0 w' (SlT slE s' (xs++ [y])::R')->k s' w'):
  ∃s' w',AppR Tryz.prog [139,139] 139 (.slice s.a s.len s.cap) (.slice (some (Addr.mk c 0 none)) 1 1) w s' w'/\k s' w':=
 Own.app1c (E:=slE) (y:=y) (R:=R') Tryz.underlying139 (show Tryz.prog.info? 233=some Tryz.t233 from by kernel_rfl) (zv:= .slice none 0 0) (by kernel_rfl) (by kernel_rfl) rfl (by decide) h (by
  have e:Tryz.t233.bytes=24:=by kernel_rfl
  rw[e];omega) hk
theorem mk_caps {w:World} {L:List Asn} {n:Int} {k:Sl->Pw} (h:Own B w0 w L) (h0:0≤n) (hn:n≤1000000) (hk:∀s' w',s'.len=n.toNat->Own B w0 w' (SlT capE s' (List.replicate n.toNat zeroCap)::L)->k s' w'):
  ∃s' w',MkSlR Tryz.prog 233 (.z n) (.z n) w s' w'/\k s' w':=
 Own.mkSl (E:=capE) (z0:=zeroCap) Tryz.underlying233 (show Tryz.prog.info? 42=some Tryz.t42 from by kernel_rfl) (zv:=encCap zeroCap) (by kernel_rfl) (by kernel_rfl) rfl h h0 (by
  have e:Tryz.t42.bytes=48:=by kernel_rfl
  rw[e];omega) (by omega) hk
theorem ref05_Make_spec {z:Int} {K:Int->Int->Pw} (h:Own B w0 w (RNodesA b bits H::R)) (hK:∀w',Own B w0 w' (RNodesA b (makeN bits z).2.2 H::R)->K (makeN bits z).1 (makeN bits z).2.1 w'):C.qbz (some ⟨b,0,none⟩) z K w:=by
 apply S.qbz0;intro k3 hk3
 have h3:(z<1∨8<z)->k3 true w:=fun e=>by
  apply hk3;have e2:makeN bits z=(0,1,bits):=by unfold makeN;rw[if_pos e]
  rw[e2] at hK;exact cbT rfl (hK _ h)
 refine cdec (fun e=>h3 (.inl e)) (fun e1=>?_);by_cases e2:8<z
 ·rw[decide_eq_true (by omega)];exact h3 (.inr e2)
 rw[decide_eq_false (by omega)];apply hk3;refine cbF rfl ?_;obtain ⟨sl,ss,hk,hsl,h⟩:=h.rnodes;have hlen:=h.lenc sl;have hfew:=hk.few
 (repeat (first|(refine h.al fun w h=>?_)|(refine h.dr fun w h=>?_)|(refine h.lc_2 rfl ?_)|(refine h.lc_6 rfl ?_)|(refine ⟨_,h.ldc rfl,?_⟩)|(refine ⟨_,h.ldd rfl,?_⟩)|(refine h.hd rfl ?_)|(refine ⟨h.ldc rfl,?_⟩)|(refine ⟨h.ldd rfl,?_⟩)|(refine h.stLc rfl rfl fun w h=>?_)|(refine exs ?_)|(refine _root_.Go.Vc.a2 ?_)|(refine h.stc rfl rfl fun w h=>?_)|(refine h.std rfl rfl fun w h=>?_)))
 refine cdec (fun e3=>?_) (fun e3=>?_)
 ·have e4:makeN bits z=(0,2,bits):=by unfold makeN;rw[if_neg (by omega),if_pos (by omega)]
  rw[e4] at hK;exact hK _ (Own.mk_rnodes (s:=sl) (ss:=ss) hk h.sub)
 have e4:makeN bits z=((bits.length:Int),0,bits++ [z]):=by unfold makeN;rw[if_neg (by omega),if_neg (by omega)]
 rw[e4] at hK;obtain ⟨m,rfl⟩:=Int.eq_ofNat_of_zero_le (show 0≤z by omega);have hle:2^m≤2^8:=Nat.pow_le_pow_right (by omega) (by omega);intro k8 hk8
 have fin:∀(w:World) (s' sn:Sl),s'.len=ss.length+1->Own B w0 w (SlT slE s' (ss++ [sn])::SlT capE sn (List.replicate (2^m) zeroCap)::RowsA capE ss (rowsOf bits H)::BlkA b [slV s']::R)->k8 w:=by
  intro w s' sn hs' h;apply hk8
  (repeat (first|(refine h.al fun w h=>?_)|(refine h.dr fun w h=>?_)|(refine h.lc_2 rfl ?_)|(refine h.lc_6 rfl ?_)|(refine ⟨_,h.ldc rfl,?_⟩)|(refine ⟨_,h.ldd rfl,?_⟩)|(refine h.hd rfl ?_)|(refine ⟨h.ldc rfl,?_⟩)|(refine ⟨h.ldd rfl,?_⟩)|(refine h.stLc rfl rfl fun w h=>?_)|(refine exs ?_)|(refine _root_.Go.Vc.a2 ?_)|(refine h.stc rfl rfl fun w h=>?_)|(refine h.std rfl rfl fun w h=>?_)))
  rw[show IntKind.i64.wrap ((s'.len:Int)-1)=(bits.length:Int) from by rw[wr (by omega) (by omega)];omega];have h2:Own B w0 w (RowsA capE (ss++ [sn]) (rowsOf bits H++ [List.replicate (2^m) zeroCap])::SlT slE s' (ss++ [sn])::BlkA b [slV s']::R):=Own.row_add h.sub;have h3:=rows_snoc (z:=(m:Int)) hk (by omega);rw[Int.toNat_natCast] at h3;rw[←h3] at h2;exact hK _ (Own.mk_rnodes (s:=s') (ss:=ss++ [sn]) (hk.make (by omega) (by omega) (by omega)) h2.sub)
 have mk:∀(w:World) (k:Sl->Pw),Own B w0 w (RowsA capE ss (rowsOf bits H)::BlkA b [slV sl]::SlT slE sl ss::R)->
   (∀s' w',Own B w0 w' (SlT capE s' (List.replicate (2^m) zeroCap)::RowsA capE ss (rowsOf bits H)::BlkA b [slV sl]::SlT slE sl ss::R)->k s' w')->
   ∃s' w',MkSlR Tryz.prog 233 (.z (IntKind.i64.wrap ((2^m:Nat):Int))) (.z (IntKind.i64.wrap ((2^m:Nat):Int))) w s' w'/\k s' w':=fun w k h hk=>by
  rw[wr (Int.le_trans (by decide) (Int.natCast_nonneg _)) (by omega)];refine mk_caps h (Int.natCast_nonneg _) (by omega) fun s' w' hs' h'=>?_
  rw[Int.toNat_natCast] at h';exact hk s' w' h'
 (repeat (first|(refine h.al fun w h=>?_)|(refine h.dr fun w h=>?_)|(refine h.lc_2 rfl ?_)|(refine h.lc_6 rfl ?_)|(refine ⟨_,h.ldc rfl,?_⟩)|(refine ⟨_,h.ldd rfl,?_⟩)|(refine h.hd rfl ?_)|(refine ⟨h.ldc rfl,?_⟩)|(refine ⟨h.ldd rfl,?_⟩)|(refine h.stLc rfl rfl fun w h=>?_)|(refine exs ?_)|(refine _root_.Go.Vc.a2 ?_)|(refine h.stc rfl rfl fun w h=>?_)|(refine h.std rfl rfl fun w h=>?_)))
 refine ⟨?_,?_,trivial⟩
 ·(repeat (first|(refine h.al fun w h=>?_)|(refine h.dr fun w h=>?_)|(refine h.lc_2 rfl ?_)|(refine h.lc_6 rfl ?_)|(refine ⟨_,h.ldc rfl,?_⟩)|(refine ⟨_,h.ldd rfl,?_⟩)|(refine h.hd rfl ?_)|(refine ⟨h.ldc rfl,?_⟩)|(refine ⟨h.ldd rfl,?_⟩)|(refine h.stLc rfl rfl fun w h=>?_)|(refine exs ?_)|(refine _root_.Go.Vc.a2 ?_)|(refine h.stc rfl rfl fun w h=>?_)|(refine h.std rfl rfl fun w h=>?_)))
  refine ref01_Two_spec (by omega) ?_
  (repeat (first|(refine h.al fun w h=>?_)|(refine h.dr fun w h=>?_)|(refine h.lc_2 rfl ?_)|(refine h.lc_6 rfl ?_)|(refine ⟨_,h.ldc rfl,?_⟩)|(refine ⟨_,h.ldd rfl,?_⟩)|(refine h.hd rfl ?_)|(refine ⟨h.ldc rfl,?_⟩)|(refine ⟨h.ldd rfl,?_⟩)|(refine h.stLc rfl rfl fun w h=>?_)|(refine exs ?_)|(refine _root_.Go.Vc.a2 ?_)|(refine h.stc rfl rfl fun w h=>?_)|(refine h.std rfl rfl fun w h=>?_)))
  refine mk _ _ h fun sn w h=>?_
  (repeat (first|(refine h.al fun w h=>?_)|(refine h.dr fun w h=>?_)|(refine h.lc_2 rfl ?_)|(refine h.lc_6 rfl ?_)|(refine ⟨_,h.ldc rfl,?_⟩)|(refine ⟨_,h.ldd rfl,?_⟩)|(refine h.hd rfl ?_)|(refine ⟨h.ldc rfl,?_⟩)|(refine ⟨h.ldd rfl,?_⟩)|(refine h.stLc rfl rfl fun w h=>?_)|(refine exs ?_)|(refine _root_.Go.Vc.a2 ?_)|(refine h.stc rfl rfl fun w h=>?_)|(refine h.std rfl rfl fun w h=>?_)))
  refine app1_rows h (by omega) fun s' w hs' h=>?_
  (repeat (first|(refine h.al fun w h=>?_)|(refine h.dr fun w h=>?_)|(refine h.lc_2 rfl ?_)|(refine h.lc_6 rfl ?_)|(refine ⟨_,h.ldc rfl,?_⟩)|(refine ⟨_,h.ldd rfl,?_⟩)|(refine h.hd rfl ?_)|(refine ⟨h.ldc rfl,?_⟩)|(refine ⟨h.ldd rfl,?_⟩)|(refine h.stLc rfl rfl fun w h=>?_)|(refine exs ?_)|(refine _root_.Go.Vc.a2 ?_)|(refine h.stc rfl rfl fun w h=>?_)|(refine h.std rfl rfl fun w h=>?_)))
  (try dsimp only[putAt,List.set_cons_zero,List.set_cons_succ] at h)
  exact fin _ s' sn hs' h.sub
 ·refine ref01_Two_spec (by omega) ?_
  refine ⟨?_,?_,trivial⟩
  ·(repeat (first|(refine h.al fun w h=>?_)|(refine h.dr fun w h=>?_)|(refine h.lc_2 rfl ?_)|(refine h.lc_6 rfl ?_)|(refine ⟨_,h.ldc rfl,?_⟩)|(refine ⟨_,h.ldd rfl,?_⟩)|(refine h.hd rfl ?_)|(refine ⟨h.ldc rfl,?_⟩)|(refine ⟨h.ldd rfl,?_⟩)|(refine h.stLc rfl rfl fun w h=>?_)|(refine exs ?_)|(refine _root_.Go.Vc.a2 ?_)|(refine h.stc rfl rfl fun w h=>?_)|(refine h.std rfl rfl fun w h=>?_)))
   (repeat (first|(refine h.al fun w h=>?_)|(refine h.dr fun w h=>?_)|(refine h.lc_2 rfl ?_)|(refine h.lc_6 rfl ?_)|(refine ⟨_,h.ldc rfl,?_⟩)|(refine ⟨_,h.ldd rfl,?_⟩)|(refine h.hd rfl ?_)|(refine ⟨h.ldc rfl,?_⟩)|(refine ⟨h.ldd rfl,?_⟩)|(refine h.stLc rfl rfl fun w h=>?_)|(refine exs ?_)|(refine _root_.Go.Vc.a2 ?_)|(refine h.stc rfl rfl fun w h=>?_)|(refine h.std rfl rfl fun w h=>?_)))
   refine mk _ _ h fun sn w h=>?_
   (repeat (first|(refine h.al fun w h=>?_)|(refine h.dr fun w h=>?_)|(refine h.lc_2 rfl ?_)|(refine h.lc_6 rfl ?_)|(refine ⟨_,h.ldc rfl,?_⟩)|(refine ⟨_,h.ldd rfl,?_⟩)|(refine h.hd rfl ?_)|(refine ⟨h.ldc rfl,?_⟩)|(refine ⟨h.ldd rfl,?_⟩)|(refine h.stLc rfl rfl fun w h=>?_)|(refine exs ?_)|(refine _root_.Go.Vc.a2 ?_)|(refine h.stc rfl rfl fun w h=>?_)|(refine h.std rfl rfl fun w h=>?_)))
   refine app1_rows h (by omega) fun s' w hs' h=>?_
   (repeat (first|(refine h.al fun w h=>?_)|(refine h.dr fun w h=>?_)|(refine h.lc_2 rfl ?_)|(refine h.lc_6 rfl ?_)|(refine ⟨_,h.ldc rfl,?_⟩)|(refine ⟨_,h.ldd rfl,?_⟩)|(refine h.hd rfl ?_)|(refine ⟨h.ldc rfl,?_⟩)|(refine ⟨h.ldd rfl,?_⟩)|(refine h.stLc rfl rfl fun w h=>?_)|(refine exs ?_)|(refine _root_.Go.Vc.a2 ?_)|(refine h.stc rfl rfl fun w h=>?_)|(refine h.std rfl rfl fun w h=>?_)))
   (try dsimp only[putAt,List.set_cons_zero,List.set_cons_succ] at h)
   exact fin _ s' sn hs' h.sub
  ·refine mk _ _ h fun sn w h=>?_
   (repeat (first|(refine h.al fun w h=>?_)|(refine h.dr fun w h=>?_)|(refine h.lc_2 rfl ?_)|(refine h.lc_6 rfl ?_)|(refine ⟨_,h.ldc rfl,?_⟩)|(refine ⟨_,h.ldd rfl,?_⟩)|(refine h.hd rfl ?_)|(refine ⟨h.ldc rfl,?_⟩)|(refine ⟨h.ldd rfl,?_⟩)|(refine h.stLc rfl rfl fun w h=>?_)|(refine exs ?_)|(refine _root_.Go.Vc.a2 ?_)|(refine h.stc rfl rfl fun w h=>?_)|(refine h.std rfl rfl fun w h=>?_)))
   refine app1_rows h (by omega) fun s' w hs' h=>?_
   (repeat (first|(refine h.al fun w h=>?_)|(refine h.dr fun w h=>?_)|(refine h.lc_2 rfl ?_)|(refine h.lc_6 rfl ?_)|(refine ⟨_,h.ldc rfl,?_⟩)|(refine ⟨_,h.ldd rfl,?_⟩)|(refine h.hd rfl ?_)|(refine ⟨h.ldc rfl,?_⟩)|(refine ⟨h.ldd rfl,?_⟩)|(refine h.stLc rfl rfl fun w h=>?_)|(refine exs ?_)|(refine _root_.Go.Vc.a2 ?_)|(refine h.stc rfl rfl fun w h=>?_)|(refine h.std rfl rfl fun w h=>?_)))
   (try dsimp only[putAt,List.set_cons_zero,List.set_cons_succ] at h)
   exact fin _ s' sn hs' h.sub
theorem ref05_Put_spec {s:Slot} {c:Cap} {K:Int->Pw} (hc:CapR c) (h:Own B w0 w (RNodesA b bits H::R)) (hK:∀w',Own B w0 w' (RNodesA b bits (putN bits H s c).2::R)->K (putN bits H s c).1 w'):
  C.qbQ (some ⟨b,0,none⟩) s.1 s.2 c.kind c.obj c.rights c.badge c.guard c.bits K w:=by
 apply S.qbQ0
 (repeat (first|(refine h.al fun w h=>?_)|(refine h.dr fun w h=>?_)|(refine h.lc_2 rfl ?_)|(refine h.lc_6 rfl ?_)|(refine ⟨_,h.ldc rfl,?_⟩)|(refine ⟨_,h.ldd rfl,?_⟩)|(refine h.hd rfl ?_)|(refine ⟨h.ldc rfl,?_⟩)|(refine ⟨h.ldd rfl,?_⟩)|(refine h.stLc rfl rfl fun w h=>?_)|(refine exs ?_)|(refine _root_.Go.Vc.a2 ?_)|(refine h.stc rfl rfl fun w h=>?_)|(refine h.std rfl rfl fun w h=>?_)))
 refine ref05_Is_spec (s:=s) h.up2 fun w h=>?_
 refine cnb (fun e=>?_) (fun e=>?_)
 ·have ep:putN bits H s c=(50,H):=by unfold putN;rw[if_pos e]
  rw[ep] at hK;exact hK _ h.sub
 have ht':¬thereB bits s=false:=by rw[e];decide
 (repeat (first|(refine h.al fun w h=>?_)|(refine h.dr fun w h=>?_)|(refine h.lc_2 rfl ?_)|(refine h.lc_6 rfl ?_)|(refine ⟨_,h.ldc rfl,?_⟩)|(refine ⟨_,h.ldd rfl,?_⟩)|(refine h.hd rfl ?_)|(refine ⟨h.ldc rfl,?_⟩)|(refine ⟨h.ldd rfl,?_⟩)|(refine h.stLc rfl rfl fun w h=>?_)|(refine exs ?_)|(refine _root_.Go.Vc.a2 ?_)|(refine h.stc rfl rfl fun w h=>?_)|(refine h.std rfl rfl fun w h=>?_)))
 refine ref04_Check_spec h hc fun w h=>?_
 refine cne (fun e1=>?_) (fun e1=>?_)
 ·have ep:putN bits H s c=(capErr c,H):=by unfold putN;rw[if_neg ht',if_pos e1]
  rw[ep] at hK;exact hK _ h.sub
 (repeat (first|(refine h.al fun w h=>?_)|(refine h.dr fun w h=>?_)|(refine h.lc_2 rfl ?_)|(refine h.lc_6 rfl ?_)|(refine ⟨_,h.ldc rfl,?_⟩)|(refine ⟨_,h.ldd rfl,?_⟩)|(refine h.hd rfl ?_)|(refine ⟨h.ldc rfl,?_⟩)|(refine ⟨h.ldd rfl,?_⟩)|(refine h.stLc rfl rfl fun w h=>?_)|(refine exs ?_)|(refine _root_.Go.Vc.a2 ?_)|(refine h.stc rfl rfl fun w h=>?_)|(refine h.std rfl rfl fun w h=>?_)))
 refine ceq (fun e2=>?_) (fun e2=>?_)
 ·have ep:putN bits H s c=(1,H):=by unfold putN;rw[if_neg ht',if_neg (by omega),if_pos e2]
  rw[ep] at hK;exact hK _ h.sub
 have hth:=e;obtain ⟨n,k,z,rfl,hb,hz,hkl⟩:=there_some e;obtain ⟨sl,ss,hk,hsl,h⟩:=h.rnodes;obtain ⟨sn,hss⟩:∃sn,ss[n]?=some sn:=⟨_,gE (by have:=(List.getElem?_eq_some_iff.1 hb).1;omega)⟩
 (repeat (first|(refine h.al fun w h=>?_)|(refine h.dr fun w h=>?_)|(refine h.lc_2 rfl ?_)|(refine h.lc_6 rfl ?_)|(refine ⟨_,h.ldc rfl,?_⟩)|(refine ⟨_,h.ldd rfl,?_⟩)|(refine h.hd rfl ?_)|(refine ⟨h.ldc rfl,?_⟩)|(refine ⟨h.ldd rfl,?_⟩)|(refine h.stLc rfl rfl fun w h=>?_)|(refine exs ?_)|(refine _root_.Go.Vc.a2 ?_)|(refine h.stc rfl rfl fun w h=>?_)|(refine h.std rfl rfl fun w h=>?_)))
 refine h.ixc rfl hss fun a ha hc0 hc1=>?_
 refine ⟨_,hc0 _ rfl,?_⟩
 (repeat (first|(refine h.al fun w h=>?_)|(refine h.dr fun w h=>?_)|(refine h.lc_2 rfl ?_)|(refine h.lc_6 rfl ?_)|(refine ⟨_,h.ldc rfl,?_⟩)|(refine ⟨_,h.ldd rfl,?_⟩)|(refine h.hd rfl ?_)|(refine ⟨h.ldc rfl,?_⟩)|(refine ⟨h.ldd rfl,?_⟩)|(refine h.stLc rfl rfl fun w h=>?_)|(refine exs ?_)|(refine _root_.Go.Vc.a2 ?_)|(refine h.stc rfl rfl fun w h=>?_)|(refine h.std rfl rfl fun w h=>?_)))
 refine h.rget hss (rows_get hb) rfl (row_get hz hkl) fun a2 ha2 hd0 hd=>?_
 refine ⟨((H ((n:Int),(k:Int))).getD zeroCap).kind,hd0 _ rfl,?_⟩;cases hs:H ((n:Int),(k:Int)) with
 |some c'=>
  have ep:putN bits H ((n:Int),(k:Int)) c=(51,H):=by unfold putN;rw[if_neg ht',if_neg (by omega),if_neg e2,if_pos (by rw[hs];rfl)]
  rw[ep] at hK;refine cneT (hk.held _ _ hs).2.2.1 ?_;exact hK _ (Own.mk_rnodes (s:=sl) (ss:=ss) hk h.sub)
 |none=>
  have ep:putN bits H ((n:Int),(k:Int)) c=(0,updH H ((n:Int),(k:Int)) (some c)):=by unfold putN;rw[if_neg ht',if_neg (by omega),if_neg e2,if_neg (by rw[hs];decide)]
  rw[ep] at hK;refine cneF rfl ?_
  (repeat (first|(refine h.al fun w h=>?_)|(refine h.dr fun w h=>?_)|(refine h.lc_2 rfl ?_)|(refine h.lc_6 rfl ?_)|(refine ⟨_,h.ldc rfl,?_⟩)|(refine ⟨_,h.ldd rfl,?_⟩)|(refine h.hd rfl ?_)|(refine ⟨h.ldc rfl,?_⟩)|(refine ⟨h.ldd rfl,?_⟩)|(refine h.stLc rfl rfl fun w h=>?_)|(refine exs ?_)|(refine _root_.Go.Vc.a2 ?_)|(refine h.stc rfl rfl fun w h=>?_)|(refine h.std rfl rfl fun w h=>?_)))
  refine h.ixc rfl hss fun a ha hc0 hc1=>?_
  refine ⟨_,hc0 _ rfl,?_⟩
  (repeat (first|(refine h.al fun w h=>?_)|(refine h.dr fun w h=>?_)|(refine h.lc_2 rfl ?_)|(refine h.lc_6 rfl ?_)|(refine ⟨_,h.ldc rfl,?_⟩)|(refine ⟨_,h.ldd rfl,?_⟩)|(refine h.hd rfl ?_)|(refine ⟨h.ldc rfl,?_⟩)|(refine ⟨h.ldd rfl,?_⟩)|(refine h.stLc rfl rfl fun w h=>?_)|(refine exs ?_)|(refine _root_.Go.Vc.a2 ?_)|(refine h.stc rfl rfl fun w h=>?_)|(refine h.std rfl rfl fun w h=>?_)))
  refine h.rget hss (rows_get hb) rfl (row_get hz hkl) fun a2 ha2 hd0 hd=>?_
  (repeat (first|(refine h.al fun w h=>?_)|(refine h.dr fun w h=>?_)|(refine h.lc_2 rfl ?_)|(refine h.lc_6 rfl ?_)|(refine ⟨_,h.ldc rfl,?_⟩)|(refine ⟨_,h.ldd rfl,?_⟩)|(refine h.hd rfl ?_)|(refine ⟨h.ldc rfl,?_⟩)|(refine ⟨h.ldd rfl,?_⟩)|(refine h.stLc rfl rfl fun w h=>?_)|(refine exs ?_)|(refine _root_.Go.Vc.a2 ?_)|(refine h.stc rfl rfl fun w h=>?_)|(refine h.std rfl rfl fun w h=>?_)))
  refine h.rset c hss (rows_get hb) rfl (by rw[row_len hz];exact hkl) ha2 fun w h=>?_
  rw[show (rowsOf bits H).set n ((rowOf H n z).set k c)=rowsOf bits (updH H ((n:Int),(k:Int)) (some c)) from (rows_upd hb hz hkl (some c)).symm] at h;exact hK _ (Own.mk_rnodes (s:=sl) (ss:=ss) (hk.put hth (by omega) e2 hc) h.sub)
end
end Go.Proofs.YtogmbmdbgkopjaaGreat.Sl
end
