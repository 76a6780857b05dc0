/- What the row rests on: the declarations that it needs, out of my texts (part 5). -/
import Derived.Test.YtghikphgplamkaaGreatZw4
set_option linter.unusedVariables false
set_option linter.unusedSimpArgs false
set_option linter.unusedSectionVars false
section
set_option maxRecDepth 100000
namespace Go.Proofs.YtghikphgplamkaaGreat
open Go Go.Vc Go.Proofs
theorem S.qaK0 {a b K w}:Fr (C.qaK a b K w) (C.qX a b (fun c d e=>bif !d then (K false e) else (∃d,a=some d/\∃f:Sl,e.cell? d=some (.slice f.a f.len f.cap)/\∃d,f.a=some d/\0≤c/\c<(f.len:Int)/\∃g,e.cell? ((d.add (c.toNat*12)).add 3)=some (.z g)/\∃d,f.a=some d/\0≤c/\c<(f.len:Int)/\St e ((d.add (c.toNat*12)).add 3) (.z (IntKind.i64.wrap (g-1))) fun d=>∃e,a=some e/\∃f:Sl,d.cell? e=some (.slice f.a f.len f.cap)/\∃e,f.a=some e/\0≤c/\c<(f.len:Int)/\∃f,d.cell? ((e.add (c.toNat*12)).add 3)=some (.z f)/\bif decide (f≤0) then (C.qae a b (fun _ b=>K true b) d) else (K true d))) w):=okT Tryz.func61 (.v (.v (.y (.v (.x .w)) (.v (.y (.v .w) .w)))))
theorem S.qdn0 {a K w}:Fr (C.qdn a K w) (∀b:Bool->Pw,(∀(c:Bool) (d:World),(bif c then (K none 1 d) else (Al d (.cells #[.z (-1)] 3) fun b=>C.qav ⟨some (.mk d.heap.size 0 none),1,1⟩ a (fun b c=>Al c (.cells #[.slice none 0 0, .slice none 0 0, .slice b.a b.len b.cap] 197) fun b=>∀d:Int->Pw,(∀(b:Int) (e:World),(bif decide (b<a) then (Dr e fun a=>∃e,some (Addr.mk c.heap.size 0 none)=some e/\∃f:Sl,a.cell? (e.add 1)=some (.slice f.a f.len f.cap)/\(C.qdz (fun a g=>g.cell? (e.add 1)=some (.slice f.a f.len f.cap)/\(Al g (.cells #[.pointer a] 219) fun a=>(∃e h,AppR Tryz.prog [195,195] 195 (.slice f.a f.len f.cap) (.slice (some (.mk g.heap.size 0 none)) 1 1) a e h/\∃a,some (Addr.mk c.heap.size 0 none)=some a/\(St h (a.add 1) (.slice e.a e.len e.cap) fun a=>d (IntKind.i64.wrap (b+1)) a)/\True)/\True)/\True) a)/\True) else (K (some (.mk c.heap.size 0 none)) 0 e))->d b e)->d 0 b) b))->b c d)->(bif decide (a<1) then (b true w) else (b (decide (a>8)) w))):=okT Tryz.func68 (.v (.y (.y (.r (some [(10,.c .b)]) .done) (.x .w)) (.v (.y (.v (.x (.t (some [(17,.c (.i .i64))]) (.v (.y .w (.x (.x (.z (.o 0 254 (.o 1 96 (.o 2 96 (.o 3 96 (.hold 4 96 895 (.e 5 (.e 6 (.e 7 (.o 8 0 (.o 9 0 (.e 10 .done)))))))))))))))) .u))) .w))))
theorem S.qM0 {a b c K w}:Fr (C.qM a b c K w) (∀d:Bool->Pw,(∀(e:Bool) (f:World),(bif e then (K 0 1 f) else (∃d,a=some d/\∃e:Sl,f.cell? d=some (.slice e.a e.len e.cap)/\bif decide ((e.len:Int)≥64) then (K 0 2 f) else (∃d,a=some d/\∃e:Sl,f.cell? d=some (.slice e.a e.len e.cap)/\Al f (.cells #[.z 0, .z b, .z c, .z 5, .y 0, .y 0, .y 0, .y 0, .y 0, .y 0, .y 0, .y 0] 193) fun b=>∃c d,AppR Tryz.prog [194,194] 194 (.slice e.a e.len e.cap) (.slice (some (.mk f.heap.size 0 none)) 1 1) b c d/\∃b,a=some b/\St d b (.slice c.a c.len c.cap) fun b=>∃c,a=some c/\∃a:Sl,b.cell? c=some (.slice a.a a.len a.cap)/\K (IntKind.i64.wrap ((a.len:Int)-1)) 0 b)))->d e f)->(C.qcE b (fun b e=>bif !b then (d true e) else (C.qY a c (fun a b=>d (!a) b) e)) w)):=okT Tryz.func72 (.v (.y (.x (.y (.r (some [(8,.c .b)]) .done) (.y .w (.v (.x .w))))) (.v .w)))
theorem S.qG0 {a b K w}:Fr (C.qG a b K w) (C.qy a b (fun c d=>bif c.isNone then (K 100 d) else (∀e:Bool->Pw,(∀(c:Bool) (d:World),(bif c then (K 101 d) else (C.qH a b (fun a=>K 0 a) d))->e c d)->(∃a,c=some a/\∃b,d.cell? a=some (.z b)/\bif b==1 then (e true d) else (∃a,c=some a/\∃b,d.cell? a=some (.z b)/\e (b==2) d)))) w):=okT Tryz.func73 (.v (.v (.y (.x (.v (.y .w (.y (.r (some [(12,.c .b)]) .done) (.x .w))))) (.v .w))))
theorem S.qN0 {a b K w}:Fr (C.qN a b K w) (C.qY a b (fun c d=>bif !c then (K 0 false d) else (C.qX a b (fun c d e=>∃f,a=some f/\∃g:Sl,e.cell? (f.add 1)=some (.slice g.a g.len g.cap)/\∃f,g.a=some f/\0≤b/\b<(g.len:Int)/\∃g,e.cell? (f.add (b.toNat*1))=some (.pointer g)/\C.qbX g (fun e f g=>∀h:Bool->Pw,(∀(f:Bool) (g:World),(bif f then (K c d g) else (∀f:Pw,(∀c:World,(C.qi a e 2 (fun c=>∃d,a=some d/\∃a:Sl,c.cell? (d.add 2)=some (.slice a.a a.len a.cap)/\∃d,a.a=some d/\0≤b/\b<(a.len:Int)/\St c (d.add (b.toNat*1)) (.z e) fun a=>K e true a) c)->f c)->(bif d then (C.qi a c 1 (fun b=>C.qH a c (fun a=>f a) b) g) else (f g))))->h f g)->(Dr g fun b=>bif !f then (h true b) else (bif d then (∃d,a=some d/\∃f:Sl,b.cell? d=some (.slice f.a f.len f.cap)/\∃d,f.a=some d/\0≤e/\e<(f.len:Int)/\∃f,b.cell? ((d.add (e.toNat*12)).add 1)=some (.z f)/\∃d,a=some d/\∃a:Sl,b.cell? d=some (.slice a.a a.len a.cap)/\∃d,a.a=some d/\0≤c/\c<(a.len:Int)/\∃a,b.cell? ((d.add (c.toNat*12)).add 1)=some (.z a)/\h (decide (f≤a)) b) else (h false b)))) e) d)) w):=okT Tryz.func74 (.v (.y (.v (.x .w)) (.v (.v (.y (.y (.r (some [(54,.c .b)]) (.o 0 0 (.o 1 0 (.o 2 0 (.o 3 0 (.o 4 0 (.o 5 2089472 (.o 6 2089472 (.o 7 2089472 (.o 8 2089472 (.o 9 2088960 (.o 10 2088960 (.o 11 2088960 (.o 12 2088960 (.o 13 131072 (.o 14 131072 (.o 15 131072 (.o 16 131072 (.o 17 0 (.o 18 0 (.o 19 0 (.o 20 0 (.o 21 0 (.o 22 0 (.o 23 0 .done))))))))))))))))))))))))) (.x .w)) (.y (.v (.t (some []) .w .u)) (.v (.v .w))))))))
theorem S.qC0 {a b c d K w}:Fr (C.qC a b c d K w) (C.qy a b (fun a b=>∀e:Int->Pw,(∀(b:Int) (f:World),(bif b !=0 then (K b f) else (∃b,a=some b/\0≤c/\c<8/\St f ((b.add 4).add (c.toNat*1)) (.y d) fun a=>K 0 a))->e b f)->(C.qbA a.isNone 100 (fun a b=>bif decide (c<0) then (C.qbA true 1 (fun b c=>Al c (.cells #[.z a, .z b] 32) fun a=>C.qbz ⟨some (.mk c.heap.size 0 none),2,2⟩ (fun a b=>e a b) a) b) else (C.qbA (decide (c≥8)) 1 (fun b c=>Al c (.cells #[.z a, .z b] 32) fun a=>C.qbz ⟨some (.mk c.heap.size 0 none),2,2⟩ (fun a b=>e a b) a) b)) b)) w):=okT Tryz.func93 (.v (.v (.y (.y (.r (some [(10,.c (.i .i64))]) .done) (.v (.x .w))) (.v .w))))
theorem S.qX0 {a b K w}:Fr (C.qX a b K w) (∀c:Bool->Pw,(∀(d:Bool) (e:World),(bif d then (K 0 false e) else (∃c,a=some c/\∃a:Sl,e.cell? (c.add 2)=some (.slice a.a a.len a.cap)/\∃c,a.a=some c/\0≤b/\b<(a.len:Int)/\∃a,e.cell? (c.add (b.toNat*1))=some (.z a)/\K a true e))->c d e)->(C.qY a b (fun d e=>bif !d then (c true e) else (∃d,a=some d/\∃a:Sl,e.cell? (d.add 2)=some (.slice a.a a.len a.cap)/\∃d,a.a=some d/\0≤b/\b<(a.len:Int)/\∃a,e.cell? (d.add (b.toNat*1))=some (.z a)/\c (a==(-1)) e)) w)):=okT Tryz.func94 (.v (.y (.y (.r (some [(19,.c .b)]) .done) (.x .w)) .w))
theorem S.qae0 {a b K w}:Fr (C.qae a b K w) (C.qX a b (fun c d e=>bif !d then (K false e) else (∃d,a=some d/\∃f:Sl,e.cell? d=some (.slice f.a f.len f.cap)/\∃d,f.a=some d/\0≤c/\c<(f.len:Int)/\St e ((d.add (c.toNat*12)).add 3) (.z 5) fun d=>C.qi a c 1 (fun d=>C.qH a c (fun c=>C.qN a b (fun _ _ c=>K true c) c) d) d)) w):=okT Tryz.func95 (.v (.v (.y (.v (.x .w)) (.v (.v (.v (.v .w)))))))
theorem S.qcE0 {a K w}:Fr (C.qcE a K w) (bif decide (a≥0) then (K (decide (a<256)) w) else (K false w)):=okT Tryz.func105 (.v .w)
theorem S.qY0 {a b K w}:Fr (C.qY a b K w) (bif decide (b≥0) then (∃c,a=some c/\∃a:Sl,w.cell? (c.add 1)=some (.slice a.a a.len a.cap)/\K (decide (b<(a.len:Int))) w) else (K false w)):=okT Tryz.func106 (.v .w)
theorem S.qy0 {a b K w}:Fr (C.qy a b K w) (∀c:Bool->Pw,(∀(d:Bool) (e:World),(bif d then (K none e) else (∃c,a=some c/\∃a:Sl,e.cell? c=some (.slice a.a a.len a.cap)/\∃c,a.a=some c/\0≤b/\b<(a.len:Int)/\K (some (c.add (b.toNat*12))) e))->c d e)->(bif decide (b<0) then (c true w) else (∃d,a=some d/\∃a:Sl,w.cell? d=some (.slice a.a a.len a.cap)/\c (decide (b≥(a.len:Int))) w))):=okT Tryz.func107 .g24
theorem S.qH0 {a b K w}:Fr (C.qH a b K w) (C.qy a b (fun c d=>∃e,c=some e/\St d e (.z 1) fun d=>Dr d fun d=>∃e,a=some e/\∃a:Sl,d.cell? (e.add 1)=some (.slice a.a a.len a.cap)/\∃e,c=some e/\∃f,d.cell? (e.add 2)=some (.z f)/\∃e,a.a=some e/\0≤f/\f<(a.len:Int)/\∃a,d.cell? (e.add (f.toNat*1))=some (.pointer a)/\∃e,c=some e/\∃c,d.cell? (e.add 1)=some (.z c)/\(C.qci a c b (fun _ b=>K b) d)/\True) w):=okT Tryz.func108 (.v (.v (.z (.o 0 31984 (.o 1 31984 (.o 2 31984 (.o 3 31984 (.o 4 31744 (.o 5 31744 (.o 6 31744 (.o 7 31744 (.o 8 31744 (.o 9 31744 (.o 10 16384 (.o 11 16384 (.o 12 16384 (.o 13 16384 (.o 14 0 (.e 15 .done)))))))))))))))))))
theorem S.qi0 {a b c K w}:Fr (C.qi a b c K w) (C.qy a b (fun d e=>∃f,d=some f/\∃g,e.cell? f=some (.z g)/\∀f:Pw,(∀a:World,(∃b,d=some b/\St a b (.z c) fun a=>K a)->f a)->(bif g==1 then (Dr e fun c=>∃e,a=some e/\∃a:Sl,c.cell? (e.add 1)=some (.slice a.a a.len a.cap)/\∃e,d=some e/\∃d,c.cell? (e.add 2)=some (.z d)/\∃e,a.a=some e/\0≤d/\d<(a.len:Int)/\∃a,c.cell? (e.add (d.toNat*1))=some (.pointer a)/\(C.qbY a b (fun _ b=>f b) c)/\True) else (bif g==2 then (Dr e fun b=>∃c,a=some c/\∃a:Sl,b.cell? (c.add 2)=some (.slice a.a a.len a.cap)/\∃c,d=some c/\∃d,b.cell? (c.add 2)=some (.z d)/\∃c,a.a=some c/\0≤d/\d<(a.len:Int)/\(St b (c.add (d.toNat*1)) (.z (-1)) fun a=>f a)/\True) else (f e)))) w):=okT Tryz.func110 (.v (.x (.v (.x (.v (.t (some []) (.z (.o 0 1264 (.o 1 1264 (.o 2 1264 (.o 3 1264 (.o 4 1024 (.o 5 1024 (.o 6 1024 (.o 7 1024 (.o 8 1024 (.o 9 1024 (.o 10 0 (.e 11 .done))))))))))))) (.v (.x (.z (.o 0 240 (.o 1 240 (.o 2 240 (.o 3 240 .g23)))))))))))))
theorem S.qbz0 {a K w}:Fr (C.qbz a K w) (C.qB a (.func (.func 172) #[] #[]) (fun b c=>bif decide (b<0) then (K 0 c) else (∃d,a.a=some d/\0≤b/\b<(a.len:Int)/\∃a,c.cell? (d.add (b.toNat*1))=some (.z a)/\K a c)) w):=okT Tryz.func127 .g39
theorem S.qbA0 {a b K w}:Fr (C.qbA a b K w) (bif a then (K b w) else (K 0 w)):=okT Tryz.func128 .g42
theorem S.qcG0 {a K w}:Fr (C.qcG a K w) (K (a !=0) w):=okT Tryz.func172 (.v .w)
theorem S.qar0 {a b K w}:Fr (C.qar a b K w) (Al w (.cells #[.z 0, .z 0, .z 0, .z 0, .y 0, .y 0, .y 0, .y 0, .y 0, .y 0, .y 0, .y 0] 193) fun c=>C.qy a b (fun a b=>bif a.isNone then (StL b (.mk w.heap.size 0 none) 0 [.z 0, .z 0, .z 0, .z 0, .y 0, .y 0, .y 0, .y 0, .y 0, .y 0, .y 0, .y 0] fun a=>LdL a (.mk w.heap.size 0 none) 0 [.o, .o, .o, .o, .u, .u, .u, .u, .u, .u, .u, .u] fun (b c d e f g h i j k l m:Int)=>K b c d e f g h i j k l m 100 a) else (∃c,a=some c/\LdL b c 0 [.o, .o, .o, .o, .u, .u, .u, .u, .u, .u, .u, .u] fun (a c d e f g h i j k l m:Int)=>StL b (.mk w.heap.size 0 none) 0 [.z a, .z c, .z d, .z e, .y f, .y g, .y h, .y i, .y j, .y k, .y l, .y m] fun a=>LdL a (.mk w.heap.size 0 none) 0 [.o, .o, .o, .o, .u, .u, .u, .u, .u, .u, .u, .u] fun (b c d e f g h i j k l m:Int)=>K b c d e f g h i j k l m 0 a)) c):=okT Tryz.func208 .g39
theorem S.qK0 {a b K w}:Fr (C.qK a b K w) (C.qy a b (fun c d=>bif c.isNone then (K 100 d) else (∃e,c=some e/\∃c,d.cell? e=some (.z c)/\bif c==0 then (K 101 d) else (C.qi a b 0 (fun a=>K 0 a) d))) w):=okT Tryz.func211 .g28
theorem S.qaP0 {a b c K w}:Fr (C.qaP a b c K w) (C.qy a b (fun d e=>C.qbA d.isNone 100 (fun e f=>C.qcE c (fun f g=>C.qbA (!f) 1 (fun f g=>Al g (.cells #[.z e, .z f] 32) fun e=>C.qbz ⟨some (.mk g.heap.size 0 none),2,2⟩ (fun e f=>bif e !=0 then (K e f) else (∃e,d=some e/\∃g,f.cell? e=some (.z g)/\bif g !=1 then (∃a,d=some a/\St f (a.add 1) (.z c) fun a=>K 0 a) else (C.qi a b 1 (fun e=>∃f,d=some f/\St e (f.add 1) (.z c) fun c=>C.qH a b (fun a=>K 0 a) c) f))) e) g) f) e) w):=okT Tryz.func212 (.v (.v (.y (.v (.v (.x .w))) (.y (.v (.x (.v .w))) (.v (.v (.v .w)))))))
theorem S.qaf0 {a b K w}:Fr (C.qaf a b K w) (C.qy a b (fun c d=>bif c.isNone then (K 100 d) else (∃e,c=some e/\∃c,d.cell? e=some (.z c)/\bif c !=2 then (K 101 d) else (C.qi a b 3 (fun a=>K 0 a) d))) w):=okT Tryz.func260 .g28
theorem S.qdE0 {a K w}:Fr (C.qdE a K w) (∀b:Bool->Pw,(∀(c:Bool) (d:World),(bif c then (K none 1 d) else (Al d (.cells #[.slice none 0 0, .z a] 168) fun a=>K (some (.mk d.heap.size 0 none)) 0 a))->b c d)->(bif decide (a<1) then (b true w) else (b (decide (a>256)) w))):=okT Tryz.func45 .g25
theorem S.qcJ0 {a K w}:Fr (C.qcJ a K w) (∃b,a=some b/\∃a:Sl,w.cell? b=some (.slice a.a a.len a.cap)/\C.qz a (fun a b=>K a b) w):=okT Tryz.func46 (.v .w)
theorem S.qda0 {a b c K w}:Fr (C.qda a b c K w) (Al w (.cells #[.z 0, .z 0] 38) fun d=>∃e,a=some e/\∃a:Sl,d.cell? e=some (.slice a.a a.len a.cap)/\∀e:Int->Pw,(∀(d:Int) (f:World),(bif decide (d<(a.len:Int)) then (∃g,a.a=some g/\0≤d/\d<(a.len:Int)/\LdL f (g.add (d.toNat*4)) 0 [.o, .o, .o, .o] fun (a g h i:Int)=>Al f (.cells #[.z 0, .z 0, .z 0, .z 0] 71) fun j=>StL j (.mk f.heap.size 0 none) 0 [.z a, .z g, .z h, .z i] fun a=>Dr a fun a=>LdL a (.mk f.heap.size 0 none) 0 [.o, .o, .o, .o] fun (g h i j:Int)=>(C.qdK b (fun a b=>HdL b (.mk f.heap.size 0 none) 0 [.z g, .z h, .z i, .z j] ((C.qdL c (fun b c=>HdL c (.mk f.heap.size 0 none) 0 [.z g, .z h, .z i, .z j] ((a.oneCell'=true/\b.oneCell'=true/\Al c (.cells #[a,b] 237) fun a=>(C.qdJ g h i j ⟨some (.mk c.heap.size 0 none),2,2⟩ (fun a b=>bif a then (LdL b ((Addr.mk f.heap.size 0 none).add 2) 0 [.o, .o] fun (a c:Int)=>StL b (.mk w.heap.size 0 none) 0 [.z a, .z c] fun a=>LdL a (.mk w.heap.size 0 none) 0 [.o, .o] fun (b c:Int)=>K b c true a) else (e (IntKind.i64.wrap (d+1)) b)) a)/\True)/\True)) b)/\True)) a)/\True) else (StL f (.mk w.heap.size 0 none) 0 [.z 0, .z 0] fun a=>LdL a (.mk w.heap.size 0 none) 0 [.o, .o] fun (b c:Int)=>K b c false a))->e d f)->e 0 d):=okT Tryz.func80 (.v (.y (.v (.x (.t (some [(15,.c (.i .i64))]) (.v (.y .w (.x (.x (.v (.y (.z (.o 1 9 (.o 3 5 (.hold 0 52 63 (.e 2 (.e 4 (.e 5 (.e 6 .done)))))))) (.x .w))))))) .u))) .w))
theorem S.qdb0 {a b c d e K w}:Fr (C.qdb a b c d e K w) (Al w (.cells #[.z b, .z c, .z d, .z e] 71) fun b=>∀c:Bool->Pw,(∀(b:Bool) (d:World),(∀c:Pw,(∀b:World,(Dr b fun b=>∃c,a=some c/\∃d:Sl,b.cell? c=some (.slice d.a d.len d.cap)/\LdL b (.mk w.heap.size 0 none) 0 [.o, .o, .o, .o] fun (c e f g:Int)=>(Al b (.cells #[.z c, .z e, .z f, .z g] 71) fun c=>(∃e f,AppR Tryz.prog [34,34] 34 (.slice d.a d.len d.cap) (.slice (some (.mk b.heap.size 0 none)) 1 1) c e f/\∃b,a=some b/\(St f b (.slice e.a e.len e.cap) fun a=>K a)/\True)/\True)/\True)->c b)->(bif b then (∃b,a=some b/\∃e:Sl,d.cell? b=some (.slice e.a e.len e.cap)/\C.qD e 0 1 (fun b d=>∃e,a=some e/\St d e (.slice b.a b.len b.cap) fun a=>c a) d) else (c d)))->c b d)->(Dr b fun b=>∃d,b.cell? (Addr.mk w.heap.size 0 none)=some (.z d)/\∃e,b.cell? ((Addr.mk w.heap.size 0 none).add 1)=some (.z e)/\(C.qdK d (fun b d=>d.cell? ((Addr.mk w.heap.size 0 none).add 1)=some (.z e)/\(C.qdL e (fun d e=>(b.oneCell'=true/\d.oneCell'=true/\Al e (.cells #[b,d] 237) fun b=>(C.qcF a ⟨some (.mk e.heap.size 0 none),2,2⟩ (fun b d=>bif b==0 then (∃b,a=some b/\∃e:Sl,d.cell? b=some (.slice e.a e.len e.cap)/\∃b,a=some b/\∃a,d.cell? (b.add 1)=some (.z a)/\c (decide ((e.len:Int)≥a)) d) else (c false d)) b)/\True)/\True) d)/\True) b)/\True)):=okT Tryz.func82 (.v (.y (.y (.r (some [(25,.c .b)]) (.o 0 254 (.o 1 48 (.o 2 48 (.o 4 8 (.hold 5 8 4193855 (.e 3 (.e 6 (.e 7 (.e 8 (.o 9 0 (.o 10 0 (.o 11 983040 (.o 12 983040 (.o 13 983040 (.o 14 983040 (.o 15 983040 (.o 16 0 (.o 17 0 (.o 18 0 (.o 19 0 (.o 20 0 (.o 21 0 .done))))))))))))))))))))))) (.t (some []) .u .u)) (.z (.o 0 254 (.o 1 96 (.o 2 96 (.o 3 96 (.o 4 96 (.o 5 0 (.e 6 (.e 7 (.o 8 0 (.o 9 0 (.e 10 .done))))))))))))))
theorem S.qcC0 {a b c K w}:Fr (C.qcC a b c K w) (C.qdK b (fun b d=>C.qdL c (fun c d=>b.oneCell'=true/\c.oneCell'=true/\Al d (.cells #[b,c] 237) fun b=>C.qcF a ⟨some (.mk d.heap.size 0 none),2,2⟩ (fun a b=>K (decide (a>0)) b) b) d) w):=okT Tryz.func84 (.v .w)
theorem S.qdJ0 {a b c d e K w}:Fr (C.qdJ a b c d e K w) (Al w (.cells #[.z a, .z b, .z c, .z d] 71) fun a=>C.qb e (.func (.func 146) #[] #[.pointer (some (.mk w.heap.size 0 none))]) (fun a b=>K (!a) b) a):=okT Tryz.func115 (.v .w)
theorem S.qdK0 {a K w}:Fr (C.qdK a K w) (Al w (.cells #[.z a] 3) fun a=>K (.func (.func 147) #[] #[.pointer (some (.mk w.heap.size 0 none))]) a):=okT Tryz.func116 (.v .w)
theorem S.qdL0 {a K w}:Fr (C.qdL a K w) (Al w (.cells #[.z a] 3) fun a=>K (.func (.func 148) #[] #[.pointer (some (.mk w.heap.size 0 none))]) a):=okT Tryz.func117 (.v .w)
theorem S.qcF0 {a b K w}:Fr (C.qcF a b K w) (Al w (.cells #[.slice b.a b.len b.cap] 283) fun b=>∃c,a=some c/\∃d:Sl,b.cell? c=some (.slice d.a d.len d.cap)/\∃c,a=some c/\∃e:Sl,b.cell? c=some (.slice e.a e.len e.cap)/\C.qs e (.func (.func 150) #[] #[.pointer (some (.mk w.heap.size 0 none))]) (fun b c=>∃e,a=some e/\St c e (.slice b.a b.len b.cap) fun b=>∃c,a=some c/\∃a:Sl,b.cell? c=some (.slice a.a a.len a.cap)/\K (IntKind.i64.wrap ((d.len:Int)-(a.len:Int))) b) b):=okT Tryz.func120 (.v (.v (.v .w)))
theorem S.qdH0 {a b K w}:Fr (C.qdH a b K w) (LdL w b 0 [.o, .o, .o, .o] fun (b c d e:Int)=>CallV Tryz.prog (a) [.agg #[.z b, .z c, .z d, .z e]] w fun a b=>∃c,a= .returned (.bool c)/\K (!c) b):=okT Tryz.func146 (.v .w)
theorem S.qdM0 {a b c d e K w}:Fr (C.qdM a b c d e K w) (Al w (.cells #[.z a, .z b, .z c, .z d] 71) fun a=>∃b,a.cell? (Addr.mk w.heap.size 0 none)=some (.z b)/\∃c,a.cell? e=some (.z c)/\K (b==c) a):=okT Tryz.func147 (.v .w)
theorem S.qdN0 {a b c d e K w}:Fr (C.qdN a b c d e K w) (Al w (.cells #[.z a, .z b, .z c, .z d] 71) fun a=>∃b,a.cell? ((Addr.mk w.heap.size 0 none).add 1)=some (.z b)/\∃c,a.cell? e=some (.z c)/\K (b==c) a):=okT Tryz.func148 (.v .w)
theorem S.qcS0 {a b c d e K w}:Fr (C.qcS a b c d e K w) (Al w (.cells #[.z a, .z b, .z c, .z d] 71) fun a=>LdL a (.mk w.heap.size 0 none) 0 [.o, .o, .o, .o] fun (b c d f:Int)=>∃g:Sl,a.cell? e=some (.slice g.a g.len g.cap)/\C.qdJ b c d f g (fun a b=>K a b) a):=okT Tryz.func150 (.v .w)
end Go.Proofs.YtghikphgplamkaaGreat
end
section
set_option maxRecDepth 8000
namespace Go.Proofs.YtghikphgplamkaaGreat.Th
open Go Go.Vc Go.Proofs
structure Thd where
 st:Int
 pr:Int
 co:Int
 le:Int
 rg:Nat->Int
def thE:EncT Thd:=⟨12,fun t=>[.z t.st, .z t.pr, .z t.co, .z t.le, .y (t.rg 0), .y (t.rg 1), .y (t.rg 2), .y (t.rg 3), .y (t.rg 4), .y (t.rg 5), .y (t.rg 6), .y (t.rg 7)],fun _=>rfl,fun x v h=>by
 simp only[List.mem_cons,List.not_mem_nil,or_false] at h;rcases h with rfl|rfl|rfl|rfl|rfl|rfl|rfl|rfl|rfl|rfl|rfl|rfl<;>rfl,by decide⟩
def ptrE:EncT Nat:=⟨1,fun b=>[.pointer (some ⟨b,0,none⟩)],fun _=>rfl,fun x v h=>by simp at h;subst h;rfl,Nat.le_refl _⟩
structure Mt where
 ths:List Thd
 qs:List Qs
 runs:List Int
def ThrA (b:Nat) (m:Mt):Asn:=ExA fun p:(Sl × Sl × Sl)× List Nat=>StarA (PureA (p.2.length=m.qs.length)::BlkA b [slV p.1.1,slV p.1.2.1,slV p.1.2.2]::SlT thE p.1.1 m.ths::SlT ptrE p.1.2.1 p.2::SlT intE p.1.2.2 m.runs::List.zipWith QueueA p.2 m.qs)
theorem qz_set {b:Nat} {L':Qs}:∀(bs:List Nat) (qs:List Qs) (c:Nat),bs[c]?=some b->(List.zipWith QueueA bs qs).set c (QueueA b L')=List.zipWith QueueA bs (qs.set c L')
 | [],_,_,h=>by simp at h
 |_::_,[],c,_=>by simp
 |b0::bs,q::qs,0,h=>by simp at h;subst h;rfl
 |b0::bs,q::qs,c+1,h=>by simp[qz_set bs qs c (by simpa using h)]
section
variable {B:Nat} {w0 w:World} {R L:List Asn} {b:Nat} {m:Mt}
theorem _root_.Go.Vc.Own.thr (h:Own B w0 w (ThrA b m::R)):∃l q r bs,bs.length=m.qs.length/\Own B w0 w (BlkA b [slV l,slV q,slV r]::SlT thE l m.ths::SlT ptrE q bs::SlT intE r m.runs::(List.zipWith QueueA bs m.qs++R)):=by
 obtain ⟨⟨⟨l,q,r⟩,bs⟩,h⟩:=h.ex;obtain ⟨h1,h⟩:=Own.pure h.star;exact ⟨l,q,r,bs,h1,h⟩
theorem _root_.Go.Vc.Own.mk_thr {l q r:Sl} {bs:List Nat} (h1:bs.length=m.qs.length) (h:Own B w0 w (BlkA b [slV l,slV q,slV r]::SlT thE l m.ths::SlT ptrE q bs::SlT intE r m.runs::(List.zipWith QueueA bs m.qs++R))):Own B w0 w (ThrA b m::R):=
 Own.mk_ex ((l,q,r),bs) (Own.mk_star (Own.mk_pure h1 h))
theorem _root_.Go.Vc.Own.qout {A1 A2 A3 A4:Asn} {bs:List Nat} {qs:List Qs} {c b1:Nat} {Q:Qs} (hb:bs[c]?=some b1) (hq:qs[c]?=some Q) (h:Own B w0 w (A1::A2::A3::A4::(List.zipWith QueueA bs qs++R))):
  Own B w0 w (QueueA b1 Q::A1::A2::A3::A4::(List.zipWith QueueA bs qs++R).eraseIdx c):=by
 have h1:=(List.getElem?_eq_some_iff.1 hb).1;have h2:=(List.getElem?_eq_some_iff.1 hq).1
 have hz:(List.zipWith QueueA bs qs++R)[c]?=some (QueueA b1 Q):=by
  rw[List.getElem?_append_left (by simp;omega),List.getElem?_zipWith,hb,hq]
 exact h.take (c+4) (by simpa using hz)
theorem _root_.Go.Vc.Own.qin {A1 A2 A3 A4:Asn} {bs:List Nat} {qs:List Qs} {c b1:Nat} {Q:Qs} (hb:bs[c]?=some b1) (hc:c<qs.length) (h:Own B w0 w (QueueA b1 Q::A1::A2::A3::A4::(List.zipWith QueueA bs qs++R).eraseIdx c)):
  Own B w0 w (A1::A2::A3::A4::(List.zipWith QueueA bs (qs.set c Q)++R)):=by
 have h1:=(List.getElem?_eq_some_iff.1 hb).1
 have h2:Own B w0 w (QueueA b1 Q::(A1::A2::A3::A4::(List.zipWith QueueA bs qs++R)).eraseIdx (c+4)):=by
  simpa only[List.eraseIdx_cons_succ] using h
 have h3:=h2.put (by simp;omega);simp only[List.set_cons_succ] at h3;rw[List.set_append_left _ _ (by simp;omega),qz_set bs qs c hb] at h3;exact h3
def zTh:Thd:=⟨0,0,0,0,fun _=>0⟩
def Mt.th (m:Mt) (n:Int):Thd:=if n<0 then zTh else (m.ths[n.toNat]?).getD zTh
def Mt.q (m:Mt) (n:Int):Qs:=if n<0 then [] else (m.qs[n.toNat]?).getD []
def Mt.run (m:Mt) (n:Int):Int:=if n<0 then -1 else (m.runs[n.toNat]?).getD (-1)
def Mt.setTh (m:Mt) (n:Int) (t:Thd):Mt:={ m with ths:=m.ths.set n.toNat t}
def Mt.setQ (m:Mt) (n:Int) (Q:Qs):Mt:={ m with qs:=m.qs.set n.toNat Q}
def Mt.setR (m:Mt) (n v:Int):Mt:={ m with runs:=m.runs.set n.toNat v}
def Mt.isT (m:Mt) (n:Int):Bool:=decide (0≤n)&&decide (n<m.ths.length)
def Mt.isC (m:Mt) (n:Int):Bool:=decide (0≤n)&&decide (n<m.qs.length)
def Mt.lineUp (m:Mt) (n:Int):Mt:=(m.setTh n { m.th n with st:=1}).setQ (m.th n).co (putR (m.q (m.th n).co) (m.th n).pr n).2
def Mt.leave0 (m:Mt) (n:Int):Mt:=if (m.th n).st=1 then m.setQ (m.th n).co (takeR (m.q (m.th n).co) n).2 else if (m.th n).st=2 then m.setR (m.th n).co (-1) else m
def Mt.leave (m:Mt) (n s:Int):Mt:=(m.leave0 n).setTh n { m.th n with st:=s}
def Mt.pick (m:Mt) (c:Int):Mt:=match nextR (m.q c) with
 |none=>m
 |some n=>if m.run c= -1 then (m.leave n 2).setR c n else
  if (m.th n).pr≤(m.th (m.run c)).pr then m else (((m.leave (m.run c) 1).lineUp (m.run c)).leave n 2).setR c n
structure MOk (m:Mt):Prop where
 few:m.ths.length≤64
 cores:m.runs.length=m.qs.length
 most:m.qs.length≤8
 core:∀t∈m.ths,0≤t.co/\t.co<m.qs.length
 left:∀t∈m.ths,t.le=t.le
 run:∀n∈m.runs,n= -1∨(0≤n/\n<m.ths.length)
 line:∀Q∈m.qs,∀x∈Q,0≤x.2/\x.2<m.ths.length
theorem pigeon:∀(n:Nat) (l:List Int),l.Nodup->(∀x∈l,0≤x/\x<(n:Int))->l.length≤n
 |0,l,_,h=>by
  cases l with
  |nil=>simp
  |cons a l=>have:=h a (by simp);omega
 |n+1,l,hn,h=>by
  have h1:=pigeon n (l.filter fun x=>x !=(n:Int)) (hn.sublist List.filter_sublist) fun x hx=>by
   have h2:=List.mem_filter.1 hx;have h3:=h x h2.1;have h4:x≠(n:Int):=by simpa using h2.2
   omega
  have h2:l.length≤(l.filter fun x=>x !=(n:Int)).length+1:=by
   clear h1 h
   induction l with
   |nil=>simp
   |cons a l ih=>
    rw[List.nodup_cons] at hn;by_cases e:a=(n:Int)
    ·have:l.filter (fun x=>x !=(n:Int))=l:=by
      rw[List.filter_eq_self];intro x hx;have:x≠(n:Int):=fun e2=>hn.1 (by rw[e,←e2];exact hx)
      simpa using this
     rw[List.filter_cons_of_neg (by simp[e]),this,List.length_cons];exact Nat.le_refl _
    ·rw[List.filter_cons_of_pos (by simpa using e),List.length_cons,List.length_cons]
     have:=ih hn.2;omega
  omega
theorem th_get {n:Int} {t:Thd} (h0:0≤n) (h:m.ths[n.toNat]?=some t):m.th n=t:=by unfold Mt.th;rw[if_neg (by omega),h];rfl
theorem isT_get {n:Int} (h:m.isT n=true):0≤n/\n<m.ths.length/\m.ths[n.toNat]?=some (m.th n):=by
 unfold Mt.isT at h;simp only[Bool.and_eq_true,decide_eq_true_eq] at h;obtain ⟨h0,h1⟩:=h;refine ⟨h0,h1,?_⟩;have e:=gE (l:=m.ths) (i:=n.toNat) (by omega);rw[e,th_get h0 e]
theorem q_get {n:Int} (h0:0≤n) (h1:n<m.qs.length):m.qs[n.toNat]?=some (m.q n):=by
 have e:=gE (l:=m.qs) (i:=n.toNat) (by omega);unfold Mt.q;rw[if_neg (by omega),e];rfl
theorem r_get {n:Int} (h0:0≤n) (h1:n<m.runs.length):m.runs[n.toNat]?=some (m.run n):=by
 have e:=gE (l:=m.runs) (i:=n.toNat) (by omega);unfold Mt.run;rw[if_neg (by omega),e];rfl
theorem thr_prio_spec {n:Int} {K:Bool->Pw} (hK:K (decide (0≤n)&&decide (n<256)) w):C.qcE n K w:=by
 apply S.qcE0;refine cdec (fun e=>?_) (fun e=>?_)
 ·rw[decide_eq_true (show 0≤n from e),Bool.true_and] at hK;exact hK
 ·rw[decide_eq_false (show ¬0≤n from e),Bool.false_and] at hK;exact hK
theorem thr_when_spec {so:Bool} {e:Int} {K:Int->Pw} (hK:K (if so then e else 0) w):C.qbA so e K w:=by
 apply S.qbA0;cases so<;>exact hK
theorem thr_core_o {l q r:Sl} {bs:List Nat} {n:Int} {A2 A4:Asn} {K:Bool->Pw} (hb:bs.length=m.qs.length) (h:Own B w0 w (BlkA b [slV l,slV q,slV r]::A2::SlT ptrE q bs::A4::L)) (hK:K (m.isC n) w):C.qY (some ⟨b,0,none⟩) n K w:=by
 apply S.qY0;have hl:=h.lenc q;unfold Mt.isC at hK;refine cdec (fun e=>?_) (fun e=>?_)
 ·(repeat first|refine ⟨_,h.ldc rfl,?_⟩|refine exs ?_)
  rw[decide_eq_true (show 0≤n from e),Bool.true_and] at hK;rw[hl,hb];exact hK
 ·rw[decide_eq_false (show ¬0≤n from e),Bool.false_and] at hK;exact hK
theorem thr_one_o {l q r:Sl} {n:Int} {A3 A4:Asn} {K:Option Addr->Pw} (h:Own B w0 w (BlkA b [slV l,slV q,slV r]::SlT thE l m.ths::A3::A4::L)) (hK0:m.isT n=false->K none w) (hK1:∀a,m.isT n=true->l.a=some a->K (some (a.add (n.toNat*12))) w):C.qy (some ⟨b,0,none⟩) n K w:=by
 apply S.qy0;have hl:=h.lenc l;unfold Mt.isT at hK0 hK1;intro k hk;refine cdec (fun e=>?_) (fun e=>?_)
 ·refine hk _ _ (cbT rfl ?_)
  exact hK0 (by rw[decide_eq_false (show ¬0≤n by omega),Bool.false_and])
 ·(repeat first|refine ⟨_,h.ldc rfl,?_⟩|refine exs ?_)
  refine hk _ _ ?_;refine cdec (fun e2=>?_) (fun e2=>?_)
  ·exact hK0 (by rw[decide_eq_false (show ¬n<(m.ths.length:Int) by omega),Bool.and_false])
  ·(repeat first|refine ⟨_,h.ldc rfl,?_⟩|refine exs ?_)
   obtain ⟨x,hx⟩:∃x,m.ths[n.toNat]?=some x:=⟨_,gE (by omega)⟩
   refine h.ixc (s:=l) (j:=n.toNat) (by omega) hx fun a ha h0 hc=>?_
   exact hK1 a (by rw[decide_eq_true (show 0≤n by omega),decide_eq_true (show n<(m.ths.length:Int) by omega)];rfl) ha
end
section
variable {B:Nat} {w0 w:World} {R L:List Asn} {b:Nat} {m:Mt}
theorem MOk.setTh (hm:MOk m) {n:Int} {t:Thd} (h1:0≤t.co/\t.co<m.qs.length) (h2:t.le=t.le):MOk (m.setTh n t):=by
 unfold Mt.setTh;refine ⟨by rw[List.length_set];exact hm.few,hm.cores,hm.most,fun x hx=>?_,fun x hx=>rfl,by rw[List.length_set];exact hm.run,by rw[List.length_set];exact hm.line⟩;rcases List.mem_or_eq_of_mem_set hx with h|h
 ·exact hm.core x h
 ·rw[h];exact h1
theorem MOk.setQ (hm:MOk m) {n:Int} {Q:Qs} (h1:∀x∈Q,0≤x.2/\x.2<m.ths.length):MOk (m.setQ n Q):=by
 unfold Mt.setQ;refine ⟨hm.few,by rw[List.length_set];exact hm.cores,by rw[List.length_set];exact hm.most,by rw[List.length_set];exact hm.core,hm.left,hm.run,fun x hx=>?_⟩;rcases List.mem_or_eq_of_mem_set hx with h|h
 ·exact hm.line x h
 ·rw[h];exact h1
theorem MOk.setR (hm:MOk m) {n v:Int} (h1:v= -1∨(0≤v/\v<m.ths.length)):MOk (m.setR n v):=by
 unfold Mt.setR;refine ⟨hm.few,by rw[List.length_set];exact hm.cores,hm.most,hm.core,hm.left,fun x hx=>?_,hm.line⟩;rcases List.mem_or_eq_of_mem_set hx with h|h
 ·exact hm.run x h
 ·rw[h];exact h1
theorem MOk.qline (hm:MOk m) {c:Int}:∀x∈m.q c,0≤x.2/\x.2<m.ths.length:=fun x hx=>by
 unfold Mt.q at hx;split at hx
 ·simp at hx
 ·cases e:m.qs[c.toNat]? with
  |none=>rw[e] at hx;simp at hx
  |some Q=>rw[e] at hx;exact hm.line Q (List.mem_of_getElem? e) x hx
theorem MOk.th (hm:MOk m) {n:Int} (hn:m.isT n=true):(0≤(m.th n).co/\(m.th n).co<m.qs.length)/\((m.th n).le=(m.th n).le):=by
 have:=List.mem_of_getElem? (isT_get hn).2.2;exact ⟨hm.core _ this,hm.left _ this⟩
theorem putR_ids {Q:Qs} {p n:Int} {k:Int} (h:∀x∈Q,0≤x.2/\x.2<k) (hn:0≤n/\n<k):∀x∈(putR Q p n).2,0≤x.2/\x.2<k:=by
 unfold putR;split
 ·exact h
 ·split
  ·exact h
  ·intro x hx
   rcases List.mem_append.1 hx with h2|h2
   ·exact h x h2
   ·simp at h2;subst h2;exact hn
theorem takeR_ids {Q:Qs} {n:Int} {k:Int} (h:∀x∈Q,0≤x.2/\x.2<k):∀x∈(takeR Q n).2,0≤x.2/\x.2<k:=by
 unfold takeR;split
 ·exact fun x hx=>h x (List.mem_filter.1 hx).1
 ·exact h
theorem MOk.lineUp (hm:MOk m) {n:Int} (hn:m.isT n=true):MOk (m.lineUp n):=by
 have ht:=hm.th hn;have hb:=isT_get hn;unfold Mt.lineUp;refine (hm.setTh (t:={ m.th n with st:=1}) ht.1 ht.2).setQ ?_;have:(m.setTh n { m.th n with st:=1}).ths.length=m.ths.length:=by unfold Mt.setTh;simp
 rw[this];exact putR_ids hm.qline ⟨hb.1,hb.2.1⟩
theorem MOk.leave0 (hm:MOk m) {n:Int}:MOk (m.leave0 n):=by
 unfold Mt.leave0;split
 ·exact hm.setQ (takeR_ids hm.qline)
 ·split
  ·exact hm.setR (.inl rfl)
  ·exact hm
theorem leave0_len {n:Int}:(m.leave0 n).ths=m.ths/\(m.leave0 n).qs.length=m.qs.length:=by
 unfold Mt.leave0 Mt.setQ Mt.setR;split
 ·simp
 ·split<;>simp
theorem MOk.leave (hm:MOk m) {n s:Int} (hn:m.isT n=true):MOk (m.leave n s):=by
 have ht:=hm.th hn;unfold Mt.leave;refine hm.leave0.setTh (t:={ m.th n with st:=s}) ?_ ht.2;rw[leave0_len.2];exact ht.1
theorem ids_len {Q:Qs} {k:Nat} (hq:QOk Q) (h:∀x∈Q,0≤x.2/\x.2<(k:Int)):Q.length≤k:=by
 have:=pigeon k (Q.map (·.2)) hq.nodup fun x hx=>by
  obtain ⟨y,hy,e⟩:=List.mem_map.1 hx;rw[←e];exact h y hy
 simpa using this
theorem lineUp_isT {n k:Int}:(m.lineUp n).isT k=m.isT k:=by unfold Mt.lineUp Mt.isT Mt.setQ Mt.setTh;simp
theorem leave_isT {n s k:Int}:(m.leave n s).isT k=m.isT k:=by unfold Mt.leave Mt.isT Mt.setTh;simp[leave0_len.1]
theorem lineUp_isC {n k:Int}:(m.lineUp n).isC k=m.isC k:=by unfold Mt.lineUp Mt.isC Mt.setQ Mt.setTh;simp
theorem leave_isC {n s k:Int}:(m.leave n s).isC k=m.isC k:=by unfold Mt.leave Mt.isC Mt.setTh;simp[leave0_len.2]
theorem stTh {l:Sl} {A1 A3 A4:Asn} {ths:List Thd} {n:Int} {t t':Thd} {c:Nat} {v:Value} {a:Addr} {k:Pw} (h:Own B w0 w (A1::SlT thE l ths::A3::A4::L)) (h0:0≤n) (hx:ths[n.toNat]?=some t) (ha:l.a=some a)
  (he:thE.enc t'=(thE.enc t).set c v) (hc:c<12) (hv:v.oneCell'=true) (hk:∀w',Own B w0 w' (A1::SlT thE l (ths.set n.toNat t')::A3::A4::L)->k w'):St w ((a.add (n.toNat*12)).add c) v k:=
 Own.stFc (s:=l) (E:=thE) (xs:=ths) (i:=n) (j:=n.toNat) (c:=c) (x:=t) h t' (by omega) hx ha he hc hv fun w' h=>hk w' h.up1
theorem ldTh {l:Sl} {A1 A3 A4:Asn} {ths:List Thd} {n:Int} {t:Thd} {c:Nat} {v:Value} {a:Addr} (h:Own B w0 w (A1::SlT thE l ths::A3::A4::L)) (h0:0≤n) (hx:ths[n.toNat]?=some t) (ha:l.a=some a)
  (he:(thE.enc t)[c]?=some v):w.cell? ((a.add (n.toNat*12)).add c)=some v:=
 (h.ixa (s:=l) (E:=thE) (i:=n) (j:=n.toNat) (by omega) hx ha).2 c v he
theorem thr_lineUp_spec {n:Int} {K:Pw} (hm:MOk m) (hn:m.isT n=true) (h:Own B w0 w (ThrA b m::R)) (hK:∀w',Own B w0 w' (ThrA b (m.lineUp n)::R)->K w'):C.qH (some ⟨b,0,none⟩) n K w:=by
 apply S.qH0;obtain ⟨l,q,r,bs,hbs,h⟩:=h.thr;obtain ⟨n0,n1,hx⟩:=isT_get hn;obtain ⟨⟨c0,c1⟩,_⟩:=hm.th hn;obtain ⟨b1,hb1⟩:∃x,bs[(m.th n).co.toNat]?=some x:=⟨_,gE (by omega)⟩
 refine thr_one_o h (fun e=>by rw[hn] at e;cases e) fun a _ ha=>?_
 refine ⟨_,rfl,?_⟩;refine stTh (c:=0) (t':={ m.th n with st:=1}) h n0 hx ha rfl (by decide) rfl fun w h=>?_
 have hx2:(m.ths.set n.toNat { m.th n with st:=1})[n.toNat]?=some { m.th n with st:=1}:=by rw[List.getElem?_set,if_pos rfl,if_pos (by omega)]
 refine h.dr fun w h=>?_
 refine ⟨_,rfl,q,h.ldd rfl,_,rfl,_,ldTh (c:=2) h n0 hx2 ha rfl,?_⟩;refine h.ixc (s:=q) (j:=(m.th n).co.toNat) (by show (m.th n).co=_;omega) hb1 fun a2 ha2 h0 hc=>⟨_,h0 _ rfl,?_⟩
 refine ⟨_,rfl,_,ldTh (c:=1) h n0 hx2 ha rfl,Go.Vc.a2 ?_⟩;have h:=h.qout hb1 (q_get c0 c1);have hqok:QOk (m.q (m.th n).co):=by obtain ⟨_,e,_⟩:=h.queue;exact e
 have hlen:=ids_len hqok hm.qline;have hfew:=hm.few;refine ready_Queue_Put_spec h (by omega) fun w h=>?_
 have h:=h.qin (qs:=m.qs) hb1 (by omega);exact hK w (Own.mk_thr (m:=m.lineUp n) (bs:=bs) (by unfold Mt.lineUp Mt.setQ Mt.setTh;simpa using hbs) h)
theorem thr_leave_spec {n s:Int} {K:Pw} (hm:MOk m) (hn:m.isT n=true) (h:Own B w0 w (ThrA b m::R)) (hK:∀w',Own B w0 w' (ThrA b (m.leave n s)::R)->K w'):C.qi (some ⟨b,0,none⟩) n s K w:=by
 apply S.qi0;obtain ⟨l,q,r,bs,hbs,h⟩:=h.thr;obtain ⟨n0,n1,hx⟩:=isT_get hn;obtain ⟨⟨c0,c1⟩,_⟩:=hm.th hn;have hcr:=hm.cores;obtain ⟨b1,hb1⟩:∃x,bs[(m.th n).co.toNat]?=some x:=⟨_,gE (by omega)⟩
 refine thr_one_o h (fun e=>by rw[hn] at e;cases e) fun a _ ha=>?_
 refine ⟨_,rfl,_,ldTh (c:=0) h n0 hx ha rfl,?_⟩;intro k hk
 have fin:∀w,Own B w0 w (BlkA b [slV l,slV q,slV r]::SlT thE l m.ths::SlT ptrE q bs::SlT intE r (m.leave0 n).runs::(List.zipWith QueueA bs (m.leave0 n).qs++R))->k w:=fun w h=>by
  apply hk;refine ⟨_,rfl,?_⟩;refine stTh (c:=0) (t':={ m.th n with st:=s}) h n0 hx ha rfl (by decide) rfl fun w h=>?_
  refine hK w (Own.mk_thr (m:=m.leave n s) (l:=l) (q:=q) (r:=r) (bs:=bs) ?_ ?_)
  ·show bs.length=(m.leave0 n).qs.length
   rw[leave0_len.2];exact hbs
  ·have e:(m.leave n s).ths=m.ths.set n.toNat { m.th n with st:=s}:=by unfold Mt.leave Mt.setTh;rw[leave0_len.1]
   rw[e];exact h
 refine ceq (fun e=>?_) (fun e=>?_)
 ·have e1:m.leave0 n=m.setQ (m.th n).co (takeR (m.q (m.th n).co) n).2:=by unfold Mt.leave0;rw[if_pos e]
  rw[e1] at fin;refine h.dr fun w h=>?_
  refine ⟨_,rfl,q,h.ldd rfl,_,rfl,_,ldTh (c:=2) h n0 hx ha rfl,?_⟩;refine h.ixc (s:=q) (j:=(m.th n).co.toNat) (by show (m.th n).co=_;omega) hb1 fun a2 ha2 h0 hc=>⟨_,h0 _ rfl,Go.Vc.a2 ?_⟩
  have h:=h.qout hb1 (q_get c0 c1);refine ready_Queue_Take_spec h fun w h=>?_
  exact fin w (h.qin (qs:=m.qs) hb1 (by omega))
 refine ceq (fun e2=>?_) (fun e2=>?_)
 ·have e1:m.leave0 n=m.setR (m.th n).co (-1):=by unfold Mt.leave0;rw[if_neg e,if_pos e2]
  rw[e1] at fin;refine h.dr fun w h=>?_
  refine ⟨_,rfl,r,h.ldd rfl,_,rfl,_,ldTh (c:=2) h n0 hx ha rfl,?_⟩;refine h.ixc (s:=r) (j:=(m.th n).co.toNat) (by show (m.th n).co=_;omega) (r_get (m:=m) c0 (by omega)) fun a2 ha2 h0 hc=>Go.Vc.a2 ?_
  refine Own.stEc (s:=r) (E:=intE) (xs:=m.runs) (i:=(m.th n).co) (j:=(m.th n).co.toNat) h (-1) (by omega) (by omega) ha2 rfl fun w h=>?_
  exact fin w h.up3.up3.up3
 ·have e1:m.leave0 n=m:=by unfold Mt.leave0;rw[if_neg e,if_neg e2]
  rw[e1] at fin;exact fin w h
end
section
variable {B:Nat} {w0 w:World} {R L:List Asn} {b:Nat} {m:Mt}
def Mt.runs? (m:Mt) (c:Int):Option Int:=if m.isC c=true/\m.run c≠ -1 then some (m.run c) else none
theorem isC_iff {c:Int}:m.isC c=true↔0≤c/\c<m.qs.length:=by unfold Mt.isC;simp
theorem thr_Runs_spec {c:Int} {K:Int->Bool->Pw} (hm:MOk m) (h:Own B w0 w (ThrA b m::R)) (hK:∀w',Own B w0 w' (ThrA b m::R)->K ((m.runs? c).getD 0) (m.runs? c).isSome w'):C.qX (some ⟨b,0,none⟩) c K w:=by
 apply S.qX0;have hcr:=hm.cores;obtain ⟨l,q,r,bs,hbs,h⟩:=h.thr;intro k hk;refine thr_core_o hbs h ?_;unfold Mt.runs? at hK;cases hc:m.isC c with
 |false=>
  rw[if_neg (by rw[hc];simp)] at hK;refine cbT rfl (hk _ _ (cbT rfl ?_));exact hK w (Own.mk_thr hbs h)
 |true=>
  obtain ⟨c0,c1⟩:=isC_iff.1 hc;refine cbF rfl ?_
  repeat first|refine ⟨_,h.ldc rfl,?_⟩|refine exs ?_
  refine h.ixc (s:=r) (j:=c.toNat) (by omega) (r_get (m:=m) c0 (by omega)) fun a ha h0 hcc=>⟨_,h0 _ rfl,?_⟩
  refine hk _ _ ?_;refine ceq (fun e=>?_) (fun e=>?_)
  ·rw[if_neg (by simp[e])] at hK
   exact hK w (Own.mk_thr hbs h)
  ·rw[if_pos ⟨hc,e⟩] at hK
   repeat first|refine ⟨_,h.ldc rfl,?_⟩|refine exs ?_
   refine h.ixc (s:=r) (j:=c.toNat) (by omega) (r_get (m:=m) c0 (by omega)) fun a ha h0 hcc=>⟨_,h0 _ rfl,?_⟩
   exact hK w (Own.mk_thr hbs h)
theorem thr_Get_spec {n:Int} {K:Int->Int->Int->Int->Int->Int->Int->Int->Int->Int->Int->Int->Int->Pw} (h:Own B w0 w (ThrA b m::R))
  (hK:∀w' t,t=(if m.isT n then m.th n else zTh)->Own B w0 w' (ThrA b m::R)->K t.st t.pr t.co t.le (t.rg 0) (t.rg 1) (t.rg 2) (t.rg 3) (t.rg 4) (t.rg 5) (t.rg 6) (t.rg 7) (if m.isT n then 0 else 100) w'):C.qar (some ⟨b,0,none⟩) n K w:=by
 apply S.qar0;refine h.al fun w1 h=>?_
 generalize w.heap.size=c at h⊢;have h:Own B w0 w1 (ThrA b m::BlkA c [.z 0, .z 0, .z 0, .z 0, .y 0, .y 0, .y 0, .y 0, .y 0, .y 0, .y 0, .y 0]::R):=h.up1;obtain ⟨l,q,r,bs,hbs,h⟩:=h.thr;have back:∀{w:World} {cs:List Value},Own B w0 w (BlkA c cs::BlkA b [slV l,slV q,slV r]::SlT thE l m.ths::SlT ptrE q bs::SlT intE r m.runs::(List.zipWith QueueA bs m.qs++R))->Own B w0 w (ThrA b m::R):=fun h=>Own.mk_thr hbs h.drop
 have mid:∀{w:World} {A:Asn},Own B w0 w (BlkA b [slV l,slV q,slV r]::SlT thE l m.ths::SlT ptrE q bs::SlT intE r m.runs::(List.zipWith QueueA bs m.qs++A::R))->Own B w0 w (A::BlkA b [slV l,slV q,slV r]::SlT thE l m.ths::SlT ptrE q bs::SlT intE r m.runs::(List.zipWith QueueA bs m.qs++R)):=fun {w A} h=>by
  refine h.perm ?_;have:List.Perm (List.zipWith QueueA bs m.qs++A::R) (A::(List.zipWith QueueA bs m.qs++R)):=List.perm_middle;refine ((((this.cons _).cons _).cons _).cons _).trans ?_;exact (List.perm_middle (l₁:=[BlkA b [slV l,slV q,slV r],SlT thE l m.ths,SlT ptrE q bs,SlT intE r m.runs]))
 refine thr_one_o h (fun e=>?_) fun a e ha=>?_
 ·have h:=mid h
  refine cbT rfl ?_;refine h.stLc rfl rfl fun w h=>?_
  refine h.lc_12 rfl ?_;have:=hK w zTh (by rw[e];rfl) (back h);rw[e] at this;exact this
 ·obtain ⟨n0,n1,hx⟩:=isT_get e
  have hc:=(h.ixa (s:=l) (E:=thE) (i:=n) (j:=n.toNat) (by omega) hx ha).2;have h2:=mid h;refine cbF rfl ?_;refine ⟨_,rfl,?_⟩;refine ⟨_,hc 0 _ rfl,_,hc 1 _ rfl,_,hc 2 _ rfl,_,hc 3 _ rfl,_,hc 4 _ rfl,_,hc 5 _ rfl,_,hc 6 _ rfl,_,hc 7 _ rfl,_,hc 8 _ rfl,_,hc 9 _ rfl,_,hc 10 _ rfl,_,hc 11 _ rfl,?_⟩;refine h2.stLc rfl rfl fun w h=>?_
  refine h.lc_12 rfl ?_;have:=hK w (m.th n) (by rw[e];rfl) (back h);rw[e] at this;exact this
theorem thr_Resume_spec {n:Int} {K:Int->Pw} (hm:MOk m) (h:Own B w0 w (ThrA b m::R))
  (hK0:m.isT n=false->∀w',Own B w0 w' (ThrA b m::R)->K 100 w') (hK1:m.isT n=true->(m.th n).st=1∨(m.th n).st=2->∀w',Own B w0 w' (ThrA b m::R)->K 101 w')
  (hK2:m.isT n=true->(m.th n).st≠1->(m.th n).st≠2->∀w',Own B w0 w' (ThrA b (m.lineUp n)::R)->K 0 w'):C.qG (some ⟨b,0,none⟩) n K w:=by
 apply S.qG0;obtain ⟨l,q,r,bs,hbs,h⟩:=h.thr;refine thr_one_o h (fun e=>?_) fun a e ha=>?_
 ·refine cbT rfl ?_
  exact hK0 e w (Own.mk_thr hbs h)
 ·obtain ⟨n0,n1,hx⟩:=isT_get e
  refine cbF rfl ?_;intro k hk;refine ⟨_,rfl,_,ldTh (c:=0) h n0 hx ha rfl,?_⟩;refine ceq (fun e1=>?_) (fun e1=>?_)
  ·refine hk _ _ (cbT rfl ?_)
   exact hK1 e (.inl e1) w (Own.mk_thr hbs h)
  refine ⟨_,rfl,_,ldTh (c:=0) h n0 hx ha rfl,hk _ _ ?_⟩;refine ceq (fun e2=>?_) (fun e2=>?_)
  ·exact hK1 e (.inr e2) w (Own.mk_thr hbs h)
  ·refine thr_lineUp_spec hm e (Own.mk_thr hbs h) fun w h=>?_
   exact hK2 e e1 e2 w h
theorem thr_Block_spec {n:Int} {K:Int->Pw} (hm:MOk m) (h:Own B w0 w (ThrA b m::R))
  (hK0:m.isT n=false->∀w',Own B w0 w' (ThrA b m::R)->K 100 w') (hK1:m.isT n=true->(m.th n).st≠2->∀w',Own B w0 w' (ThrA b m::R)->K 101 w')
  (hK2:m.isT n=true->(m.th n).st=2->∀w',Own B w0 w' (ThrA b (m.leave n 3)::R)->K 0 w'):C.qaf (some ⟨b,0,none⟩) n K w:=by
 apply S.qaf0;obtain ⟨l,q,r,bs,hbs,h⟩:=h.thr;refine thr_one_o h (fun e=>?_) fun a e ha=>?_
 ·refine cbT rfl ?_
  exact hK0 e w (Own.mk_thr hbs h)
 ·obtain ⟨n0,n1,hx⟩:=isT_get e
  refine cbF rfl ?_;refine ⟨_,rfl,_,ldTh (c:=0) h n0 hx ha rfl,?_⟩;refine cne (fun e1=>?_) (fun e1=>?_)
  ·exact hK1 e e1 w (Own.mk_thr hbs h)
  ·refine thr_leave_spec hm e (Own.mk_thr hbs h) fun w h=>?_
   exact hK2 e e1 w h
theorem thr_Suspend_spec {n:Int} {K:Int->Pw} (hm:MOk m) (h:Own B w0 w (ThrA b m::R))
  (hK0:m.isT n=false->∀w',Own B w0 w' (ThrA b m::R)->K 100 w') (hK1:m.isT n=true->(m.th n).st=0->∀w',Own B w0 w' (ThrA b m::R)->K 101 w')
  (hK2:m.isT n=true->(m.th n).st≠0->∀w',Own B w0 w' (ThrA b (m.leave n 0)::R)->K 0 w'):C.qK (some ⟨b,0,none⟩) n K w:=by
 apply S.qK0;obtain ⟨l,q,r,bs,hbs,h⟩:=h.thr;refine thr_one_o h (fun e=>?_) fun a e ha=>?_
 ·refine cbT rfl ?_
  exact hK0 e w (Own.mk_thr hbs h)
 ·obtain ⟨n0,n1,hx⟩:=isT_get e
  refine cbF rfl ?_;refine ⟨_,rfl,_,ldTh (c:=0) h n0 hx ha rfl,?_⟩;refine ceq (fun e1=>?_) (fun e1=>?_)
  ·exact hK1 e e1 w (Own.mk_thr hbs h)
  ·refine thr_leave_spec hm e (Own.mk_thr hbs h) fun w h=>?_
   exact hK2 e e1 w h
end
section
variable {B:Nat} {w0 w:World} {R L:List Asn} {b:Nat} {m:Mt}
theorem next_mem {Q:Qs} {n:Int} (h:nextR Q=some n):∃x∈Q,x.2=n:=by
 unfold nextR at h;obtain ⟨p,hp,hl⟩:=Option.bind_eq_some_iff.1 h;have hm:=List.mem_of_head? hl;unfold lineOf at hm;obtain ⟨x,hx,e⟩:=List.mem_map.1 hm;exact ⟨x,(List.mem_filter.1 hx).1,e⟩
theorem _root_.Go.Vc.Own.qsame {A1 A2 A3 A4:Asn} {bs:List Nat} {c:Int} {b1:Nat} (hb:bs[c.toNat]?=some b1) (c0:0≤c) (c1:c<m.qs.length) (h:Own B w0 w (QueueA b1 (m.q c)::A1::A2::A3::A4::(List.zipWith QueueA bs m.qs++R).eraseIdx c.toNat)):
  Own B w0 w (A1::A2::A3::A4::(List.zipWith QueueA bs m.qs++R)):=by
 have h3:=h.qin (qs:=m.qs) hb (by omega)
 have e:m.qs.set c.toNat (m.q c)=m.qs:=by
  apply List.ext_getElem?;intro t;rw[List.getElem?_set];by_cases e:c.toNat=t
  ·subst e;rw[if_pos rfl,if_pos (by omega),q_get c0 c1]
  ·rw[if_neg e]
 rw[e] at h3;exact h3
def Mt.pickC (m:Mt) (c:Int):Mt:=if m.isC c then m.pick c else m
theorem setR_isC {n v k:Int}:(m.setR n v).isC k=m.isC k:=rfl
theorem setR_isT {n v k:Int}:(m.setR n v).isT k=m.isT k:=rfl
theorem MOk.runT (hm:MOk m) {c o:Int} (h:m.runs? c=some o):m.isC c=true/\m.run c=o/\o≠ -1/\m.isT o=true:=by
 unfold Mt.runs? at h;split at h
 ·rename_i hc
  cases h;obtain ⟨c0,c1⟩:=isC_iff.1 hc.1;have hcr:=hm.cores;have:=hm.run _ (List.mem_of_getElem? (r_get (m:=m) c0 (by omega)));refine ⟨hc.1,rfl,hc.2,?_⟩;rcases this with e|e
  ·exact absurd e hc.2
  ·unfold Mt.isT;simp;exact e
 ·cases h
theorem MOk.nextT (hm:MOk m) {c n:Int} (h:nextR (m.q c)=some n):0≤n/\m.isT n=true:=by
 obtain ⟨x,hx,e⟩:=next_mem h;have:=hm.qline x hx;rw[e] at this;refine ⟨this.1,?_⟩;unfold Mt.isT;simp;exact this
theorem thr_Pick_spec {c:Int} {K:Int->Bool->Pw} (hm:MOk m) (h:Own B w0 w (ThrA b m::R)) (hK:∀w',Own B w0 w' (ThrA b (m.pickC c)::R)->K (((m.pickC c).runs? c).getD 0) ((m.pickC c).runs? c).isSome w'):C.qN (some ⟨b,0,none⟩) c K w:=by
 apply S.qN0;have hcr:=hm.cores;obtain ⟨l,q,r,bs,hbs,h⟩:=h.thr;refine thr_core_o hbs h ?_;unfold Mt.pickC at hK;cases hc:m.isC c with
 |false=>
  rw[hc] at hK;have e:m.runs? c=none:=by unfold Mt.runs?;rw[if_neg (by rw[hc];simp)]
  refine cbT rfl ?_;have:=hK w (Own.mk_thr hbs h);simp only[Bool.false_eq_true,if_false,e] at this;exact this
 |true=>
  rw[hc] at hK;simp only[if_true] at hK;obtain ⟨c0,c1⟩:=isC_iff.1 hc;refine cbF rfl ?_;refine thr_Runs_spec (c:=c) hm (Own.mk_thr hbs h) fun w h=>?_
  obtain ⟨l,q,r,bs,hbs,h⟩:=h.thr;obtain ⟨b1,hb1⟩:∃x,bs[c.toNat]?=some x:=⟨_,gE (by omega)⟩
  refine ⟨_,rfl,q,h.ldd rfl,?_⟩;refine h.ixc (s:=q) (j:=c.toNat) (by omega) hb1 fun a2 ha2 h0 hcc=>⟨_,h0 _ rfl,?_⟩
  refine ready_Queue_Next_spec (h.qout hb1 (q_get c0 c1)) fun w h=>?_
  have h:=h.qsame hb1 c0 c1;intro k15 hk15;refine h.dr fun w h=>?_
  have stay:∀w,m.pick c=m->Own B w0 w (ThrA b m::R)->k15 true w:=fun w e h=>by
   rw[e] at hK;exact hk15 _ _ (cbT rfl (hK w h))
  cases hn:nextR (m.q c) with
  |none=>
   refine cbT rfl ?_;exact stay w (by unfold Mt.pick;rw[hn]) (Own.mk_thr hbs h)
  |some n=>
   rw[hn] at hk15;obtain ⟨n0,hnT⟩:=hm.nextT hn;obtain ⟨_,n1,hnx⟩:=isT_get hnT;refine cbF rfl ?_
   have fin:∀(m1:Mt) (w:World),MOk m1->m1.isT n=true->m1.isC c=true->m.pick c=(m1.leave n 2).setR c n->Own B w0 w (ThrA b m1::R)->
     C.qi (some ⟨b,0,none⟩) n 2 (fun w20=>
      ∃a21:Addr,some (⟨b,0,none⟩:Addr)=some a21/\
      ∃runs22:Sl,w20.cell? (a21.add 2)=some (.slice runs22.a runs22.len runs22.cap)/\
      ∃a23:Addr,runs22.a=some a23/\0≤c/\c<(runs22.len:Int)/\
      St w20 (a23.add (c.toNat*1)) (.z n) fun w24=>K n true w24) w:=fun m1 w hm1 hT1 hC1 hp h=>by
    refine thr_leave_spec hm1 hT1 h fun w h=>?_
    have hm2:=hm1.leave (s:=2) hT1;have hcr2:=hm2.cores;have hC2:(m1.leave n 2).isC c=true:=by rw[leave_isC];exact hC1
    obtain ⟨d0,d1⟩:=isC_iff.1 hC2;obtain ⟨l,q,r,bs,hbs,h⟩:=h.thr;refine ⟨_,rfl,r,h.ldd rfl,?_⟩;refine h.ixc (s:=r) (j:=c.toNat) (by omega) (r_get (m:=m1.leave n 2) c0 (by omega)) fun a ha h0 hcc=>?_
    refine Own.stEc (s:=r) (E:=intE) (xs:=(m1.leave n 2).runs) (i:=c) (j:=c.toNat) h n (by omega) (by omega) ha rfl fun w h=>?_
    have h2:Own B w0 w (ThrA b ((m1.leave n 2).setR c n)::R):=Own.mk_thr (m:=(m1.leave n 2).setR c n) hbs h.up3.up3.up3
    have hrun:((m1.leave n 2).setR c n).runs? c=some n:=by
     unfold Mt.runs?
     have e:((m1.leave n 2).setR c n).run c=n:=by
      unfold Mt.run Mt.setR;rw[if_neg (by omega)];simp only;rw[List.getElem?_set,if_pos rfl,if_pos (by omega)];rfl
     rw[e,if_pos ⟨by rw[setR_isC];exact hC2,by omega⟩]
    rw[hp] at hK;have:=hK w h2;rw[hrun] at this;exact this
   cases hr:m.runs? c with
   |none=>
    have hr1:m.run c= -1:=by
     unfold Mt.runs? at hr;split at hr
     ·cases hr
     ·rename_i hh
      by_cases e:m.run c= -1
      ·exact e
      ·exact absurd ⟨hc,e⟩ hh
    rw[hr] at hk15;refine cbF rfl (hk15 _ _ (cbF rfl ?_));intro k18 hk18;refine cbF rfl (hk18 _ ?_);exact fin m w hm hnT hc (by unfold Mt.pick;rw[hn];simp only;rw[if_pos hr1]) (Own.mk_thr hbs h)
   |some o=>
    obtain ⟨_,hro,ho1,hoT⟩:=hm.runT hr;obtain ⟨o0,o1,hox⟩:=isT_get hoT;rw[hr] at hk15;refine cbT rfl ?_;refine ⟨_,rfl,l,h.ldc rfl,?_⟩;refine h.ixc (s:=l) (i:=n) (j:=n.toNat) (by omega) hnx fun a ha h0 hcc=>⟨_,hcc 1 _ rfl,_,rfl,l,h.ldc rfl,?_⟩
    refine h.ixc (s:=l) (i:=o) (j:=o.toNat) (by omega) hox fun a ha h0 hcc=>⟨_,hcc 1 _ rfl,?_⟩
    refine (fun (hstay:(m.th n).pr≤(m.th o).pr->k15 true w) (hgo:¬(m.th n).pr≤(m.th o).pr->k15 false w)=>?_) ?_ ?_
    ·show k15 (decide ((m.th n).pr≤(m.th o).pr)) w
     by_cases e:(m.th n).pr≤(m.th o).pr
     ·rw[decide_eq_true e];exact hstay e
     ·rw[decide_eq_false e];exact hgo e
    ·intro e
     exact stay w (by unfold Mt.pick;rw[hn];simp only;rw[if_neg (by rw[hro];exact ho1),hro,if_pos e]) (Own.mk_thr hbs h)
    ·intro e
     refine hk15 _ _ (cbF rfl ?_);intro k18 hk18;refine cbT rfl ?_;refine thr_leave_spec hm hoT (Own.mk_thr hbs h) fun w h=>?_
     have hm2:=hm.leave (s:=1) hoT;have hT2:(m.leave o 1).isT o=true:=by rw[leave_isT];exact hoT
     refine thr_lineUp_spec hm2 hT2 h fun w h=>?_
     refine hk18 _ ?_
     exact fin ((m.leave o 1).lineUp o) w (hm2.lineUp hT2) (by rw[lineUp_isT,leave_isT];exact hnT) (by rw[lineUp_isC,leave_isC];exact hc) (by
      unfold Mt.pick;rw[hn];simp only;rw[if_neg (by rw[hro];exact ho1),hro,if_neg e]) h
end
section
variable {B:Nat} {w0 w:World} {R:List Asn} {b:Nat} {m:Mt}
def Mt.make (m:Mt) (p c:Int):Mt:={ m with ths:=m.ths++ [⟨0,p,c,5,fun _=>0⟩]}
theorem MOk.make (hm:MOk m) {p c:Int} (hl:m.ths.length<64) (hc:m.isC c=true):MOk (m.make p c):=by
 obtain ⟨c0,c1⟩:=isC_iff.1 hc;unfold Mt.make;refine ⟨by simp;omega,hm.cores,hm.most,fun x hx=>?_,fun x hx=>rfl,fun n hn=>?_,fun Q hQ x hx=>?_⟩
 ·rcases List.mem_append.1 hx with h|h
  ·exact hm.core x h
  ·simp at h;subst h;exact ⟨c0,c1⟩
 ·rcases hm.run n hn with h|h
  ·exact .inl h
  ·exact .inr ⟨h.1,by simp;omega⟩
 ·have:=hm.line Q hQ x hx
  exact ⟨this.1,by simp;omega⟩
theorem thr_Make_spec {p c:Int} {K:Int->Int->Pw} (hm:MOk m) (h:Own B w0 w (ThrA b m::R))
  (hK0:¬(0≤p/\p<256/\m.isC c=true)->∀w',Own B w0 w' (ThrA b m::R)->K 0 1 w')
  (hK1:(0≤p/\p<256/\m.isC c=true)->64≤m.ths.length->∀w',Own B w0 w' (ThrA b m::R)->K 0 2 w')
  (hK2:(0≤p/\p<256/\m.isC c=true)->m.ths.length<64->∀w',Own B w0 w' (ThrA b (m.make p c)::R)->K (m.ths.length:Int) 0 w'):C.qM (some ⟨b,0,none⟩) p c K w:=by
 apply S.qM0;have hfew:=hm.few;obtain ⟨l,q,r,bs,hbs,h⟩:=h.thr;have hl:=h.lenc l;intro k hk;refine thr_prio_spec ?_;refine cnb (fun e=>?_) (fun e=>?_)
 ·refine hk _ _ (cbT rfl ?_)
  exact hK0 (fun hh=>by rw[decide_eq_true hh.1,decide_eq_true hh.2.1] at e;cases e) w (Own.mk_thr hbs h)
 simp only[Bool.and_eq_true,decide_eq_true_eq] at e;refine thr_core_o hbs h ?_;cases hc:m.isC c with
 |false=>
  refine hk _ _ (cbT rfl ?_);exact hK0 (fun hh=>by rw[hc] at hh;cases hh.2.2) w (Own.mk_thr hbs h)
 |true=>
  have hh:=And.intro e.1 (And.intro e.2 hc);refine hk _ _ (cbF rfl ?_);refine ⟨_,rfl,l,h.ldc rfl,?_⟩;refine cdec (fun e2=>?_) (fun e2=>?_)
  ·exact hK1 hh (by omega) w (Own.mk_thr hbs h)
  ·refine ⟨_,rfl,l,h.ldc rfl,?_⟩
   refine h.al fun w1 h=>?_
   generalize w.heap.size=d at h⊢
   refine Own.app1c (s:=l) (E:=thE) (xs:=m.ths) (y:=⟨0,p,c,5,fun _=>0⟩) Tryz.underlying194 (show Tryz.prog.info? 193=some Tryz.t193 from by kernel_rfl) (zv:=(Tryz.t193.zero).get (by kernel_rfl)) (by kernel_rfl) (by kernel_rfl) (by kernel_rfl) (by decide) h (by
    have e:Tryz.t193.bytes=96:=by kernel_rfl
    rw[e];omega) fun s' w hs' h=>?_
   refine ⟨_,rfl,?_⟩;have h:=h.up1;refine h.stc rfl rfl fun w h=>?_
   refine ⟨_,rfl,s',h.ldc rfl,?_⟩;rw[show IntKind.i64.wrap ((s'.len:Int)-1)=(m.ths.length:Int) from by rw[hs',wr (by omega) (by omega)];omega];exact hK2 hh (by omega) w (Own.mk_thr (m:=m.make p c) (l:=s') (q:=q) (r:=r) (bs:=bs) hbs h)
def Mt.yield (m:Mt) (c:Int):Mt:=match m.runs? c with
 |none=>m
 |some o=>(((m.setTh o { m.th o with le:=5}).leave o 1).lineUp o).pickC c
theorem setTh_isT {n k:Int} {t:Thd}:(m.setTh n t).isT k=m.isT k:=by unfold Mt.setTh Mt.isT;simp
theorem thr_Yield_spec {c:Int} {K:Bool->Pw} (hm:MOk m) (h:Own B w0 w (ThrA b m::R)) (hK:∀w',Own B w0 w' (ThrA b (m.yield c)::R)->K (m.runs? c).isSome w'):C.qae (some ⟨b,0,none⟩) c K w:=by
 apply S.qae0;refine thr_Runs_spec (c:=c) hm h fun w h=>?_
 unfold Mt.yield at hK;cases hr:m.runs? c with
 |none=>
  rw[hr] at hK;exact cbT rfl (hK w h)
 |some o=>
  rw[hr] at hK;obtain ⟨hc,hro,ho1,hoT⟩:=hm.runT hr;obtain ⟨o0,o1,hox⟩:=isT_get hoT;have ht:=hm.th hoT;refine cbF rfl ?_;obtain ⟨l,q,r,bs,hbs,h⟩:=h.thr;refine ⟨_,rfl,l,h.ldc rfl,?_⟩;refine h.ixc (s:=l) (i:=o) (j:=o.toNat) (by omega) hox fun a ha h0 hcc=>?_
  refine stTh (c:=3) (t':={ m.th o with le:=5}) h o0 hox ha rfl (by decide) rfl fun w h=>?_
  have h:Own B w0 w (ThrA b (m.setTh o { m.th o with le:=5})::R):=Own.mk_thr (m:=m.setTh o { m.th o with le:=5}) hbs h;have hm1:MOk (m.setTh o { m.th o with le:=5}):=hm.setTh (t:={ m.th o with le:=5}) ht.1 rfl;have hT1:(m.setTh o { m.th o with le:=5}).isT o=true:=by rw[setTh_isT];exact hoT
  refine thr_leave_spec hm1 hT1 h fun w h=>?_
  have hT2:((m.setTh o { m.th o with le:=5}).leave o 1).isT o=true:=by rw[leave_isT];exact hT1
  refine thr_lineUp_spec (hm1.leave hT1) hT2 h fun w h=>?_
  refine thr_Pick_spec ((hm1.leave hT1).lineUp hT2) h fun w h=>?_
  exact hK w h
def Mt.tick (m:Mt) (c:Int):Mt:=match m.runs? c with
 |none=>m
 |some o=>if IntKind.i64.wrap ((m.th o).le-1)≤0 then (m.setTh o { m.th o with le:=IntKind.i64.wrap ((m.th o).le-1)}).yield c else m.setTh o { m.th o with le:=IntKind.i64.wrap ((m.th o).le-1)}
theorem thr_Tick_spec {c:Int} {K:Bool->Pw} (hm:MOk m) (h:Own B w0 w (ThrA b m::R)) (hK:∀w',Own B w0 w' (ThrA b (m.tick c)::R)->K (m.runs? c).isSome w'):C.qaK (some ⟨b,0,none⟩) c K w:=by
 apply S.qaK0;refine thr_Runs_spec (c:=c) hm h fun w h=>?_
 unfold Mt.tick at hK;cases hr:m.runs? c with
 |none=>
  rw[hr] at hK;exact cbT rfl (hK w h)
 |some o=>
  rw[hr] at hK;obtain ⟨hc,hro,ho1,hoT⟩:=hm.runT hr;obtain ⟨o0,o1,hox⟩:=isT_get hoT;have ht:=hm.th hoT;refine cbF rfl ?_;obtain ⟨l,q,r,bs,hbs,h⟩:=h.thr;refine ⟨_,rfl,l,h.ldc rfl,?_⟩;refine h.ixc (s:=l) (i:=o) (j:=o.toNat) (by omega) hox fun a ha h0 hcc=>⟨_,hcc 3 _ rfl,?_⟩
  refine h.ixc (s:=l) (i:=o) (j:=o.toNat) (by omega) hox fun a ha h0 hcc=>?_
  simp only at hK;generalize hv:IntKind.i64.wrap ((m.th o).le-1)=v at hK⊢;refine stTh (c:=3) (t':={ m.th o with le:=v}) h o0 hox ha rfl (by decide) rfl fun w h=>?_
  have hx2:(m.ths.set o.toNat { m.th o with le:=v})[o.toNat]?=some { m.th o with le:=v}:=by rw[List.getElem?_set,if_pos rfl,if_pos (by omega)]
  refine ⟨_,rfl,l,h.ldc rfl,?_⟩;refine h.ixc (s:=l) (i:=o) (j:=o.toNat) (by omega) hx2 fun a ha h0 hcc=>⟨_,hcc 3 _ rfl,?_⟩
  have h:Own B w0 w (ThrA b (m.setTh o { m.th o with le:=v})::R):=Own.mk_thr (m:=m.setTh o { m.th o with le:=v}) hbs h;have hm1:MOk (m.setTh o { m.th o with le:=v}):=hm.setTh (t:={ m.th o with le:=v}) ht.1 rfl;refine cdec (fun e=>?_) (fun e=>?_)
  ·rw[if_pos (show v≤0 from e)] at hK
   exact thr_Yield_spec hm1 h fun w h=>hK w h
  ·rw[if_neg (show ¬v≤0 from e)] at hK
   exact hK w h
end
section
variable {B:Nat} {w0 w:World} {R:List Asn} {b:Nat} {m:Mt}
theorem Mul_spec {c:Nat} (h1:1≤c) (h8:c≤8) {K:Int->Int->Pw} (hK:K 0 (c:Int) w):C.qcK (1:Int) (c:Int) K w:=by
 apply S.qcK0;apply S.qcH0;have:c=1∨c=2∨c=3∨c=4∨c=5∨c=6∨c=7∨c=8:=by omega
 rcases this with rfl|rfl|rfl|rfl|rfl|rfl|rfl|rfl<;>
 ·refine ⟨by decide,by decide,by decide,by decide,by decide,?_⟩
  refine Eq.mp ?_ hK;kernel_rfl
theorem Repeat_spec {x:Sl} {c:Nat} {K:Sl->Pw} (h1:1≤c) (h8:c≤8) (hl:x.len=1) (h:Own B w0 w (SlT intE x [-1]::R)) (hK:∀s w',Own B w0 w' (SlT intE s (List.replicate c (-1))::R)->K s w'):C.qav x (c:Int) K w:=by
 apply S.qav0;intro k3 hk3;refine cdecF (by omega) (hk3 _ ?_);rw[hl,show IntKind.u64.wrap ((1:Nat):Int)=1 from wru (by omega) (by omega),wru (x:=(c:Int)) (by omega) (by omega)];refine Mul_spec h1 h8 ?_;intro k8 hk8;refine cdecF (by omega) (hk8 _ _ ?_);intro k11 hk11;refine cdecF (by omega) (hk11 _ ?_);rw[wr (x:=(c:Int)) (by omega) (by omega)];have hb:Tryz.t3.bytes=8:=by kernel_rfl
 have hp48:(2:Int)^48=281474976710656:=by decide
 refine Own.mkSl (E:=intE) (z0:=(0:Int)) (zv:= .z 0) Tryz.underlying22 (show Tryz.prog.info? 3=some Tryz.t3 from by kernel_rfl) (by kernel_rfl) (by kernel_rfl) rfl (n:=(c:Int)) (inf:=Tryz.t3) h (by omega) (by rw[hb,hp48];omega) (by rw[hp48];omega) fun t w ht h=>?_
 rw[Int.toNat_natCast] at ht h;have hx0:([-1]:List Int)[0]?=some (-1):=rfl;obtain ⟨bx,ox,hax,hcx⟩:=h.get 1 rfl hx0;obtain ⟨bt,ot,hat,hct⟩:=h.get 0 rfl (show (List.replicate c (0:Int))[0]?=some 0 from by rw[List.getElem?_replicate,if_pos (by omega)])
 have first:∃n w',CopyR Tryz.prog [22,22] 3 (.slice t.a t.len t.cap) (.slice x.a x.len x.cap) w n w'/\(n=1/\Own B w0 w' (SlT intE t ([-1]++List.replicate (c-1) 0)::SlT intE x [-1]::R)):=by
  have e:min x.len t.len=1:=by rw[hl,ht];omega
  have:=Own.copyT (P:=Tryz.prog) (T:=22) (t:=3) (E:=intE) (s:=t) (xs:=List.replicate c (0:Int)) (p:=0) (dl:=t.len) (dc:=t.cap) (sl:=x.len) (sc:=x.cap) (zs:=[-1]) (sa:=⟨bx,ox+(0*intE.z+0),none⟩) (k:=fun n w'=>n=1/\Own B w0 w' (SlT intE t ([-1]++List.replicate (c-1) 0)::SlT intE x [-1]::R))
   Tryz.underlying22 (show Tryz.prog.info? 3=some Tryz.t3 from by kernel_rfl) (by kernel_rfl) h hat (by rw[e];rfl) (by simp;omega) (fun j v hv=>by
    cases j with
    |zero=>simp only[List.flatMap_cons,List.flatMap_nil,List.append_nil] at hv;exact hcx 0 v hv
    |succ j=>simp[intE] at hv) fun w' h'=>⟨by rw[e];rfl,by simpa [List.drop_replicate] using h'⟩
  rw[hat,hax];exact this
 obtain ⟨n,w',hcp,rfl,h⟩:=first
 rw[hl] at hcp;refine ⟨_,w',hcp,?_⟩;intro l17 hl17
 have loop:∀(k n:Nat) (w:World),c≤n+k->1≤n->n≤c->Own B w0 w (SlT intE t (List.replicate n (-1)++List.replicate (c-n) 0)::SlT intE x [-1]::R)->l17 (n:Int) w:=by
  intro k
  induction k with
  |zero=>
   intro n w hk hn1 hnc h;obtain rfl:n=c:=by omega
   apply hl17;refine cdecF (by omega) ?_;rw[Nat.sub_self,List.replicate_zero,List.append_nil] at h;exact hK t w h.rm1
  |succ k ih=>
   intro n w hk hn1 hnc h;apply hl17;refine cdec (fun e=>?_) (fun e=>?_)
   ·refine h.dr fun w h=>?_
    have hcap:=h.slRaw.le_cap;have hln:=h.len 0 rfl;refine ⟨by omega,by omega,by omega,by omega,Go.Vc.a2 ?_⟩;rw[Int.toNat_natCast];have e2:min (n-0) (t.len-n)=min n (c-n):=by rw[ht];rfl
    have hd:∃bt' ot',t.a=some ⟨bt',ot',none⟩/\∀j,j<n->w.cell? ⟨bt',ot'+j,none⟩=some (.z (-1)):=by
     obtain ⟨b0,o0,ha0,_⟩:=h.get 0 rfl (show (List.replicate n (-1:Int)++List.replicate (c-n) 0)[0]?=some (-1) from by rw[List.getElem?_append_left (by simp;omega),List.getElem?_replicate,if_pos (by omega)]);refine ⟨b0,o0,ha0,fun j hj=>?_⟩;obtain ⟨b1,o1,ha1,hc1⟩:=h.get 0 rfl (j:=j) (x:=(-1:Int)) (by rw[List.getElem?_append_left (by simp;omega),List.getElem?_replicate,if_pos hj]);rw[ha0] at ha1;cases ha1;have:=hc1 0 _ rfl
     rwa [show o0+(j*intE.z+0)=o0+j from by show o0+(j*1+0)=_;omega] at this
    obtain ⟨b0,o0,ha0,hcells⟩:=hd;have hsl1:slA t.a n t.cap 1=some ⟨b0,o0+n*1,none⟩:=slA_some ha0 (by omega);have hsl2:slA t.a 0 t.cap 1=some ⟨b0,o0,none⟩:=by rw[slA_some ha0 (by omega),Nat.zero_mul,Nat.add_zero]
    rw[hsl1,hsl2];have hlenz:(List.replicate (min n (c-n)) (-1:Int)).length=min (n-0) (t.len-n):=by rw[List.length_replicate,e2]
    refine Own.copyT (P:=Tryz.prog) (T:=22) (t:=3) (E:=intE) (s:=t) (xs:=List.replicate n (-1)++List.replicate (c-n) 0) (p:=n) (dl:=t.len-n) (dc:=t.cap-n) (sl:=n-0) (sc:=t.cap-0) (zs:=List.replicate (min n (c-n)) (-1)) (sa:=⟨b0,o0,none⟩)
     Tryz.underlying22 (show Tryz.prog.info? 3=some Tryz.t3 from by kernel_rfl) (by kernel_rfl) h ha0 hlenz (by simp;omega) (fun j v hv=>?_) fun w' h'=>?_
    ·have hfl:(List.replicate (min n (c-n)) (-1:Int)).flatMap intE.enc=List.replicate (min n (c-n)) (.z (-1)):=by
      induction (min n (c-n)) with
      |zero=>rfl
      |succ q ihq=>rw[List.replicate_succ,List.flatMap_cons,ihq,List.replicate_succ];rfl
     rw[hfl,List.getElem?_replicate] at hv;split at hv
     ·cases hv;rw[add_mk];exact hcells j (by omega)
     ·cases hv
    ·rw[e2]
     have hs:IntKind.i64.wrap ((n:Int)+((min n (c-n):Nat):Int))=((n+min n (c-n):Nat):Int):=by rw[wr (by omega) (by omega)];omega
     rw[hs];refine ih (n+min n (c-n)) w' (by omega) (by omega) (by omega) ?_
     have hx:List.take n (List.replicate n (-1:Int)++List.replicate (c-n) 0)++List.replicate (min n (c-n)) (-1)++List.drop (n+(List.replicate (min n (c-n)) (-1:Int)).length) (List.replicate n (-1:Int)++List.replicate (c-n) 0)=List.replicate (n+min n (c-n)) (-1)++List.replicate (c-(n+min n (c-n))) 0:=by
      rw[List.take_left' (by simp),List.drop_append,List.drop_eq_nil_of_le (by simp),List.nil_append,List.drop_replicate,List.replicate_append_replicate];congr 2;simp;omega
     rw[hx] at h';exact h'
   ·obtain rfl:n=c:=by omega
    rw[Nat.sub_self,List.replicate_zero,List.append_nil] at h;exact hK t w h.rm1
 exact loop c 1 w' (by omega) (by omega) h1 h
theorem app1_ptr {s:Sl} {ys:List Nat} {y:Nat} {c:Nat} {L:List Asn} {k:Sl->Pw} [I:SlIn s L Nat ptrE ys] [J:Pick (SlT ptrE s ys) L R] (h:Own B w0 w (BlkA c [.pointer (some ⟨y,0,none⟩)]::L)) (hbig:ys.length≤1000000000)
  (hk:∀s' w',s'.len=ys.length+1->Own B w0 w' (SlT ptrE s' (ys++ [y])::R)->k s' w'):
  ∃s' w',AppR Tryz.prog [195,195] 195 (.slice s.a s.len s.cap) (.slice (some (Addr.mk c 0 none)) 1 1) w s' w'/\k s' w':=
 Own.app1c (E:=ptrE) (y:=y) Tryz.underlying195 (show Tryz.prog.info? 219=some Tryz.t219 from by kernel_rfl) (zv:= .pointer none) (by kernel_rfl) (by kernel_rfl) rfl (by decide) h (by
  have e:Tryz.t219.bytes=8:=by kernel_rfl
  rw[e];omega) hk
def newM (c:Nat):Mt:=⟨[],List.replicate c [],List.replicate c (-1)⟩
theorem newM_ok {c:Nat} (h8:c≤8):MOk (newM c):=by
 refine ⟨by simp[newM],by simp[newM],by simpa [newM] using h8,fun t h=>?_,fun t h=>rfl,fun n h=>?_,fun Q h x hx=>?_⟩
 ·simp[newM] at h
 ·simp only[newM,List.mem_replicate] at h;exact .inl h.2
 ·simp only[newM,List.mem_replicate] at h;rw[h.2] at hx;simp at hx
theorem thr_New_spec {n:Int} {K:Option Addr->Int->Pw} (h:Own B w0 w R) (hK0:¬(1≤n/\n≤8)->∀w',Own B w0 w' R->K none 1 w') (hK1:∀c:Nat,n=(c:Int)->1≤c->c≤8->∀b w',Own B w0 w' (ThrA b (newM c)::R)->K (some ⟨b,0,none⟩) 0 w'):C.qdn n K w:=by
 apply S.qdn0;intro k2 hk2;refine cdec (fun e=>hk2 _ _ (cbT rfl (hK0 (by omega) w h))) (fun e1=>hk2 _ _ ?_);refine cdec (fun e=>hK0 (by omega) w h) (fun e2=>?_);obtain ⟨c,rfl⟩:=Int.eq_ofNat_of_zero_le (show 0≤n by omega);refine h.al fun w1 h=>?_
 generalize w.heap.size=d at h⊢;have h:Own B w0 w1 (SlT intE ⟨some ⟨d,0,none⟩,1,1⟩ [-1]::R):=h.asSl [-1] rfl;refine Repeat_spec (by omega) (by omega) rfl h fun r w h=>?_
 refine h.al fun w2 h=>?_
 generalize w.heap.size=t at h⊢;have h:Own B w0 w2 (SlT ptrE ⟨none,0,0⟩ []::_):=Own.nilS h;have h:Own B w0 w2 (SlT thE ⟨none,0,0⟩ []::_):=Own.nilS h;intro l9 hl9
 have loop:∀(k j:Nat) (q:Sl) (bs:List Nat) (w:World),j+k=c->bs.length=j->Own B w0 w (BlkA t [slV ⟨none,0,0⟩,slV q,slV r]::SlT thE ⟨none,0,0⟩ []::SlT ptrE q bs::SlT intE r (List.replicate c (-1))::(List.zipWith QueueA bs (List.replicate j [])++R))->l9 (j:Int) w:=by
  intro k
  induction k with
  |zero=>
   intro j q bs w hj hbs h;obtain rfl:j=c:=by omega
   apply hl9;refine cdecF (by omega) ?_;exact hK1 j rfl (by omega) (by omega) t w (Own.mk_thr (m:=newM j) (l:=⟨none,0,0⟩) (q:=q) (r:=r) (bs:=bs) (by simp[newM];exact hbs) h)
  |succ k ih=>
   intro j q bs w hj hbs h;apply hl9;refine cdecT (by omega) ?_;refine h.dr fun w h=>?_
   refine ⟨_,rfl,q,h.ldd rfl,Go.Vc.a2 ?_⟩;refine ready_New_spec h fun b1 w h=>?_
   refine ⟨h.ldd rfl,Go.Vc.a2 ?_⟩;refine h.al fun w3 h=>?_
   generalize w.heap.size=d3 at h⊢;refine Go.Vc.a2 ?_;refine app1_ptr (s:=q) (ys:=bs) (y:=b1) h (by omega) fun q' w hq' h=>?_
   refine ⟨_,rfl,Go.Vc.a2 ?_⟩;refine h.std rfl rfl fun w h=>?_
   (try dsimp only[putAt,List.set_cons_zero,List.set_cons_succ] at h)
   rw[show IntKind.i64.wrap ((j:Int)+1)=((j+1:Nat):Int) from by rw[wr (by omega) (by omega)];omega];refine ih (j+1) q' (bs++ [b1]) w (by omega) (by simp[hbs]) ?_
   have ez:List.zipWith QueueA (bs++ [b1]) (List.replicate (j+1) [])=List.zipWith QueueA bs (List.replicate j [])++ [QueueA b1 []]:=by
    rw[List.replicate_succ',List.zipWith_append (by simp[hbs])];rfl
   rw[ez,List.append_assoc];have h2:Own B w0 w (BlkA t [slV ⟨none,0,0⟩, .slice q'.a q'.len q'.cap,slV r]::SlT thE ⟨none,0,0⟩ []::SlT ptrE q' (bs++ [b1])::SlT intE r (List.replicate c (-1))::QueueA b1 []::(List.zipWith QueueA bs (List.replicate j [])++R)):=h.sub;exact h2.perm ((((List.perm_middle.symm.cons _).cons _).cons _).cons _)
 have h3:Own B w0 w2 (BlkA t [slV ⟨none,0,0⟩,slV ⟨none,0,0⟩,slV r]::SlT thE ⟨none,0,0⟩ []::SlT ptrE ⟨none,0,0⟩ []::SlT intE r (List.replicate c (-1))::R):=h.up2;exact loop c 0 ⟨none,0,0⟩ [] w2 (by omega) rfl h3
end
section
variable {w0 w:World}
variable {B:Nat} {R:List Asn} {b:Nat} {m:Mt}
theorem MOk.setRT (hm:MOk m) {c n:Int} (h:m.isT n=true):MOk (m.setR c n):=hm.setR (.inr ⟨(isT_get h).1,(isT_get h).2.1⟩)
end
section
variable {B:Nat} {w0 w:World} {R L:List Asn} {b:Nat} {m:Mt}
theorem thr_first_spec {c:Nat} {a e2:Int} {K:Int->Pw} (h:Own B w0 w (BlkA c [.z a, .z e2]::L)) (hK:∀w',Own B w0 w' (BlkA c [.z a, .z e2]::L)->K (if a≠0 then a else e2) w'):C.qbz ⟨some ⟨c,0,none⟩,2,2⟩ K w:=by
 apply S.qbz0
 have tell:∀(x:Int) (w:World) (Q:Bool->Pw),Q (x !=0) w->C.qcG x Q w:=fun x w Q h=>by
  apply S.qcG0;exact h
 apply S.qB0;intro l3 hl3;refine hl3 _ _ (cdecT (by show (0:Int)<2;decide) ?_);refine ⟨_,rfl,by decide,by show (0:Int)<2;decide,a,h.ldd rfl,callV_mk (tell a w _ ?_)⟩;refine cb (fun e=>?_) (fun e=>?_)
 ·have ea:a≠0:=by simpa using e
  rw[if_pos ea] at hK;refine cdecF (by decide) ?_;exact ⟨_,rfl,by decide,by show (0:Int)<2;decide,a,h.ldd rfl,hK w h⟩
 ·have ea:a=0:=by simpa using e
  rw[if_neg (by simpa using ea)] at hK;rw[show IntKind.i64.wrap ((0:Int)+1)=1 from by decide];refine hl3 _ _ (cdecT (by show (1:Int)<2;decide) ?_);refine ⟨_,rfl,by decide,by show (1:Int)<2;decide,e2,h.ldd rfl,callV_mk (tell e2 w _ ?_)⟩;refine cb (fun e=>?_) (fun e=>?_)
  ·refine cdecF (by decide) ?_
   exact ⟨_,rfl,by decide,by show (1:Int)<2;decide,e2,h.ldd rfl,hK w h⟩
  ·have eb:e2=0:=by simpa using e
   rw[show IntKind.i64.wrap ((1:Int)+1)=2 from by decide];refine hl3 _ _ (cdecF (by show ¬(2:Int)<2;decide) ?_);refine cdecT (by decide) ?_;rw[eb] at hK h;exact hK w h
def Mt.reg (m:Mt) (n:Int) (i:Nat) (v:Int):Mt:=m.setTh n { m.th n with rg:=fun j=>if j=i then v else (m.th n).rg j}
theorem MOk.reg (hm:MOk m) {n v:Int} {i:Nat} (hn:m.isT n=true):MOk (m.reg n i v):=hm.setTh (t:={ m.th n with rg:=fun j=>if j=i then v else (m.th n).rg j}) (hm.th hn).1 rfl
theorem reg_p {n v:Int} {i:Nat} {K:Int->Pw} (hm:MOk m) (hT:m.isT n=true) (hi:i<8) (h:Own B w0 w (ThrA b m::R)) (hK:∀w',Own B w0 w' (ThrA b (m.reg n i v)::R)->K 0 w'):C.qC (some ⟨b,0,none⟩) n (i:Int) v K w:=by
 apply S.qC0;obtain ⟨l,q,r,bs,hbs,h⟩:=h.thr;obtain ⟨n0,n1,hx⟩:=isT_get hT;refine thr_one_o h (fun e=>by rw[hT] at e;cases e) fun a _ ha=>?_
 intro k7 hk7;refine thr_when_spec ?_;refine cdecF (by omega) ?_;refine thr_when_spec ?_;rw[decide_eq_false (show ¬(i:Int)≥8 by omega)];refine h.al fun w2 h=>?_
 generalize w.heap.size=d at h⊢;refine thr_first_spec h fun w h=>?_
 have h:=h.drop;refine hk7 _ _ (cneF rfl ?_);refine ⟨_,rfl,by omega,by omega,?_⟩
 have e1:((a.add (n.toNat*12)).add 4).add ((i:Int).toNat*1)=(a.add (n.toNat*12)).add (4+i):=by
  have:=h.slAddr l ha;rw[this,add_mk,add_mk,add_mk,add_mk,Int.toNat_natCast];congr 1;omega
 rw[e1];refine stTh (c:=4+i) (t':={ m.th n with rg:=fun j=>if j=i then v else (m.th n).rg j}) h n0 hx ha ?_ (by omega) rfl fun w h=>?_
 ·have:i=0∨i=1∨i=2∨i=3∨i=4∨i=5∨i=6∨i=7:=by omega
  rcases this with rfl|rfl|rfl|rfl|rfl|rfl|rfl|rfl<;>rfl
 ·exact hK w (Own.mk_thr (m:=m.reg n i v) hbs h)
theorem thr_leave_o {l q r:Sl} {bs:List Nat} {n s:Int} {K:Pw} (hm:MOk m) (hn:m.isT n=true) (hbs:bs.length=m.qs.length) (h:Own B w0 w (BlkA b [slV l,slV q,slV r]::SlT thE l m.ths::SlT ptrE q bs::SlT intE r m.runs::(List.zipWith QueueA bs m.qs++R)))
  (hK:∀w',Own B w0 w' (BlkA b [slV l,slV q,slV r]::SlT thE l (m.leave n s).ths::SlT ptrE q bs::SlT intE r (m.leave n s).runs::(List.zipWith QueueA bs (m.leave n s).qs++R))->K w'):C.qi (some ⟨b,0,none⟩) n s K w:=by
 apply S.qi0;obtain ⟨n0,n1,hx⟩:=isT_get hn;obtain ⟨⟨c0,c1⟩,_⟩:=hm.th hn;have hcr:=hm.cores;obtain ⟨b1,hb1⟩:∃x,bs[(m.th n).co.toNat]?=some x:=⟨_,gE (by omega)⟩
 refine thr_one_o h (fun e=>by rw[hn] at e;cases e) fun a _ ha=>?_
 refine ⟨_,rfl,_,ldTh (c:=0) h n0 hx ha rfl,?_⟩;intro k hk
 have fin:∀w,Own B w0 w (BlkA b [slV l,slV q,slV r]::SlT thE l m.ths::SlT ptrE q bs::SlT intE r (m.leave0 n).runs::(List.zipWith QueueA bs (m.leave0 n).qs++R))->k w:=fun w h=>by
  apply hk;refine ⟨_,rfl,?_⟩;refine stTh (c:=0) (t':={ m.th n with st:=s}) h n0 hx ha rfl (by decide) rfl fun w h=>?_
  refine hK w ?_;have e:(m.leave n s).ths=m.ths.set n.toNat { m.th n with st:=s}:=by unfold Mt.leave Mt.setTh;rw[leave0_len.1]
  rw[e];exact h
 refine ceq (fun e=>?_) (fun e=>?_)
 ·have e1:m.leave0 n=m.setQ (m.th n).co (takeR (m.q (m.th n).co) n).2:=by unfold Mt.leave0;rw[if_pos e]
  rw[e1] at fin;refine h.dr fun w h=>?_
  refine ⟨_,rfl,q,h.ldd rfl,_,rfl,_,ldTh (c:=2) h n0 hx ha rfl,?_⟩;refine h.ixc (s:=q) (j:=(m.th n).co.toNat) (by show (m.th n).co=_;omega) hb1 fun a2 ha2 h0 hc=>⟨_,h0 _ rfl,Go.Vc.a2 ?_⟩
  have h:=h.qout hb1 (q_get c0 c1);refine ready_Queue_Take_spec h fun w h=>?_
  exact fin w (h.qin (qs:=m.qs) hb1 (by omega))
 refine ceq (fun e2=>?_) (fun e2=>?_)
 ·have e1:m.leave0 n=m.setR (m.th n).co (-1):=by unfold Mt.leave0;rw[if_neg e,if_pos e2]
  rw[e1] at fin;refine h.dr fun w h=>?_
  refine ⟨_,rfl,r,h.ldd rfl,_,rfl,_,ldTh (c:=2) h n0 hx ha rfl,?_⟩;refine h.ixc (s:=r) (j:=(m.th n).co.toNat) (by show (m.th n).co=_;omega) (r_get (m:=m) c0 (by omega)) fun a2 ha2 h0 hc=>Go.Vc.a2 ?_
  refine Own.stEc (s:=r) (E:=intE) (xs:=m.runs) (i:=(m.th n).co) (j:=(m.th n).co.toNat) h (-1) (by omega) (by omega) ha2 rfl fun w h=>?_
  exact fin w h.up3.up3.up3
 ·have e1:m.leave0 n=m:=by unfold Mt.leave0;rw[if_neg e,if_neg e2]
  rw[e1] at fin;exact fin w h
end
section
variable {m:Mt}
theorem th_setTh {n k:Int} {t:Thd} (hn:m.isT n=true):(m.setTh n t).th k=if k=n then t else m.th k:=by
 obtain ⟨n0,n1,_⟩:=isT_get hn;unfold Mt.th Mt.setTh;by_cases hk:k<0
 ·rw[if_pos hk,if_pos hk,if_neg (by omega)]
 ·rw[if_neg hk,if_neg hk]
  simp only;rw[List.getElem?_set];by_cases e:k=n
  ·subst e;rw[if_pos rfl,if_pos (by omega),if_pos rfl];rfl
  ·rw[if_neg (by omega),if_neg e]
theorem q_setQ {c k:Int} {Q:Qs} (hc:m.isC c=true):(m.setQ c Q).q k=if k=c then Q else m.q k:=by
 obtain ⟨n0,n1⟩:=isC_iff.1 hc;unfold Mt.q Mt.setQ;by_cases hk:k<0
 ·rw[if_pos hk,if_pos hk,if_neg (by omega)]
 ·rw[if_neg hk,if_neg hk]
  simp only;rw[List.getElem?_set];by_cases e:k=c
  ·subst e;rw[if_pos rfl,if_pos (by omega),if_pos rfl];rfl
  ·rw[if_neg (by omega),if_neg e]
theorem run_setR {c k v:Int} (c0:0≤c) (c1:c<m.runs.length):(m.setR c v).run k=if k=c then v else m.run k:=by
 unfold Mt.run Mt.setR;by_cases hk:k<0
 ·rw[if_pos hk,if_pos hk,if_neg (by omega)]
 ·rw[if_neg hk,if_neg hk]
  simp only;rw[List.getElem?_set];by_cases e:k=c
  ·subst e;rw[if_pos rfl,if_pos (by omega),if_pos rfl];rfl
  ·rw[if_neg (by omega),if_neg e]
theorem setTh_q {n k:Int} {t:Thd}:(m.setTh n t).q k=m.q k:=rfl
theorem setTh_run {n k:Int} {t:Thd}:(m.setTh n t).run k=m.run k:=rfl
theorem setQ_th {n k:Int} {t:Qs}:(m.setQ n t).th k=m.th k:=rfl
theorem setQ_run {n k:Int} {t:Qs}:(m.setQ n t).run k=m.run k:=rfl
theorem setR_th {n k t:Int}:(m.setR n t).th k=m.th k:=rfl
theorem setR_q {n k t:Int}:(m.setR n t).q k=m.q k:=rfl
theorem setQ_isT {n k:Int} {t:Qs}:(m.setQ n t).isT k=m.isT k:=rfl
theorem setQ_isC {n k:Int} {t:Qs}:(m.setQ n t).isC k=m.isC k:=by unfold Mt.setQ Mt.isC;simp
structure InvX (o:Int) (m:Mt):Prop where
 ok:MOk m
 pr:∀n,m.isT n=true->0≤(m.th n).pr/\(m.th n).pr<256
 le:∀n,m.isT n=true->1≤(m.th n).le/\(m.th n).le≤5
 qok:∀c,QOk (m.q c)
 inq:∀c,m.isC c=true->∀(p:Nat) n,(p,n)∈m.q c↔(m.isT n=true/\n≠o/\(m.th n).co=c/\(m.th n).st=1/\(m.th n).pr=(p:Int))
 inr:∀c,m.isC c=true->∀n,m.isT n=true->(m.run c=n↔(n≠o/\(m.th n).co=c/\(m.th n).st=2))
theorem InvX.co {o:Int} (hi:InvX o m) {n:Int} (hn:m.isT n=true):m.isC (m.th n).co=true:=isC_iff.2 (hi.ok.th hn).1
theorem take_mem {Q:Qs} {n:Int} {p:Nat} {k:Int}:(p,k)∈(takeR Q n).2↔(p,k)∈Q/\k≠n:=by
 unfold takeR;split
 ·rw[List.mem_filter];simp
 ·rename_i e
  exact ⟨fun h=>⟨h,wh_none.1 e _ h⟩,fun h=>h.1⟩
theorem take_ok {Q:Qs} {n:Int} (h:QOk Q):QOk (takeR Q n).2:=by
 unfold takeR;split
 ·exact ⟨h.nodup.sublist (List.Sublist.map _ List.filter_sublist),fun x hx=>h.prio x (List.mem_filter.1 hx).1,Nat.le_trans (List.length_filter_le _ _) h.few⟩
 ·exact h
theorem InvX.leave0 (hi:InvX (-1) m) {n:Int} (hn:m.isT n=true):InvX n (m.leave0 n):=by
 have hc:=hi.co hn;have hok:=hi.ok;obtain ⟨c0,c1⟩:=isC_iff.1 hc;have hcr:=hi.ok.cores;obtain ⟨n0,_,_⟩:=isT_get hn;have neg:∀k,m.isT k=true->k≠ -1:=fun k hk=>by have:=(isT_get hk).1;omega
 unfold Mt.leave0;split
 ·rename_i hs
  refine ⟨hi.ok.setQ (takeR_ids hok.qline),hi.pr,hi.le,fun c=>?_,fun c hc2 p k=>?_,fun c hc2 k hk=>?_⟩
  ·rw[q_setQ hc];split
   ·exact take_ok (hi.qok _)
   ·exact hi.qok c
  ·rw[setQ_isC] at hc2
   rw[q_setQ hc,setQ_th,setQ_isT];split
   ·rename_i e
    subst e;rw[take_mem,hi.inq _ hc];constructor
    ·rintro ⟨⟨h1,h2,h3⟩,h4⟩;exact ⟨h1,h4,h3⟩
    ·rintro ⟨h1,h4,h3⟩;exact ⟨⟨h1,neg k h1,h3⟩,h4⟩
   ·rename_i e
    rw[hi.inq _ hc2];constructor
    ·rintro ⟨h1,h2,h3⟩;exact ⟨h1,fun e2=>e (by rw[←h3.1,e2]),h3⟩
    ·rintro ⟨h1,h4,h3⟩;exact ⟨h1,neg k h1,h3⟩
  ·rw[setQ_isC] at hc2
   rw[setQ_run,setQ_th,hi.inr c hc2 k hk];constructor
   ·rintro ⟨h1,h2,h3⟩;exact ⟨fun e=>by rw[e,hs] at h3;omega,h2,h3⟩
   ·rintro ⟨h1,h3⟩;exact ⟨neg k hk,h3⟩
 ·rename_i hs1
  split
  ·rename_i hs
   refine ⟨hi.ok.setR (.inl rfl),hi.pr,hi.le,hi.qok,fun c hc2 p k=>?_,fun c hc2 k hk=>?_⟩
   ·rw[setR_isC] at hc2
    rw[setR_q,setR_th,setR_isT,hi.inq c hc2];constructor
    ·rintro ⟨h1,h2,h3,h4,h5⟩;exact ⟨h1,fun e=>by rw[e,hs] at h4;omega,h3,h4,h5⟩
    ·rintro ⟨h1,h2,h3⟩;exact ⟨h1,neg k h1,h3⟩
   ·rw[setR_isC] at hc2
    rw[setR_isT] at hk;rw[run_setR c0 (by omega),setR_th];split
    ·rename_i e
     constructor
     ·intro e2;exact absurd e2.symm (neg k hk)
     ·rintro ⟨h1,h2,h3⟩
      have a1:=(hi.inr c hc2 k hk).2 ⟨neg k hk,h2,h3⟩;have a2:=(hi.inr c hc2 n hn).2 ⟨neg n hn,e.symm,hs⟩;exact absurd (a1.symm.trans a2) h1
    ·rename_i e
     rw[hi.inr c hc2 k hk];constructor
     ·rintro ⟨h1,h2,h3⟩;exact ⟨fun e2=>e (by rw[←h2,e2]),h2,h3⟩
     ·rintro ⟨h1,h3⟩;exact ⟨neg k hk,h3⟩
  ·rename_i hs2
   refine ⟨hi.ok,hi.pr,hi.le,hi.qok,fun c hc2 p k=>?_,fun c hc2 k hk=>?_⟩
   ·rw[hi.inq c hc2]
    constructor
    ·rintro ⟨h1,h2,h3,h4,h5⟩;exact ⟨h1,fun e=>by rw[e] at h4;exact hs1 h4,h3,h4,h5⟩
    ·rintro ⟨h1,h2,h3⟩;exact ⟨h1,neg k h1,h3⟩
   ·rw[hi.inr c hc2 k hk]
    constructor
    ·rintro ⟨h1,h2,h3⟩;exact ⟨fun e=>by rw[e] at h3;exact hs2 h3,h2,h3⟩
    ·rintro ⟨h1,h3⟩;exact ⟨neg k hk,h3⟩
theorem InvX.set {n:Int} (hi:InvX n m) (hn:m.isT n=true) {t:Thd} (h1:0≤t.co/\t.co<m.qs.length) (h2:0≤t.pr/\t.pr<256) (h3:1≤t.le/\t.le≤5):InvX n (m.setTh n t):=by
 refine ⟨hi.ok.setTh h1 rfl,fun k hk=>?_,fun k hk=>?_,hi.qok,fun c hc p k=>?_,fun c hc k hk=>?_⟩
 ·rw[th_setTh hn];rw[setTh_isT] at hk;split
  ·exact h2
  ·exact hi.pr k hk
 ·rw[th_setTh hn];rw[setTh_isT] at hk;split
  ·exact h3
  ·exact hi.le k hk
 ·rw[setTh_q,setTh_isT,th_setTh hn,hi.inq c hc]
  by_cases e:k=n
  ·subst e;exact ⟨fun h=>absurd rfl h.2.1,fun h=>absurd rfl h.2.1⟩
  ·rw[if_neg e]
 ·rw[setTh_isT] at hk
  rw[setTh_run,th_setTh hn,hi.inr c hc k hk];by_cases e:k=n
  ·subst e;exact ⟨fun h=>absurd rfl h.1,fun h=>absurd rfl h.1⟩
  ·rw[if_neg e]
theorem leave0_th {n k:Int}:(m.leave0 n).th k=m.th k:=by unfold Mt.th;rw[leave0_len.1]
theorem leave0_isT {n k:Int}:(m.leave0 n).isT k=m.isT k:=by unfold Mt.isT;rw[leave0_len.1]
theorem InvX.leave (hi:InvX (-1) m) {n s:Int} (hn:m.isT n=true):InvX n (m.leave n s):=by
 unfold Mt.leave;have h0:=hi.leave0 hn;have hn0:(m.leave0 n).isT n=true:=by rw[leave0_isT];exact hn
 refine h0.set hn0 ?_ (hi.pr n hn) (hi.le n hn);rw[leave0_len.2];exact (hi.ok.th hn).1
theorem th_leave {n s k:Int} (hn:m.isT n=true):(m.leave n s).th k=if k=n then { m.th n with st:=s} else m.th k:=by
 unfold Mt.leave;rw[th_setTh (by rw[leave0_isT];exact hn),leave0_th]
theorem th_lineUp {n k:Int} (hn:m.isT n=true):(m.lineUp n).th k=if k=n then { m.th n with st:=1} else m.th k:=by
 unfold Mt.lineUp;rw[setQ_th,th_setTh hn]
theorem InvX.noq {n:Int} (hi:InvX n m) {c:Int} (hc:m.isC c=true):wh (m.q c) n=none:=wh_none.2 fun x hx e=>by
 obtain ⟨p,k⟩:=x;exact ((hi.inq c hc p k).1 hx).2.1 e
theorem InvX.up {n:Int} (hi:InvX n m) (hn:m.isT n=true):InvX (-1) (m.lineUp n):=by
 have hc:=hi.co hn;have hw:=hi.noq hc;have hp:=hi.pr n hn;have hok:=hi.ok.lineUp hn;have hids:=ids_len (hi.qok _) (hi.ok.qline (c:=(m.th n).co));have hfew:=hi.ok.few;have neg:∀k,m.isT k=true->k≠ -1:=fun k hk=>by have:=(isT_get hk).1;omega
 have hput:(putR (m.q (m.th n).co) (m.th n).pr n).2=m.q (m.th n).co++ [((m.th n).pr.toNat,n)]:=by
  unfold putR;rw[if_neg (by omega),hw]
 have hpt:((m.th n).pr.toNat:Int)=(m.th n).pr:=by omega
 have hc1:(m.setTh n { m.th n with st:=1}).isC (m.th n).co=true:=hc;refine ⟨hok,fun k hk=>?_,fun k hk=>?_,fun c=>?_,fun c hc2 p k=>?_,fun c hc2 k hk=>?_⟩
 ·rw[th_lineUp hn];rw[lineUp_isT] at hk;split
  ·exact hp
  ·exact hi.pr k hk
 ·rw[th_lineUp hn];rw[lineUp_isT] at hk;split
  ·exact hi.le n hn
  ·exact hi.le k hk
 ·unfold Mt.lineUp
  rw[q_setQ hc1,hput,setTh_q];split
  ·exact put_ok (hi.qok _) (by omega) hw (by omega)
  ·exact hi.qok c
 ·rw[lineUp_isC] at hc2
  rw[lineUp_isT,th_lineUp hn]
  have e0:(m.lineUp n).q c=if c=(m.th n).co then m.q (m.th n).co++ [((m.th n).pr.toNat,n)] else m.q c:=by
   unfold Mt.lineUp;rw[q_setQ hc1,hput,setTh_q]
  rw[e0];by_cases e:c=(m.th n).co
  ·subst e
   rw[if_pos rfl,List.mem_append,List.mem_singleton,hi.inq _ hc2];by_cases ek:k=n
   ·subst ek
    rw[if_pos rfl];constructor
    ·rintro (h|h)
     ·exact absurd rfl h.2.1
     ·cases h;exact ⟨hn,neg k hn,rfl,rfl,hpt.symm⟩
    ·rintro ⟨_,_,_,_,h5⟩
     refine .inr ?_;have:(m.th k).pr.toNat=p:=by have h5:(m.th k).pr=p:=h5;omega
     rw[this]
   ·rw[if_neg ek]
    constructor
    ·rintro (⟨h1,h2,h3⟩|h)
     ·exact ⟨h1,neg k h1,h3⟩
     ·cases h;exact absurd rfl ek
    ·rintro ⟨h1,h2,h3⟩;exact .inl ⟨h1,ek,h3⟩
  ·rw[if_neg e,hi.inq _ hc2]
   by_cases ek:k=n
   ·subst ek
    rw[if_pos rfl];exact ⟨fun h=>absurd rfl h.2.1,fun h=>absurd h.2.2.1.symm e⟩
   ·rw[if_neg ek]
    exact ⟨fun h=>⟨h.1,neg k h.1,h.2.2⟩,fun h=>⟨h.1,ek,h.2.2⟩⟩
 ·rw[lineUp_isC] at hc2
  rw[lineUp_isT] at hk;rw[th_lineUp hn];show m.run c=k↔_;rw[hi.inr c hc2 k hk];by_cases ek:k=n
  ·subst ek
   rw[if_pos rfl];exact ⟨fun h=>absurd rfl h.1,fun h=>absurd (show (1:Int)=2 from h.2.2) (by decide)⟩
  ·rw[if_neg ek]
   exact ⟨fun h=>⟨neg k hk,h.2⟩,fun h=>⟨ek,h.2⟩⟩
theorem InvX.still {n:Int} (hi:InvX n m) (h1:(m.th n).st≠1) (h2:(m.th n).st≠2):InvX (-1) m:=by
 have neg:∀k,m.isT k=true->k≠ -1:=fun k hk=>by have:=(isT_get hk).1;omega
 refine ⟨hi.ok,hi.pr,hi.le,hi.qok,fun c hc p k=>?_,fun c hc k hk=>?_⟩
 ·rw[hi.inq c hc]
  exact ⟨fun h=>⟨h.1,neg k h.1,h.2.2⟩,fun h=>⟨h.1,fun e=>h1 (by rw[←e];exact h.2.2.2.1),h.2.2⟩⟩
 ·rw[hi.inr c hc k hk]
  exact ⟨fun h=>⟨neg k hk,h.2⟩,fun h=>⟨fun e=>h2 (by rw[←e];exact h.2.2),h.2⟩⟩
theorem InvX.out {n:Int} (hi:InvX (-1) m) (h1:(m.th n).st≠1) (h2:(m.th n).st≠2):InvX n m:=by
 have neg:∀k,m.isT k=true->k≠ -1:=fun k hk=>by have:=(isT_get hk).1;omega
 refine ⟨hi.ok,hi.pr,hi.le,hi.qok,fun c hc p k=>?_,fun c hc k hk=>?_⟩
 ·rw[hi.inq c hc]
  exact ⟨fun h=>⟨h.1,fun e=>h1 (by rw[←e];exact h.2.2.2.1),h.2.2⟩,fun h=>⟨h.1,neg k h.1,h.2.2⟩⟩
 ·rw[hi.inr c hc k hk]
  exact ⟨fun h=>⟨fun e=>h2 (by rw[←e];exact h.2.2),h.2⟩,fun h=>⟨neg k hk,h.2⟩⟩
theorem InvX.go {n c:Int} (hi:InvX n m) (hn:m.isT n=true) (h1:(m.th n).st=2) (h2:(m.th n).co=c) (hc:m.isC c=true) (hr:m.run c= -1):InvX (-1) (m.setR c n):=by
 have neg:∀k,m.isT k=true->k≠ -1:=fun k hk=>by have:=(isT_get hk).1;omega
 obtain ⟨c0,c1⟩:=isC_iff.1 hc;have hcr:=hi.ok.cores;refine ⟨hi.ok.setRT hn,hi.pr,hi.le,hi.qok,fun d hd p k=>?_,fun d hd k hk=>?_⟩
 ·rw[setR_isC] at hd
  rw[setR_q,setR_isT,setR_th,hi.inq d hd];exact ⟨fun h=>⟨h.1,neg k h.1,h.2.2⟩,fun h=>⟨h.1,fun e=>by rw[e,h1] at h;exact absurd h.2.2.2.1 (by decide),h.2.2⟩⟩
 ·rw[setR_isC] at hd
  rw[setR_isT] at hk;rw[run_setR c0 (by omega),setR_th];by_cases e:d=c
  ·subst e
   rw[if_pos rfl];constructor
   ·intro e2;subst e2;exact ⟨neg _ hk,h2,h1⟩
   ·rintro ⟨h3,h4⟩
    by_cases ek:k=n
    ·exact ek.symm
    ·have:=(hi.inr d hd k hk).2 ⟨ek,h4⟩
     rw[hr] at this;exact absurd this.symm (neg k hk)
  ·rw[if_neg e,hi.inr d hd k hk]
   exact ⟨fun h=>⟨neg k hk,h.2⟩,fun h=>⟨fun e2=>e (by rw[←h.2.1,e2,h2]),h.2⟩⟩
theorem InvX.keep (hi:InvX (-1) m) {n:Int} (hn:m.isT n=true) {t:Thd} (h1:t.co=(m.th n).co) (h2:t.st=(m.th n).st) (h3:(m.th n).st=1->t.pr=(m.th n).pr) (h4:0≤t.pr/\t.pr<256) (h5:1≤t.le/\t.le≤5):InvX (-1) (m.setTh n t):=by
 refine ⟨hi.ok.setTh (by rw[h1];exact (hi.ok.th hn).1) rfl,fun k hk=>?_,fun k hk=>?_,hi.qok,fun c hc p k=>?_,fun c hc k hk=>?_⟩
 ·rw[th_setTh hn];rw[setTh_isT] at hk;split
  ·exact h4
  ·exact hi.pr k hk
 ·rw[th_setTh hn];rw[setTh_isT] at hk;split
  ·exact h5
  ·exact hi.le k hk
 ·rw[setTh_q,setTh_isT,th_setTh hn,hi.inq c hc]
  by_cases e:k=n
  ·subst e
   rw[if_pos rfl,h1,h2];exact ⟨fun h=>⟨h.1,h.2.1,h.2.2.1,h.2.2.2.1,by rw[h3 h.2.2.2.1];exact h.2.2.2.2⟩,fun h=>⟨h.1,h.2.1,h.2.2.1,h.2.2.2.1,by rw[←h3 h.2.2.2.1];exact h.2.2.2.2⟩⟩
  ·rw[if_neg e]
 ·rw[setTh_isT] at hk
  rw[setTh_run,th_setTh hn,hi.inr c hc k hk];by_cases e:k=n
  ·subst e;rw[if_pos rfl,h1,h2]
  ·rw[if_neg e]
theorem th_make {p c k:Int}:(m.make p c).th k=if k=(m.ths.length:Int) then ⟨0,p,c,5,fun _=>0⟩ else m.th k:=by
 unfold Mt.th Mt.make;by_cases hk:k<0
 ·rw[if_pos hk,if_neg (by omega),if_pos hk]
 ·rw[if_neg hk]
  simp only;by_cases e:k=(m.ths.length:Int)
  ·subst e;rw[if_pos rfl,Int.toNat_natCast,List.getElem?_append_right (Nat.le_refl _),Nat.sub_self];rfl
  ·rw[if_neg e,if_neg hk]
   by_cases e2:k.toNat<m.ths.length
   ·rw[List.getElem?_append_left e2]
   ·rw[List.getElem?_eq_none (by simp;omega),List.getElem?_eq_none (by omega)]
theorem make_isT {p c k:Int}:(m.make p c).isT k=true↔(m.isT k=true∨k=(m.ths.length:Int)):=by
 unfold Mt.isT Mt.make;simp only[List.length_append,List.length_cons,List.length_nil,Bool.and_eq_true,decide_eq_true_eq];omega
theorem InvX.make (hi:InvX (-1) m) {p c:Int} (hl:m.ths.length<64) (hc:m.isC c=true) (hp:0≤p/\p<256):InvX (-1) (m.make p c):=by
 have notT:m.isT (m.ths.length:Int)≠true:=by unfold Mt.isT;simp
 refine ⟨hi.ok.make hl hc,fun k hk=>?_,fun k hk=>?_,hi.qok,fun d hd q k=>?_,fun d hd k hk=>?_⟩
 ·rw[th_make]
  rcases make_isT.1 hk with h|h
  ·split
   ·exact hp
   ·exact hi.pr k h
  ·rw[if_pos h];exact hp
 ·rw[th_make]
  rcases make_isT.1 hk with h|h
  ·split
   ·exact ⟨by show (1:Int)≤5;decide,by show (5:Int)≤5;decide⟩
   ·exact hi.le k h
  ·rw[if_pos h];exact ⟨by show (1:Int)≤5;decide,by show (5:Int)≤5;decide⟩
 ·show (q,k)∈m.q d↔_
  rw[hi.inq d hd,make_isT,th_make];by_cases e:k=(m.ths.length:Int)
  ·rw[if_pos e,e]
   exact ⟨fun h=>absurd h.1 notT,fun h=>absurd (show (0:Int)=1 from h.2.2.2.1) (by decide)⟩
  ·rw[if_neg e]
   exact ⟨fun h=>⟨.inl h.1,h.2⟩,fun h=>⟨h.1.resolve_right e,h.2⟩⟩
 ·show m.run d=k↔_
  rw[th_make];by_cases e:k=(m.ths.length:Int)
  ·rw[if_pos e,e]
   refine ⟨fun h=>?_,fun h=>absurd (show (0:Int)=2 from h.2.2) (by decide)⟩;obtain ⟨d0,d1⟩:=isC_iff.1 hd;have d1:d<(m.qs.length:Int):=d1;have hcr:=hi.ok.cores;have:=hi.ok.run _ (List.mem_of_getElem? (r_get (m:=m) d0 (by omega)));omega
  ·rw[if_neg e]
   exact hi.inr d hd k ((make_isT.1 hk).resolve_right e)
theorem newM_q {c:Nat} {d:Int}:(newM c).q d= []:=by
 unfold Mt.q newM;split
 ·rfl
 ·simp only
  cases e:(List.replicate c ([]:Qs))[d.toNat]? with
  |none=>rfl
  |some Q=>have:=List.mem_of_getElem? e;rw[List.mem_replicate] at this;rw[this.2];rfl
theorem newM_isT {c:Nat} {k:Int}:(newM c).isT k≠true:=by unfold Mt.isT newM;simp
theorem newM_inv {c:Nat} (h8:c≤8):InvX (-1) (newM c):=by
 refine ⟨newM_ok h8,fun k hk=>absurd hk newM_isT,fun k hk=>absurd hk newM_isT,fun d=>?_,fun d hd p k=>?_,fun d hd k hk=>absurd hk newM_isT⟩
 ·rw[newM_q];exact ⟨by simp,by simp,by simp⟩
 ·rw[newM_q];exact ⟨fun h=>by simp at h,fun h=>absurd h.1 newM_isT⟩
end
section
variable {B:Nat} {w0 w:World} {R L:List Asn} {b:Nat} {m:Mt}
def Mt.resumeR (m:Mt) (n:Int):Int × Mt:=if m.isT n=false then (100,m) else if (m.th n).st=1∨(m.th n).st=2 then (101,m) else (0,m.lineUp n)
def Mt.suspendR (m:Mt) (n:Int):Int × Mt:=if m.isT n=false then (100,m) else if (m.th n).st=0 then (101,m) else (0,m.leave n 0)
def Mt.blockR (m:Mt) (n:Int):Int × Mt:=if m.isT n=false then (100,m) else if (m.th n).st≠2 then (101,m) else (0,m.leave n 3)
def Mt.prioR (m:Mt) (n p:Int):Int × Mt:=if m.isT n=false then (100,m) else if ¬(0≤p/\p<256) then (1,m) else
 if (m.th n).st=1 then (0,((m.leave n 1).setTh n {(m.leave n 1).th n with pr:=p}).lineUp n) else (0,m.setTh n { m.th n with pr:=p})
def Mt.regR (m:Mt) (n i v:Int):Int × Mt:=if m.isT n=false then (100,m) else if ¬(0≤i/\i<8) then (1,m) else (0,m.reg n i.toNat v)
def Mt.makeR (m:Mt) (p c:Int):Int × Int × Mt:=if ¬(0≤p/\p<256/\m.isC c=true) then (0,1,m) else if 64≤m.ths.length then (0,2,m) else ((m.ths.length:Int),0,m.make p c)
theorem resume_g {n:Int} {K:Int->Pw} (hm:MOk m) (h:Own B w0 w (ThrA b m::R)) (hK:∀w',Own B w0 w' (ThrA b (m.resumeR n).2::R)->K (m.resumeR n).1 w'):C.qG (some ⟨b,0,none⟩) n K w:=by
 unfold Mt.resumeR at hK;refine thr_Resume_spec hm h (fun e w h=>?_) (fun e e1 w h=>?_) (fun e e1 e2 w h=>?_)
 ·rw[if_pos e] at hK;exact hK w h
 ·rw[if_neg (by rw[e];simp),if_pos e1] at hK;exact hK w h
 ·rw[if_neg (by rw[e];simp),if_neg (fun hh=>hh.elim e1 e2)] at hK;exact hK w h
theorem suspend_g {n:Int} {K:Int->Pw} (hm:MOk m) (h:Own B w0 w (ThrA b m::R)) (hK:∀w',Own B w0 w' (ThrA b (m.suspendR n).2::R)->K (m.suspendR n).1 w'):C.qK (some ⟨b,0,none⟩) n K w:=by
 unfold Mt.suspendR at hK;refine thr_Suspend_spec hm h (fun e w h=>?_) (fun e e1 w h=>?_) (fun e e1 w h=>?_)
 ·rw[if_pos e] at hK;exact hK w h
 ·rw[if_neg (by rw[e];simp),if_pos e1] at hK;exact hK w h
 ·rw[if_neg (by rw[e];simp),if_neg e1] at hK;exact hK w h
theorem block_g {n:Int} {K:Int->Pw} (hm:MOk m) (h:Own B w0 w (ThrA b m::R)) (hK:∀w',Own B w0 w' (ThrA b (m.blockR n).2::R)->K (m.blockR n).1 w'):C.qaf (some ⟨b,0,none⟩) n K w:=by
 unfold Mt.blockR at hK;refine thr_Block_spec hm h (fun e w h=>?_) (fun e e1 w h=>?_) (fun e e1 w h=>?_)
 ·rw[if_pos e] at hK;exact hK w h
 ·rw[if_neg (by rw[e];simp),if_pos e1] at hK;exact hK w h
 ·rw[if_neg (by rw[e];simp),if_neg (fun hh=>hh e1)] at hK;exact hK w h
theorem make_g {p c:Int} {K:Int->Int->Pw} (hm:MOk m) (h:Own B w0 w (ThrA b m::R)) (hK:∀w',Own B w0 w' (ThrA b (m.makeR p c).2.2::R)->K (m.makeR p c).1 (m.makeR p c).2.1 w'):C.qM (some ⟨b,0,none⟩) p c K w:=by
 unfold Mt.makeR at hK;refine thr_Make_spec hm h (fun e w h=>?_) (fun e e1 w h=>?_) (fun e e1 w h=>?_)
 ·rw[if_pos e] at hK;exact hK w h
 ·rw[if_neg (fun hh=>hh e),if_pos e1] at hK;exact hK w h
 ·rw[if_neg (fun hh=>hh e),if_neg (by omega)] at hK;exact hK w h
theorem first2 {x y:Int} {K:Int->Pw} (h:Own B w0 w L) (hK:∀w',Own B w0 w' L->K (if x≠0 then x else y) w'):Al w (.cells #[.z x, .z y] 32) fun w12=>C.qbz ⟨some (Addr.mk w.heap.size 0 none),2,2⟩ K w12:=by
 refine h.al fun w2 h=>?_
 generalize w.heap.size=d at h⊢;exact thr_first_spec h fun w h=>hK w h.drop
theorem reg_g {n i v:Int} {K:Int->Pw} (hm:MOk m) (h:Own B w0 w (ThrA b m::R)) (hK:∀w',Own B w0 w' (ThrA b (m.regR n i v).2::R)->K (m.regR n i v).1 w'):C.qC (some ⟨b,0,none⟩) n i v K w:=by
 unfold Mt.regR at hK;by_cases hT:m.isT n=true
 ·rw[if_neg (by rw[hT];simp)] at hK
  by_cases hi:0≤i/\i<8
  ·rw[if_neg (fun hh=>hh hi)] at hK
   obtain ⟨k,rfl⟩:=Int.eq_ofNat_of_zero_le hi.1;exact reg_p hm hT (by omega) h hK
  ·rw[if_pos hi] at hK
   apply S.qC0;obtain ⟨l,q,r,bs,hbs,h⟩:=h.thr;refine thr_one_o h (fun e=>by rw[hT] at e;cases e) fun a _ ha=>?_
   intro k7 hk7;refine thr_when_spec ?_;refine cdec (fun e=>?_) (fun e=>?_)
   ·refine thr_when_spec (first2 h fun w h=>?_)
    exact hk7 _ _ (cneT (by simp) (hK w (Own.mk_thr hbs h)))
   ·refine thr_when_spec ?_
    rw[decide_eq_true (show i≥8 by omega)];refine first2 h fun w h=>?_
    exact hk7 _ _ (cneT (by simp) (hK w (Own.mk_thr hbs h)))
 ·have hF:m.isT n=false:=by simpa using hT
  rw[if_pos hF] at hK;apply S.qC0;obtain ⟨l,q,r,bs,hbs,h⟩:=h.thr;refine thr_one_o h (fun e=>?_) fun a e ha=>by rw[hF] at e;cases e
  intro k7 hk7;refine thr_when_spec ?_;refine cdec (fun e=>?_) (fun e=>?_)
  ·refine thr_when_spec (first2 h fun w h=>?_)
   exact hk7 _ _ (cneT (by simp) (hK w (Own.mk_thr hbs h)))
  ·refine thr_when_spec (first2 h fun w h=>?_)
   exact hk7 _ _ (cneT (by simp) (hK w (Own.mk_thr hbs h)))
theorem prio_g {n p:Int} {K:Int->Pw} (hm:MOk m) (h:Own B w0 w (ThrA b m::R)) (hK:∀w',Own B w0 w' (ThrA b (m.prioR n p).2::R)->K (m.prioR n p).1 w'):C.qaP (some ⟨b,0,none⟩) n p K w:=by
 unfold Mt.prioR at hK;apply S.qaP0;obtain ⟨l,q,r,bs,hbs,h⟩:=h.thr;refine thr_one_o h (fun e=>?_) fun a hT ha=>?_
 ·rw[if_pos e] at hK
  refine thr_when_spec (thr_prio_spec (thr_when_spec (first2 h fun w h=>?_)));exact cneT (by simp) (hK w (Own.mk_thr hbs h))
 ·rw[if_neg (by rw[hT];simp)] at hK
  obtain ⟨n0,n1,hx⟩:=isT_get hT;refine thr_when_spec (thr_prio_spec (thr_when_spec (first2 h fun w h=>?_)));by_cases hp:0≤p/\p<256
  ·rw[if_neg (fun hh=>hh hp)] at hK
   rw[decide_eq_true hp.1,decide_eq_true hp.2];refine cneF (by simp) ?_;refine ⟨_,rfl,_,ldTh (c:=0) h n0 hx ha rfl,?_⟩;refine cne (fun e=>?_) (fun e=>?_)
   ·rw[if_neg e] at hK
    refine ⟨_,rfl,?_⟩;refine stTh (c:=1) (t':={ m.th n with pr:=p}) h n0 hx ha rfl (by decide) rfl fun w h=>?_
    exact hK w (Own.mk_thr (m:=m.setTh n { m.th n with pr:=p}) hbs h)
   ·rw[if_pos e] at hK
    have hm1:=hm.leave (s:=1) hT;have hT1:(m.leave n 1).isT n=true:=by rw[leave_isT];exact hT
    have hq1:(m.leave n 1).qs.length=m.qs.length:=leave0_len.2;refine thr_leave_o hm hT hbs h fun w h=>?_
    obtain ⟨_,_,hx1⟩:=isT_get hT1;generalize m.leave n 1=mb at*
    refine ⟨_,rfl,?_⟩;refine stTh (c:=1) (t':={ mb.th n with pr:=p}) h n0 hx1 ha rfl (by decide) rfl fun w h=>?_
    have h:Own B w0 w (ThrA b (mb.setTh n { mb.th n with pr:=p})::R):=Own.mk_thr (m:=mb.setTh n { mb.th n with pr:=p}) (by show bs.length=mb.qs.length;omega) h;have hm2:MOk (mb.setTh n { mb.th n with pr:=p}):=hm1.setTh (t:={ mb.th n with pr:=p}) (hm1.th hT1).1 rfl;have hT2:(mb.setTh n { mb.th n with pr:=p}).isT n=true:=by rw[setTh_isT];exact hT1
    exact thr_lineUp_spec hm2 hT2 h hK
  ·rw[if_pos hp] at hK
   have e:(!(decide (0≤p)&&decide (p<256)))=true:=by
    by_cases e1:0≤p
    ·rw[decide_eq_true e1,decide_eq_false (by omega)];rfl
    ·rw[decide_eq_false e1];rfl
   rw[e];exact cneT (by simp) (hK w (Own.mk_thr hbs h))
theorem InvX.resume (hi:InvX (-1) m) (n:Int):InvX (-1) (m.resumeR n).2:=by
 unfold Mt.resumeR;split
 ·exact hi
 ·rename_i e
  have hT:m.isT n=true:=by simpa using e
  split
  ·exact hi
  ·rename_i e1
   exact (hi.out (fun h=>e1 (.inl h)) (fun h=>e1 (.inr h))).up hT
theorem InvX.suspend (hi:InvX (-1) m) (n:Int):InvX (-1) (m.suspendR n).2:=by
 unfold Mt.suspendR;split
 ·exact hi
 ·rename_i e
  have hT:m.isT n=true:=by simpa using e
  split
  ·exact hi
  ·refine (hi.leave hT).still ?_ ?_<;>(rw[th_leave hT,if_pos rfl];show (0:Int)≠_;decide)
theorem InvX.block (hi:InvX (-1) m) (n:Int):InvX (-1) (m.blockR n).2:=by
 unfold Mt.blockR;split
 ·exact hi
 ·rename_i e
  have hT:m.isT n=true:=by simpa using e
  split
  ·exact hi
  ·refine (hi.leave hT).still ?_ ?_<;>(rw[th_leave hT,if_pos rfl];show (3:Int)≠_;decide)
theorem InvX.reg (hi:InvX (-1) m) (n i v:Int):InvX (-1) (m.regR n i v).2:=by
 unfold Mt.regR;split
 ·exact hi
 ·rename_i e
  have hT:m.isT n=true:=by simpa using e
  split
  ·exact hi
  ·exact hi.keep hT rfl rfl (fun _=>rfl) (hi.pr n hT) (hi.le n hT)
theorem InvX.prio (hi:InvX (-1) m) (n p:Int):InvX (-1) (m.prioR n p).2:=by
 unfold Mt.prioR;split
 ·exact hi
 ·rename_i e
  have hT:m.isT n=true:=by simpa using e
  split
  ·exact hi
  ·rename_i hp
   have hp:0≤p/\p<256:=Decidable.not_not.1 hp;split
   ·have h1:=hi.leave (s:=1) hT
    have hT1:(m.leave n 1).isT n=true:=by rw[leave_isT];exact hT
    exact (h1.set (t:={(m.leave n 1).th n with pr:=p}) hT1 (h1.ok.th hT1).1 hp (h1.le n hT1)).up (by rw[setTh_isT];exact hT1)
   ·rename_i e1
    exact hi.keep (t:={ m.th n with pr:=p}) hT rfl rfl (fun h=>absurd h e1) hp (hi.le n hT)
theorem InvX.makeR (hi:InvX (-1) m) (p c:Int):InvX (-1) (m.makeR p c).2.2:=by
 unfold Mt.makeR;split
 ·exact hi
 ·rename_i e
  have e:=Decidable.not_not.1 e;split
  ·exact hi
  ·exact hi.make (by omega) e.2.2 ⟨e.1,e.2.1⟩
theorem InvX.nextIn (hi:InvX (-1) m) {c n:Int} (hc:m.isC c=true) (h:nextR (m.q c)=some n):m.isT n=true/\(m.th n).co=c/\(m.th n).st=1:=by
 obtain ⟨⟨p,k⟩,hx,e⟩:=next_mem h;have e:k=n:=e;subst e;have:=(hi.inq c hc p k).1 hx;exact ⟨this.1,this.2.2.1,this.2.2.2.1⟩
theorem InvX.runIn (hi:InvX (-1) m) {c n:Int} (h:m.runs? c=some n):m.isC c=true/\m.isT n=true/\(m.th n).co=c/\(m.th n).st=2:=by
 obtain ⟨hc,h1,h2,hT⟩:=hi.ok.runT h;have:=(hi.inr c hc n hT).1 h1;exact ⟨hc,hT,this.2⟩
theorem leave_run_same {n s:Int} (h:(m.th n).st≠2) (c:Int):(m.leave n s).run c=m.run c:=by
 unfold Mt.leave Mt.leave0;rw[setTh_run];split
 ·rfl
 ·rfl
theorem leave_run_off (hi:InvX (-1) m) {n s:Int} (hn:m.isT n=true) (h:(m.th n).st=2):(m.leave n s).run (m.th n).co= -1:=by
 obtain ⟨c0,c1⟩:=(hi.ok.th hn).1;have hcr:=hi.ok.cores;unfold Mt.leave Mt.leave0;rw[setTh_run,if_neg (by omega),if_pos h,run_setR c0 (by omega),if_pos rfl]
theorem InvX.pickC (hi:InvX (-1) m) (c:Int):InvX (-1) (m.pickC c):=by
 unfold Mt.pickC;split
 ·rename_i hc
  unfold Mt.pick;cases hn:nextR (m.q c) with
  |none=>exact hi
  |some n=>
   obtain ⟨hT,hco,hst⟩:=hi.nextIn hc hn;simp only
   have last:∀m1:Mt,InvX (-1) m1->m1.isT n=true->m1.isC c=true->(m1.th n).co=c->(m1.th n).st=1->m1.run c= -1->InvX (-1) ((m1.leave n 2).setR c n):=fun m1 hi hT hc hco hst hr=>by
    refine (hi.leave hT).go (by rw[leave_isT];exact hT) (by rw[th_leave hT,if_pos rfl]) (by rw[th_leave hT,if_pos rfl];exact hco) (by rw[leave_isC];exact hc) ?_;rw[leave_run_same (by omega)];exact hr
   split
   ·rename_i hr
    exact last m hi hT hc hco hst hr
   ·rename_i hr
    split
    ·exact hi
    ·have hr2:m.runs? c=some (m.run c):=by unfold Mt.runs?;rw[if_pos ⟨hc,hr⟩]
     obtain ⟨_,hoT,hoc,hos⟩:=hi.runIn hr2;have hoT1:(m.leave (m.run c) 1).isT (m.run c)=true:=by rw[leave_isT];exact hoT
     have hne:n≠m.run c:=fun e=>by rw[←e] at hos;omega
     refine last _ ((hi.leave hoT).up hoT1) (by rw[lineUp_isT,leave_isT];exact hT) (by rw[lineUp_isC,leave_isC];exact hc) ?_ ?_ ?_
     ·rw[th_lineUp hoT1,if_neg hne,th_leave hoT,if_neg hne];exact hco
     ·rw[th_lineUp hoT1,if_neg hne,th_leave hoT,if_neg hne];exact hst
     ·show (m.leave (m.run c) 1).run c= -1
      have:=leave_run_off (s:=1) hi hoT hos;rw[hoc] at this;exact this
 ·exact hi
theorem InvX.yield (hi:InvX (-1) m) (c:Int):InvX (-1) (m.yield c):=by
 unfold Mt.yield;cases hr:m.runs? c with
 |none=>exact hi
 |some o=>
  obtain ⟨_,hT,_,_⟩:=hi.runIn hr;have hT1:(m.setTh o { m.th o with le:=5}).isT o=true:=by rw[setTh_isT];exact hT
  have h1:=hi.keep (t:={ m.th o with le:=5}) hT rfl rfl (fun _=>rfl) (hi.pr o hT) ⟨by show (1:Int)≤5;decide,by show (5:Int)≤5;decide⟩;exact ((h1.leave hT1).up (by rw[leave_isT];exact hT1)).pickC c
theorem setTh2 {n:Int} {t t':Thd}:(m.setTh n t).setTh n t'=m.setTh n t':=by unfold Mt.setTh;simp
theorem tick_eq (hi:InvX (-1) m) {c:Int}:m.tick c=match m.runs? c with
  |none=>m
  |some o=>if (m.th o).le=1 then m.yield c else m.setTh o { m.th o with le:=(m.th o).le-1}:=by
 unfold Mt.tick;cases hr:m.runs? c with
 |none=>rfl
 |some o=>
  obtain ⟨_,hT,_,_⟩:=hi.runIn hr;have hl:=hi.le o hT;simp only;rw[wr (by omega) (by omega)];by_cases e:(m.th o).le=1
  ·rw[if_pos (by omega),if_pos e]
   unfold Mt.yield;have hr2:(m.setTh o { m.th o with le:=(m.th o).le-1}).runs? c=some o:=hr;rw[hr,hr2];simp only;rw[setTh2,th_setTh hT,if_pos rfl]
  ·rw[if_neg (by omega),if_neg e]
theorem InvX.tick (hi:InvX (-1) m) (c:Int):InvX (-1) (m.tick c):=by
 rw[tick_eq hi];cases hr:m.runs? c with
 |none=>exact hi
 |some o=>
  obtain ⟨_,hT,_,_⟩:=hi.runIn hr;have hl:=hi.le o hT;simp only;split
  ·exact hi.yield c
  ·exact hi.keep (t:={ m.th o with le:=(m.th o).le-1}) hT rfl rfl (fun _=>rfl) (hi.pr o hT) ⟨by show 1≤(m.th o).le-1;omega,by show (m.th o).le-1≤5;omega⟩
end
end Go.Proofs.YtghikphgplamkaaGreat.Th
end
section
set_option maxRecDepth 8000
namespace Go.Proofs.YtghikphgplamkaaGreat.Tb
open Go Go.Vc Go.Proofs
abbrev Pg:=Int × Int
abbrev Pgs:=List (Int × Pg)
def Srt (P:Pgs):Prop:=P.Pairwise fun x y=>x.1<y.1
def look:Pgs->Int->Option Pg
 | [],_=>none
 |x::P,k=>if x.1=k then some x.2 else look P k
def insS:Pgs->Int->Pg->Pgs
 | [],k,v=>[(k,v)]
 |x::P,k,v=>if k<x.1 then (k,v)::x::P else if x.1=k then (k,v)::P else x::insS P k v
def delS (P:Pgs) (k:Int):Pgs:=P.filter fun x=>x.1 !=k
theorem look_mem {P:Pgs} {k:Int} {v:Pg} (h:look P k=some v):(k,v)∈P:=by
 induction P with
 |nil=>simp[look] at h
 |cons x P ih=>
  simp only[look] at h;split at h
  ·rename_i e;cases h;rw[←e];exact List.mem_cons_self
  ·exact List.mem_cons_of_mem _ (ih h)
theorem look_none {P:Pgs} {k:Int}:look P k=none↔∀x∈P,x.1≠k:=by
 induction P with
 |nil=>simp[look]
 |cons x P ih=>
  simp only[look,List.mem_cons,forall_eq_or_imp];split
  ·rename_i e;simp[e]
  ·rename_i e;rw[ih];simp[e]
theorem Srt.inj {P:Pgs} (h:Srt P) {x y:Int × Pg} (hx:x∈P) (hy:y∈P) (e:x.1=y.1):x=y:=by
 induction P with
 |nil=>simp at hx
 |cons a P ih=>
  have h:=List.pairwise_cons.1 h;rcases List.mem_cons.1 hx with hx|hx
  ·rcases List.mem_cons.1 hy with hy|hy
   ·rw[hx,hy]
   ·have:=h.1 y hy;rw[hx] at e;omega
  ·rcases List.mem_cons.1 hy with hy|hy
   ·have:=h.1 x hx;rw[hy] at e;omega
   ·exact ih h.2 hx hy
theorem Srt.look {P:Pgs} (h:Srt P) {k:Int} {v:Pg} (hm:(k,v)∈P):look P k=some v:=by
 cases e:Go.Proofs.YtghikphgplamkaaGreat.Tb.look P k with
 |none=>exact absurd rfl (look_none.1 e _ hm)
 |some u=>have:=h.inj (look_mem e) hm rfl;cases this;rfl
theorem Srt.look_iff {P:Pgs} (h:Srt P) {k:Int} {v:Pg}:Go.Proofs.YtghikphgplamkaaGreat.Tb.look P k=some v↔(k,v)∈P:=⟨look_mem,h.look⟩
theorem Srt.sub {P Q:Pgs} (h:Srt P) (hs:Q.Sublist P):Srt Q:=List.Pairwise.sublist hs h
theorem Srt.filter {P:Pgs} (h:Srt P) (f:Int × Pg->Bool):Srt (P.filter f):=h.sub List.filter_sublist
theorem Srt.nodup {P:Pgs} (h:Srt P):(P.map (·.1)).Nodup:=by
 unfold List.Nodup;rw[List.pairwise_map];exact h.imp fun hab e=>by omega
theorem ins_mem {P:Pgs} (h:Srt P) {k:Int} {v:Pg} (x:Int × Pg):x∈insS P k v↔x=(k,v)∨(x∈P/\x.1≠k):=by
 induction P with
 |nil=>simp[insS]
 |cons a P ih=>
  have h:=List.pairwise_cons.1 h;simp only[insS];split
  ·rename_i e
   rw[List.mem_cons];constructor
   ·rintro (h1|h1)
    ·exact .inl h1
    ·refine .inr ⟨h1,?_⟩
     rcases List.mem_cons.1 h1 with h2|h2
     ·rw[h2];omega
     ·have:=h.1 x h2;omega
   ·rintro (h1|h1)
    ·exact .inl h1
    ·exact .inr h1.1
  ·rename_i e
   split
   ·rename_i e2
    rw[List.mem_cons,List.mem_cons];constructor
    ·rintro (h1|h1)
     ·exact .inl h1
     ·have:=h.1 x h1;exact .inr ⟨.inr h1,by omega⟩
    ·rintro (h1|⟨h1|h1,h2⟩)
     ·exact .inl h1
     ·rw[h1] at h2;exact absurd e2 h2
     ·exact .inr h1
   ·rename_i e2
    rw[List.mem_cons,List.mem_cons,ih h.2];constructor
    ·rintro (h1|h1|h1)
     ·rw[h1];exact .inr ⟨.inl rfl,e2⟩
     ·exact .inl h1
     ·exact .inr ⟨.inr h1.1,h1.2⟩
    ·rintro (h1|⟨h1|h1,h2⟩)
     ·exact .inr (.inl h1)
     ·exact .inl h1
     ·exact .inr (.inr ⟨h1,h2⟩)
theorem ins_srt {P:Pgs} (h:Srt P) (k:Int) (v:Pg):Srt (insS P k v):=by
 induction P with
 |nil=>simp[insS,Srt]
 |cons a P ih=>
  have h':=List.pairwise_cons.1 h;simp only[insS];split
  ·rename_i e
   refine List.pairwise_cons.2 ⟨fun x hx=>?_,h⟩;show k<x.1;rcases List.mem_cons.1 hx with h2|h2
   ·rw[h2];exact e
   ·have:=h'.1 x h2;omega
  ·split
   ·rename_i e2
    refine List.pairwise_cons.2 ⟨fun x hx=>?_,h'.2⟩;show k<x.1;rw[←e2];exact h'.1 x hx
   ·rename_i e e2
    refine List.pairwise_cons.2 ⟨fun x hx=>?_,ih h'.2⟩;rcases (ins_mem (k:=k) (v:=v) h'.2 x).1 hx with h1|h1
    ·rw[h1];show a.1<k;omega
    ·exact h'.1 x h1.1
theorem del_mem {P:Pgs} {k:Int} (x:Int × Pg):x∈delS P k↔x∈P/\x.1≠k:=by unfold delS;rw[List.mem_filter];simp
theorem srt_ext {P Q:Pgs} (hP:Srt P) (hQ:Srt Q) (h:∀x,x∈P↔x∈Q):P=Q:=by
 refine List.Perm.eq_of_pairwise (le:=fun x y=>x.1≤y.1/\(x.1=y.1->x=y)) ?_ ?_ ?_ ?_
 ·intro a b _ _ h1 h2
  exact h1.2 (by omega)
 ·exact hP.imp fun h=>⟨by omega,fun e=>by omega⟩
 ·exact hQ.imp fun h=>⟨by omega,fun e=>by omega⟩
 ·refine (List.perm_ext_iff_of_nodup ?_ ?_).2 h
  ·exact hP.imp fun h e=>by rw[e] at h;omega
  ·exact hQ.imp fun h e=>by rw[e] at h;omega
theorem look_ins {P:Pgs} (h:Srt P) (k:Int) (v:Pg) (x:Int):look (insS P k v) x=if x=k then some v else look P x:=by
 have hs:=ins_srt h k v;by_cases e:x=k
 ·subst e;rw[if_pos rfl];exact hs.look ((ins_mem h _).2 (.inl rfl))
 ·rw[if_neg e]
  cases e2:look P x with
  |none=>
   refine look_none.2 fun y hy=>?_
   rcases (ins_mem h y).1 hy with h1|h1
   ·rw[h1];exact fun e3=>e e3.symm
   ·exact look_none.1 e2 y h1.1
  |some u=>exact hs.look ((ins_mem h _).2 (.inr ⟨look_mem e2,e⟩))
theorem look_del {P:Pgs} (h:Srt P) (k x:Int):look (delS P k) x=if x=k then none else look P x:=by
 have hs:Srt (delS P k):=h.filter _;by_cases e:x=k
 ·subst e;rw[if_pos rfl];exact look_none.2 fun y hy=>((del_mem y).1 hy).2
 ·rw[if_neg e]
  cases e2:look P x with
  |none=>exact look_none.2 fun y hy=>look_none.1 e2 y ((del_mem y).1 hy).1
  |some u=>exact hs.look ((del_mem _).2 ⟨look_mem e2,e⟩)
theorem look_filter {P:Pgs} (h:Srt P) (f:Int × Pg->Bool) (x:Int):look (P.filter f) x=(look P x).filter fun v=>f (x,v):=by
 have hs:=h.filter f;cases e2:look P x with
 |none=>exact look_none.2 fun y hy=>look_none.1 e2 y (List.mem_filter.1 hy).1
 |some u=>
  rw[Option.filter_some];by_cases e:f (x,u)=true
  ·rw[if_pos e];exact hs.look (List.mem_filter.2 ⟨look_mem e2,e⟩)
  ·rw[if_neg e]
   refine look_none.2 fun y hy e3=>?_
   obtain ⟨h1,h2⟩:=List.mem_filter.1 hy;have:y=(x,u):=h.inj h1 (look_mem e2) e3;rw[this] at h2;exact e h2
structure Spc where
 tb:Nat->Option Int
 pg:Pgs
structure SOk (m:Spc):Prop where
 srt:Srt m.pg
 bnd:∀x∈m.pg,0≤x.1/\x.1<4096/\(m.tb (x.1.toNat / 64)).isSome=true
 few:∀i,(m.tb i).isSome=true->i<64
def tabP (P:Pgs) (i:Nat):Pgs:=P.filter fun x=>x.1.toNat / 64==i
def Spc.at (m:Spc) (i:Int):Option Int:=if i<0 then none else m.tb i.toNat
def upT (tb:Nat->Option Int) (i:Nat) (v:Option Int):Nat->Option Int:=fun j=>if j=i then v else tb j
def Spc.tableR (m:Spc) (i n:Int):Int × Spc:=if ¬(0≤i/\i<64/\0≤n) then (1,m) else
 if (m.tb i.toNat).isSome=true∨(List.range 64).any (fun j=>m.tb j==some n)=true then (140,m) else (0,{ m with tb:=upT m.tb i.toNat (some n)})
def Spc.dropR (m:Spc) (i:Int):Pgs × Int × Spc:=if ¬(0≤i/\i<64) then ([],1,m) else if m.tb i.toNat=none then ([],141,m) else
 (tabP m.pg i.toNat,0,⟨upT m.tb i.toNat none,m.pg.filter fun x=>x.1.toNat / 64 !=i.toNat⟩)
def Spc.mapR (m:Spc) (k:Int) (p:Pg):Int × Spc:=if ¬(0≤k/\k<4096/\0≤p.1/\0≤p.2/\p.2≤7) then (1,m) else if m.tb (k.toNat / 64)=none then (141,m) else
 if (look m.pg k).isSome=true then (140,m) else (0,{ m with pg:=insS m.pg k p})
def Spc.unmapR (m:Spc) (k:Int):Pg × Int × Spc:=if ¬(0≤k/\k<4096) then ((0,0),1,m) else match look m.pg k with
 |none=>((0,0),141,m)
 |some p=>(p,0,{ m with pg:=delS m.pg k})
def newS:Spc:=⟨fun _=>none,[]⟩
section
variable {m:Spc}
theorem SOk.new:SOk newS:=⟨List.Pairwise.nil,fun x h=>by simp[newS] at h,fun i h=>by simp[newS] at h⟩
theorem SOk.out (h:SOk m) {k:Int} (hk:¬(0≤k/\k<4096)):look m.pg k=none:=look_none.2 fun x hx e=>by
 have:=h.bnd x hx;rw[e] at this;exact hk ⟨this.1,this.2.1⟩
theorem SOk.tab (h:SOk m) {k:Int} {p:Pg} (hl:look m.pg k=some p):0≤k/\k<4096/\(m.tb (k.toNat / 64)).isSome=true:=h.bnd _ (look_mem hl)
theorem SOk.table (h:SOk m) (i n:Int):SOk (m.tableR i n).2:=by
 unfold Spc.tableR;split
 ·exact h
 ·rename_i h1
  have h1:=Decidable.not_not.1 h1;split
  ·exact h
  ·refine ⟨h.srt,fun x hx=>?_,fun j hj=>?_⟩
   ·have:=h.bnd x hx
    refine ⟨this.1,this.2.1,?_⟩;show (upT m.tb i.toNat (some n) (x.1.toNat / 64)).isSome=true;unfold upT;split
    ·rfl
    ·exact this.2.2
   ·have hj:(upT m.tb i.toNat (some n) j).isSome=true:=hj
    unfold upT at hj;split at hj
    ·omega
    ·exact h.few j hj
theorem SOk.drop (h:SOk m) (i:Int):SOk (m.dropR i).2.2:=by
 unfold Spc.dropR;split
 ·exact h
 ·split
  ·exact h
  ·refine ⟨h.srt.filter _,fun x hx=>?_,fun j hj=>?_⟩
   ·obtain ⟨h1,h2⟩:=List.mem_filter.1 hx
    have:=h.bnd x h1;refine ⟨this.1,this.2.1,?_⟩;show (upT m.tb i.toNat none (x.1.toNat / 64)).isSome=true;unfold upT;rw[if_neg (by simpa using h2)];exact this.2.2
   ·have hj:(upT m.tb i.toNat none j).isSome=true:=hj
    unfold upT at hj;split at hj
    ·cases hj
    ·exact h.few j hj
theorem SOk.ins (h:SOk m) {k:Int} (hk:0≤k/\k<4096) (ht:(m.tb (k.toNat / 64)).isSome=true) (p:Pg):SOk { m with pg:=insS m.pg k p}:=by
 refine ⟨ins_srt h.srt k p,fun x hx=>?_,h.few⟩;rcases (ins_mem h.srt x).1 hx with h1|h1
 ·rw[h1];exact ⟨hk.1,hk.2,ht⟩
 ·exact h.bnd x h1.1
theorem SOk.map (h:SOk m) (k:Int) (p:Pg):SOk (m.mapR k p).2:=by
 unfold Spc.mapR;split
 ·exact h
 ·rename_i h1
  have h1:=Decidable.not_not.1 h1;split
  ·exact h
  ·rename_i h2
   split
   ·exact h
   ·exact h.ins ⟨h1.1,h1.2.1⟩ (Option.isSome_iff_ne_none.2 h2) p
theorem SOk.unmap (h:SOk m) (k:Int):SOk (m.unmapR k).2.2:=by
 unfold Spc.unmapR;split
 ·exact h
 ·cases e:look m.pg k with
  |none=>exact h
  |some p=>exact ⟨h.srt.filter _,fun x hx=>h.bnd x (List.mem_filter.1 hx).1,h.few⟩
theorem tab_ins {P:Pgs} (h:Srt P) (k:Int) (p:Pg) (i:Nat):tabP (insS P k p) i=if k.toNat / 64=i then insS (tabP P i) k p else tabP P i:=by
 have hs:Srt (tabP (insS P k p) i):=(ins_srt h k p).filter _;have ht:Srt (tabP P i):=h.filter _;split
 ·rename_i e
  refine srt_ext hs (ins_srt ht k p) fun x=>?_
  rw[ins_mem ht];unfold tabP;rw[List.mem_filter,List.mem_filter,ins_mem h];simp only[beq_iff_eq];constructor
  ·rintro ⟨h1|h1,h2⟩
   ·exact .inl h1
   ·exact .inr ⟨⟨h1.1,h2⟩,h1.2⟩
  ·rintro (h1|⟨⟨h1,h2⟩,h3⟩)
   ·exact ⟨.inl h1,by rw[h1];exact e⟩
   ·exact ⟨.inr ⟨h1,h3⟩,h2⟩
 ·rename_i e
  refine srt_ext hs ht fun x=>?_
  unfold tabP;rw[List.mem_filter,List.mem_filter,ins_mem h];simp only[beq_iff_eq];constructor
  ·rintro ⟨h1|h1,h2⟩
   ·rw[h1] at h2;exact absurd h2 e
   ·exact ⟨h1.1,h2⟩
  ·rintro ⟨h1,h2⟩
   exact ⟨.inr ⟨h1,fun e2=>by rw[e2] at h2;exact e h2⟩,h2⟩
theorem tab_del {P:Pgs} (k:Int) (i:Nat):tabP (delS P k) i=delS (tabP P i) k:=by
 unfold tabP delS;rw[List.filter_filter,List.filter_filter];congr 1;funext x;exact Bool.and_comm _ _
theorem tab_del_ne {P:Pgs} {k:Int} {i:Nat} (e:k.toNat / 64≠i):tabP (delS P k) i=tabP P i:=by
 rw[tab_del];unfold delS;rw[List.filter_eq_self];intro x hx;obtain ⟨_,h2⟩:=List.mem_filter.1 hx;simp only[beq_iff_eq] at h2;simp only[bne_iff_ne,ne_eq];intro e2;rw[e2] at h2;exact e h2
theorem tab_drop {P:Pgs} {i j:Nat} (e:j≠i):tabP (P.filter fun x=>x.1.toNat / 64 !=i) j=tabP P j:=by
 unfold tabP;rw[List.filter_filter];refine List.filter_congr fun x _=>?_
 by_cases h:x.1.toNat / 64=j
 ·simp[h,e]
 ·simp[h]
theorem tabs_all (h:SOk m):(List.range 64).flatMap (tabP m.pg)=m.pg:=by
 have key:∀n,(List.range n).flatMap (tabP m.pg)=m.pg.filter fun x=>decide (x.1.toNat / 64<n):=fun n=>by
  induction n with
  |zero=>simp
  |succ n ih=>
   rw[List.range_succ,List.flatMap_append,ih];simp only[List.flatMap_cons,List.flatMap_nil,List.append_nil];refine srt_ext ?_ (h.srt.filter _) fun x=>?_
   ·refine List.pairwise_append.2 ⟨h.srt.filter _,h.srt.filter _,fun x hx y hy=>?_⟩
    obtain ⟨hx1,hx2⟩:=List.mem_filter.1 hx;obtain ⟨hy1,hy2⟩:=List.mem_filter.1 hy;simp only[decide_eq_true_eq] at hx2;simp only[beq_iff_eq] at hy2;have:=h.bnd x hx1;have:=h.bnd y hy1;omega
   ·unfold tabP
    rw[List.mem_append,List.mem_filter,List.mem_filter,List.mem_filter];simp only[decide_eq_true_eq,beq_iff_eq];constructor
    ·rintro (h1|h1)
     ·exact ⟨h1.1,by omega⟩
     ·exact ⟨h1.1,by omega⟩
    ·rintro ⟨h1,h2⟩
     by_cases e:x.1.toNat / 64=n
     ·exact .inr ⟨h1,e⟩
     ·exact .inl ⟨h1,by omega⟩
 rw[key 64,List.filter_eq_self];intro x hx;have:=h.bnd x hx;simp only[decide_eq_true_eq];omega
end
theorem look_perm {M S:Pgs} (hp:M.Perm S) (hS:Srt S) (k:Int):mget M k=look S k:=by
 have hn:(M.map (·.1)).Nodup:=(hp.map _).nodup_iff.2 hS.nodup;cases e:mget M k with
 |some v=>exact (hS.look (hp.mem_iff.1 (mget_mem e))).symm
 |none=>
  refine (look_none.2 fun x hx e2=>?_).symm;exact mget_none.1 e (List.mem_map.2 ⟨x,hp.mem_iff.2 hx,e2⟩)
theorem mem_iff_mget {M:Pgs} (hn:(M.map (·.1)).Nodup) {k:Int} {v:Pg}:(k,v)∈M↔mget M k=some v:=by
 refine ⟨fun h=>?_,mget_mem⟩;cases e:mget M k with
 |none=>exact absurd (List.mem_map.2 ⟨_,h,rfl⟩) (mget_none.1 e)
 |some u=>
  have h2:=mget_mem e
  have:∀(M:Pgs),(M.map (·.1)).Nodup->(k,v)∈M->(k,u)∈M->v=u:=fun M=>by
   induction M with
   |nil=>intro _ h;simp at h
   |cons a M ih=>
    intro hn h1 h2;rw[List.map_cons,List.nodup_cons] at hn;rcases List.mem_cons.1 h1 with h1|h1
    ·rcases List.mem_cons.1 h2 with h2|h2
     ·have:=h1.trans h2.symm;cases this;rfl
     ·exact absurd (List.mem_map.2 ⟨_,h2,by rw[←h1]⟩) hn.1
    ·rcases List.mem_cons.1 h2 with h2|h2
     ·exact absurd (List.mem_map.2 ⟨_,h1,by rw[←h2]⟩) hn.1
     ·exact ih hn.2 h1 h2
  rw[this M hn h h2]
theorem nodup_of_keys {M:Pgs} (h:(M.map (·.1)).Nodup):M.Nodup:=List.Pairwise.of_map _ (fun a b h e=>h (by rw[e])) h
theorem aput_perm {M S:Pgs} (hp:M.Perm S) (hS:Srt S) (k:Int) (v:Pg):(aput M k v).Perm (insS S k v):=by
 have hn:(M.map (·.1)).Nodup:=(hp.map _).nodup_iff.2 hS.nodup;have hn2:=nodup_aput hn k v;have hS2:=ins_srt hS k v;refine (List.perm_ext_iff_of_nodup (nodup_of_keys hn2) (nodup_of_keys hS2.nodup)).2 fun x=>?_
 obtain ⟨a,b⟩:=x;rw[mem_iff_mget hn2,mget_aput,←hS2.look_iff,look_ins hS,look_perm hp hS];by_cases e:k=a
 ·rw[if_pos e,if_pos e.symm]
 ·rw[if_neg e,if_neg fun h=>e h.symm]
theorem adel_perm {M S:Pgs} (hp:M.Perm S) (hS:Srt S) (k:Int):(adel M k).Perm (delS S k):=by
 have hn:(M.map (·.1)).Nodup:=(hp.map _).nodup_iff.2 hS.nodup;have hn2:=nodup_adel hn k;have hS2:Srt (delS S k):=hS.filter _;refine (List.perm_ext_iff_of_nodup (nodup_of_keys hn2) (nodup_of_keys hS2.nodup)).2 fun x=>?_
 obtain ⟨a,b⟩:=x;rw[mem_iff_mget hn2,mget_adel hn,←hS2.look_iff,look_del hS,look_perm hp hS];by_cases e:k=a
 ·rw[if_pos e,if_pos e.symm]
 ·rw[if_neg e,if_neg fun h=>e h.symm]
end Go.Proofs.YtghikphgplamkaaGreat.Tb
end
section
set_option maxRecDepth 100000
namespace Go.Proofs.YtghikphgplamkaaGreat
open Go Go.Vc Go.Proofs
theorem S.qbm0 {a K w}:Fr (C.qbm a K w) (∀b:Addr->Bool->Pw,(∀(c:Addr) (d:Bool) (e:World),(bif !d then (K 181 e) else (Dr e fun b=>∃d,a=some d/\∃e,b.cell? d=some (.pointer e)/\∃d,e=some d/\∃e:Sl,b.cell? (d.add 7)=some (.slice e.a e.len e.cap)/\∃d,b.cell? (c.add 1)=some (.z d)/\∃c,e.a=some c/\0≤d/\d<(e.len:Int)/\∃e,b.cell? (c.add (d.toNat*1))=some (.pointer e)/\∃c,a=some c/\∃d,b.cell? ((c.add 3).add 3)=some (.z d)/\∃c,a=some c/\∃a,b.cell? ((c.add 11).add 1)=some (.z a)/\(C.qbp e d a (fun a b=>K a b) b)/\True))->b c d e)->(Dr w fun c=>∃d,a=some d/\∃e,c.cell? d=some (.pointer e)/\∃d,a=some d/\∃a,c.cell? ((d.add 3).add 2)=some (.z a)/\(C.qa e a 8 (fun a c d e f g h i j k=>(Al k (.cells #[.z 0, .z 0] 109) fun l=>(Al l (.cells #[.z 0, .z 0, .z 0, .y 0, .y 0, .z 0] 111) fun m=>(StL m (.mk k.heap.size 0 none) 0 [.z a, .z c] fun a=>(StL a (.mk l.heap.size 0 none) 0 [.z d, .z e, .z f, .y g, .y h, .z i] fun a=>b (.mk l.heap.size 0 none) j a)/\True)/\True)/\True)/\(Al k (.cells #[.z 0, .z 0, .z 0, .y 0, .y 0, .z 0] 111) fun l=>(Al l (.cells #[.z 0, .z 0] 109) fun m=>(StL m (.mk l.heap.size 0 none) 0 [.z a, .z c] fun a=>(StL a (.mk k.heap.size 0 none) 0 [.z d, .z e, .z f, .y g, .y h, .z i] fun a=>b (.mk k.heap.size 0 none) j a)/\True)/\True)/\True)/\True) c)/\(Al c (.cells #[.z 0, .z 0] 109) fun d=>(C.qa e a 8 (fun a d e f g h i j k l=>(Al l (.cells #[.z 0, .z 0, .z 0, .y 0, .y 0, .z 0] 111) fun m=>(StL m (.mk c.heap.size 0 none) 0 [.z a, .z d] fun a=>(StL a (.mk l.heap.size 0 none) 0 [.z e, .z f, .z g, .y h, .y i, .z j] fun a=>b (.mk l.heap.size 0 none) k a)/\True)/\True)/\True) d)/\(Al d (.cells #[.z 0, .z 0, .z 0, .y 0, .y 0, .z 0] 111) fun f=>(C.qa e a 8 (fun a e f g h i j k l m=>(StL m (.mk c.heap.size 0 none) 0 [.z a, .z e] fun a=>(StL a (.mk d.heap.size 0 none) 0 [.z f, .z g, .z h, .y i, .y j, .z k] fun a=>b (.mk d.heap.size 0 none) l a)/\True)/\True) f)/\True)/\True)/\(Al c (.cells #[.z 0, .z 0, .z 0, .y 0, .y 0, .z 0] 111) fun d=>(C.qa e a 8 (fun a d e f g h i j k l=>(Al l (.cells #[.z 0, .z 0] 109) fun m=>(StL m (.mk l.heap.size 0 none) 0 [.z a, .z d] fun a=>(StL a (.mk c.heap.size 0 none) 0 [.z e, .z f, .z g, .y h, .y i, .z j] fun a=>b (.mk c.heap.size 0 none) k a)/\True)/\True)/\True) d)/\(Al d (.cells #[.z 0, .z 0] 109) fun f=>(C.qa e a 8 (fun a e f g h i j k l m=>(StL m (.mk d.heap.size 0 none) 0 [.z a, .z e] fun a=>(StL a (.mk c.heap.size 0 none) 0 [.z f, .z g, .z h, .y i, .y j, .z k] fun a=>b (.mk c.heap.size 0 none) l a)/\True)/\True) f)/\True)/\True)/\True)):=okT Tryz.func165 (.v (.y .g0 (.y (.v (.x .w)) (.x (.z (.o 0 2095488 (.o 1 2095488 (.o 2 2095488 (.o 3 2095488 (.o 4 2095488 (.o 5 2095488 (.o 6 2095488 (.o 7 2095104 (.o 8 2095104 (.o 9 2095104 (.o 10 2095104 (.o 11 2031616 (.o 12 2031616 (.o 13 2031616 (.o 14 2031616 (.o 15 2031616 (.o 16 0 (.o 17 0 (.o 18 0 (.o 19 0 (.o 20 0 (.e 21 (.o 22 0 .done))))))))))))))))))))))))))))
theorem S.qaZ0 {a K w}:Fr (C.qaZ a K w) (∀b:Addr->Bool->Pw,(∀(c:Addr) (d:Bool) (e:World),(bif !d then (K 181 e) else (Dr e fun b=>∃d,a=some d/\∃e,b.cell? d=some (.pointer e)/\∃d,e=some d/\∃e:Sl,b.cell? (d.add 7)=some (.slice e.a e.len e.cap)/\∃d,b.cell? (c.add 1)=some (.z d)/\∃c,e.a=some c/\0≤d/\d<(e.len:Int)/\∃e,b.cell? (c.add (d.toNat*1))=some (.pointer e)/\∃c,a=some c/\∃d,b.cell? ((c.add 3).add 3)=some (.z d)/\∃c,a=some c/\∃f,b.cell? ((c.add 11).add 1)=some (.z f)/\∃c,a=some c/\∃g,b.cell? ((c.add 11).add 2)=some (.z g)/\∃c,a=some c/\∃a,b.cell? ((c.add 3).add 4)=some (.z a)/\(C.qbw e d f (andI .i64 g a) (fun a b=>K a b) b)/\True))->b c d e)->(Dr w fun c=>∃d,a=some d/\∃e,c.cell? d=some (.pointer e)/\∃d,a=some d/\∃a,c.cell? ((d.add 3).add 2)=some (.z a)/\(C.qa e a 8 (fun a c d e f g h i j k=>(Al k (.cells #[.z 0, .z 0] 109) fun l=>(Al l (.cells #[.z 0, .z 0, .z 0, .y 0, .y 0, .z 0] 111) fun m=>(StL m (.mk k.heap.size 0 none) 0 [.z a, .z c] fun a=>(StL a (.mk l.heap.size 0 none) 0 [.z d, .z e, .z f, .y g, .y h, .z i] fun a=>b (.mk l.heap.size 0 none) j a)/\True)/\True)/\True)/\(Al k (.cells #[.z 0, .z 0, .z 0, .y 0, .y 0, .z 0] 111) fun l=>(Al l (.cells #[.z 0, .z 0] 109) fun m=>(StL m (.mk l.heap.size 0 none) 0 [.z a, .z c] fun a=>(StL a (.mk k.heap.size 0 none) 0 [.z d, .z e, .z f, .y g, .y h, .z i] fun a=>b (.mk k.heap.size 0 none) j a)/\True)/\True)/\True)/\True) c)/\(Al c (.cells #[.z 0, .z 0] 109) fun d=>(C.qa e a 8 (fun a d e f g h i j k l=>(Al l (.cells #[.z 0, .z 0, .z 0, .y 0, .y 0, .z 0] 111) fun m=>(StL m (.mk c.heap.size 0 none) 0 [.z a, .z d] fun a=>(StL a (.mk l.heap.size 0 none) 0 [.z e, .z f, .z g, .y h, .y i, .z j] fun a=>b (.mk l.heap.size 0 none) k a)/\True)/\True)/\True) d)/\(Al d (.cells #[.z 0, .z 0, .z 0, .y 0, .y 0, .z 0] 111) fun f=>(C.qa e a 8 (fun a e f g h i j k l m=>(StL m (.mk c.heap.size 0 none) 0 [.z a, .z e] fun a=>(StL a (.mk d.heap.size 0 none) 0 [.z f, .z g, .z h, .y i, .y j, .z k] fun a=>b (.mk d.heap.size 0 none) l a)/\True)/\True) f)/\True)/\True)/\(Al c (.cells #[.z 0, .z 0, .z 0, .y 0, .y 0, .z 0] 111) fun d=>(C.qa e a 8 (fun a d e f g h i j k l=>(Al l (.cells #[.z 0, .z 0] 109) fun m=>(StL m (.mk l.heap.size 0 none) 0 [.z a, .z d] fun a=>(StL a (.mk c.heap.size 0 none) 0 [.z e, .z f, .z g, .y h, .y i, .z j] fun a=>b (.mk c.heap.size 0 none) k a)/\True)/\True)/\True) d)/\(Al d (.cells #[.z 0, .z 0] 109) fun f=>(C.qa e a 8 (fun a e f g h i j k l m=>(StL m (.mk d.heap.size 0 none) 0 [.z a, .z e] fun a=>(StL a (.mk c.heap.size 0 none) 0 [.z f, .z g, .z h, .y i, .y j, .z k] fun a=>b (.mk c.heap.size 0 none) l a)/\True)/\True) f)/\True)/\True)/\True)):=okT Tryz.func166 (.v (.y .g0 (.y (.v (.x .w)) (.x (.z (.o 0 8589932928 (.o 1 8589932928 (.o 2 8589932928 (.o 3 8589932928 (.o 4 8589932928 (.o 5 8589932928 (.o 6 8589932928 (.o 7 8589932544 (.o 8 8589932544 (.o 9 8589932544 (.o 10 8589932544 (.o 11 8589869056 (.o 12 8589869056 (.o 13 8589869056 (.o 14 8589869056 (.o 15 8589869056 (.o 16 4292870144 (.o 17 4292870144 (.o 18 4292870144 (.o 19 4292870144 (.o 20 4292870144 (.o 21 2080374784 (.o 22 2080374784 (.o 23 2080374784 (.o 24 2080374784 (.o 25 2080374784 (.o 26 0 (.o 27 0 (.o 28 0 (.o 29 0 (.o 30 0 (.o 31 0 (.o 32 0 (.e 33 (.o 34 0 .done))))))))))))))))))))))))))))))))))))))))
theorem S.qbn0 {a K w}:Fr (C.qbn a K w) (∀b:Addr->Int->Pw,(∀(c:Addr) (d:Int) (e:World),(bif d==0 then (Dr e fun b=>∃e,a=some e/\∃f,b.cell? ((e.add 11).add 1)=some (.z f)/\∃e,a=some e/\∃g,b.cell? ((e.add 3).add 3)=some (.z g)/\LdL b c 0 [.o, .o] fun (c e:Int)=>(C.qab a f g c e (fun a=>K d a) b)/\True) else (K d e))->b c d e)->(Dr w fun c=>∃d,a=some d/\∃e,c.cell? d=some (.pointer e)/\∃d,e=some d/\∃e:Sl,c.cell? (d.add 7)=some (.slice e.a e.len e.cap)/\∃d,a=some d/\∃f,c.cell? ((d.add 11).add 1)=some (.z f)/\∃d,e.a=some d/\0≤f/\f<(e.len:Int)/\∃e,c.cell? (d.add (f.toNat*1))=some (.pointer e)/\∃d,a=some d/\∃a,c.cell? ((d.add 3).add 3)=some (.z a)/\(C.qap e a (fun a c d e=>(Al e (.cells #[.z 0, .z 0] 38) fun f=>(StL f (.mk e.heap.size 0 none) 0 [.z a, .z c] fun a=>b (.mk e.heap.size 0 none) d a)/\True)/\True) c)/\(Al c (.cells #[.z 0, .z 0] 38) fun d=>(C.qap e a (fun a d e f=>(StL f (.mk c.heap.size 0 none) 0 [.z a, .z d] fun a=>b (.mk c.heap.size 0 none) e a)/\True) d)/\True)/\True)):=okT Tryz.func167 (.v (.y (.r (some [(3,.c .q),(4,.c (.i .i64))]) (.o 0 8900480 (.o 1 8900480 (.o 2 8900480 (.o 3 8900480 (.o 4 8900480 (.o 5 8900480 (.o 6 8900480 (.o 7 8896512 (.o 8 8896512 (.o 9 8896512 (.o 10 8896512 (.o 11 8896512 (.o 12 8896512 (.o 13 8896512 (.o 14 8388608 (.o 15 8388608 (.o 16 8388608 (.o 17 8388608 (.o 18 8388608 (.f 19 (.o 20 8388608 (.o 21 12582912 (.o 22 25165824 (.e 23 (.e 24 (.o 25 0 .done)))))) (.e 23 (.e 19 (.o 20 0 (.o 21 4194304 (.o 22 16777216 (.e 24 (.o 25 0 .done)))))))))))))))))))))))))))) (.y (.v (.x (.z (.o 0 8190 (.o 1 8128 (.o 2 8128 (.o 3 8128 (.o 4 8128 (.o 5 8128 (.o 6 2048 (.o 7 2048 (.o 8 2048 (.o 9 2048 (.o 10 2048 (.o 11 0 (.o 12 0 (.e 13 .done))))))))))))))))) .w)))
theorem S.qbK0 {a K w}:Fr (C.qbK a K w) (∀b:Addr->Bool->Pw,(∀(c:Addr) (d:Bool) (e:World),(bif !d then (K 181 e) else (Dr e fun b=>∃d,a=some d/\∃e,b.cell? d=some (.pointer e)/\∃d,e=some d/\∃e,b.cell? (d.add 3)=some (.pointer e)/\∃d,a=some d/\∃a,b.cell? ((d.add 11).add 1)=some (.z a)/\∃d,b.cell? (c.add 1)=some (.z d)/\∃f,b.cell? (c.add 3)=some (.y f)/\(C.qcx e a d f (fun a b=>K a b) b)/\True))->b c d e)->(Dr w fun c=>∃d,a=some d/\∃e,c.cell? d=some (.pointer e)/\∃d,a=some d/\∃a,c.cell? ((d.add 3).add 2)=some (.z a)/\(C.qa e a 5 (fun a c d e f g h i j k=>(Al k (.cells #[.z 0, .z 0] 109) fun l=>(Al l (.cells #[.z 0, .z 0, .z 0, .y 0, .y 0, .z 0] 111) fun m=>(StL m (.mk k.heap.size 0 none) 0 [.z a, .z c] fun a=>(StL a (.mk l.heap.size 0 none) 0 [.z d, .z e, .z f, .y g, .y h, .z i] fun a=>b (.mk l.heap.size 0 none) j a)/\True)/\True)/\True)/\(Al k (.cells #[.z 0, .z 0, .z 0, .y 0, .y 0, .z 0] 111) fun l=>(Al l (.cells #[.z 0, .z 0] 109) fun m=>(StL m (.mk l.heap.size 0 none) 0 [.z a, .z c] fun a=>(StL a (.mk k.heap.size 0 none) 0 [.z d, .z e, .z f, .y g, .y h, .z i] fun a=>b (.mk k.heap.size 0 none) j a)/\True)/\True)/\True)/\True) c)/\(Al c (.cells #[.z 0, .z 0] 109) fun d=>(C.qa e a 5 (fun a d e f g h i j k l=>(Al l (.cells #[.z 0, .z 0, .z 0, .y 0, .y 0, .z 0] 111) fun m=>(StL m (.mk c.heap.size 0 none) 0 [.z a, .z d] fun a=>(StL a (.mk l.heap.size 0 none) 0 [.z e, .z f, .z g, .y h, .y i, .z j] fun a=>b (.mk l.heap.size 0 none) k a)/\True)/\True)/\True) d)/\(Al d (.cells #[.z 0, .z 0, .z 0, .y 0, .y 0, .z 0] 111) fun f=>(C.qa e a 5 (fun a e f g h i j k l m=>(StL m (.mk c.heap.size 0 none) 0 [.z a, .z e] fun a=>(StL a (.mk d.heap.size 0 none) 0 [.z f, .z g, .z h, .y i, .y j, .z k] fun a=>b (.mk d.heap.size 0 none) l a)/\True)/\True) f)/\True)/\True)/\(Al c (.cells #[.z 0, .z 0, .z 0, .y 0, .y 0, .z 0] 111) fun d=>(C.qa e a 5 (fun a d e f g h i j k l=>(Al l (.cells #[.z 0, .z 0] 109) fun m=>(StL m (.mk l.heap.size 0 none) 0 [.z a, .z d] fun a=>(StL a (.mk c.heap.size 0 none) 0 [.z e, .z f, .z g, .y h, .y i, .z j] fun a=>b (.mk c.heap.size 0 none) k a)/\True)/\True)/\True) d)/\(Al d (.cells #[.z 0, .z 0] 109) fun f=>(C.qa e a 5 (fun a e f g h i j k l m=>(StL m (.mk d.heap.size 0 none) 0 [.z a, .z e] fun a=>(StL a (.mk c.heap.size 0 none) 0 [.z f, .z g, .z h, .y i, .y j, .z k] fun a=>b (.mk c.heap.size 0 none) l a)/\True)/\True) f)/\True)/\True)/\True)):=okT Tryz.func168 (.v (.y .g0 (.y (.v (.x .w)) (.x (.z (.o 0 65408 (.o 1 65408 (.o 2 65408 (.o 3 65408 (.o 4 65408 (.o 5 65408 (.o 6 65408 (.o 7 61440 (.o 8 61440 (.o 9 61440 (.o 10 61440 (.o 11 61440 (.o 12 49152 (.o 13 49152 (.o 14 0 (.o 15 0 (.e 16 (.o 17 0 .done)))))))))))))))))))))))
theorem S.qbZ0 {a K w}:Fr (C.qbZ a K w) (Dr w fun b=>∃c,a=some c/\∃d,b.cell? c=some (.pointer d)/\∃c,d=some c/\∃d,b.cell? (c.add 3)=some (.pointer d)/\∃c,a=some c/\∃e,b.cell? ((c.add 11).add 1)=some (.z e)/\(C.qcM d e (fun b c d e f=>bif d then (∃d,a=some d/\∃g,f.cell? d=some (.pointer g)/\C.qW g b c (fun b c=>∃d,a=some d/\St c ((d.add 17).add 2) (.z b) fun a=>K e a) f) else (K e f)) b)/\True):=okT Tryz.func169 (.v (.y (.z (.o 0 3968 (.o 1 3968 (.o 2 3968 (.o 3 3968 (.o 4 3968 (.o 5 3968 (.o 6 3968 (.o 7 0 (.o 8 0 (.o 9 0 (.o 10 0 (.o 11 0 (.e 12 (.o 13 0 (.o 14 229376 (.o 15 458752 (.o 16 917504 (.o 17 1835008 (.o 18 0 (.o 19 0 (.o 20 0 (.o 21 0 .done))))))))))))))))))))))) (.y (.v .w) .w)))
theorem S.qan0 {a b K w}:Fr (C.qan a b K w) (Al w (.cells #[.z 0, .z 0] 109) fun c=>∀d:Bool->Pw,(∀(c:Bool) (e:World),(bif c then (StL e (.mk w.heap.size 0 none) 0 [.z 0, .z 0] fun a=>LdL a (.mk w.heap.size 0 none) 0 [.o, .o] fun (b c:Int)=>K b c false a) else (Al e (.cells #[.z 0, .z 0, .z 0, .y 0, .y 0, .z 0] 111) fun c=>StL c (.mk e.heap.size 0 none) 0 [.z 2, .z 0, .z 7, .y 0, .y 0, .z 0] fun c=>∀d:Addr->Int->Pw,(∀(a:Addr) (b:Int) (c:World),(LdL c a 0 [.o, .o] fun (a d:Int)=>StL c (.mk w.heap.size 0 none) 0 [.z a, .z d] fun a=>LdL a (.mk w.heap.size 0 none) 0 [.o, .o] fun (c d:Int)=>K c d (b==0) a)->d a b c)->(Dr c fun c=>∃f,a=some f/\∃a,c.cell? f=some (.pointer a)/\LdL c (.mk e.heap.size 0 none) 0 [.o, .o, .o, .u, .u, .o] fun (e f g h i j:Int)=>(C.qcX a e f g h i j (IntKind.u64.wrap b) 6 (fun a b c e=>(Al e (.cells #[.z 0, .z 0] 109) fun f=>(StL f (.mk e.heap.size 0 none) 0 [.z a, .z b] fun a=>d (.mk e.heap.size 0 none) c a)/\True)/\True) c)/\(Al c (.cells #[.z 0, .z 0] 109) fun k=>(C.qcX a e f g h i j (IntKind.u64.wrap b) 6 (fun a b e f=>(StL f (.mk c.heap.size 0 none) 0 [.z a, .z b] fun a=>d (.mk c.heap.size 0 none) e a)/\True) k)/\True)/\True)))->d c e)->(bif decide (b<0) then (d true c) else (d (decide (b≥64)) c))):=okT Tryz.func195 (.v (.y .g29 (.v (.y (.r (some [(7,.c .q),(8,.c (.i .i64))]) (.o 0 2160 (.o 1 2160 (.o 2 2160 (.o 3 2160 (.o 4 2144 (.o 5 2048 (.o 6 2048 (.f 7 (.o 8 2048 (.o 9 3072 (.o 10 6144 (.e 11 (.e 12 (.o 13 0 .done)))))) (.e 11 (.e 7 (.o 8 0 (.o 9 1024 (.o 10 4096 (.e 12 (.o 13 0 .done)))))))))))))))) .w))))
theorem S.qax0 {a b K w}:Fr (C.qax a b K w) (Al w (.cells #[.pointer a] 244) fun a=>∀c:Sl->Int->Pw,(∀(a:Sl) (d:Int) (e:World),(bif decide (d<b) then (∀b:Addr->Bool->Pw,(∀(e:Addr) (f:Bool) (g:World),(∀b:Bool->Pw,(∀(f:Bool) (g:World),(bif f then (K ⟨none,0,0⟩ 181 g) else (LdL g e 0 [.o, .o] fun (b e:Int)=>Al g (.cells #[.z b, .z e] 109) fun b=>∃e f,AppR Tryz.prog [230,230] 230 (.slice a.a a.len a.cap) (.slice (some (.mk g.heap.size 0 none)) 1 1) b e f/\c e (IntKind.i64.wrap (d+1)) f))->b f g)->(bif !f then (b true g) else (∃a,g.cell? (Addr.mk w.heap.size 0 none)=some (.pointer a)/\∃c,a=some c/\∃a,g.cell? ((c.add 3).add 2)=some (.z a)/\b (decide (a<0)) g)))->b e f g)->(Dr e fun a=>∃c,a.cell? (Addr.mk w.heap.size 0 none)=some (.pointer c)/\∃e,c=some e/\∃c,a.cell? e=some (.pointer c)/\∃e,a.cell? (Addr.mk w.heap.size 0 none)=some (.pointer e)/\∃f,e=some f/\∃e,a.cell? ((f.add 3).add 2)=some (.z e)/\(C.qan c (IntKind.i64.wrap (e+d)) (fun a c d e=>(Al e (.cells #[.z 0, .z 0] 109) fun f=>(StL f (.mk e.heap.size 0 none) 0 [.z a, .z c] fun a=>b (.mk e.heap.size 0 none) d a)/\True)/\True) a)/\(Al a (.cells #[.z 0, .z 0] 109) fun f=>(C.qan c (IntKind.i64.wrap (e+d)) (fun c d e f=>(StL f (.mk a.heap.size 0 none) 0 [.z c, .z d] fun c=>b (.mk a.heap.size 0 none) e c)/\True) f)/\True)/\True)) else (C.qm a (.func (.func 241) #[] #[.pointer (some (.mk w.heap.size 0 none))]) (fun b c=>bif b then (K ⟨none,0,0⟩ 51 c) else (K a 0 c)) e))->c a d e)->c ⟨none,0,0⟩ 0 a):=okT Tryz.func198 (.v (.v (.y (.v (.x (.t (some [(6,.c .s),(12,.c (.i .i64))]) (.v (.y .w (.x (.x (.v (.y (.r (some [(8,.c .q),(9,.c .b)]) (.o 0 34800 (.o 1 34800 (.o 2 34800 (.o 3 34800 (.o 4 33280 (.o 5 33280 (.o 6 33280 (.o 7 33280 (.o 8 33280 (.o 9 32768 (.o 10 32768 (.f 11 (.o 12 32768 (.o 13 49152 (.o 14 98304 (.e 15 (.e 16 (.o 17 0 .done)))))) (.e 15 (.e 11 (.o 12 0 (.o 13 16384 (.o 14 65536 (.e 16 (.o 17 0 .done)))))))))))))))))))) (.x (.y (.r (some [(39,.c .b)]) .done) (.x .w))))))))) .u))) .g42)))
theorem S.qbd0 {a b c d e f g h i K w}:Fr (C.qbd a b c d e f g h i K w) (Al w (.cells #[.z b, .z c] 109) fun b=>Al b (.cells #[.z d, .z e, .z f, .y g, .y h, .z i] 111) fun c=>Dr c fun c=>∃d,a=some d/\∃e,c.cell? d=some (.pointer e)/\∃d,e=some d/\∃e,c.cell? d=some (.pointer e)/\LdL c (.mk w.heap.size 0 none) 0 [.o, .o] fun (d f:Int)=>LdL c (.mk b.heap.size 0 none) 0 [.o, .o, .o, .u, .u, .o] fun (b g h i j k:Int)=>(C.qbQ e d f b g h i j k (fun _ c=>Dr c fun b=>∃c,a=some c/\∃d,b.cell? c=some (.pointer d)/\∃c,d=some c/\∃d,b.cell? (c.add 1)=some (.pointer d)/\∃c,a=some c/\LdL b (c.add 9) 0 [.o, .o] fun (a c:Int)=>LdL b (.mk w.heap.size 0 none) 0 [.o, .o] fun (e f:Int)=>(C.qcO d a c e f (fun _ b=>K b) b)/\True) c)/\True):=okT Tryz.func199 (.v (.y (.z (.o 0 384 (.o 1 384 (.o 2 384 (.o 3 384 (.o 4 384 (.o 5 384 (.o 6 384 (.o 7 256 (.o 8 0 (.e 9 .done))))))))))) (.z (.o 0 3968 (.o 1 3968 (.o 2 3968 (.o 3 3968 (.o 4 3968 (.o 5 3968 (.o 6 3968 (.o 7 2048 (.o 8 2048 (.o 9 2048 (.o 10 2048 (.o 11 0 (.e 12 .done))))))))))))))))
theorem S.qbL0 {a b K w}:Fr (C.qbL a b K w) (∃c,a=some c/\∃d,w.cell? ((c.add 3).add 3)=some (.z d)/\bif d==1 then (Dr w fun c=>∃d,a=some d/\∃e,a=some e/\∃f,c.cell? e=some (.pointer f)/\∃e,f=some e/\∃f:Sl,c.cell? (e.add 4)=some (.slice f.a f.len f.cap)/\∃e,a=some e/\∃g,c.cell? ((e.add 3).add 4)=some (.z g)/\∃e,c.cell? d=some (.pointer e)/\(Al c (.cells #[.y b, .z g, .y 0] 158) fun b=>(∃g h,AppR Tryz.prog [132,132] 132 (.slice f.a f.len f.cap) (.slice (some (.mk c.heap.size 0 none)) 1 1) b g h/\h.cell? d=some (.pointer e)/\∃b,e=some b/\(St h (b.add 4) (.slice g.a g.len g.cap) fun b=>∃c,a=some c/\∃a,b.cell? c=some (.pointer a)/\∃c,a=some c/\∃a:Sl,b.cell? (c.add 4)=some (.slice a.a a.len a.cap)/\K (IntKind.i64.wrap ((a.len:Int)-1)) b)/\True)/\True)/\True) else (bif d==2 then (∃b,a=some b/\∃c,w.cell? b=some (.pointer c)/\∃b,c=some b/\∃d,w.cell? (b.add 10)=some (.z d)/\∃b,c=some b/\St w (b.add 10) (.z (IntKind.i64.wrap (d+1))) fun b=>Dr b fun b=>∃c,a=some c/\∃d,b.cell? c=some (.pointer d)/\∃c,d=some c/\∃d,b.cell? c=some (.pointer d)/\∃c,a=some c/\∃a,b.cell? ((c.add 3).add 4)=some (.z a)/\(C.qbq d a (fun a _ c=>K a c) b)/\True) else (bif d==3 then (∃b,a=some b/\∃c,w.cell? b=some (.pointer c)/\∃b,c=some b/\∃d,w.cell? (b.add 11)=some (.z d)/\∃b,c=some b/\St w (b.add 11) (.z (IntKind.i64.wrap (d+1))) fun b=>Dr b fun b=>∃c,a=some c/\∃d,b.cell? c=some (.pointer d)/\∃c,d=some c/\∃d,b.cell? (c.add 2)=some (.pointer d)/\∃c,a=some c/\∃a,b.cell? (c.add 1)=some (.z a)/\(C.qM d 0 a (fun a _ c=>K a c) b)/\True) else (bif d==4 then (Dr w fun b=>∃c,a=some c/\∃d,a=some d/\∃e,b.cell? c=some (.pointer e)/\∃f,b.cell? d=some (.pointer f)/\∃g,f=some g/\∃h:Sl,b.cell? (g.add 5)=some (.slice h.a h.len h.cap)/\(C.qde (fun b i=>i.cell? (g.add 5)=some (.slice h.a h.len h.cap)/\i.cell? d=some (.pointer f)/\i.cell? c=some (.pointer e)/\(Al i (.cells #[.pointer b] 337) fun b=>(∃d f,AppR Tryz.prog [133,133] 133 (.slice h.a h.len h.cap) (.slice (some (.mk i.heap.size 0 none)) 1 1) b d f/\f.cell? c=some (.pointer e)/\∃b,e=some b/\(St f (b.add 5) (.slice d.a d.len d.cap) fun b=>∃c,a=some c/\∃a,b.cell? c=some (.pointer a)/\∃c,a=some c/\∃a:Sl,b.cell? (c.add 5)=some (.slice a.a a.len a.cap)/\K (IntKind.i64.wrap ((a.len:Int)-1)) b)/\True)/\True)/\True) b)/\True) else (bif d==5 then (Dr w fun b=>∃c,a=some c/\∃d,a=some d/\∃e,b.cell? c=some (.pointer e)/\∃f,b.cell? d=some (.pointer f)/\∃g,f=some g/\∃h:Sl,b.cell? (g.add 6)=some (.slice h.a h.len h.cap)/\(C.qdw (fun b i=>i.cell? (g.add 6)=some (.slice h.a h.len h.cap)/\i.cell? d=some (.pointer f)/\i.cell? c=some (.pointer e)/\(Al i (.cells #[.pointer b] 188) fun b=>(∃d f,AppR Tryz.prog [134,134] 134 (.slice h.a h.len h.cap) (.slice (some (.mk i.heap.size 0 none)) 1 1) b d f/\f.cell? c=some (.pointer e)/\∃b,e=some b/\(St f (b.add 6) (.slice d.a d.len d.cap) fun b=>∃c,a=some c/\∃a,b.cell? c=some (.pointer a)/\∃c,a=some c/\∃a:Sl,b.cell? (c.add 6)=some (.slice a.a a.len a.cap)/\K (IntKind.i64.wrap ((a.len:Int)-1)) b)/\True)/\True)/\True) b)/\True) else (bif d==8 then (Dr w fun b=>∃c,a=some c/\∃d,a=some d/\∃e,b.cell? c=some (.pointer e)/\∃f,b.cell? d=some (.pointer f)/\∃g,f=some g/\∃h:Sl,b.cell? (g.add 7)=some (.slice h.a h.len h.cap)/\(C.qcp (fun b i=>i.cell? (g.add 7)=some (.slice h.a h.len h.cap)/\i.cell? d=some (.pointer f)/\i.cell? c=some (.pointer e)/\(Al i (.cells #[.pointer b] 159) fun b=>(∃d f,AppR Tryz.prog [135,135] 135 (.slice h.a h.len h.cap) (.slice (some (.mk i.heap.size 0 none)) 1 1) b d f/\f.cell? c=some (.pointer e)/\∃b,e=some b/\(St f (b.add 7) (.slice d.a d.len d.cap) fun b=>∃c,a=some c/\∃a,b.cell? c=some (.pointer a)/\∃c,a=some c/\∃a:Sl,b.cell? (c.add 7)=some (.slice a.a a.len a.cap)/\K (IntKind.i64.wrap ((a.len:Int)-1)) b)/\True)/\True)/\True) b)/\True) else (bif d==6 then (∃b,a=some b/\∃c,w.cell? b=some (.pointer c)/\∃b,c=some b/\∃d,w.cell? (b.add 8)=some (.z d)/\∃b,c=some b/\St w (b.add 8) (.z (IntKind.i64.wrap (d+1))) fun b=>∃c,a=some c/\∃a,b.cell? c=some (.pointer a)/\∃c,a=some c/\∃a,b.cell? (c.add 8)=some (.z a)/\K (IntKind.i64.wrap (a-1)) b) else (∃b,a=some b/\∃c,w.cell? b=some (.pointer c)/\∃b,c=some b/\∃d,w.cell? (b.add 9)=some (.z d)/\∃b,c=some b/\St w (b.add 9) (.z (IntKind.i64.wrap (d+1))) fun b=>∃c,a=some c/\∃a,b.cell? c=some (.pointer a)/\∃c,a=some c/\∃a,b.cell? (c.add 9)=some (.z a)/\K (IntKind.i64.wrap (a-1)) b)))))))):=okT Tryz.func200 (.v (.y (.v (.x (.v (.y (.y (.z (.o 0 1048560 (.o 1 1048560 (.o 2 1048560 (.o 4 522248 (.o 5 522248 (.o 6 522248 (.o 7 522248 (.o 8 522248 (.o 9 522248 (.o 10 522248 (.o 11 126984 (.o 12 8 (.o 13 8 (.o 14 8 (.o 15 8 (.o 16 8 (.o 17 8 (.hold 3 786432 4194303 (.e 18 (.e 19 (.o 20 0 (.o 21 0 (.e 22 .done)))))))))))))))))))))))) .w) (.v (.y (.v (.y (.z (.o 0 3968 (.o 1 3968 (.o 2 3968 (.o 3 3968 (.o 4 3968 (.o 5 3968 (.o 6 3968 (.o 7 0 (.o 8 0 (.o 9 0 (.o 10 0 (.o 11 0 (.e 12 (.o 13 0 (.o 14 32768 (.o 15 65536 (.o 16 0 (.o 17 0 .done))))))))))))))))))) .w)) (.v (.y (.v (.y (.z (.o 0 1920 (.o 1 1920 (.o 2 1920 (.o 3 1920 (.o 4 1920 (.o 5 1920 (.o 6 1920 (.o 7 0 (.o 8 0 (.o 9 0 (.o 10 0 (.e 11 (.o 12 0 (.o 13 16384 (.o 14 32768 (.o 15 0 (.o 16 0 .done)))))))))))))))))) .w)) (.v (.y .g2 (.v (.y .g2 (.v (.y .g2 (.v (.x (.v .w))))))))))))))))) (.v .w)))
theorem S.qay0 {a b c K w}:Fr (C.qay a b c K w) (Al w (.cells #[.z b, .z c] 109) fun b=>Dr b fun b=>∃c,a=some c/\∃d,b.cell? c=some (.pointer d)/\∃c,d=some c/\∃d,b.cell? (c.add 1)=some (.pointer d)/\LdL b (.mk w.heap.size 0 none) 0 [.o, .o] fun (c e:Int)=>(C.qcy d c e (fun _ c=>∀b:Addr->Pw,(∀(c:Addr) (d:World),(∃b,a=some b/\∃e,d.cell? b=some (.pointer e)/\∃b,e=some b/\∃e,d.cell? b=some (.pointer e)/\C.qbr e (fun b d=>C.qn b (.func (.func 249) #[] #[.pointer (some c)]) (fun b d=>bif !b then (LdL d c 0 [.o, .o, .o, .u, .u, .o] fun (b c e f g h:Int)=>C.qbM a b c e f g h (fun a=>K a) d) else (K d)) d) d)->b c d)->(Dr c fun c=>∃d,a=some d/\∃a,c.cell? d=some (.pointer a)/\∃d,a=some d/\∃a,c.cell? d=some (.pointer a)/\LdL c (.mk w.heap.size 0 none) 0 [.o, .o] fun (d e:Int)=>(C.qbx a d e (fun a c d e f g _ i=>(Al i (.cells #[.z 0, .z 0, .z 0, .y 0, .y 0, .z 0] 111) fun h=>(StL h (.mk i.heap.size 0 none) 0 [.z a, .z c, .z d, .y e, .y f, .z g] fun a=>b (.mk i.heap.size 0 none) a)/\True)/\True) c)/\(Al c (.cells #[.z 0, .z 0, .z 0, .y 0, .y 0, .z 0] 111) fun f=>(C.qbx a d e (fun a d e f g h _ j=>(StL j (.mk c.heap.size 0 none) 0 [.z a, .z d, .z e, .y f, .y g, .z h] fun a=>b (.mk c.heap.size 0 none) a)/\True) f)/\True)/\True)) b)/\True):=okT Tryz.func204 (.v (.y (.z (.o 0 128 (.o 1 128 (.o 2 128 (.o 3 128 (.o 4 128 (.o 5 128 (.o 6 128 (.o 7 0 (.e 8 .done)))))))))) (.y .g1 (.v .w))))
theorem S.qag0 {a b K w}:Fr (C.qag a b K w) (∃c,a=some c/\∃d:Sl,w.cell? (c.add 5)=some (.slice d.a d.len d.cap)/\∀c:Int->Pw,(∀(e:Int) (f:World),(bif decide (e<(d.len:Int)) then (∃a,d.a=some a/\0≤e/\e<(d.len:Int)/\∃d,f.cell? (a.add (e.toNat*1))=some (.pointer d)/\C.qad d b (fun _ b=>c (IntKind.i64.wrap (e+1)) b) f) else (∃c,a=some c/\∃a:Sl,f.cell? (c.add 6)=some (.slice a.a a.len a.cap)/\∀c:Int->Pw,(∀(d:Int) (e:World),(bif decide (d<(a.len:Int)) then (∃f,a.a=some f/\0≤d/\d<(a.len:Int)/\∃a,e.cell? (f.add (d.toNat*1))=some (.pointer a)/\C.qaQ a b (fun _ b=>c (IntKind.i64.wrap (d+1)) b) e) else (K e))->c d e)->c 0 f))->c e f)->c 0 w):=okT Tryz.func209 (.y (.v (.x (.t (some [(13,.c (.i .i64))]) .g43 .u))) (.v (.x (.t (some [(26,.c (.i .i64))]) .g43 .u))))
theorem S.qao0 {a b K w}:Fr (C.qao a b K w) (∃c,a=some c/\∃d,w.cell? c=some (.pointer d)/\∃c,d=some c/\∃d,w.cell? (c.add 2)=some (.pointer d)/\C.qG d b (fun c d=>bif c==0 then (∃e,a=some e/\St d ((e.add 17).add 2) (.z b) fun a=>K c a) else (K c d)) w):=okT Tryz.func210 (.v (.v (.y (.v .w) .w)))
theorem S.qaz0 {a K w}:Fr (C.qaz a K w) (∃b,a=some b/\∃c,w.cell? ((b.add 3).add 5)=some (.z c)/\bif c !=0 then (Dr w fun b=>∃c,a=some c/\∃d,b.cell? c=some (.pointer d)/\∃c,d=some c/\∃d,b.cell? (c.add 2)=some (.pointer d)/\∃c,a=some c/\∃e,b.cell? (c.add 2)=some (.z e)/\(C.qaf d e (fun _ c=>Dr c fun b=>∃c,a=some c/\∃d,b.cell? c=some (.pointer d)/\∃c,d=some c/\∃d,b.cell? (c.add 2)=some (.pointer d)/\∃c,a=some c/\∃a,b.cell? (c.add 1)=some (.z a)/\(C.qN d a (fun _ _ c=>K c) b)/\True) b)/\True) else (K w)):=okT Tryz.func214 (.v (.x (.y .g7 .g7)))
theorem S.qbe0 {a b c d e f g h i K w}:Fr (C.qbe a b c d e f g h i K w) (Al w (.cells #[.z c, .y d, .y e, .y f, .y g, .y h, .bool i] 333) fun c=>∃d,c.cell? ((Addr.mk w.heap.size 0 none).add 5)=some (.y d)/\∃e,c.cell? (Addr.mk w.heap.size 0 none)=some (.z e)/\(0:Int)≤0/\(0:Int)<4/\∃f,c.cell? (((Addr.mk w.heap.size 0 none).add 1).add ((0:Int).toNat*1))=some (.y f)/\Al c (.cells #[.y d, .y (IntKind.u64.wrap e), .y f] 33) fun d=>∀e:Int->Pw,(∀(d:Int) (f:World),(bif decide (d<3) then (∃g,some (Addr.mk c.heap.size 0 none)=some g/\0≤d/\d<3/\∃c,f.cell? (g.add (d.toNat*1))=some (.y c)/\∃g,a=some g/\∃a,f.cell? g=some (.pointer a)/\∃g,a=some g/\∃a,f.cell? (g.add 2)=some (.pointer a)/\C.qC a b d c (fun _ b=>e (IntKind.i64.wrap (d+1)) b) f) else (K f))->e d f)->e 0 d):=okT Tryz.func215 (.v (.v (.x (.t (some [(18,.c (.i .i64))]) .g43 .u))))
theorem S.qab0 {a b c d e K w}:Fr (C.qab a b c d e K w) (Al w (.cells #[.z c, .z d, .z e] 115) fun c=>Dr c fun c=>∃d,a=some d/\∃e:Sl,c.cell? ((d.add 17).add 3)=some (.slice e.a e.len e.cap)/\∃d,c.cell? (Addr.mk w.heap.size 0 none)=some (.z d)/\LdL c ((Addr.mk w.heap.size 0 none).add 1) 0 [.o, .o] fun (f g:Int)=>(Al c (.cells #[.z b, .z d, .z f, .z g] 71) fun b=>(∃d f,AppR Tryz.prog [34,34] 34 (.slice e.a e.len e.cap) (.slice (some (.mk c.heap.size 0 none)) 1 1) b d f/\∃b,a=some b/\(St f ((b.add 17).add 3) (.slice d.a d.len d.cap) fun a=>K a)/\True)/\True)/\True):=okT Tryz.func221 (.v (.z (.o 0 16382 (.o 1 8128 (.o 2 8128 (.o 3 8128 (.o 4 8128 (.o 5 8128 (.o 6 1920 (.o 7 1536 (.o 8 1536 (.o 9 0 (.o 10 0 (.o 11 0 (.e 12 (.e 13 (.o 14 0 (.o 15 0 (.o 16 0 (.e 17 .done))))))))))))))))))))
theorem S.qba0 {a b c K w}:Fr (C.qba a b c K w) (Al w (.cells #[.z a, .z b] 109) fun a=>∀b:Addr->Pw,(∀(a:Addr) (c:World),(∃b,c.cell? a=some (.z b)/\K (b !=0) c)->b a c)->(Dr a fun a=>∃d,a.cell? c=some (.pointer d)/\∃c,d=some c/\∃d,a.cell? c=some (.pointer d)/\∃c,d=some c/\∃d,a.cell? c=some (.pointer d)/\LdL a (.mk w.heap.size 0 none) 0 [.o, .o] fun (c e:Int)=>(C.qU d c e (fun a c d e f g _ i=>(Al i (.cells #[.z 0, .z 0, .z 0, .y 0, .y 0, .z 0] 111) fun h=>(StL h (.mk i.heap.size 0 none) 0 [.z a, .z c, .z d, .y e, .y f, .z g] fun a=>b (.mk i.heap.size 0 none) a)/\True)/\True) a)/\(Al a (.cells #[.z 0, .z 0, .z 0, .y 0, .y 0, .z 0] 111) fun f=>(C.qU d c e (fun c d e f g h _ j=>(StL j (.mk a.heap.size 0 none) 0 [.z c, .z d, .z e, .y f, .y g, .z h] fun c=>b (.mk a.heap.size 0 none) c)/\True) f)/\True)/\True)):=okT Tryz.func241 (.v (.y .g1 .w))
theorem S.qbb0 {a b c d e f g h i K w}:Fr (C.qbb a b c d e f g h i K w) (Al w (.cells #[.z a, .z b, .z c, .z d, .z e, .y f, .y g, .z h] 113) fun a=>LdL a ((Addr.mk w.heap.size 0 none).add 2) 0 [.o, .o, .o, .u, .u, .o] fun (b c d e f g:Int)=>LdL a i 0 [.o, .o, .o, .u, .u, .o] fun (h i j k l m:Int)=>C.qdC b c d e f g h i j k l m (fun a b=>K a b) a):=okT Tryz.func249 (.v .w)
theorem S.qbM0 {a b c d e f g K w}:Fr (C.qbM a b c d e f g K w) (Al w (.cells #[.z b, .z c, .z d, .y e, .y f, .z g] 111) fun b=>∃c,b.cell? (Addr.mk w.heap.size 0 none)=some (.z c)/\bif c==3 then (Dr b fun b=>∃c,a=some c/\∃d,b.cell? c=some (.pointer d)/\∃c,b.cell? ((Addr.mk w.heap.size 0 none).add 1)=some (.z c)/\(C.qag d c (fun b=>Dr b fun b=>∃c,a=some c/\∃a,b.cell? c=some (.pointer a)/\∃c,a=some c/\∃a,b.cell? (c.add 2)=some (.pointer a)/\∃c,b.cell? ((Addr.mk w.heap.size 0 none).add 1)=some (.z c)/\(C.qK a c (fun _ b=>K b) b)/\True) b)/\True) else (bif c==6 then (∃c,a=some c/\∃d,b.cell? c=some (.pointer d)/\∃c,d=some c/\∃d:Sl,b.cell? (c.add 7)=some (.slice d.a d.len d.cap)/\∀c:Int->Pw,(∀(b:Int) (e:World),(bif decide (b<(d.len:Int)) then (∃f,d.a=some f/\0≤b/\b<(d.len:Int)/\∃d,e.cell? (f.add (b.toNat*1))=some (.pointer d)/\∃f,e.cell? ((Addr.mk w.heap.size 0 none).add 1)=some (.z f)/\C.qbc d f (fun e f=>∀g:Int->Pw,(∀(f:Int) (h:World),(bif decide (f<(e.len:Int)) then (∃c,e.a=some c/\0≤f/\f<(e.len:Int)/\∃e,h.cell? (c.add (f.toNat*1))=some (.z e)/\C.qap d e (fun c d _ i=>Al i (.cells #[.z 0, .z 0] 38) fun h=>StL h (.mk i.heap.size 0 none) 0 [.z c, .z d] fun c=>LdL c (.mk i.heap.size 0 none) 0 [.o, .o] fun (d h:Int)=>C.qab a b e d h (fun a=>g (IntKind.i64.wrap (f+1)) a) c) h) else (c (IntKind.i64.wrap (b+1)) h))->g f h)->g 0 f) e) else (K e))->c b e)->c 0 b) else (bif c==7 then (∃c,a=some c/\∃d,b.cell? c=some (.pointer d)/\∃c,d=some c/\∃d:Sl,b.cell? (c.add 7)=some (.slice d.a d.len d.cap)/\∀c:Int->Pw,(∀(b:Int) (e:World),(bif decide (b<(d.len:Int)) then (∃f,d.a=some f/\0≤b/\b<(d.len:Int)/\∃d,e.cell? (f.add (b.toNat*1))=some (.pointer d)/\∀f:Int->Pw,(∀(e:Int) (g:World),(bif decide (e<64) then (C.qcd d e (fun c g h=>∀i:Bool->Pw,(∀(c:Bool) (g:World),(bif c then (C.qbO d e (fun c _ g=>∀d:Int->Pw,(∀(g:Int) (h:World),(bif decide (g<(c.len:Int)) then (∃e,c.a=some e/\0≤g/\g<(c.len:Int)/\LdL h (e.add (g.toNat*3)) 0 [.o, .o, .o] fun (c e f:Int)=>Al h (.cells #[.z 0, .z 0, .z 0] 115) fun i=>StL i (.mk h.heap.size 0 none) 0 [.z c, .z e, .z f] fun c=>LdL c (.mk h.heap.size 0 none) 0 [.o, .o, .o] fun (e f h:Int)=>C.qab a b e f h (fun a=>d (IntKind.i64.wrap (g+1)) a) c) else (f (IntKind.i64.wrap (e+1)) h))->d g h)->d 0 g) g) else (f (IntKind.i64.wrap (e+1)) g))->i c g)->(bif g then (∃a,h.cell? ((Addr.mk w.heap.size 0 none).add 1)=some (.z a)/\i (c==a) h) else (i false h))) g) else (c (IntKind.i64.wrap (b+1)) g))->f e g)->f 0 e) else (K e))->c b e)->c 0 b) else (K b)))):=okT Tryz.func251 (.v (.v (.x (.v (.y (.y (.z (.o 0 48 (.o 1 48 (.o 2 48 (.o 3 48 (.o 4 0 (.o 5 0 (.e 6 .done)))))))) (.z (.o 0 384 (.o 1 384 (.o 2 384 (.o 3 384 (.o 4 384 (.o 5 384 (.o 6 384 .g38))))))))) (.v (.y (.v (.x (.t (some [(50,.c (.i .i64))]) (.v (.y .w (.x (.x (.v (.v (.x (.t (some [(60,.c (.i .i64))]) (.v (.y .w (.x (.x (.v .w))))) .u)))))))) .u))) (.v (.x (.v (.x (.t (some [(88,.c (.i .i64))]) (.v (.y .w (.x (.x (.v (.v (.x (.t (some [(93,.c (.i .i64))]) (.v (.y .w (.x (.x (.v (.v (.y (.r (some [(108,.c .b)]) .done) (.x (.v (.v (.x (.t (some [(117,.c (.i .i64))]) .g43 .u)))))))))))) .u)))))))) .u))))))))))))
end Go.Proofs.YtghikphgplamkaaGreat
end
section
namespace Go.Proofs.YtghikphgplamkaaGreat
open Go Go.Vc Go.Proofs
def cL:Code->Code| .seq a _=>a|c=>c
def cR:Code->Code| .seq _ b=>b|c=>c
noncomputable def codeB:Code:=bodyOf Tryz.f157
noncomputable def codeA:Code:= .seq (cL codeB) (.seq (cL (cR codeB)) (cL (cL (cR (cR codeB)))))
noncomputable def codeZ:Code:=cR (cR (cR codeB))
noncomputable def codeL:Code:=cR (cL (cR (cR codeB)))
def S.qdQ (d1:Option Addr) (K:Option Addr->Addr->Int->Sl->Value->Pw) (w:World):Prop:=Al w (.cells #[.pointer d1] 244) fun w2=>Dr w2 fun w3=>∃t4:Option Addr,w3.cell? (Addr.mk w.heap.size 0 none)=some (.pointer t4)/\∃a5:Addr,t4=some a5/\∃kernel6:Option Addr,w3.cell? a5=some (.pointer kernel6)/\∃a7:Addr,kernel6=some a7/\∃tr8:Option Addr,w3.cell? (a7.add 1)=some (.pointer tr8)/\∃t9:Option Addr,w3.cell? (Addr.mk w.heap.size 0 none)=some (.pointer t9)/\∃a10:Addr,t9=some a10/\LdL w3 (a10.add 9) 0 [.o, .o] fun (s11:Int) (s12:Int)=>(C.qck tr8 s11 s12 (fun r13 w14=>C.qI r13 (fun r15 w16=>K d1 (Addr.mk w.heap.size 0 none) (0:Int) r13 r15 w16) w14) w3)/\True
def codeAAn:An:= .t none (.u) (.t none (.r none (.one 0 1920 (.one 1 1920 (.one 2 1920 (.one 3 1920 (.one 4 1920 (.one 5 1920 (.one 6 1920 (.one 7 0 (.one 8 0 (.one 9 0 (.one 10 0 (.alt 11 (.one 12 0 (.done)) (.none)))))))))))))) (.u))
def codeACs:List (Nat × Sh):=[(0, .c (.p)),(1, .c (.q)),(2, .c (.i .i64)),(3, .c (.s)),(4, .c (.v))]
noncomputable def codeAF:Func:={ Tryz.f157 with results:= #[.tmp 0, .tmp 1, .tmp 2, .tmp 3, .tmp 19],body:=some codeA}
set_option maxRecDepth 100000 in
theorem S.qdQ1 (d1:Option Addr) (K:Option Addr->Addr->Int->Sl->Value->Pw) (w:World):vc Tryz.prog codeA codeAAn (fun e w'=>resL Tryz.prog codeAF.results.toList e w' [] fun vs=>appE codeACs K (nth vs) w') (fun _ _ _=>False) (fun _ _=>False) (nth [.pointer d1]) w=S.qdQ d1 K w:=by kernel_rfl
def S.qdR (d1:Option Addr) (d2:Addr) (t3:Int) (l4:Sl) (K:Int->Pw) (w:World):Prop:=∃t5:Option Addr,w.cell? d2=some (.pointer t5)/\∃a6:Addr,t5=some a6/\St w ((a6.add 17).add 1) (.y (IntKind.u64.wrap (l4.len:Int))) fun w7=>∃t8:Option Addr,w7.cell? d2=some (.pointer t8)/\∃a9:Addr,t8=some a9/\∃kind10:Int,w7.cell? (a9.add 11)=some (.z kind10)/\bif kind10==(1:Int) then (Dr w7 fun w11=>∃t12:Option Addr,w11.cell? d2=some (.pointer t12)/\∃a13:Addr,t12=some a13/\∃kernel14:Option Addr,w11.cell? a13=some (.pointer kernel14)/\∃a15:Addr,kernel14=some a15/\∃u16:Sl,w11.cell? (a15.add 4)=some (.slice u16.a u16.len u16.cap)/\∃t17:Option Addr,w11.cell? d2=some (.pointer t17)/\∃a18:Addr,t17=some a18/\∃obj19:Int,w11.cell? ((a18.add 11).add 1)=some (.z obj19)/\∃a20:Addr,u16.a=some a20/\0≤obj19/\obj19<(u16.len:Int)/\LdL w11 (a20.add (obj19.toNat*3)) 0 [.u, .o, .u] fun (t21:Int) (t22:Int) (t23:Int)=>∃t24:Option Addr,w11.cell? d2=some (.pointer t24)/\∃a25:Addr,t24=some a25/\∃kernel26:Option Addr,w11.cell? a25=some (.pointer kernel26)/\∃a27:Addr,kernel26=some a27/\∃u28:Sl,w11.cell? (a27.add 4)=some (.slice u28.a u28.len u28.cap)/\∃t29:Option Addr,w11.cell? d2=some (.pointer t29)/\∃a30:Addr,t29=some a30/\∃obj31:Int,w11.cell? ((a30.add 11).add 1)=some (.z obj31)/\(C.qcL t21 t22 t23 (fun r32 r33 r34 w35=>w35.cell? ((a30.add 11).add 1)=some (.z obj31)/\w35.cell? d2=some (.pointer t29)/\w35.cell? (a27.add 4)=some (.slice u28.a u28.len u28.cap)/\w35.cell? a25=some (.pointer kernel26)/\w35.cell? d2=some (.pointer t24)/\∃a36:Addr,u28.a=some a36/\0≤obj31/\obj31<(u28.len:Int)/\(StL w35 (a36.add (obj31.toNat*3)) 0 [.y r32, .z r33, .y r34] fun w37=>K (0:Int) w37)/\True) w11)/\True) else (K (0:Int) w7)
def codeZAn:An:= .t none (.u) (.t none (.t none (.u) (.t none (.r none (.one 12 16257023 (.one 13 16257023 (.one 14 16257023 (.one 15 16257023 (.one 16 16257023 (.one 17 16257023 (.one 18 16257023 (.one 19 4095 (.one 20 4095 (.one 21 4095 (.one 22 4095 (.one 23 4095 (.one 24 4095 (.one 25 4095 (.hold 0 67112832 268435455 (.one 1 67112832 (.one 2 67112832 (.hold 3 67112832 268435455 (.one 4 67112832 (.one 5 67112832 (.hold 6 67112832 268435455 (.hold 7 67108864 268435455 (.one 8 67108864 (.one 9 67108864 (.one 10 67108864 (.hold 11 67108864 268435455 (.alt 26 (.one 27 0 (.alt 28 (.done) (.none))) (.none))))))))))))))))))))))))))))) (.u))) (.t none (.u) (.u)))
def codeZCs:List (Nat × Sh):=[(0, .c (.i .i64))]
noncomputable def codeZF:Func:={ Tryz.f157 with results:= #[.tmp 2],body:=some codeZ}
set_option maxRecDepth 100000 in
theorem S.qdR1 (d1:Option Addr) (d2:Addr) (t3:Int) (l4:Sl) (K:Int->Pw) (w:World):fnV Tryz.prog codeZF codeZ codeZAn codeZCs [.pointer d1, .pointer (some d2), .z t3, .slice l4.a l4.len l4.cap] K w=S.qdR d1 d2 t3 l4 K w:=by kernel_rfl
end Go.Proofs.YtghikphgplamkaaGreat
end
section
set_option maxRecDepth 100000
namespace Go.Proofs.YtghikphgplamkaaGreat
open Go Go.Vc Go.Proofs
theorem S.qdq0 {K w}:Fr (C.qdq K w) (Al w (.cells #[.z 0, .z 0, .z 0, .slice none 0 0] 24) fun a=>Al a (.cells #[.z 5] 3) fun b=>StL b (.mk w.heap.size 0 none) 0 [.z 1, .z 10, .z 2, .slice (some (.mk a.heap.size 0 none)) 1 1] fun a=>LdL a (.mk w.heap.size 0 none) 0 [.o, .o, .o, .s] fun (b c d:Int) (e:Sl)=>K b c d e a):=okT Tryz.func39 (.v .w)
theorem S.qcT0 {a b c d K w}:Fr (C.qcT a b c d K w) (Al w (.cells #[.z a, .z b, .z c, .slice d.a d.len d.cap] 24) fun a=>Al a (.cells #[.z 0, .z 0, .z 0, .slice none 0 0] 24) fun b=>∃c,b.cell? (Addr.mk w.heap.size 0 none)=some (.z c)/\(3:Int)≠0/\∃d,b.cell? ((Addr.mk w.heap.size 0 none).add 1)=some (.z d)/\(7:Int)≠0/\∃e,b.cell? ((Addr.mk w.heap.size 0 none).add 2)=some (.z e)/\Al b (.cells #[.z 0, .z 0, .z 0, .slice none 0 0] 24) fun f=>StL f (.mk b.heap.size 0 none) 0 [.z (IntKind.i64.wrap (1+((andI .i64 c 65535).tmod 3))), .z (IntKind.i64.wrap (6+((andI .i64 d 65535).tmod 7))), .z (andI .i64 e 3), .slice none 0 0] fun d=>∀e:Int->Pw,(∀(d:Int) (f:World),(bif decide (d<(IntKind.i64.wrap (1+((andI .i64 c 65535).tmod 3)))) then (∃a:Sl,f.cell? ((Addr.mk w.heap.size 0 none).add 3)=some (.slice a.a a.len a.cap)/\∀c:Int->Pw,(∀(a:Int) (f:World),(∃c:Sl,f.cell? ((Addr.mk b.heap.size 0 none).add 3)=some (.slice c.a c.len c.cap)/\Al f (.cells #[.z a] 3) fun a=>∃g h,AppR Tryz.prog [22,22] 22 (.slice c.a c.len c.cap) (.slice (some (.mk f.heap.size 0 none)) 1 1) a g h/\St h ((Addr.mk b.heap.size 0 none).add 3) (.slice g.a g.len g.cap) fun a=>e (IntKind.i64.wrap (d+1)) a)->c a f)->(bif decide (d<(a.len:Int)) then (∃a:Sl,f.cell? ((Addr.mk w.heap.size 0 none).add 3)=some (.slice a.a a.len a.cap)/\∃b,a.a=some b/\0≤d/\d<(a.len:Int)/\∃a,f.cell? (b.add (d.toNat*1))=some (.z a)/\c (andI .i64 a 255) f) else (c 5 f))) else (LdL f (.mk b.heap.size 0 none) 0 [.o, .o, .o, .s] fun (b c d:Int) (e:Sl)=>StL f (.mk a.heap.size 0 none) 0 [.z b, .z c, .z d, .slice e.a e.len e.cap] fun b=>LdL b (.mk a.heap.size 0 none) 0 [.o, .o, .o, .s] fun (a c d:Int) (e:Sl)=>K a c d e b))->e d f)->e 0 d):=okT Tryz.func40 (.v (.v (.v (.y (.v (.x (.t (some [(5,.c (.i .i64))]) (.y (.v .w) (.x (.x (.v (.x (.v (.t (some [(6,.c (.i .i64))]) .u .u))))))) .u))) .w))))
theorem S.qbT0 {a b c d e f g K w}:Fr (C.qbT a b c d e f g K w) (Al w (.cells #[.z a, .z b, .z c, .slice d.a d.len d.cap, .slice e.a e.len e.cap, .z f] 27) fun a=>LdL a (.mk w.heap.size 0 none) 0 [.o, .o, .o, .s, .s, .o] fun (b c d:Int) (e f:Sl) (h:Int)=>C.qdj b c d e f h (fun a b c d e f h=>Al h (.cells #[.z 0, .z 0, .z 0, .slice none 0 0, .slice none 0 0, .z 0] 27) fun i=>StL i (.mk h.heap.size 0 none) 0 [.z a, .z b, .z c, .slice d.a d.len d.cap, .slice e.a e.len e.cap, .z f] fun a=>LdL a (.mk h.heap.size 0 none) 0 [.o, .o, .o, .s] fun (b c d:Int) (e:Sl)=>∃f:Sl,a.cell? ((Addr.mk h.heap.size 0 none).add 4)=some (.slice f.a f.len f.cap)/\∃i,a.cell? ((Addr.mk h.heap.size 0 none).add 5)=some (.z i)/\C.qbB b c d e f i (fun a b c=>∀d:Bool->Pw,(∀(b:Bool) (c:World),(bif b then (K false c) else (∀b:Int->Pw,(∀(c:Int) (d:World),(∀e:Bool->Pw,(∀(d:Bool) (f:World),(bif d then (C.qaj a (fun d e=>∃f,g.a=some f/\0≤c/\c<(g.len:Int)/\LdL e (f.add (c.toNat*4)) 0 [.o, .o, .o, .o] fun (f g i j:Int)=>C.qk a f g i j (fun e f g i j k l m n o p q=>Al q (.cells #[.z 0, .z 0, .z 0, .z 0, .y 0, .z 0, .slice none 0 0, .z 0, .z 0, .bool false] 40) fun r=>StL r (.mk q.heap.size 0 none) 0 [.z e, .z f, .z g, .z i, .y j, .z k, .slice l.a l.len l.cap, .z m, .z n, .bool o] fun e=>C.qat a 0 (fun e f=>∀g:Bool->Pw,(∀(d:Bool) (f:World),(∀g:Pw,(∀d:World,(∀f:Int->Pw,(∀(d:Int) (g:World),(∀i:Bool->Pw,(∀(g:Bool) (h:World),(bif g then (C.qas a d (fun a b=>∀c:Int->Pw,(∀(b:Int) (g:World),(bif decide (b<(a.len:Int)) then (∃d,a.a=some d/\0≤b/\b<(a.len:Int)/\∃f,g.cell? ((d.add (b.toNat*4)).add 1)=some (.z f)/\C.qdh e f (fun d e f g=>Al g (.cells #[.z 0, .z 0] 38) fun h=>StL h (.mk g.heap.size 0 none) 0 [.z d, .z e] fun d=>∀e:Bool->Pw,(∀(a:Bool) (d:World),(bif a then (K false d) else (c (IntKind.i64.wrap (b+1)) d))->e a d)->(Dr d fun c=>bif !f then (e true c) else (LdL c (.mk g.heap.size 0 none) 0 [.o, .o] fun (d f:Int)=>∃g,a.a=some g/\0≤b/\b<(a.len:Int)/\LdL c ((g.add (b.toNat*4)).add 2) 0 [.o, .o] fun (g h:Int)=>∃i,EqB Tryz.prog .neq 38 (.tmp 124) (.tmp 129) (.agg #[.z d, .z f]) (.agg #[.z g, .z h]) i/\bif i then (e true c) else (∃d,a.a=some d/\0≤b/\b<(a.len:Int)/\∃a,c.cell? (d.add (b.toNat*4))=some (.z a)/\e (a !=0) c)))) g) else (f (IntKind.i64.wrap (d+1)) g))->c b g)->c 0 b) h) else (b (IntKind.i64.wrap (c+1)) h))->i g h)->(∃b,g.cell? (Addr.mk h.heap.size 0 none)=some (.z b)/\bif decide (d<b) then (C.qaj a (fun a b=>i ((a.len:Int)==0) b) g) else (i false g)))->f d g)->f 0 d)->g d)->(bif d then (∃a,f.cell? ((Addr.mk q.heap.size 0 none).add 2)=some (.z a)/\C.qdh e a (fun a b c d=>Al d (.cells #[.z 0, .z 0] 38) fun e=>StL e (.mk d.heap.size 0 none) 0 [.z a, .z b] fun a=>∃b,a.cell? ((Addr.mk q.heap.size 0 none).add 9)=some (.bool b)/\bif !(b==c) then (K false a) else (LdL a ((Addr.mk q.heap.size 0 none).add 7) 0 [.o, .o] fun (b c:Int)=>LdL a (.mk d.heap.size 0 none) 0 [.o, .o] fun (d e:Int)=>∃f,EqB Tryz.prog .neq 38 (.tmp 85) (.tmp 86) (.agg #[.z b, .z c]) (.agg #[.z d, .z e]) f/\bif f then (K false a) else (g a))) f) else (g f)))->g d f)->(bif p then (∃a,f.cell? (Addr.mk q.heap.size 0 none)=some (.z a)/\bif a==3 then (g ((d.len:Int)==0) f) else (g false f)) else (g false f))) e) e) f) else (C.qdk (fun a b=>K a b) f))->e d f)->(bif decide (c<(g.len:Int)) then (e (decide (c<80)) d) else (e false d)))->b c d)->b 0 c))->d b c)->(bif a.isNone then (d true c) else (d (b !=0) c))) a) a):=okT Tryz.func9 (.v (.v (.v (.y (.y (.r (some [(37,.c .b)]) .done) (.x .w)) (.y (.v (.x (.t (some [(8,.c (.i .i64))]) (.y (.y (.r (some [(45,.c .b)]) .done) .w) (.x (.x (.v (.v (.v (.y (.y (.r (some [(71,.c .b)]) .done) (.t (some []) (.v (.v (.x .w))) .u)) (.v (.x (.t (some [(15,.c (.i .i64))]) (.y (.y (.r (some [(99,.c .b)]) .done) .w) (.x (.x (.v (.v (.x (.t (some [(17,.c (.i .i64))]) (.y (.v .w) (.x (.x (.v (.y (.r (some [(139,.c .b)]) (.o 0 0 (.o 1 0 (.o 2 0 (.o 3 496 (.o 4 32 (.o 5 0 (.o 6 0 (.o 7 0 (.o 8 0 (.o 9 0 (.o 10 0 (.o 11 0 (.o 12 8192 (.o 13 0 (.o 14 0 (.o 15 0 (.o 16 0 (.o 17 0 (.o 18 0 .done)))))))))))))))))))) (.x .w)))))) .u))))))) .u)))))))))) .u))) .w)))))
theorem S.qdj0 {a b c d e f K w}:Fr (C.qdj a b c d e f K w) (Al w (.cells #[.z a, .z b, .z c, .slice d.a d.len d.cap, .slice e.a e.len e.cap, .z f] 27) fun a=>Al a (.cells #[.z 0, .z 0, .z 0, .slice none 0 0, .slice none 0 0, .z 0] 27) fun b=>Dr b fun b=>LdL b (.mk w.heap.size 0 none) 0 [.o, .o, .o, .s] fun (c d e:Int) (f:Sl)=>∃g:Sl,b.cell? ((Addr.mk w.heap.size 0 none).add 4)=some (.slice g.a g.len g.cap)/\∃h:Sl,b.cell? ((Addr.mk w.heap.size 0 none).add 4)=some (.slice h.a h.len h.cap)/\0≤minI (h.len:Int) 40/\minI (h.len:Int) 40≤(g.cap:Int)/\∃i,b.cell? ((Addr.mk w.heap.size 0 none).add 5)=some (.z i)/\(C.qcT c d e f (fun b c d e f=>f.cell? ((Addr.mk w.heap.size 0 none).add 5)=some (.z i)/\f.cell? ((Addr.mk w.heap.size 0 none).add 4)=some (.slice h.a h.len h.cap)/\f.cell? ((Addr.mk w.heap.size 0 none).add 4)=some (.slice g.a g.len g.cap)/\(Al f (.cells #[] 91) fun j=>(∃k l,AppR Tryz.prog [25,25] 25 (.slice (some (.mk f.heap.size 0 none)) 0 0) (.slice (slA g.a 0 g.cap 6) (((minI (h.len:Int) 40).toNat)-0) (g.cap-0)) j k l/\l.cell? ((Addr.mk w.heap.size 0 none).add 5)=some (.z i)/\(StL l (.mk a.heap.size 0 none) 0 [.z b, .z c, .z d, .slice e.a e.len e.cap, .slice k.a k.len k.cap, .z (IntKind.i64.wrap (1+(andI .i64 i 7)))] fun b=>LdL b (.mk a.heap.size 0 none) 0 [.o, .o, .o, .s, .s, .o] fun (a c d:Int) (e f:Sl) (g:Int)=>K a c d e f g b)/\True)/\True)/\True) b)/\(Al b (.cells #[] 91) fun j=>(C.qcT c d e f (fun c d e f j=>j.cell? ((Addr.mk w.heap.size 0 none).add 5)=some (.z i)/\j.cell? ((Addr.mk w.heap.size 0 none).add 4)=some (.slice h.a h.len h.cap)/\j.cell? ((Addr.mk w.heap.size 0 none).add 4)=some (.slice g.a g.len g.cap)/\(∃k l,AppR Tryz.prog [25,25] 25 (.slice (some (.mk b.heap.size 0 none)) 0 0) (.slice (slA g.a 0 g.cap 6) (((minI (h.len:Int) 40).toNat)-0) (g.cap-0)) j k l/\l.cell? ((Addr.mk w.heap.size 0 none).add 5)=some (.z i)/\(StL l (.mk a.heap.size 0 none) 0 [.z c, .z d, .z e, .slice f.a f.len f.cap, .slice k.a k.len k.cap, .z (IntKind.i64.wrap (1+(andI .i64 i 7)))] fun b=>LdL b (.mk a.heap.size 0 none) 0 [.o, .o, .o, .s, .s, .o] fun (a c d:Int) (e f:Sl) (g:Int)=>K a c d e f g b)/\True)/\True) j)/\True)/\True):=okT Tryz.func19 (.v (.x (.z (.o 0 63480 (.o 1 63480 (.o 4 62412 (.o 6 61484 (.o 12 4012 (.hold 5 58252 129023 (.hold 7 57356 129023 (.o 8 57356 (.o 9 57356 (.o 10 57356 (.hold 13 2060 131071 (.o 14 2060 (.o 15 2060 (.f 2 (.e 3 (.e 11 (.o 16 0 (.e 17 .done)))) (.e 3 (.e 2 (.e 11 (.o 16 0 (.e 17 .done))))))))))))))))))))))
theorem S.qdk0 {K w}:Fr (C.qdk K w) (C.qdq (fun a b c d e=>Al e (.cells #[.z 0, .z 1, .z 20, .z 6, .z 0, .z 1] 91) fun f=>C.qbB a b c d ⟨some (.mk e.heap.size 0 none),1,1⟩ 4 (fun a b c=>∀d:Bool->Pw,(∀(b:Bool) (c:World),(bif b then (K false c) else (C.qk a 1 0 0 0 (fun b c d e f g h i j k l m=>Al m (.cells #[.z 0, .z 0, .z 0, .z 0, .y 0, .z 0, .slice none 0 0, .z 0, .z 0, .bool false] 40) fun n=>StL n (.mk m.heap.size 0 none) 0 [.z b, .z c, .z d, .z e, .y f, .z g, .slice h.a h.len h.cap, .z i, .z j, .bool k] fun b=>C.qaB a 0 (fun b c d=>C.qk a 0 0 0 0 (fun d e f g h i j k m n o p=>Al p (.cells #[.z 0, .z 0, .z 0, .z 0, .y 0, .z 0, .slice none 0 0, .z 0, .z 0, .bool false] 40) fun q=>StL q (.mk p.heap.size 0 none) 0 [.z d, .z e, .z f, .z g, .y h, .z i, .slice j.a j.len j.cap, .z k, .z m, .bool n] fun d=>C.qk a 0 0 0 0 (fun d e f g h i j k m n q r=>Al r (.cells #[.z 0, .z 0, .z 0, .z 0, .y 0, .z 0, .slice none 0 0, .z 0, .z 0, .bool false] 40) fun s=>StL s (.mk r.heap.size 0 none) 0 [.z d, .z e, .z f, .z g, .y h, .z i, .slice j.a j.len j.cap, .z k, .z m, .bool n] fun d=>C.qk a 3 0 0 0 (fun d e f g h i j k m n s t=>Al t (.cells #[.z 0, .z 0, .z 0, .z 0, .y 0, .z 0, .slice none 0 0, .z 0, .z 0, .bool false] 40) fun u=>StL u (.mk t.heap.size 0 none) 0 [.z d, .z e, .z f, .z g, .y h, .z i, .slice j.a j.len j.cap, .z k, .z m, .bool n] fun d=>C.qk a 0 0 0 0 (fun d e f g h i j k m n t u=>Al u (.cells #[.z 0, .z 0, .z 0, .z 0, .y 0, .z 0, .slice none 0 0, .z 0, .z 0, .bool false] 40) fun v=>StL v (.mk u.heap.size 0 none) 0 [.z d, .z e, .z f, .z g, .y h, .z i, .slice j.a j.len j.cap, .z k, .z m, .bool n] fun d=>C.qk a 3 0 0 0 (fun d e f g h i j k m n v w=>Al w (.cells #[.z 0, .z 0, .z 0, .z 0, .y 0, .z 0, .slice none 0 0, .z 0, .z 0, .bool false] 40) fun x=>StL x (.mk w.heap.size 0 none) 0 [.z d, .z e, .z f, .z g, .y h, .z i, .slice j.a j.len j.cap, .z k, .z m, .bool n] fun d=>C.qk a 1 0 5 1 (fun d e f g h i j k m n x y=>Al y (.cells #[.z 0, .z 0, .z 0, .z 0, .y 0, .z 0, .slice none 0 0, .z 0, .z 0, .bool false] 40) fun z=>StL z (.mk y.heap.size 0 none) 0 [.z d, .z e, .z f, .z g, .y h, .z i, .slice j.a j.len j.cap, .z k, .z m, .bool n] fun d=>C.qk a 0 1 0 0 (fun d e f g h i j k m n z A=>Al A (.cells #[.z 0, .z 0, .z 0, .z 0, .y 0, .z 0, .slice none 0 0, .z 0, .z 0, .bool false] 40) fun B=>StL B (.mk A.heap.size 0 none) 0 [.z d, .z e, .z f, .z g, .y h, .z i, .slice j.a j.len j.cap, .z k, .z m, .bool n] fun d=>C.qdq (fun d e f g h=>C.qbB d e f g ⟨none,0,0⟩ 0 (fun _ e f=>bif !l then (bif b==1 then (bif c then (∃b,f.cell? (Addr.mk p.heap.size 0 none)=some (.z b)/\bif b==0 then (bif o then (∃b,f.cell? (Addr.mk r.heap.size 0 none)=some (.z b)/\bif b==1 then (∃b,f.cell? ((Addr.mk r.heap.size 0 none).add 3)=some (.z b)/\bif b==0 then (bif q then (bif !s then (∃b,f.cell? (Addr.mk u.heap.size 0 none)=some (.z b)/\bif b==2 then (bif t then (∃b,f.cell? ((Addr.mk w.heap.size 0 none).add 9)=some (.bool b)/\bif b then (bif v then (∃b,f.cell? (Addr.mk y.heap.size 0 none)=some (.z b)/\bif b==3 then (∃b,f.cell? ((Addr.mk y.heap.size 0 none).add 9)=some (.bool b)/\bif !b then (bif x then (bif !z then (bif e==1 then (C.qaC a (fun a b=>K ((a.len:Int)==7) b) f) else (K false f)) else (K false f)) else (K false f)) else (K false f)) else (K false f)) else (K false f)) else (K false f)) else (K false f)) else (K false f)) else (K false f)) else (K false f)) else (K false f)) else (K false f)) else (K false f)) else (K false f)) else (K false f)) else (K false f)) else (K false f)) h) d) d) d) d) d) d) d) d) b) c))->d b c)->(bif a.isNone then (d true c) else (d (b !=0) c))) f) w):=okT Tryz.func21 (.v (.v (.y (.y (.r (some [(35,.c .b)]) .done) (.x .w)) (.v (.v (.v (.v (.v (.v (.v (.v (.v (.v .w)))))))))))))
theorem S.qdh0 {a b K w}:Fr (C.qdh a b K w) (Al w (.cells #[.z 0, .z 0] 38) fun c=>∀d:Int->Pw,(∀(c:Int) (e:World),(bif decide (c<(a.len:Int)) then (∃f,a.a=some f/\0≤c/\c<(a.len:Int)/\∃g,e.cell? (f.add (c.toNat*3))=some (.z g)/\bif g==b then (∃b,a.a=some b/\0≤c/\c<(a.len:Int)/\LdL e ((b.add (c.toNat*3)).add 1) 0 [.o, .o] fun (a b:Int)=>StL e (.mk w.heap.size 0 none) 0 [.z a, .z b] fun a=>LdL a (.mk w.heap.size 0 none) 0 [.o, .o] fun (b c:Int)=>K b c true a) else (d (IntKind.i64.wrap (c+1)) e)) else (StL e (.mk w.heap.size 0 none) 0 [.z 0, .z 0] fun a=>LdL a (.mk w.heap.size 0 none) 0 [.o, .o] fun (b c:Int)=>K b c false a))->d c e)->d 0 c):=okT Tryz.func27 (.v (.y (.v (.x (.t (some [(6,.c (.i .i64))]) (.y (.v .w) (.x (.x (.v (.x .w))))) .u))) .w))
end Go.Proofs.YtghikphgplamkaaGreat
end
