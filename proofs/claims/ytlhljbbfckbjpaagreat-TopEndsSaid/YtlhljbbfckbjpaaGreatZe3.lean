/- What the row rests on: the declarations that it needs, out of my texts (part 3). -/
import Derived.Test.YtlhljbbfckbjpaaGreatZe2
set_option linter.unusedVariables false
set_option linter.unusedSimpArgs false
set_option linter.unusedSectionVars false
section
set_option maxRecDepth 100000
namespace Go.Proofs.YtlhljbbfckbjpaaGreat
open Go Go.Vc Go.Proofs
theorem S.qcY0 {a b c d e f K w}:Fr (C.qcY a b c d e f K w) (A2 w [.z a, .z b, .z c, .y d, .y e, .z f] 207 fun a b=>∀c:Bool->Pw,(∀(b:Bool) (d:World),(az d a.p 0 [.o, .o, .o, .u, .u, .o] fun (c e f g h i:Int)=>∃j,FM Tryz.prog .eql 207 (.tmp 35) (.tmp 36) (.agg #[.z c, .z e, .z f, .y g, .y h, .z i]) (.agg #[.z 0, .z 0, .z 0, .y 0, .y 0, .z 0]) j/\bif j then K 0 d else ∀c:Bool->Pw,(∀(b:Bool) (d:World),(bif b then K 40 d else ∀b:Bool->Pw,(∀(c:Bool) (d:World),(bif c then bif c then K 40 d else K 0 d else ∃b,d.cell? (a.p.add 5)=some (.z b)/\bif b !=0 then ∃b,d.cell? a.p=some (.z b)/\bif b !=2 then K 40 d else K 0 d else K 0 d)->b c d)->(∃c,d.cell? (a.p.add 3)=some (.y c)/\bif c !=0 then ∃c,d.cell? a.p=some (.z c)/\C.qda c (fun a c=>b (!a) c) d else b false d))->c b d)->(bif !b then c (!b) d else ∃b,d.cell? a.p=some (.z b)/\C.qcK b (fun b d=>bif !b then ∃b,d.cell? (a.p.add 2)=some (.z b)/\c (b !=7) d else c false d) d))->c b d)->(∃d,b.cell? a.p=some (.z d)/\bif decide (d>0) then ∃d,b.cell? a.p=some (.z d)/\bif decide (d<10) then ∃d,b.cell? (a.p.add 1)=some (.z d)/\bif decide (d≥0) then ∃d,b.cell? (a.p.add 1)=some (.z d)/\bif decide (d<2147483648) then ∃d,b.cell? (a.p.add 2)=some (.z d)/\C.qcZ d (fun b d=>bif b then ∃b,d.cell? (a.p.add 4)=some (.y b)/\∃e,d.cell? (a.p.add 5)=some (.z e)/\C.qdv b e (fun a b=>c a b) d else c false d) b else c false b else c false b else c false b else c false b)):=aD Tryz.func117 (.v (.y (.r (some [(3,.c .b)]) .done) (.y (.x (.v (.y .w (.y (.v (.t (some [(38,.c .b)]) .u .u)) (.y .w (.y (.y (.r (some [(50,.c .b)]) .done) .w) (.x .w))))))) .w)))
theorem S.qcZ0 {a K w}:Fr (C.qcZ a K w) (bif decide (a≥0) then K (decide (a≤7)) w else K false w):=aD Tryz.func160 (.v .w)
theorem S.qdv0 {a b K w}:Fr (C.qdv a b K w) (C.qdx b (fun b c d=>bif c==0 then K ((fc .u64 a b)==0) d else K false d) w):=aD Tryz.func161 (.v (.v .w))
theorem S.qcK0 {a K w}:Fr (C.qcK a K w) (bif a==4 then K true w else bif a==5 then K true w else K (a==6) w):=aD Tryz.func162 (.v .w)
theorem S.qda0 {a K w}:Fr (C.qda a K w) (bif a==4 then K true w else K (a==5) w):=aD Tryz.func163 (.v .w)
theorem S.qdw0 {a b c d e f g h K w}:Fr (C.qdw a b c d e f g h K w) (A2 w [.z a, .z b, .z c, .y d, .y e, .z f] 207 fun a b=>A2 b [.z 0, .z 0, .z 0, .y 0, .y 0, .z 0] 207 fun b c=>az c a.p 0 [.o, .o, .o, .u, .u, .o] fun (d e f i j k:Int)=>C.qcY d e f i j k (fun c d=>bif c !=0 then aH d b.p 0 [.z 0, .z 0, .z 0, .y 0, .y 0, .z 0] fun e=>az e b.p 0 [.o, .o, .o, .u, .u, .o] fun (f i j k l m:Int)=>K f i j k l m c e else C.qcZ g (fun c d=>bif !c then aH d b.p 0 [.z 0, .z 0, .z 0, .y 0, .y 0, .z 0] fun c=>az c b.p 0 [.o, .o, .o, .u, .u, .o] fun (e f i j k l:Int)=>K e f i j k l 1 c else ∃c,d.cell? a.p=some (.z c)/\∀e:Bool->Pw,(∀(c:Bool) (d:World),(bif c then aH d b.p 0 [.z 0, .z 0, .z 0, .y 0, .y 0, .z 0] fun c=>az c b.p 0 [.o, .o, .o, .u, .u, .o] fun (e f i j k l:Int)=>K e f i j k l 41 c else ∃c,d.cell? a.p=some (.z c)/\C.qcK c (fun c d=>∀e:Pw,(∀c:World,(bif h !=0 then St c (a.p.add 3) (.y h) fun d=>az d a.p 0 [.o, .o, .o, .u, .u, .o] fun (e f g h i j:Int)=>aH d b.p 0 [.z e, .z f, .z g, .y h, .y i, .z j] fun d=>az d b.p 0 [.o, .o, .o, .u, .u, .o] fun (e f g h i j:Int)=>K e f g h i j 0 d else az c a.p 0 [.o, .o, .o, .u, .u, .o] fun (a d e f g h:Int)=>aH c b.p 0 [.z a, .z d, .z e, .y f, .y g, .z h] fun a=>az a b.p 0 [.o, .o, .o, .u, .u, .o] fun (b c d e f g:Int)=>K b c d e f g 0 a)->e c)->(bif c then ∃b,d.cell? (a.p.add 2)=some (.z b)/\St d (a.p.add 2) (.z (dw .i64 b g)) fun a=>e a else e d)) d)->e c d)->(bif c==0 then e (c==0) d else bif h !=0 then ∃b,d.cell? a.p=some (.z b)/\C.qda b (fun b c=>bif !b then e true c else ∃b,c.cell? (a.p.add 3)=some (.y b)/\e (b !=0) c) d else e false d)) d) c):=aD Tryz.func180 (.v (.v (.y (.x (.v (.y .w (.v (.y .w (.y (.v (.t (some [(21,.c .b)]) .u .u)) (.x .w))))))) (.y (.v (.t (some []) .u .u)) (.y (.v .w) .w)))))
theorem S.qdG0 {a b c d e f g h i j k l K w}:Fr (C.qdG a b c d e f g h i j k l K w) (A2 w [.z a, .z b, .z c, .y d, .y e, .z f] 207 fun a b=>A2 b [.z g, .z h, .z i, .y j, .y k, .z l] 207 fun b c=>∃d,c.cell? a.p=some (.z d)/\bif d !=0 then ∃d,c.cell? a.p=some (.z d)/\∃e,c.cell? b.p=some (.z e)/\bif d==e then ∃d,c.cell? (a.p.add 1)=some (.z d)/\∃a,c.cell? (b.p.add 1)=some (.z a)/\K (d==a) c else K false c else K false c):=aD Tryz.func224 (.v .w)
theorem S.qdu0 {a K w}:Fr (C.qdu a K w) (∀b:Int->Pw,(∀(c:Int) (d:World),(bif decide (c<(a.len:Int)) then ∃e,a.a=some e/\0≤c/\c<(a.len:Int)/\∃a,d.cell? (e.add (c.toNat*1))=some (.z a)/\bif a !=0 then K a d else b (IntKind.i64.wrap (c+1)) d else K 0 d)->b c d)->b 0 w):=aD Tryz.func156 (.v .g14)
theorem S.qbS0 {a b K w}:Fr (C.qbS a b K w) (C.qct a (fun c d=>C.qct b (fun d e=>bif c then bif d then K 0 e else K (-1) e else bif d then K 1 e else bif decide (a<b) then K (-1) e else bif decide (a>b) then K 1 e else K 0 e) d) w):=aD Tryz.func157 (.v (.v (.v (.y (.v (.x (.y (.v (.x .w)) .w))) (.y (.v (.x .w)) (.y (.v (.x .w)) (.y (.v (.x .w)) .w)))))))
theorem S.qct0 {a K w}:Fr (C.qct a K w) (K (a !=a) w):=aD Tryz.func206 (.v .w)
theorem S.qaa0 {a b c d e f g h i j K w}:Fr (C.qaa a b c d e f g h i j K w) (A2 w [.z c, .y d, .y e, .y f, .y g, .y h, .bool i] 317 fun c d=>A2 d [.bool false, .z 0, .z 0, .z 0, .y 0, .y 0, .y 0, .y 0, .y 0, .bool false] 319 fun d e=>C.qS a b (fun e f=>bif e then aH f d.p 0 [.bool false, .z 0, .z 0, .z 0, .y 0, .y 0, .y 0, .y 0, .y 0, .bool false] fun e=>az e d.p 0 [.b, .o, .o, .o, .u, .u, .u, .u, .u, .b] fun (g:Bool) (h i k l m n o p:Int) (q:Bool)=>K g h i k l m n o p q 110 e else C.qT a false (fun e f g h i k l m n o=>A2 o [.z 0, .z 0, .y 0, .y 0, .y 0, .y 0, .y 0, .bool false] 357 fun o p=>aH p o.p 0 [.z e, .z f, .y g, .y h, .y i, .y k, .y l, .bool m] fun e=>bif n then ∃f,e.cell? o.p=some (.z f)/\az e c.p 0 [.o, .u, .u, .u, .u, .u, .b] fun (g h i k l m:Int) (n:Bool)=>aH e d.p 0 [.bool true, .z b, .z f, .z g, .y h, .y i, .y k, .y l, .y m, .bool n] fun f=>az f d.p 0 [.b, .o, .o, .o, .u, .u, .u, .u, .u, .b] fun (g:Bool) (h i k l m n o p:Int) (q:Bool)=>K g h i k l m n o p q 0 f else bif j then az e c.p 0 [.o, .u, .u, .u, .u, .u, .b] fun (c f g h i j:Int) (k:Bool)=>C.qad a b c f g h i j k true (fun a=>aH a d.p 0 [.bool false, .z 0, .z 0, .z 0, .y 0, .y 0, .y 0, .y 0, .y 0, .bool false] fun a=>az a d.p 0 [.b, .o, .o, .o, .u, .u, .u, .u, .u, .b] fun (b:Bool) (c d e f g h i j:Int) (k:Bool)=>K b c d e f g h i j k 0 a) e else aH e d.p 0 [.bool false, .z 0, .z 0, .z 0, .y 0, .y 0, .y 0, .y 0, .y 0, .bool false] fun a=>az a d.p 0 [.b, .o, .o, .o, .u, .u, .u, .u, .u, .b] fun (b:Bool) (c d e f g h i j:Int) (k:Bool)=>K b c d e f g h i j k 0 a) f) e):=aD Tryz.func192 .g23
theorem S.qab0 {a b c K w}:Fr (C.qab a b c K w) (A2 w [.bool false, .z 0, .z 0, .z 0, .y 0, .y 0, .y 0, .y 0, .y 0, .bool false] 319 fun d e=>C.qS a b (fun e f=>bif e then aH f d.p 0 [.bool false, .z 0, .z 0, .z 0, .y 0, .y 0, .y 0, .y 0, .y 0, .bool false] fun e=>az e d.p 0 [.b, .o, .o, .o, .u, .u, .u, .u, .u, .b] fun (g:Bool) (h i j k l m n o:Int) (p:Bool)=>K g h i j k l m n o p 110 e else C.qT a true (fun e f g h i j k l m n=>A2 n [.z 0, .z 0, .y 0, .y 0, .y 0, .y 0, .y 0, .bool false] 357 fun n o=>aH o n.p 0 [.z e, .z f, .y g, .y h, .y i, .y j, .y k, .bool l] fun e=>bif m then ∃f,e.cell? n.p=some (.z f)/\az e (n.p.add 1) 0 [.o, .u, .u, .u, .u, .u, .b] fun (g h i j k l:Int) (m:Bool)=>aH e d.p 0 [.bool true, .z f, .z b, .z g, .y h, .y i, .y j, .y k, .y l, .bool m] fun f=>az f d.p 0 [.b, .o, .o, .o, .u, .u, .u, .u, .u, .b] fun (g:Bool) (h i j k l m n o:Int) (p:Bool)=>K g h i j k l m n o p 0 f else bif c then C.qad a b 0 0 0 0 0 0 false false (fun a=>aH a d.p 0 [.bool false, .z 0, .z 0, .z 0, .y 0, .y 0, .y 0, .y 0, .y 0, .bool false] fun a=>az a d.p 0 [.b, .o, .o, .o, .u, .u, .u, .u, .u, .b] fun (b:Bool) (c d e f g h i j:Int) (k:Bool)=>K b c d e f g h i j k 0 a) e else aH e d.p 0 [.bool false, .z 0, .z 0, .z 0, .y 0, .y 0, .y 0, .y 0, .y 0, .bool false] fun a=>az a d.p 0 [.b, .o, .o, .o, .u, .u, .u, .u, .u, .b] fun (b:Bool) (c d e f g h i j:Int) (k:Bool)=>K b c d e f g h i j k 0 a) f) e):=aD Tryz.func195 .g23
theorem S.qdh0 {K w}:Fr (C.qdh K w) (A2 w [.slice none 0 0, .bool false] 390 fun a b=>K (some a.p) b):=aD Tryz.func218 (.v .w)
theorem S.qae0 {a b K w}:Fr (C.qae a b K w) (A2 w [.z b] 3 fun b c=>∃d,a=some d/\∃e:Sl,c.cell? d=some (.slice e.a e.len e.cap)/\∃d,a=some d/\∃f:Sl,c.cell? d=some (.slice f.a f.len f.cap)/\C.qh f (.func (.func 270) #[] #[.pointer (some b.p)]) (fun b c=>∃d,a=some d/\St c d (.slice b.a b.len b.cap) fun b=>∃c,a=some c/\∃a:Sl,b.cell? c=some (.slice a.a a.len a.cap)/\K (decide ((a.len:Int)<(e.len:Int))) b) c):=aD Tryz.func229 (.v (.v (.v .w)))
theorem S.qS0 {a b K w}:Fr (C.qS a b K w) (A2 w [.z b] 3 fun b c=>∃d,a=some d/\∃a:Sl,c.cell? d=some (.slice a.a a.len a.cap)/\C.qg a (.func (.func 273) #[] #[.pointer (some b.p)]) (fun a b=>K a b) c):=aD Tryz.func231 (.v .w)
theorem S.qT0 {a b K w}:Fr (C.qT a b K w) (A2 w [.z 0, .z 0, .y 0, .y 0, .y 0, .y 0, .y 0, .bool false] 357 fun c d=>∀e:Bool->Pw,(∀(b:Bool) (d:World),(bif b then aH d c.p 0 [.z 0, .z 0, .y 0, .y 0, .y 0, .y 0, .y 0, .bool false] fun b=>az b c.p 0 [.o, .o, .u, .u, .u, .u, .u, .b] fun (e f g h i j k:Int) (l:Bool)=>K e f g h i j k l false b else ∃b,a=some b/\∃e:Sl,d.cell? b=some (.slice e.a e.len e.cap)/\∃b,e.a=some b/\(0:Int)≤0/\0<(e.len:Int)/\az d (b.add ((0:Int).toNat*8)) 0 [.o, .o, .u, .u, .u, .u, .u, .b] fun (b e f g h i j:Int) (k:Bool)=>A2 d [.z 0, .z 0, .y 0, .y 0, .y 0, .y 0, .y 0, .bool false] 357 fun d l=>aH l d.p 0 [.z b, .z e, .y f, .y g, .y h, .y i, .y j, .bool k] fun b=>∃e,a=some e/\∃f:Sl,b.cell? e=some (.slice f.a f.len f.cap)/\C.qj f 0 1 (fun b e=>∃f,a=some f/\St e f (.slice b.a b.len b.cap) fun a=>az a d.p 0 [.o, .o, .u, .u, .u, .u, .u, .b] fun (b d e f g h i:Int) (j:Bool)=>aH a c.p 0 [.z b, .z d, .y e, .y f, .y g, .y h, .y i, .bool j] fun a=>az a c.p 0 [.o, .o, .u, .u, .u, .u, .u, .b] fun (b c d e f g h:Int) (i:Bool)=>K b c d e f g h i true a) b)->e b d)->(∃c,a=some c/\∃f:Sl,d.cell? c=some (.slice f.a f.len f.cap)/\bif (f.len:Int)==0 then e true d else ∃c,a=some c/\∃a,d.cell? (c.add 1)=some (.bool a)/\e (!(a==b)) d)):=aD Tryz.func232 (.v (.y (.y (.r (some [(20,.c .b)]) .done) (.x .w)) (.v (.v .w))))
theorem S.qad0 {a b c d e f g h i j K w}:Fr (C.qad a b c d e f g h i j K w) (A2 w [.z b, .z c, .y d, .y e, .y f, .y g, .y h, .bool i] 357 fun b c=>Dr c fun c=>∃d,a=some d/\∃e:Sl,c.cell? d=some (.slice e.a e.len e.cap)/\az c b.p 0 [.o, .o, .u, .u, .u, .u, .u, .b] fun (b d f g h i k:Int) (l:Bool)=>(A2 c [.z b, .z d, .y f, .y g, .y h, .y i, .y k, .bool l] 357 fun b c=>(∃d f,bo Tryz.prog [388,388] 388 (.slice e.a e.len e.cap) (.slice (some b.p) 1 1) c d f/\∃b,a=some b/\(St f b (.slice d.a d.len d.cap) fun b=>∃c,a=some c/\(St b (c.add 1) (.bool j) fun a=>K a)/\True)/\True)/\True)/\True):=aD Tryz.func233 (.v (.z (.o 0 1022 (.o 1 8188 (.o 2 704 (.o 3 704 (.o 4 704 (.o 5 704 (.o 6 512 (.o 9 7552 (.e 7 (.e 8 (.o 10 0 (.o 11 0 (.e 12 (.o 13 0 (.o 14 0 (.e 15 .done))))))))))))))))))
theorem S.qai0 {a b c d e f g h i K w}:Fr (C.qai a b c d e f g h i K w) (A2 w [.z a, .z b, .y c, .y d, .y e, .y f, .y g, .bool h] 357 fun a b=>∃c,b.cell? a.p=some (.z c)/\∃a,b.cell? i=some (.z a)/\K (c==a) b):=aD Tryz.func270 (.v .w)
theorem S.qal0 {a b c d e f g h i K w}:Fr (C.qal a b c d e f g h i K w) (A2 w [.z a, .z b, .y c, .y d, .y e, .y f, .y g, .bool h] 357 fun a b=>∃c,b.cell? a.p=some (.z c)/\∃a,b.cell? i=some (.z a)/\K (c==a) b):=aD Tryz.func273 (.v .w)
theorem S.qcs0 {a b c d e f K w}:Fr (C.qcs a b c d e f K w) (A2 w [.y a, .z b, .y c] 136 fun a b=>A2 b [.y 0, .z 0, .y 0] 136 fun b c=>az c a.p 0 [.u, .o, .u] fun (g h i:Int)=>C.qcP g h i (fun c g=>C.qdg d e (fun d e g=>bif c !=0 then aH g b.p 0 [.y 0, .z 0, .y 0] fun h=>az h b.p 0 [.u, .o, .u] fun (i j k:Int)=>K ⟨none,0,0⟩ i j k c h else bif e !=0 then aH g b.p 0 [.y 0, .z 0, .y 0] fun c=>az c b.p 0 [.u, .o, .u] fun (h i j:Int)=>K ⟨none,0,0⟩ h i j e c else ∀c:Bool->Pw,(∀(e:Bool) (g:World),(bif e then aH g b.p 0 [.y 0, .z 0, .y 0] fun c=>az c b.p 0 [.u, .o, .u] fun (e h i:Int)=>K ⟨none,0,0⟩ e h i 1 c else ∃c,g.cell? a.p=some (.y c)/\∃e,g.cell? (a.p.add 2)=some (.y e)/\C.qdI (IntKind.u64.wrap (c+e)) d (fun c _ e=>Dr e fun e=>∃g,e.cell? a.p=some (.y g)/\∃h,e.cell? (a.p.add 1)=some (.z h)/\0≤h/\0≤d/\bif decide ((IntKind.u64.wrap (c+(gy .u64 (IntKind.u64.wrap f) d)))>(IntKind.u64.wrap (g+(gy .u64 1 h)))) then aH e b.p 0 [.y 0, .z 0, .y 0] fun g=>az g b.p 0 [.u, .o, .u] fun (h i j:Int)=>K ⟨none,0,0⟩ h i j 81 g else ∀g:Int->Sl->Int->Pw,(∀(c:Int) (e:Sl) (h:Int) (i:World),(bif decide (h<f) then A2 i [.y c] 33 fun f j=>∃k l,bo Tryz.prog [300,300] 300 (.slice e.a e.len e.cap) (.slice (some f.p) 1 1) j k l/\0≤d/\g (IntKind.u64.wrap (c+(gy .u64 1 d))) k (IntKind.i64.wrap (h+1)) l else ∃d,i.cell? a.p=some (.y d)/\St i (a.p.add 2) (.y (IntKind.u64.wrap (c-d))) fun c=>Dr c fun c=>az c a.p 0 [.u, .o, .u] fun (a d f:Int)=>(aH c b.p 0 [.y a, .z d, .y f] fun a=>az a b.p 0 [.u, .o, .u] fun (b c d:Int)=>K e b c d 0 a)/\True)->g c e h i)->g c ⟨none,0,0⟩ 0 e) g)->c e g)->(bif decide (f<1) then c true g else c (decide (f>64)) g)) g) c):=aD Tryz.func176 (.v (.v (.v (.y (.x (.v (.y .w (.v (.y .w (.y (.r (some [(36,.c .b)]) .done) (.x .w))))))) (.v (.y (.z (.o 0 28 (.o 1 28 (.o 2 0 (.o 3 0 (.o 4 0 (.o 5 0 (.o 6 0 .done)))))))) (.y (.v (.x .w)) (.v (.y (.v (.x (.t (some [(14,.c (.i .u64)),(17,.c .s),(70,.c (.i .i64))]) .FG .u))) (.v (.x (.z (.o 0 2 (.o 1 4 (.o 2 0 (.e 3 (.o 4 0 .done)))))))))))))))))
theorem S.qcN0 {a b c K w}:Fr (C.qcN a b c K w) (A2 w [.y a, .z b, .y c] 136 fun a b=>A2 b [.y 0, .z 0, .y 0] 136 fun b c=>St c (a.p.add 2) (.y 0) fun c=>az c a.p 0 [.u, .o, .u] fun (a d e:Int)=>aH c b.p 0 [.y a, .z d, .y e] fun a=>az a b.p 0 [.u, .o, .u] fun (b c d:Int)=>K b c d a):=aD Tryz.func186 (.v (.v .w))
theorem S.qcP0 {a b c K w}:Fr (C.qcP a b c K w) (A2 w [.y a, .z b, .y c] 136 fun a b=>∀c:Bool->Pw,(∀(b:Bool) (d:World),(bif b then K 1 d else ∃b,d.cell? a.p=some (.y b)/\∃c,d.cell? (a.p.add 1)=some (.z c)/\C.qdI b c (fun b c d=>Dr d fun d=>bif c !=0 then K 1 d else ∃c,d.cell? a.p=some (.y c)/\bif b !=c then K 1 d else ∃b,d.cell? (a.p.add 2)=some (.y b)/\∃c,d.cell? (a.p.add 1)=some (.z c)/\0≤c/\bif decide (b>(gy .u64 1 c)) then K 1 d else K 0 d) d)->c b d)->(∃d,b.cell? (a.p.add 1)=some (.z d)/\bif decide (d<0) then c true b else ∃d,b.cell? (a.p.add 1)=some (.z d)/\bif decide (d>20) then c true b else ∃d,b.cell? a.p=some (.y d)/\c (decide (d>1099511627776)) b)):=aD Tryz.func212 (.v (.y (.y (.r (some [(17,.c .b)]) .done) (.x .w)) (.v (.y (.y (.z (.o 0 0 (.o 1 0 (.o 2 0 (.o 3 48 (.o 4 0 (.o 5 0 (.o 6 0 (.o 7 0 (.o 8 0 (.o 9 14336 (.o 10 14336 (.o 11 0 (.o 12 0 (.o 13 0 (.o 14 0 (.o 15 0 .done))))))))))))))))) (.x .w)) .w))))
theorem S.qdg0 {a b K w}:Fr (C.qdg a b K w) (bif a==1 then C.qbT b 4 20 0 (fun a b c=>K a b c) w else bif a==2 then C.qbT b 1 8 2 (fun a b c=>K a b c) w else ∀b:Bool->Pw,(∀(c:Bool) (d:World),(bif c then K 0 80 d else C.qcv (fun b c d e f g h i j k l=>0≤a/\a<10/\∃m,(#[.z b, .z c, .z d, .z e, .z f, .z g, .z h, .z i, .z j, .z k]:Array Value)[a.toNat*1]?=some (.z m)/\K m 0 l) d)->b c d)->(bif decide (a<0) then b true w else bif decide (a≥10) then b true w else C.qcv (fun c d e f g h i j k l m=>0≤a/\a<10/\∃n,(#[.z c, .z d, .z e, .z f, .z g, .z h, .z i, .z j, .z k, .z l]:Array Value)[a.toNat*1]?=some (.z n)/\b (n==0) m) w)):=aD Tryz.func213 (.v (.y (.v .G2) (.y (.y (.r (some [(30,.c .b)]) .done) (.x .w)) .w)))
theorem S.qbT0 {a b c d K w}:Fr (C.qbT a b c d K w) (∀e:Bool->Pw,(∀(b:Bool) (c:World),(bif b then K 0 1 c else K (IntKind.i64.wrap (a+d)) 0 c)->e b c)->(bif decide (a<b) then e true w else e (decide (a>c)) w)):=aD Tryz.func259 (.v (.y (.y (.r (some [(17,.c .b)]) .done) (.x .w)) .w))
theorem S.qcv0 {K w}:Fr (C.qcv K w) (A2 w [.z 0, .z 0, .z 0, .z 0, .z 0, .z 0, .z 0, .z 0, .z 0, .z 0] 383 fun a b=>aH b a.p 0 [.z 0, .z 0, .z 0, .z 5, .z 2, .z 2, .z 6, .z 6, .z 6, .z 0] fun b=>az b a.p 0 [.o, .o, .o, .o, .o, .o, .o, .o, .o, .o] fun (a c d e f g h i j k:Int)=>K a c d e f g h i j k b):=aD Tryz.func260 (.v .w)
theorem S.qdE0 {a b c d K w}:Fr (C.qdE a b c d K w) (A2 w [.y a, .y b, .y c, .y d] 251 fun a b=>∀c:Int->Pw,(∀(b:Int) (d:World),(bif decide (b<4) then 0≤IntKind.i64.wrap (3-b)/\IntKind.i64.wrap (3-b)<4/\∃e,d.cell? (a.p.add ((IntKind.i64.wrap (3-b)).toNat*1))=some (.y e)/\bif e !=0 then 0≤IntKind.i64.wrap (3-b)/\IntKind.i64.wrap (3-b)<4/\∃e,d.cell? (a.p.add ((IntKind.i64.wrap (3-b)).toNat*1))=some (.y e)/\C.qck e (fun a c=>K (IntKind.i64.wrap ((IntKind.i64.wrap ((IntKind.i64.wrap ((IntKind.i64.wrap (3-b))*64))+a))-1)) c) d else c (IntKind.i64.wrap (b+1)) d else K (-1) d)->c b d)->c 0 b):=aD Tryz.func121 (.v (.y (.v (.x (.t (some [(5,.c (.i .i64))]) (.v (.y .w (.x (.x (.v (.v (.v (.x .w)))))))) .u))) .w))
theorem S.qdx0 {a K w}:Fr (C.qdx a K w) (∀b:Bool->Pw,(∀(c:Bool) (d:World),(bif c then K 0 1 d else C.qcB a (fun a b=>K a 0 b) d)->b c d)->(bif decide (a<0) then b true w else b (decide (a>64)) w)):=aD Tryz.func207 .Is
theorem S.qdF0 {a b c d e f K w}:Fr (C.qdF a b c d e f K w) (A2 w [.y a, .y b, .y c, .y d] 251 fun a b=>A2 b [.y 0, .y 0, .y 0, .y 0] 251 fun b c=>C.qdM e (fun c d=>bif !c then aH d b.p 0 [.y 0, .y 0, .y 0, .y 0] fun c=>az c b.p 0 [.u, .u, .u, .u] fun (g h i j:Int)=>K g h i j 1 c else Dr d fun c=>(64:Int)≠0/\0≤IntKind.i64.wrap (e.tdiv 64)/\IntKind.i64.wrap (e.tdiv 64)<4/\∃d,c.cell? (a.p.add ((IntKind.i64.wrap (e.tdiv 64)).toNat*1))=some (.y d)/\(64:Int)≠0/\0≤(e.tmod 64)/\0≤IntKind.i64.wrap (e.tdiv 64)/\IntKind.i64.wrap (e.tdiv 64)<4/\(St c (a.p.add ((IntKind.i64.wrap (e.tdiv 64)).toNat*1)) (.y (fc .u64 d (gy .u64 1 (e.tmod 64)))) fun c=>bif f then Dr c fun d=>(64:Int)≠0/\0≤IntKind.i64.wrap (e.tdiv 64)/\IntKind.i64.wrap (e.tdiv 64)<4/\∃f,d.cell? (a.p.add ((IntKind.i64.wrap (e.tdiv 64)).toNat*1))=some (.y f)/\(64:Int)≠0/\0≤(e.tmod 64)/\0≤IntKind.i64.wrap (e.tdiv 64)/\IntKind.i64.wrap (e.tdiv 64)<4/\(St d (a.p.add ((IntKind.i64.wrap (e.tdiv 64)).toNat*1)) (.y (HH .u64 f (gy .u64 1 (e.tmod 64)))) fun c=>az c a.p 0 [.u, .u, .u, .u] fun (a d e f:Int)=>aH c b.p 0 [.y a, .y d, .y e, .y f] fun a=>az a b.p 0 [.u, .u, .u, .u] fun (b c d e:Int)=>K b c d e 0 a)/\True else az c a.p 0 [.u, .u, .u, .u] fun (a d e f:Int)=>aH c b.p 0 [.y a, .y d, .y e, .y f] fun a=>az a b.p 0 [.u, .u, .u, .u] fun (b c d e:Int)=>K b c d e 0 a)/\True) c):=aD Tryz.func208 (.v (.y (.v (.x .w)) (.y .g11 (.y (.v (.x .g11)) .w))))
theorem S.qdI0 {a b K w}:Fr (C.qdI a b K w) (∀c:Bool->Pw,(∀(d:Bool) (e:World),(bif d then K 0 1 e else C.qcB b (fun b c=>∃d,∃e,∃f:World,xb Tryz.prog 261 #[.y a, .y b, .y 0] c (.tuple #[.y d, .y e]) f/\bif e !=0 then K 0 2 f else K (fc .u64 d b) 0 f) e)->c d e)->(bif decide (b<0) then c true w else c (decide (b≥64)) w)):=aD Tryz.func214 (.v (.y .IQ .H3))
theorem S.qcB0 {a K w}:Fr (C.qcB a K w) (0≤a/\K (IntKind.u64.wrap ((gy .u64 1 a)-1)) w):=aD Tryz.func252 (.v .w)
theorem S.qdM0 {a K w}:Fr (C.qdM a K w) (bif decide (a≥0) then K (decide (a<256)) w else K false w):=aD Tryz.func253 (.v .w)
theorem S.qcg0 {a b c K w}:Fr (C.qcg a b c K w) (C.qcq b c (fun d e=>bif !d then K 0 1 e else Dr e fun d=>0≤b/\(C.qcB c (fun c d=>K (dw .u64 (jl .u64 a b) c) 0 d) d)/\True) w):=aD Tryz.func277 (.v (.y (.v (.x .w)) (.x (.z (.o 0 26 (.o 1 24 (.o 2 24 (.o 3 0 (.e 4 (.o 5 0 (.o 6 0 (.o 7 0 .done))))))))))))
theorem S.qcq0 {a b K w}:Fr (C.qcq a b K w) (bif decide (a≥0) then bif decide (b≥0) then bif decide (a≤64) then K (decide (b≤(IntKind.i64.wrap (64-a)))) w else K false w else K false w else K false w):=aD Tryz.func289 (.v .w)
end Go.Proofs.YtlhljbbfckbjpaaGreat
end
section
set_option maxRecDepth 8000
namespace Go.Proofs.YtlhljbbfckbjpaaGreat.Sl
open Go Go.Vc Go.Proofs
structure dj where
 kind:Int
 obj:Int
 au:Int
 aB:Int
 guard:Int
 bits:Int
deriving DecidableEq
abbrev dj.cells (c:dj):List Value:=[.z c.kind, .z c.obj, .z c.au, .y c.aB, .y c.guard, .z c.bits]
def jg (c:dj):Value:= .agg ⟨c.cells⟩
def ay:dj:=⟨0,0,0,0,0,0⟩
structure ia (c:dj):Prop where
 b0:0≤c.aB
 b1:c.aB<18446744073709551616
 g0:0≤c.guard
 g1:c.guard<18446744073709551616
def iB (g bits:Int):Bool:=decide (0≤bits/\bits≤64/\g<2^bits.toNat)
def eD (k:Int):Bool:=k==4||k==5||k==6
def eO (k:Int):Bool:=k==4||k==5
def iv (c:dj):Bool:=
 !(decide (0<c.kind)&&decide (c.kind<10)&&decide (0≤c.obj)&&decide (c.obj<2147483648)&&(decide (0≤c.au)&&decide (c.au≤7))&&iB c.guard c.bits)
  ||(!eD c.kind&&c.au !=7)||(c.aB !=0&& !eO c.kind)||(c.bits !=0&&c.kind !=2)
def cv (c:dj):Int:=if c=ay then 0 else if iv c then 40 else 0
theorem wrap_u64 (z:Nat):IntKind.u64.wrap (z:Int)=((z%2^64:Nat):Int):=by
 have e1:(2:Int)^64=18446744073709551616:=by decide
 have e2:(2:Nat)^64=18446744073709551616:=by decide
 simp only[IntKind.wrap,IntKind.bits,IntKind.signed,e1,e2,Bool.false_and,Bool.false_eq_true,if_false];omega
theorem wg (n:Nat) (hn:n≤64):IntKind.u64.wrap (gy .u64 1 (n:Int)-1)=((2^n-1:Nat):Int):=by
 have e2:(2:Nat)^64=18446744073709551616:=by decide
 have hp:0<2^n:=Nat.two_pow_pos n;unfold gy;rw[Int.toNat_natCast,show IntKind.u64.bits=64 from rfl,Nat.min_eq_left hn,Int.one_mul,show ((2:Int)^n)=((2^n:Nat):Int) from by simp,wrap_u64];by_cases e:n=64
 ·subst e
  rw[e2];rfl
 ·have hlt:2^n<2^64:=Nat.pow_lt_pow_right om om
  rw[Nat.mod_eq_of_lt hlt,show (((2^n:Nat):Int)-1)=((2^n-1:Nat):Int) from by omega,wrap_u64,Nat.mod_eq_of_lt om]
theorem nO (z:Nat):BitVec.ofInt IntKind.u64.bits (z:Int)=BitVec.ofNat 64 z:=by
 apply BitVec.eq_of_toNat_eq;simp[IntKind.bits,BitVec.toNat_ofInt]
theorem vF (v n:Nat) (hv:v<2^64) (hn:n≤64):dw .u64 (v:Int) ((2^n-1:Nat):Int)=((v%2^n:Nat):Int):=by
 have hp:0<2^n:=Nat.two_pow_pos n;have hle:2^n≤2^64:=Nat.pow_le_pow_right om hn;unfold dw;rw[nO,nO]
 have h1:(BitVec.ofNat 64 v &&& BitVec.ofNat 64 (2^n-1)).toNat=v%2^n:=by
  rw[BitVec.toNat_and,BitVec.toNat_ofNat,BitVec.toNat_ofNat,Nat.mod_eq_of_lt hv,Nat.mod_eq_of_lt om,Nat.and_two_pow_sub_one_eq_mod]
 show IntKind.u64.wrap (((BitVec.ofNat 64 v &&& BitVec.ofNat 64 (2^n-1)).toNat:Nat):Int)=_;rw[h1,wrap_u64,Nat.mod_eq_of_lt (Nat.lt_of_le_of_lt (Nat.mod_le _ _) hv)]
theorem zi (v n:Nat) (hv:v<2^64) (hn:n≤64):(fc .u64 (v:Int) ((2^n-1:Nat):Int)==0)=decide (v<2^n):=by
 have hp:0<2^n:=Nat.two_pow_pos n;have hle:2^n≤2^64:=Nat.pow_le_pow_right om hn;unfold fc;rw[nO,nO];have hgl:∀(z j:Nat),j<64->(BitVec.ofNat 64 z).getLsbD j=z.testBit j:=fun z j hj=>by rw[BitVec.getLsbD_ofNat];simp[hj]
 have hbit:∀j,j<64->(BitVec.ofNat 64 v &&& ~~~ BitVec.ofNat 64 (2^n-1)).toNat.testBit j=(v.testBit j&& !decide (j<n)):=fun j hj=>by
  rw[BitVec.testBit_toNat,BitVec.getLsbD_and,BitVec.getLsbD_not,hgl _ _ hj,hgl _ _ hj,Nat.testBit_two_pow_sub_one];simp[hj]
 have hlt:=(BitVec.ofNat 64 v &&& ~~~ BitVec.ofNat 64 (2^n-1)).isLt;show (IntKind.u64.wrap (((BitVec.ofNat 64 v &&& ~~~ BitVec.ofNat 64 (2^n-1)).toNat:Nat):Int)==0)=_;generalize hz:(BitVec.ofNat 64 v &&& ~~~ BitVec.ofNat 64 (2^n-1)).toNat=z at hbit hlt;rw[wrap_u64,Nat.mod_eq_of_lt hlt];rw[Bool.eq_iff_iff];simp only[beq_iff_eq,decide_eq_true_eq];constructor
 ·intro h0
  have h0:z=0:=by omega
  subst h0;refine Nat.lt_pow_two_of_testBit v fun i hi=>?_
  by_cases h64:i<64
  ·have:=hbit i h64
   rw[Nat.zero_testBit] at this;simp only[show ¬i<n from by omega,decide_false,Bool.not_false,Bool.and_true] at this;exact this.symm
  ·exact Nat.testBit_lt_two_pow (Nat.lt_of_lt_of_le hv (Nat.pow_le_pow_right om om))
 ·intro hvn
  have:z=0:=by
   apply Nat.eq_of_testBit_eq;intro i;rw[Nat.zero_testBit];by_cases h64:i<64
   ·rw[hbit i h64]
    by_cases hin:i<n
    ·simp[hin]
    ·rw[Nat.testBit_lt_two_pow (Nat.lt_of_lt_of_le hvn (Nat.pow_le_pow_right om om))];rfl
   ·exact Nat.testBit_lt_two_pow (Nat.lt_of_lt_of_le hlt (Nat.pow_le_pow_right om om))
  omega
theorem ko (x k:Nat) (hk:k≤64):jl .u64 (x:Int) (k:Int)=((x / 2^k:Nat):Int):=by
 unfold jl;rw[Int.toNat_natCast,show IntKind.u64.bits=64 from rfl,Nat.min_eq_left hk];rw[show ((2:Int)^k)=((2^k:Nat):Int) from by simp];rw[Int.fdiv_eq_ediv_of_nonneg _ (Int.natCast_nonneg _)];simp
section
variable {B:Nat} {w0 w:World} {R:List aA}
theorem fa {n:Nat} {K:Int->Pw} (hn:n≤64) (h:K ((2^n-1:Nat):Int) w):C.qcB (n:Int) K w:=by
 apply S.qcB0;rw[wg n hn];exact ⟨om,h⟩
theorem rJ {n:Int} {K:Int->Int->Pw} (h1:¬(0≤n/\n≤64)->K 0 1 w) (h2:∀k:Nat,n=(k:Int)->k≤64->K ((2^k-1:Nat):Int) 0 w):C.qdx n K w:=by
 apply S.qdx0;intro k2 hk2;by_cases e:n<0
 ·rw[show decide (n<0)=true from by simpa using e,cond_true]
  apply hk2;rw[cond_true];exact h1 om
 ·rw[show decide (n<0)=false from by simpa using e,cond_false]
  apply hk2;by_cases e2:n>64
  ·rw[show decide (n>64)=true from by simpa using e2,cond_true];exact h1 om
  ·rw[show decide (n>64)=false from by simpa using e2,cond_false]
   obtain ⟨k,rfl⟩:=Int.eq_ofNat_of_zero_le (by omega:0≤n);exact fa om (h2 k rfl om)
theorem ry {g bits:Int} {K:Bool->Pw} (h0:0≤g) (h1:g<18446744073709551616) (h:K (iB g bits) w):C.qdv g bits K w:=by
 apply S.qdv0;have e2:(2:Nat)^64=18446744073709551616:=by decide
 refine rJ (fun hn=>?_) (fun k hk hk2=>?_)
 ·rw[show ((1:Int)==0)=false from rfl,cond_false]
  have:iB g bits=false:=by unfold iB;rw[decide_eq_false];rintro ⟨h1,h2,_⟩;exact hn ⟨h1,h2⟩
  rw[this] at h;exact h
 ·subst hk
  rw[show ((0:Int)==0)=true from rfl,cond_true];obtain ⟨v,rfl⟩:=Int.eq_ofNat_of_zero_le h0;rw[zi v k om hk2]
  have:iB (v:Int) (k:Int)=decide (v<2^k):=by
   unfold iB;rw[decide_eq_decide,Int.toNat_natCast,show ((2:Int)^k)=((2^k:Nat):Int) from by simp];omega
  rw[this] at h;exact h
theorem jv {n:Int} {K:Bool->Pw} (h:K (decide (0≤n)&&decide (n≤7)) w):C.qcZ n K w:=by
 apply S.qcZ0;by_cases e:0≤n
 ·rw[show decide (n≥0)=true from by simpa using e,cond_true]
  rw[show decide (0≤n)=true from by simpa using e,Bool.true_and] at h;exact h
 ·rw[show decide (n≥0)=false from by simpa using e,cond_false]
  rw[show decide (0≤n)=false from by simpa using e,Bool.false_and] at h;exact h
theorem iW {k:Int} {K:Bool->Pw} (h:K (eD k) w):C.qcK k K w:=by
 apply S.qcK0;unfold eD at h;cases h4:k==4 with
 |true=>rw[cond_true];rw[h4] at h;exact h
 |false=>
  rw[cond_false];cases h5:k==5 with
  |true=>rw[cond_true];rw[h4,h5] at h;exact h
  |false=>rw[cond_false];rw[h4,h5] at h;exact h
theorem ju {k:Int} {K:Bool->Pw} (h:K (eO k) w):C.qda k K w:=by
 apply S.qda0;unfold eO at h;cases h4:k==4 with
 |true=>rw[cond_true];rw[h4] at h;exact h
 |false=>rw[cond_false];rw[h4] at h;exact h
theorem I3 (a b:dj):oQ Tryz.prog 9 207 a.cells b.cells=some (decide (a=b)):=by
 have h:oQ Tryz.prog 9 207 a.cells b.cells=some (a.kind==b.kind&&(a.obj==b.obj&&(a.au==b.au&&(a.aB==b.aB&&(a.guard==b.guard&&(a.bits==b.bits&&true)))))):=by kernel_rfl
 rw[h];congr 1;rw[Bool.eq_iff_iff];simp only[Bool.and_true,Bool.and_eq_true,beq_iff_eq,decide_eq_true_eq];cases a;cases b;simp only[dj.mk.injEq]
theorem Ie {x y:Operand} (a b:dj):FM Tryz.prog .eql 207 x y (.agg ⟨a.cells⟩) (.agg ⟨b.cells⟩) (decide (a=b)):=G0 (by kernel_rfl) (by kernel_rfl) (by kernel_rfl) (I3 a b)
theorem gR {c:dj} {K:Int->Pw} (h:Ow B w0 w R) (hc:ia c) (hK:∀w',Ow B w0 w' R->K (cv c) w'):C.qcY c.kind c.obj c.au c.aB c.guard c.bits K w:=by
 apply S.qcY0;refine h.al fun w1 h=>?_
 have hcell:∀w',Ow B w0 w' (aa w.heap.size c.cells::R)->Ow B w0 w' (aa w.heap.size c.cells::R):=fun _ h=>h
 have h:Ow B w0 w1 (aa w.heap.size c.cells::R):=h;simp only[aI,Nat.zero_add];intro k8 hk8
 have fin:k8 (decide (0<c.kind)&&decide (c.kind<10)&&decide (0≤c.obj)&&decide (c.obj<2147483648)&&(decide (0≤c.au)&&decide (c.au≤7))&&iB c.guard c.bits) w1:=by
  generalize hr:(decide (0<c.kind)&&decide (c.kind<10)&&decide (0≤c.obj)&&decide (c.obj<2147483648)&&(decide (0≤c.au)&&decide (c.au≤7))&&iB c.guard c.bits)=right;apply hk8;refine h.rC 0 rfl rfl ?_;refine ⟨_,Ie c ay, ?_⟩;have hb:iv c=(!right||(!eD c.kind&&c.au !=7)||(c.aB !=0&& !eO c.kind)||(c.bits !=0&&c.kind !=2)):=by unfold iv;rw[hr]
  have hE:=hK w1 h.drop;unfold cv at hE;by_cases e:c=ay
  ·rw[decide_eq_true e,cond_true];rw[if_pos e] at hE;exact hE
  rw[decide_eq_false e,cond_false];rw[if_neg e,hb] at hE;intro k18 hk18
  have rest:(!right||(!eD c.kind&&c.au !=7))=false->k18 false w1:=by
   intro h0;rw[h0,Bool.false_or] at hE;apply hk18;rw[cond_false];intro k21 hk21;refine ⟨c.aB,h.jS 0 rfl rfl, ?_⟩
   have last:(c.aB !=0&& !eO c.kind)=false->k21 false w1:=by
    intro h1;rw[h1,Bool.false_or] at hE;apply hk21;rw[cond_false];refine ⟨c.bits,h.jS 0 rfl rfl, ?_⟩;cases hbits:c.bits !=0 with
    |false=>rw[cond_false];rw[hbits,Bool.false_and,if_neg (by simp)] at hE;exact hE
    |true=>
     rw[cond_true];rw[hbits,Bool.true_and] at hE;refine ⟨c.kind,h.jS 0 rfl rfl, ?_⟩;cases hk:c.kind !=2 with
     |true=>rw[cond_true];rw[hk,if_pos rfl] at hE;exact hE
     |false=>rw[cond_false];rw[hk,if_neg (by simp)] at hE;exact hE
   cases hbad:c.aB !=0 with
   |false=>rw[cond_false];exact last (by rw[hbad];rfl)
   |true=>
    rw[cond_true];refine ⟨c.kind,h.jS 0 rfl rfl, ?_⟩;refine ju ?_;cases hbg:eO c.kind with
    |true=>exact last (by rw[hbg];simp)
    |false=>
     apply hk21;rw[Bool.not_false,cond_true,cond_true];rw[hbad,hbg] at hE;simpa using hE
  cases hright:right with
  |false=>
   rw[Bool.not_false,cond_true];apply hk18;rw[cond_true];rw[hright] at hE;simpa using hE
  |true=>
   rw[Bool.not_true,cond_false];refine ⟨c.kind,h.jS 0 rfl rfl, ?_⟩;refine iW ?_;cases hlim:eD c.kind with
   |true=>rw[Bool.not_true,cond_false];exact rest (by rw[hright,hlim];simp)
   |false=>
    rw[Bool.not_false,cond_true];refine ⟨c.au,h.jS 0 rfl rfl, ?_⟩;cases hr7:c.au !=7 with
    |false=>exact rest (by rw[hright,hr7];simp)
    |true=>
     apply hk18;rw[cond_true];rw[hright,hlim,hr7] at hE;simpa using hE
 refine ⟨c.kind,h.jS 0 rfl rfl, ?_⟩;by_cases e1:0<c.kind
 ·rw[show decide (c.kind>0)=true from by simpa using e1,cond_true]
  refine ⟨c.kind,h.jS 0 rfl rfl, ?_⟩;by_cases e2:c.kind<10
  ·rw[show decide (c.kind<10)=true from by simpa using e2,cond_true]
   refine ⟨c.obj,h.jS 0 rfl rfl, ?_⟩;by_cases e3:0≤c.obj
   ·rw[show decide (c.obj≥0)=true from by simpa using e3,cond_true]
    refine ⟨c.obj,h.jS 0 rfl rfl, ?_⟩;by_cases e4:c.obj<2147483648
    ·rw[show decide (c.obj<2147483648)=true from by simpa using e4,cond_true]
     refine ⟨c.au,h.jS 0 rfl rfl, ?_⟩;refine jv ?_;cases e5:(decide (0≤c.au)&&decide (c.au≤7)) with
     |false=>
      rw[cond_false];simpa [e5] using fin
     |true=>
      rw[cond_true];refine ⟨c.guard,h.jS 0 rfl rfl,c.bits,h.jS 0 rfl rfl, ?_⟩;refine ry hc.g0 hc.g1 ?_;rw[show decide (0<c.kind)=true from by simpa using e1,show decide (c.kind<10)=true from by simpa using e2,show decide (0≤c.obj)=true from by simpa using e3,show decide (c.obj<2147483648)=true from by simpa using e4,e5] at fin;simpa using fin
    ·rw[show decide (c.obj<2147483648)=false from by simpa using e4,cond_false]
     rw[show decide (c.obj<2147483648)=false from by simpa using e4] at fin;simpa using fin
   ·rw[show decide (c.obj≥0)=false from by simpa using e3,cond_false]
    rw[show decide (0≤c.obj)=false from by simpa using e3] at fin;simpa using fin
  ·rw[show decide (c.kind<10)=false from by simpa using e2,cond_false]
   rw[show decide (c.kind<10)=false from by simpa using e2] at fin;simpa using fin
 ·rw[show decide (c.kind>0)=false from by simpa using e1,cond_false]
  rw[show decide (0<c.kind)=false from by simpa using e1] at fin;simpa using fin
end
end Go.Proofs.YtlhljbbfckbjpaaGreat.Sl
end
section
set_option maxRecDepth 100000
namespace Go.Proofs.YtlhljbbfckbjpaaGreat
open Go Go.Vc Go.Proofs
theorem S.qds0 {K w}:Fr (C.qds K w) (Al w (.map #[] 0) fun a=>A2 a [.slice none 0 0, .map (some w.heap.size)] 187 fun a b=>K (some a.p) b):=aD Tryz.func52 (.v .w)
theorem S.qbt0 {a b K w}:Fr (C.qbt a b K w) (∀c:Bool->Pw,(∀(d:Bool) (e:World),(bif d then K 0 1 e else ∃c,a=some c/\∃d:Sl,e.cell? c=some (.slice d.a d.len d.cap)/\bif decide ((d.len:Int)≥64) then K 0 2 e else ∃c,a=some c/\∃d:Sl,e.cell? c=some (.slice d.a d.len d.cap)/\A2 e [.z b] 3 fun b c=>∃e f,bo Tryz.prog [22,22] 22 (.slice d.a d.len d.cap) (.slice (some b.p) 1 1) c e f/\∃b,a=some b/\St f b (.slice e.a e.len e.cap) fun b=>∃c,a=some c/\∃a:Sl,b.cell? c=some (.slice a.a a.len a.cap)/\K (IntKind.i64.wrap ((a.len:Int)-1)) 0 b)->c d e)->(bif decide (b<1) then c true w else c (decide (b>8)) w)):=aD Tryz.func57 (.v (.y (.x (.y (.r (some [(6,.c .b)]) .done) (.y .w (.v (.x .w))))) (.v .w)))
theorem S.qbu0 {a K w}:Fr (C.qbu a K w) (∃b,a=some b/\∃c,w.cell? (b.add 1)=some (.map c)/\C.qc c (fun b c=>C.qJ b (.func (.func 114) #[] #[]) (fun b c=>∀d:Sl->Int->Pw,(∀(c:Sl) (e:Int) (f:World),(bif decide (e<(b.len:Int)) then ∃g,b.a=some g/\0≤e/\e<(b.len:Int)/\az f (g.add (e.toNat*2)) 0 [.o, .o] fun (b g:Int)=>A2 f [.z 0, .z 0] 204 fun h i=>aH i h.p 0 [.z b, .z g] fun b=>Dr b fun b=>∃g,a=some g/\∃a,b.cell? (g.add 1)=some (.map a)/\az b h.p 0 [.o, .o] fun (g i:Int)=>az b h.p 0 [.o, .o] fun (j k:Int)=>(∃f,∃l,∃m,∃n,∃o,∃p,wW Tryz.prog 185 (.map a) (.agg #[.z g, .z i]) (.agg #[.z f, .z l, .z m, .y n, .y o, .z p]) b/\vz b h.p 0 [.z j, .z k] ((A2 b [.z j, .z k, .z f, .z l, .z m, .y n, .y o, .z p] 243 fun a b=>(∃f g,bo Tryz.prog [79,79] 79 (.slice c.a c.len c.cap) (.slice (some a.p) 1 1) b f g/\d f (IntKind.i64.wrap (e+1)) g)/\True)/\True))/\True else K c f)->d c e f)->d ⟨none,0,0⟩ 0 c) c) w):=aD Tryz.func83 (.v (.v (.y (.v (.x (.t (some [(3,.c .s),(13,.c (.i .i64))]) (.v (.y .w (.x (.x (.v (.z (.o 0 1022 (.o 2 66 (.o 3 66 (.o 4 66 (.o 5 66 (.o 6 2 (.hold 1 128 2559 (.e 7 (.o 8 0 (.e 9 (.e 10 (.o 11 0 .done)))))))))))))))))) .u))) .w)))
theorem S.qbR0 {a b c d e f g h i K w}:Fr (C.qbR a b c d e f g h i K w) (A2 w [.z b, .z c] 204 fun b c=>A2 c [.z d, .z e, .z f, .y g, .y h, .z i] 207 fun c d=>az d c.p 0 [.o, .o, .o, .u, .u, .o] fun (e f g h i j:Int)=>C.qcY e f g h i j (fun d e=>∀f:Bool->Pw,(∀(e:Bool) (g:World),(az g b.p 0 [.o, .o] fun (f h:Int)=>C.qW a f h (fun f g=>bif !f then K 50 g else bif d !=0 then K d g else ∃d,g.cell? c.p=some (.z d)/\bif d==0 then K 1 g else bif e then K 51 g else Dr g fun d=>∃e,a=some e/\∃a,d.cell? (e.add 1)=some (.map a)/\az d b.p 0 [.o, .o] fun (b e:Int)=>az d c.p 0 [.o, .o, .o, .u, .u, .o] fun (c f g h i j:Int)=>(∃k:World,fL Tryz.prog 185 (.map a) (.agg #[.z b, .z e]) (.agg #[.z c, .z f, .z g, .y h, .y i, .z j]) d k/\K 0 k)/\True) g)->f e g)->(Dr e fun c=>∃d,a=some d/\∃a,c.cell? (d.add 1)=some (.map a)/\az c b.p 0 [.o, .o] fun (b d:Int)=>(∃e,∃g,∃h,∃i,∃j,∃k,∃l,oM Tryz.prog 185 (.map a) (.agg #[.z b, .z d]) (.agg #[.z e, .z g, .z h, .y i, .y j, .z k]) l c/\(A2 c [.z 0, .z 0, .z 0, .y 0, .y 0, .z 0] 207 fun a b=>(aH b a.p 0 [.z e, .z g, .z h, .y i, .y j, .z k] fun a=>f l a)/\True)/\True)/\(A2 c [.z 0, .z 0, .z 0, .y 0, .y 0, .z 0] 207 fun c e=>(∃g,∃h,∃i,∃j,∃k,∃l,∃m,oM Tryz.prog 185 (.map a) (.agg #[.z b, .z d]) (.agg #[.z g, .z h, .z i, .y j, .y k, .z l]) m e/\(aH e c.p 0 [.z g, .z h, .z i, .y j, .y k, .z l] fun a=>f m a)/\True)/\True)/\True)) d):=aD Tryz.func88 (.v (.v (.y (.r (some [(9,.c .b)]) .g3) (.y (.x (.v (.y .w (.v .Jc)))) .g17))))
def S.qdB (a1:Int) (a2:Int) (b3:Int) (b4:Int) (K:Int->Pw) (w:World):Prop:=Al w (.cells #[.z a1, .z a2] 204) fun w5=>Al w5 (.cells #[.z b3, .z b4] 204) fun w6=>Dr w6 fun w7=>∃node8,w7.cell? (Addr.mk w.heap.size 0 none)=some (.z node8)/\∃node9,w7.cell? (Addr.mk w5.heap.size 0 none)=some (.z node9)/\∃i10,w7.cell? ((Addr.mk w.heap.size 0 none).add 1)=some (.z i10)/\∃i11,w7.cell? ((Addr.mk w5.heap.size 0 none).add 1)=some (.z i11)/\(C.qbS node8 node9 (fun r12 w13=>w13.cell? ((Addr.mk w5.heap.size 0 none).add 1)=some (.z i11)/\w13.cell? ((Addr.mk w.heap.size 0 none).add 1)=some (.z i10)/\(C.qbS i10 i11 (fun r14 w15=>(Al w15 (.cells #[.z r12, .z r14] 3) fun w16=>(C.qdu ⟨some (Addr.mk w15.heap.size 0 none),2,2⟩ (fun r17 w18=>K r17 w18) w16)/\True)/\True) w13)/\True) w7)/\True
theorem S.qdB0 (a1:Int) (a2:Int) (b3:Int) (b4:Int) (K:Int->Pw) (w:World) (h:S.qdB a1 a2 b3 b4 K w):C.qdB a1 a2 b3 b4 K w:=
 JE Tryz.func114 (.t none (.u) (.t none (.r none (.one 0 492 (.one 1 492 (.one 2 480 (.one 3 480 (.one 5 400 (.one 7 80 (.hold 6 272 4607 (.hold 8 16 4607 (.alt 4 (.alt 9 (.alt 10 (.alt 11 (.one 12 0 (.done)) (.none)) (.none)) (.none)) (.none))))))))))) (.u))) [(0, .c (.i .i64))] [.agg #[.z a1, .z a2], .agg #[.z b3, .z b4]] K rfl (by kernel_rfl) (by kernel_rfl) h
theorem S.qW0 {a b c K w}:Fr (C.qW a b c K w) (A2 w [.z b, .z c] 204 fun b c=>∃d,c.cell? b.p=some (.z d)/\C.qbx a d (fun a c d=>Dr d fun d=>bif c then ∃c,d.cell? (b.p.add 1)=some (.z c)/\bif decide (c≥0) then ∃c,d.cell? (b.p.add 1)=some (.z c)/\0≤a/\K (decide (c<(gy .i64 1 a))) d else K false d else K false d) c):=aD Tryz.func118 (.v (.v (.x (.z (.o 0 0 (.o 1 0 (.o 2 0 (.o 3 0 (.o 4 0 (.o 5 0 (.o 6 0 (.o 7 1536 (.o 8 1536 (.o 9 0 (.o 10 0 (.o 11 0 (.o 12 0 (.o 13 0 .done))))))))))))))))))
theorem S.qbx0 {a b K w}:Fr (C.qbx a b K w) (∀c:Bool->Pw,(∀(d:Bool) (e:World),(bif d then K 0 false e else ∃c,a=some c/\∃a:Sl,e.cell? c=some (.slice a.a a.len a.cap)/\∃c,a.a=some c/\0≤b/\b<(a.len:Int)/\∃a,e.cell? (c.add (b.toNat*1))=some (.z a)/\K a true e)->c d e)->(bif decide (b<0) then c true w else ∃d,a=some d/\∃e:Sl,w.cell? d=some (.slice e.a e.len e.cap)/\bif decide (b≥(e.len:Int)) then c true w else ∃d,a=some d/\∃a:Sl,w.cell? d=some (.slice a.a a.len a.cap)/\∃d,a.a=some d/\0≤b/\b<(a.len:Int)/\∃a,w.cell? (d.add (b.toNat*1))=some (.z a)/\c (a==(-1)) w)):=aD Tryz.func164 (.v (.y (.y (.r (some [(26,.c .b)]) .done) (.x .w)) .w))
theorem S.qV0 {a b c K w}:Fr (C.qV a b c K w) (A2 w [.z b, .z c] 204 fun b c=>A2 c [.z 0, .z 0, .z 0, .y 0, .y 0, .z 0] 207 fun c d=>az d b.p 0 [.o, .o] fun (e f:Int)=>C.qW a e f (fun d e=>bif !d then aH e c.p 0 [.z 0, .z 0, .z 0, .y 0, .y 0, .z 0] fun d=>az d c.p 0 [.o, .o, .o, .u, .u, .o] fun (f g h i j k:Int)=>K f g h i j k 50 d else Dr e fun d=>∃e,a=some e/\∃a,d.cell? (e.add 1)=some (.map a)/\az d b.p 0 [.o, .o] fun (b e:Int)=>(∃f,∃g,∃h,∃i,∃j,∃k,wW Tryz.prog 185 (.map a) (.agg #[.z b, .z e]) (.agg #[.z f, .z g, .z h, .y i, .y j, .z k]) d/\(aH d c.p 0 [.z f, .z g, .z h, .y i, .y j, .z k] fun a=>az a c.p 0 [.o, .o, .o, .u, .u, .o] fun (b c d e f g:Int)=>K b c d e f g 0 a)/\True)/\True) d):=aD Tryz.func175 (.v (.y (.v (.x .w)) (.x (.z (.o 0 16 (.o 1 16 (.o 2 16 (.o 3 16 (.o 4 0 (.e 5 (.e 6 (.o 7 0 .done))))))))))))
theorem S.qcc0 {a b c d e K w}:Fr (C.qcc a b c d e K w) (A2 w [.z b, .z c] 204 fun b c=>A2 c [.z d, .z e] 204 fun c d=>∀e:Addr->Bool->Pw,(∀(d:Addr) (f:Bool) (g:World),(∀e:Bool->Pw,(∀(g:Bool) (h:World),(∀e:Bool->Pw,(∀(h:Bool) (i:World),(bif h then K 50 i else bif !f then K 52 i else bif g then K 51 i else Dr i fun e=>∃f,a=some f/\∃g,e.cell? (f.add 1)=some (.map g)/\az e b.p 0 [.o, .o] fun (b f:Int)=>(∃h:World,tP Tryz.prog [185,204] 0 (.map g) (.agg #[.z b, .z f]) e h/\Dr h fun b=>∃e,a=some e/\∃a,b.cell? (e.add 1)=some (.map a)/\az b c.p 0 [.o, .o] fun (c e:Int)=>az b d 0 [.o, .o, .o, .u, .u, .o] fun (d f g h i j:Int)=>(∃k:World,fL Tryz.prog 185 (.map a) (.agg #[.z c, .z e]) (.agg #[.z d, .z f, .z g, .y h, .y i, .z j]) b k/\K 0 k)/\True)/\True)->e h i)->(az h b.p 0 [.o, .o] fun (b d:Int)=>C.qW a b d (fun b d=>bif !b then e true d else az d c.p 0 [.o, .o] fun (b c:Int)=>C.qW a b c (fun a b=>e (!a) b) d) h))->e g h)->(Dr g fun b=>∃d,a=some d/\∃a,b.cell? (d.add 1)=some (.map a)/\az b c.p 0 [.o, .o] fun (c d:Int)=>(∃f,∃g,∃h,∃i,∃j,∃k,∃l,oM Tryz.prog 185 (.map a) (.agg #[.z c, .z d]) (.agg #[.z f, .z g, .z h, .y i, .y j, .z k]) l b/\(A2 b [.z 0, .z 0, .z 0, .y 0, .y 0, .z 0] 207 fun a b=>(aH b a.p 0 [.z f, .z g, .z h, .y i, .y j, .z k] fun a=>e l a)/\True)/\True)/\(A2 b [.z 0, .z 0, .z 0, .y 0, .y 0, .z 0] 207 fun b f=>(∃g,∃h,∃i,∃j,∃k,∃l,∃m,oM Tryz.prog 185 (.map a) (.agg #[.z c, .z d]) (.agg #[.z g, .z h, .z i, .y j, .y k, .z l]) m f/\(aH f b.p 0 [.z g, .z h, .z i, .y j, .y k, .z l] fun a=>e m a)/\True)/\True)/\True))->e d f g)->(Dr d fun c=>∃d,a=some d/\∃a,c.cell? (d.add 1)=some (.map a)/\az c b.p 0 [.o, .o] fun (b d:Int)=>(∃f,∃g,∃h,∃i,∃j,∃k,∃l,oM Tryz.prog 185 (.map a) (.agg #[.z b, .z d]) (.agg #[.z f, .z g, .z h, .y i, .y j, .z k]) l c/\(A2 c [.z 0, .z 0, .z 0, .y 0, .y 0, .z 0] 207 fun a b=>(aH b a.p 0 [.z f, .z g, .z h, .y i, .y j, .z k] fun b=>e a.p l b)/\True)/\True)/\(A2 c [.z 0, .z 0, .z 0, .y 0, .y 0, .z 0] 207 fun c f=>(∃g,∃h,∃i,∃j,∃k,∃l,∃m,oM Tryz.prog 185 (.map a) (.agg #[.z b, .z d]) (.agg #[.z g, .z h, .z i, .y j, .y k, .z l]) m f/\(aH f c.p 0 [.z g, .z h, .z i, .y j, .y k, .z l] fun a=>e c.p m a)/\True)/\True)/\True)):=aD Tryz.func181 (.v (.y (.r (some [(7,.c .q),(8,.c .b)]) .g3) (.y (.r (some [(10,.c .b)]) .g3) (.y (.x (.y (.r (some [(29,.c .b)]) .done) .Jc)) (.y .g22 .g17)))))
theorem S.qbA0 {a b c K w}:Fr (C.qbA a b c K w) (A2 w [.z b, .z c] 204 fun b c=>A2 c [.z 0, .z 0, .z 0, .y 0, .y 0, .z 0] 207 fun c d=>∀e:Addr->Bool->Pw,(∀(d:Addr) (f:Bool) (g:World),(az g b.p 0 [.o, .o] fun (e h:Int)=>C.qW a e h (fun e g=>bif !e then aH g c.p 0 [.z 0, .z 0, .z 0, .y 0, .y 0, .z 0] fun e=>az e c.p 0 [.o, .o, .o, .u, .u, .o] fun (h i j k l m:Int)=>K h i j k l m 50 e else bif !f then aH g c.p 0 [.z 0, .z 0, .z 0, .y 0, .y 0, .z 0] fun e=>az e c.p 0 [.o, .o, .o, .u, .u, .o] fun (f h i j k l:Int)=>K f h i j k l 52 e else Dr g fun e=>∃f,a=some f/\∃a,e.cell? (f.add 1)=some (.map a)/\az e b.p 0 [.o, .o] fun (b f:Int)=>(∃g:World,tP Tryz.prog [185,204] 0 (.map a) (.agg #[.z b, .z f]) e g/\az g d 0 [.o, .o, .o, .u, .u, .o] fun (a b d e f h:Int)=>aH g c.p 0 [.z a, .z b, .z d, .y e, .y f, .z h] fun a=>az a c.p 0 [.o, .o, .o, .u, .u, .o] fun (b c d e f g:Int)=>K b c d e f g 0 a)/\True) g)->e d f g)->(Dr d fun c=>∃d,a=some d/\∃a,c.cell? (d.add 1)=some (.map a)/\az c b.p 0 [.o, .o] fun (b d:Int)=>(∃f,∃g,∃h,∃i,∃j,∃k,∃l,oM Tryz.prog 185 (.map a) (.agg #[.z b, .z d]) (.agg #[.z f, .z g, .z h, .y i, .y j, .z k]) l c/\(A2 c [.z 0, .z 0, .z 0, .y 0, .y 0, .z 0] 207 fun a b=>(aH b a.p 0 [.z f, .z g, .z h, .y i, .y j, .z k] fun b=>e a.p l b)/\True)/\True)/\(A2 c [.z 0, .z 0, .z 0, .y 0, .y 0, .z 0] 207 fun c f=>(∃g,∃h,∃i,∃j,∃k,∃l,∃m,oM Tryz.prog 185 (.map a) (.agg #[.z b, .z d]) (.agg #[.z g, .z h, .z i, .y j, .y k, .z l]) m f/\(aH f c.p 0 [.z g, .z h, .z i, .y j, .y k, .z l] fun a=>e c.p m a)/\True)/\True)/\True)):=aD Tryz.func221 (.v (.y (.r (some [(6,.c .q),(7,.c .b)]) .g3) (.y .G2 .g19)))
theorem S.qcr0 {K w}:Fr (C.qcr K w) (A2 w [.z 0, .map none, .z 0, .map none, .z 0, .map none, .z 0, .map none, .z 0, .map none, .z 0, .map none, .z 0, .map none, .z 0, .map none, .z 0, .map none, .z 0, .map none, .z 0, .map none, .z 0, .map none, .z 0, .map none, .z 0, .map none, .z 0, .map none, .z 0, .map none, .z 0, .map none, .z 0, .map none, .z 0, .map none, .z 0, .map none, .z 0, .map none, .z 0, .map none, .z 0, .map none, .z 0, .map none, .z 0, .map none, .z 0, .map none, .z 0, .map none, .z 0, .map none, .z 0, .map none, .z 0, .map none, .z 0, .map none, .z 0, .map none, .z 0, .map none, .z 0, .map none, .z 0, .map none, .z 0, .map none, .z 0, .map none, .z 0, .map none, .z 0, .map none, .z 0, .map none, .z 0, .map none, .z 0, .map none, .z 0, .map none, .z 0, .map none, .z 0, .map none, .z 0, .map none, .z 0, .map none, .z 0, .map none, .z 0, .map none, .z 0, .map none, .z 0, .map none, .z 0, .map none, .z 0, .map none, .z 0, .map none, .z 0, .map none, .z 0, .map none, .z 0, .map none, .z 0, .map none, .z 0, .map none, .z 0, .map none, .z 0, .map none, .z 0, .map none, .z 0, .map none, .z 0, .map none] 196 fun a b=>K (some a.p) b):=aD Tryz.func54 (.v .w)
theorem S.qaO0 {a K w}:Fr (C.qaO a K w) (∃b,a=some b/\∃a:Array Value,a.size=128/\(∀c,c<128->w.cell? (b.add c)=a[c]?)/\∀b:Sl->Int->Pw,(∀(c:Sl) (d:Int) (e:World),(bif decide (d<64) then 0≤d/\d<64/\∃f,(a:Array Value)[d.toNat*2+0]?=some (.z f)/\∃g,(a:Array Value)[d.toNat*2+1]?=some (.map g)/\A2 e [.z 0, .map none] 193 fun a h=>aH h a.p 0 [.z f, .map g] fun f=>az f a.p 0 [.o, .m] fun (a:Int) (g:Option Nat)=>C.qP a g (fun a e=>∃f g,bo Tryz.prog [216,216] 216 (.slice c.a c.len c.cap) (.slice a.a a.len a.cap) e f g/\b f (IntKind.i64.wrap (d+1)) g) f else K c e)->b c d e)->b ⟨none,0,0⟩ 0 w):=aD Tryz.func128 (.v (.v (.y (.v (.x (.t (some [(3,.c .s),(10,.c (.i .i64))]) .FG .u))) .w)))
theorem S.qP0 {a b K w}:Fr (C.qP a b K w) (A2 w [.z a, .map b] 193 fun a b=>∃c,b.cell? (a.p.add 1)=some (.map c)/\C.qR c (fun b c=>C.qdj b (fun b c=>∀d:Sl->Int->Pw,(∀(c:Sl) (e:Int) (f:World),(bif decide (e<(b.len:Int)) then ∃g,b.a=some g/\0≤e/\e<(b.len:Int)/\∃b,f.cell? (g.add (e.toNat*1))=some (.z b)/\∃g,f.cell? (a.p.add 1)=some (.map g)/\∃a,∃h,wW Tryz.prog 191 (.map g) (.z b) (.agg #[.z a, .z h]) f/\A2 f [.z b, .z a, .z h] 220 fun a b=>∃g h,bo Tryz.prog [216,216] 216 (.slice c.a c.len c.cap) (.slice (some a.p) 1 1) b g h/\d g (IntKind.i64.wrap (e+1)) h else K c f)->d c e f)->d ⟨none,0,0⟩ 0 c) c) b):=aD Tryz.func172 (.v (.v (.y (.v (.x (.t (some [(3,.c .s),(11,.c (.i .i64))]) .FG .u))) .w)))
theorem S.qbs0 {a b c K w}:Fr (C.qbs a b c K w) (A2 w [.z c] 3 fun c d=>∀e:Bool->Pw,(∀(d:Bool) (f:World),(bif d then K 1 f else ∀d:Bool->Pw,(∀(e:Bool) (f:World),(bif e then K 140 f else Dr f fun d=>∃e,d.cell? c.p=some (.z e)/\∃c,a=some c/\(Al d (.map #[] 0) fun a=>0≤b/\b<64/\(aH a (c.add (b.toNat*2)) 0 [.z e, .map (some d.heap.size)] fun a=>K 0 a)/\True)/\True)->d e f)->(∃e,a=some e/\0≤b/\b<64/\∃g,f.cell? ((e.add (b.toNat*2)).add 1)=some (.map g)/\bif !g.isNone then d true f else ∃b,a=some b/\C.qf ⟨dV (some b) 0 64 2,64-0,64-0⟩ (.func (.func 237) #[] #[.pointer (some c.p)]) (fun a b=>d a b) f))->e d f)->(C.qcp b (fun a b=>bif !a then e true b else ∃a,b.cell? c.p=some (.z a)/\e (decide (a<0)) b) d)):=aD Tryz.func197 (.v (.y .IQ (.v (.y (.y (.r (some [(31,.c .b)]) .done) (.x .w)) (.y (.z (.o 0 30 (.o 1 124 (.o 2 104 (.o 5 24 (.o 6 24 (.e 3 (.o 4 0 (.o 7 0 (.e 8 .done)))))))))) .w)))))
theorem S.qbz0 {a b c d K w}:Fr (C.qbz a b c d K w) (A2 w [.z c, .z d] 38 fun c d=>∀e:Bool->Pw,(∀(d:Bool) (f:World),(bif d then K 1 f else C.qbi a b (fun a d e=>bif !d then K 141 e else ∃d,a=some d/\∃f,e.cell? (d.add 1)=some (.map f)/\∃d,∃g,∃h,oM Tryz.prog 191 (.map f) (.z b) (.agg #[.z d, .z g]) h e/\A2 e [.z 0, .z 0] 38 fun e f=>aH f e.p 0 [.z d, .z g] fun d=>bif h then K 140 d else Dr d fun d=>∃e,a=some e/\∃a,d.cell? (e.add 1)=some (.map a)/\az d c.p 0 [.o, .o] fun (c e:Int)=>(∃f:World,fL Tryz.prog 191 (.map a) (.z b) (.agg #[.z c, .z e]) d f/\K 0 f)/\True) f)->e d f)->(C.qcC b (fun a b=>bif !a then e true b else ∃a,b.cell? c.p=some (.z a)/\bif decide (a<0) then e true b else ∃a,b.cell? (c.p.add 1)=some (.z a)/\C.qcR a (fun a b=>e (!a) b) b) d)):=aD Tryz.func198 (.v (.y (.y (.r (some [(24,.c .b)]) .done) (.x .w)) (.v (.y (.v (.x .w)) (.y (.v (.v (.x .w))) .g17)))))
theorem S.qaq0 {a b K w}:Fr (C.qaq a b K w) (A2 w [.z 0, .z 0] 38 fun c d=>C.qcC b (fun d e=>bif !d then aH e c.p 0 [.z 0, .z 0] fun d=>az d c.p 0 [.o, .o] fun (f g:Int)=>K f g 1 d else C.qbP a b (fun d e f g=>A2 g [.z 0, .z 0] 38 fun g h=>aH h g.p 0 [.z d, .z e] fun d=>bif !f then aH d c.p 0 [.z 0, .z 0] fun e=>az e c.p 0 [.o, .o] fun (f h:Int)=>K f h 141 e else C.qbi a b (fun a _ d=>∃e,a=some e/\∃a,d.cell? (e.add 1)=some (.map a)/\∃e:World,tP Tryz.prog [191,3] 0 (.map a) (.z b) d e/\az e g.p 0 [.o, .o] fun (a b:Int)=>aH e c.p 0 [.z a, .z b] fun a=>az a c.p 0 [.o, .o] fun (b c:Int)=>K b c 0 a) d) e) d):=aD Tryz.func199 (.v (.y (.v (.x .w)) .Ja))
theorem S.qcp0 {a K w}:Fr (C.qcp a K w) (bif decide (a≥0) then K (decide (a<64)) w else K false w):=aD Tryz.func236 (.v .w)
theorem S.qbB0 {a b c K w}:Fr (C.qbB a b c K w) (A2 w [.z a, .map b] 193 fun a b=>∃d,b.cell? (a.p.add 1)=some (.map d)/\bif !d.isNone then ∃d,b.cell? a.p=some (.z d)/\∃a,b.cell? c=some (.z a)/\K (d==a) b else K false b):=aD Tryz.func237 (.v .w)
theorem S.qcC0 {a K w}:Fr (C.qcC a K w) (bif decide (a≥0) then K (decide (a<4096)) w else K false w):=aD Tryz.func239 (.v .w)
theorem S.qcR0 {a K w}:Fr (C.qcR a K w) (bif decide (a≥0) then K (decide (a≤7)) w else K false w):=aD Tryz.func240 (.v .w)
theorem S.qbi0 {a b K w}:Fr (C.qbi a b K w) (C.qcg (IntKind.u64.wrap b) 6 6 (fun b _ c=>Dr c fun c=>∃d,a=some d/\0≤b/\b<64/\∃e,a=some e/\0≤b/\b<64/\∃a,c.cell? ((e.add (b.toNat*2)).add 1)=some (.map a)/\K (some (d.add (b.toNat*2))) (!a.isNone) c) w):=aD Tryz.func241 (.v (.v (.x (.z (.o 0 8162 (.o 1 8172 (.o 2 8160 (.o 3 8160 (.o 4 8160 (.o 5 8256 (.o 6 8576 (.o 7 8192 (.o 8 8192 (.o 9 8192 (.o 10 8192 (.o 11 8192 (.o 12 8192 (.o 13 0 (.o 14 0 .done)))))))))))))))))))
theorem S.qbP0 {a b K w}:Fr (C.qbP a b K w) (A2 w [.z 0, .z 0] 38 fun c d=>C.qcC b (fun d e=>bif !d then aH e c.p 0 [.z 0, .z 0] fun d=>az d c.p 0 [.o, .o] fun (f g:Int)=>K f g false d else C.qbi a b (fun a _ d=>∃e,a=some e/\∃a,d.cell? (e.add 1)=some (.map a)/\∃e,∃f,∃g,oM Tryz.prog 191 (.map a) (.z b) (.agg #[.z e, .z f]) g d/\A2 d [.z 0, .z 0] 38 fun a b=>aH b a.p 0 [.z e, .z f] fun b=>az b a.p 0 [.o, .o] fun (a d:Int)=>aH b c.p 0 [.z a, .z d] fun a=>az a c.p 0 [.o, .o] fun (b c:Int)=>K b c g a) e) d):=aD Tryz.func242 .Ja
theorem S.qbe0 {a b K w}:Fr (C.qbe a b K w) (C.qaO a (fun a c=>∀d:Sl->Int->Pw,(∀(c:Sl) (e:Int) (f:World),(bif decide (e<(a.len:Int)) then ∃g,a.a=some g/\0≤e/\e<(a.len:Int)/\az f (g.add (e.toNat*3)) 0 [.o, .o, .o] fun (a g h:Int)=>A2 f [.z 0, .z 0, .z 0] 220 fun i j=>aH j i.p 0 [.z a, .z g, .z h] fun a=>∃g,a.cell? (i.p.add 1)=some (.z g)/\bif g==b then ∃b,a.cell? i.p=some (.z b)/\A2 a [.z b] 3 fun b g=>∃h i,bo Tryz.prog [22,22] 22 (.slice c.a c.len c.cap) (.slice (some b.p) 1 1) g h i/\d h (IntKind.i64.wrap (e+1)) i else d c (IntKind.i64.wrap (e+1)) a else K c f)->d c e f)->d ⟨none,0,0⟩ 0 c) w):=aD Tryz.func266 (.v (.v (.y (.v (.x (.t (some [(5,.c .s),(11,.c (.i .i64))]) .Jb .u))) .w)))
theorem S.qce0 {a b K w}:Fr (C.qce a b K w) (∀c:Bool->Pw,(∀(d:Bool) (e:World),(bif d then K 0 false e else ∃c,a=some c/\0≤b/\b<64/\∃a,e.cell? (c.add (b.toNat*2))=some (.z a)/\K a true e)->c d e)->(C.qcp b (fun d e=>bif !d then c true e else ∃d,a=some d/\0≤b/\b<64/\∃a,e.cell? ((d.add (b.toNat*2)).add 1)=some (.map a)/\c a.isNone e) w)):=aD Tryz.func267 (.v (.y (.y (.r (some [(18,.c .b)]) .done) (.x .w)) .w))
theorem S.qbQ0 {a b K w}:Fr (C.qbQ a b K w) (C.qcp b (fun c d=>bif !c then K ⟨none,0,0⟩ 1 d else ∃c,a=some c/\0≤b/\b<64/\∃e,d.cell? ((c.add (b.toNat*2)).add 1)=some (.map e)/\bif e.isNone then K ⟨none,0,0⟩ 141 d else ∃c,a=some c/\0≤b/\b<64/\az d (c.add (b.toNat*2)) 0 [.o, .m] fun (c:Int) (e:Option Nat)=>C.qP c e (fun c d=>∃e,a=some e/\0≤b/\b<64/\aH d (e.add (b.toNat*2)) 0 [.z 0, .map none] fun a=>K c 0 a) d) w):=aD Tryz.func268 .JB
end Go.Proofs.YtlhljbbfckbjpaaGreat
end
section
set_option maxRecDepth 8000
namespace Go.Proofs.YtlhljbbfckbjpaaGreat.Sl
open Go Go.Vc Go.Proofs
abbrev Slot:=Int × Int
abbrev Hs:=Slot->Option dj
abbrev eT (s:Sl):Value:= .slice s.a s.len s.cap
def eR (bits:List Int) (n:Int):Option Int:=if n<0 then none else match bits[n.toNat]? with|some z=>if z= -1 then none else some z|none=>none
def bC (bits:List Int) (s:Slot):Bool:=match eR bits s.1 with|some z=>decide (0≤s.2/\s.2<2^z.toNat)|none=>false
structure tV (bits:List Int) (H:Hs):Prop where
 gT:bits.length≤64
 wX:∀z∈bits,z= -1∨(1≤z/\z≤8)
 held:∀s c,H s=some c->bC bits s=true/\cv c=0/\c.kind≠0/\ia c
def cW (H:Hs) (s:Slot) (o:Option dj):Hs:=fun k=>if k=s then o else H k
structure Nx where
 s:Sl
 m:Nat
 M:List (Slot × dj)
abbrev jm (m:Nat) (M:List (Slot × dj)):aA:=dI cY jg m M
def av (b:Nat) (bits:List Int) (H:Hs):aA:=pV fun x:Nx=>bh [dX (tV bits H/\∀k,cF x.M k=H k),aa b [eT x.s, .map (some x.m)],ah aG x.s bits,jm x.m x.M]
theorem kp {bits:List Int} {n z:Int} (h:eR bits n=some z):0≤n/\bits[n.toNat]?=some z/\z≠ -1:=by
 unfold eR at h;split at h
 ·cases h
 ·split at h
  ·split at h
   ·cases h
   ·cases h;exact ⟨om,by assumption,by assumption⟩
  ·cases h
theorem pG {bits:List Int} {H:Hs} (hk:tV bits H) {n z:Int} (h:eR bits n=some z):1≤z/\z≤8:=by
 obtain ⟨_,h2,h3⟩:=kp h;rcases hk.wX z (List.mem_of_getElem? h2) with e|e
 ·exact absurd e h3
 ·exact e
theorem ib:iU Tryz.prog 204 cY:=
 zE Tryz.underlying204 Tryz.underlying3 Tryz.underlying3 (by decide) (by decide) rfl rfl (fun a b c d=>by kernel_rfl)
theorem y4 (w:World):(zeroValue 207).run Tryz.prog w= .ok (jg ay) w:=Tryz.zeroValue207 w
section
variable {B:Nat} {w0 w:World} {R L:List aA} {b:Nat} {bits:List Int} {H:Hs}
theorem _root_.Go.Vc.Ow.nodes (h:Ow B w0 w (av b bits H::R)):∃x:Nx,tV bits H/\(∀k,cF x.M k=H k)/\Ow B w0 w (aa b [eT x.s, .map (some x.m)]::ah aG x.s bits::jm x.m x.M::R):=by
 obtain ⟨x,h⟩:=h.ex;obtain ⟨⟨h1,h2⟩,h⟩:=Ow.pure h.star;exact ⟨x,h1,h2,h⟩
theorem _root_.Go.Vc.Ow.eF {s:Sl} {m:Nat} {M:List (Slot × dj)} (h1:tV bits H) (h2:∀k,cF M k=H k) (h:Ow B w0 w (aa b [eT s, .map (some m)]::ah aG s bits::jm m M::R)):Ow B w0 w (av b bits H::R):=
 Ow.eP ⟨s,m,M⟩ (Ow.aY (Ow.dN ⟨h1,h2⟩ h))
theorem _root_.Go.Vc.Ow.pv (h:Ow B w0 w (av b bits H::R)):tV bits H:=by obtain ⟨_,h,_⟩:=h.nodes;exact h
theorem lQ {K:Option Addr->Pw} (h:Ow B w0 w R) (hK:∀b w',Ow B w0 w' (av b [] (fun _=>none)::R)->K (some ⟨b,0,none⟩) w'):C.qds K w:=by
 apply S.qds0;refine h.xk cY jg fun w1 h=>?_
 refine h.al fun w2 h=>?_
 refine hK _ w2 (Ow.eF (s:=⟨none,0,0⟩) (m:=w.heap.size) (M:=[]) ⟨by simp,by simp,fun s c h=>by cases h⟩ (fun k=>rfl) ?_);exact (Ow.dK h).perm (List.Perm.swap _ _ _)
theorem gh {n:Int} {K:Int->Bool->Pw} (h:Ow B w0 w L) (i:Nat) (hi:L[i]?=some (av b bits H)) (hK:K ((eR bits n).getD 0) (eR bits n).isSome w):C.qbx (some ⟨b,0,none⟩) n K w:=by
 apply S.qbx0;obtain ⟨x,hk,hM,h⟩:=(h.take i hi).nodes;have hlen:=h.len 1 rfl;intro k3 hk3;by_cases h0:n<0
 ·rw[show decide (n<0)=true from by simpa using h0,cond_true]
  apply hk3;rw[cond_true];have:eR bits n=none:=by unfold eR;rw[if_pos h0]
  rw[this] at hK;exact hK
 rw[show decide (n<0)=false from by simpa using h0,cond_false];refine ⟨_,rfl,x.s,h.jS 0 rfl rfl, ?_⟩;by_cases h1:(x.s.len:Int)≤n
 ·rw[show decide (n≥(x.s.len:Int))=true from by simpa using h1,cond_true]
  apply hk3;rw[cond_true]
  have:eR bits n=none:=by
   unfold eR;rw[if_neg h0,List.getElem?_eq_none om]
  rw[this] at hK;exact hK
 rw[show decide (n≥(x.s.len:Int))=false from by simpa using h1,cond_false];have hz:bits[n.toNat]?=some bits[n.toNat]:=gE om;obtain ⟨a,ha,hc⟩:=h.Ge 1 rfl hz;refine ⟨_,rfl,x.s,h.jS 0 rfl rfl,a,ha,om,om,_,hc, ?_⟩;apply hk3;by_cases e:bits[n.toNat]= -1
 ·rw[show (bits[n.toNat]== -1)=true from by simpa using e,cond_true]
  have:eR bits n=none:=by unfold eR;rw[if_neg h0,hz];simp[e]
  rw[this] at hK;exact hK
 ·rw[show (bits[n.toNat]== -1)=false from by simpa using e,cond_false]
  have:eR bits n=some bits[n.toNat]:=by unfold eR;rw[if_neg h0,hz];simp[e]
  rw[this] at hK;exact ⟨_,rfl,x.s,h.jS 0 rfl rfl,a,ha,om,om,_,hc,hK⟩
theorem GG (z:Nat) (hz:z≤62):gy .i64 1 (z:Int)=((2^z:Nat):Int):=by
 unfold gy;rw[Int.toNat_natCast,show IntKind.i64.bits=64 from rfl,Nat.min_eq_left om,Int.one_mul,show ((2:Int)^z)=((2^z:Nat):Int) from by simp];have hp:(2:Nat)^62=4611686018427387904:=by decide
 have:2^z≤2^62:=Nat.pow_le_pow_right om hz;rw[hp] at this;generalize 2^z=y at*
 exact wr om om
theorem cz {s:Slot} {K:Bool->Pw} (h:Ow B w0 w L) (i:Nat) (hi:L[i]?=some (av b bits H)) (hK:∀w',Ow B w0 w' L->K (bC bits s) w'):C.qW (some ⟨b,0,none⟩) s.1 s.2 K w:=by
 apply S.qW0;have hk:=(h.take i hi).pv;refine h.al fun w1 h=>?_
 refine ⟨s.1,h.jS 0 rfl rfl, ?_⟩;refine gh h (i+1) (by simpa using hi) ?_;refine h.dr fun w2 h=>?_
 cases hz:eR bits s.1 with
 |none=>
  rw[Option.isSome_none,cond_false];have:bC bits s=false:=by unfold bC;rw[hz]
  rw[←this];exact hK w2 h.drop
 |some z=>
  have hr:=pG hk hz;rw[Option.isSome_some,cond_true,Option.getD_some];refine ⟨s.2,h.ld 0 rfl rfl, ?_⟩;have hth:bC bits s=decide (0≤s.2/\s.2<2^z.toNat):=by unfold bC;rw[hz]
  by_cases e:0≤s.2
  ·rw[show decide (s.2≥0)=true from by simpa using e,cond_true]
   refine ⟨s.2,h.ld 0 rfl rfl,om, ?_⟩;obtain ⟨y,rfl⟩:=Int.eq_ofNat_of_zero_le (by omega:0≤z);rw[GG y om]
   have:decide (s.2<((2^y:Nat):Int))=bC bits s:=by
    rw[hth,decide_eq_decide,Int.toNat_natCast,show ((2:Int)^y)=((2^y:Nat):Int) from by simp];exact ⟨fun h=>⟨e,h⟩,fun h=>h.2⟩
   rw[this];exact hK w2 h.drop
  ·rw[show decide (s.2≥0)=false from by simpa using e,cond_false]
   have:bC bits s=false:=by rw[hth,decide_eq_false];rintro ⟨h1,_⟩;exact e h1
   rw[←this];exact hK w2 h.drop
end
theorem zk {B:Nat} {w0 w:World} {L:List aA} {s:Sl} {xs:List Int} {y:Int} {c:Nat} {k:Sl->Pw} (h:Ow B w0 w (aa c [.z y]::L)) (i:Nat) (hL:L[i]?=some (ah aG s xs))
  (hbig:xs.length≤1000000000000) (hk:∀s' w',s'.len=xs.length+1->Ow B w0 w' (L.set i (ah aG s' (xs++ [y])))->k s' w'):
  ∃s' w',bo Tryz.prog [22,22] 22 (.slice s.a s.len s.cap) (.slice (some (Addr.mk c 0 none)) 1 1) w s' w'/\k s' w':=
 Ow.Hg (E:=aG) (y:=y) Tryz.underlying22 (show Tryz.prog.info? 3=some Tryz.t3 from by kernel_rfl) (zv:= .z 0) (by kernel_rfl) (by kernel_rfl) rfl (by decide) h i hL (by
  have e:Tryz.t3.bytes=8:=by kernel_rfl
  rw[e];omega) hk
def gJ (bits:List Int) (z:Int):Int × Int × List Int:=if z<1∨8<z then (0,1,bits) else if 64≤bits.length then (0,2,bits) else ((bits.length:Int),0,bits++ [z])
theorem wG {bits:List Int} {n z y:Int} (h:eR bits n=some z):eR (bits++ [y]) n=some z:=by
 obtain ⟨h1,h2,h3⟩:=kp h;unfold eR;rw[if_neg om,List.getElem?_append_left (List.getElem?_eq_some_iff.1 h2).1,h2];simp[h3]
theorem wO {bits:List Int} {s:Slot} {y:Int} (h:bC bits s=true):bC (bits++ [y]) s=true:=by
 unfold bC at h⊢;cases hz:eR bits s.1 with
 |none=>rw[hz] at h;cases h
 |some z=>rw[hz] at h;rw[wG hz];exact h
theorem tV.make {bits:List Int} {H:Hs} (h:tV bits H) {z:Int} (h1:1≤z) (h2:z≤8) (hf:bits.length<64):tV (bits++ [z]) H:=by
 refine ⟨by simp;omega,fun y hy=>?_,fun s c hs=>?_⟩
 ·rcases List.mem_append.1 hy with hy|hy
  ·exact h.wX y hy
  ·simp only[List.mem_singleton] at hy;subst hy;exact .inr ⟨h1,h2⟩
 ·obtain ⟨g1,g2⟩:=h.held s c hs
  exact ⟨wO g1,g2⟩
section
variable {B:Nat} {w0 w:World} {R L:List aA} {b:Nat} {bits:List Int} {H:Hs}
theorem gg {z:Int} {K:Int->Int->Pw} (h:Ow B w0 w (av b bits H::R)) (hK:∀w',Ow B w0 w' (av b (gJ bits z).2.2 H::R)->K (gJ bits z).1 (gJ bits z).2.1 w'):C.qbt (some ⟨b,0,none⟩) z K w:=by
 apply S.qbt0;intro k3 hk3;by_cases h0:z<1
 ·rw[show decide (z<1)=true from by simpa using h0,cond_true]
  apply hk3;rw[cond_true];have e:gJ bits z=(0,1,bits):=by unfold gJ;rw[if_pos (.inl h0)]
  rw[e] at hK;exact hK w h
 rw[show decide (z<1)=false from by simpa using h0,cond_false];apply hk3;by_cases h1:8<z
 ·rw[show decide (z>8)=true from by simpa using h1,cond_true]
  have e:gJ bits z=(0,1,bits):=by unfold gJ;rw[if_pos (.inr h1)]
  rw[e] at hK;exact hK w h
 rw[show decide (z>8)=false from by simpa using h1,cond_false];obtain ⟨x,hk,hM,h⟩:=h.nodes;have hlen:=h.len 1 rfl;have hfew:=hk.gT;refine ⟨_,rfl,x.s,h.jS 0 rfl rfl, ?_⟩;by_cases h2:64≤bits.length
 ·rw[show decide ((x.s.len:Int)≥64)=true from by simp;omega,cond_true]
  have e:gJ bits z=(0,2,bits):=by unfold gJ;rw[if_neg om,if_pos h2]
  rw[e] at hK;exact hK w (Ow.eF hk hM h)
 ·rw[show decide ((x.s.len:Int)≥64)=false from by simp;omega,cond_false]
  have e:gJ bits z=((bits.length:Int),0,bits++ [z]):=by unfold gJ;rw[if_neg om,if_neg h2]
  rw[e] at hK;refine ⟨_,rfl,x.s,h.jS 0 rfl rfl, ?_⟩;refine h.al fun w1 h=>?_
  refine zk h 1 rfl om fun s' w2 hs' h=>?_
  refine ⟨_,rfl, ?_⟩;refine h.st 0 rfl rfl rfl fun w3 h=>?_
  refine ⟨_,rfl,s',h.jS 0 rfl rfl, ?_⟩;have e2:IntKind.i64.wrap ((s'.len:Int)-1)=(bits.length:Int):=by rw[wr om om];omega
  rw[e2];exact hK w3 (Ow.eF (s:=s') (hk.make om om om) hM h)
theorem gM {s:Slot} {K:Int->Int->Int->Int->Int->Int->Int->Pw} (h:Ow B w0 w L) (i:Nat) (hi:L[i]?=some (av b bits H))
  (h1:bC bits s=false->∀w',Ow B w0 w' L->K 0 0 0 0 0 0 50 w')
  (h2:bC bits s=true->∀w' c,c=(H s).getD ay->Ow B w0 w' L->K c.kind c.obj c.au c.aB c.guard c.bits 0 w'):C.qV (some ⟨b,0,none⟩) s.1 s.2 K w:=by
 apply S.qV0;refine h.al fun w1 h=>?_
 refine h.al fun w2 h=>?_
 refine h.mW 1 rfl rfl ?_;refine cz h (i+2) (by simpa using hi) fun w3 h=>?_
 cases ht:bC bits s with
 |false=>
  rw[Bool.not_false,cond_true];refine h.FJ 0 rfl rfl rfl fun w4 h=>?_
  refine h.rC 0 rfl rfl ?_;exact h1 ht w4 h.drop.drop
 |true=>
  rw[Bool.not_true,cond_false];refine h.dr fun w4 h=>?_
  have hn:Ow B w0 w4 (av b bits H::(aa w1.heap.size [.z 0, .z 0, .z 0, .y 0, .y 0, .z 0]::aa w.heap.size [.z s.1, .z s.2]::L).eraseIdx (i+2)):=h.take (i+2) (by simpa using hi);obtain ⟨x,hk,hM,hn⟩:=hn.nodes;refine ⟨_,rfl,some x.m,hn.ld 0 rfl rfl, ?_⟩;refine h.mW 1 rfl rfl ?_
  have hl:wW Tryz.prog 185 (.map (some x.m)) (cY s) (jg ((H s).getD ay)) w4:=by
   cases hs:H s with
   |none=>exact (hn.nh Tryz.underlying185 ib y4 2 rfl (by rw[hM,hs])).2
   |some c=>exact (hn.mF Tryz.underlying185 ib 2 rfl (by rw[hM,hs];rfl)).2
  generalize hc:(H s).getD ay=c at hl;refine ⟨⟨c.kind,c.obj,c.au,c.aB,c.guard,c.bits,hl, ?_,trivial⟩,trivial⟩;refine h.FJ 0 rfl rfl rfl fun w5 h=>?_
  refine h.rC 0 rfl rfl ?_;exact h2 ht w5 c hc.symm h.drop.drop
theorem AW {s:Slot} {m:Nat} {M:List (Slot × dj)} {k:Addr->Bool->Pw} (h:Ow B w0 w L) (i:Nat) (hi:L[i]?=some (jm m M)) (o:Option dj) (ho:cF M s=o)
  (hk:∀w',Ow B w0 w' (aa w.heap.size (o.getD ay).cells::L)->k ⟨w.heap.size,0,none⟩ o.isSome w'):
  (∃t52:Int,∃t53:Int,∃t54:Int,∃t55:Int,∃t56:Int,∃t57:Int,∃is58:Bool,oM Tryz.prog 185 (.map (some m)) (.agg #[.z s.1, .z s.2]) (.agg #[.z t52, .z t53, .z t54, .y t55, .y t56, .z t57]) is58 w/\
  (Al w (.cells #[.z (0:Int), .z (0:Int), .z (0:Int), .y (0:Int), .y (0:Int), .z (0:Int)] 207) fun w59=>
  (aH w59 (Addr.mk w.heap.size 0 none) 0 [.z t52, .z t53, .z t54, .y t55, .y t56, .z t57] fun w60=>
  k (Addr.mk w.heap.size 0 none) is58 w60)/\
  True)/\
  True)/\
  (Al w (.cells #[.z (0:Int), .z (0:Int), .z (0:Int), .y (0:Int), .y (0:Int), .z (0:Int)] 207) fun w61=>
  (∃t62:Int,∃t63:Int,∃t64:Int,∃t65:Int,∃t66:Int,∃t67:Int,∃is68:Bool,oM Tryz.prog 185 (.map (some m)) (.agg #[.z s.1, .z s.2]) (.agg #[.z t62, .z t63, .z t64, .y t65, .y t66, .z t67]) is68 w61/\
  (aH w61 (Addr.mk w.heap.size 0 none) 0 [.z t62, .z t63, .z t64, .y t65, .y t66, .z t67] fun w69=>
  k (Addr.mk w.heap.size 0 none) is68 w69)/\
  True)/\
  True)/\
  True:=by
 have hl:∀(w':World) (L':List aA) (j:Nat),Ow B w0 w' L'->L'[j]?=some (jm m M)->oM Tryz.prog 185 (.map (some m)) (cY s) (jg (o.getD ay)) o.isSome w':=by
  intro w' L' j h hj;cases o with
  |none=>exact (h.nh Tryz.underlying185 ib y4 j hj ho).1
  |some c=>exact (h.mF Tryz.underlying185 ib j hj ho).1
 generalize hc:o.getD ay=c at hl hk;refine ⟨⟨c.kind,c.obj,c.au,c.aB,c.guard,c.bits,o.isSome,hl w L i h hi, ?_,trivial⟩, ?_,trivial⟩
 ·refine h.al fun w2 h=>⟨?_,trivial⟩
  refine h.FJ 0 rfl rfl rfl fun w3 h=>?_
  exact hk w3 h
 ·refine h.al fun w2 h=>⟨⟨c.kind,c.obj,c.au,c.aB,c.guard,c.bits,o.isSome,hl w2 _ (i+1) h (by simpa using hi), ?_,trivial⟩,trivial⟩
  refine h.FJ 0 rfl rfl rfl fun w3 h=>?_
  exact hk w3 h
end
theorem tV.put {bits:List Int} {H:Hs} (h:tV bits H) {s:Slot} {c:dj} (h1:bC bits s=true) (h2:cv c=0) (h3:c.kind≠0) (h4:ia c):tV bits (cW H s (some c)):=by
 refine ⟨h.gT,h.wX,fun s' c' hs=>?_⟩;unfold cW at hs;split at hs
 ·rename_i e;subst e;cases hs;exact ⟨h1,h2,h3,h4⟩
 ·exact h.held s' c' hs
theorem tV.del {bits:List Int} {H:Hs} (h:tV bits H) (s:Slot):tV bits (cW H s none):=by
 refine ⟨h.gT,h.wX,fun s' c' hs=>?_⟩;unfold cW at hs;split at hs
 ·cases hs
 ·exact h.held s' c' hs
theorem u4 {M:List (Slot × dj)} {H:Hs} (h:∀k,cF M k=H k) (s:Slot) (c:dj):∀k,cF (iQ M s c) k=cW H s (some c) k:=fun k=>by
 rw[pk,h k];unfold cW;by_cases e:s=k
 ·subst e;simp
 ·have:¬k=s:=fun h=>e h.symm
  rw[if_neg e,if_neg this]
theorem u3 {M:List (Slot × dj)} {H:Hs} (hn:(M.map (·.1)).Nodup) (h:∀k,cF M k=H k) (s:Slot):∀k,cF (kL M s) k=cW H s none k:=fun k=>by
 rw[pj hn,h k];unfold cW;by_cases e:s=k
 ·subst e;simp
 ·have:¬k=s:=fun h=>e h.symm
  rw[if_neg e,if_neg this]
theorem _root_.Go.Vc.Ow.zK {B:Nat} {w0 w:World} {L:List aA} {m:Nat} {M:List (Slot × dj)} (h:Ow B w0 w L) (i:Nat) (hi:L[i]?=some (jm m M)):(M.map (·.1)).Nodup:=(h.take i hi).head fun _ h=>h.2.nodup
def pA (bits:List Int) (H:Hs) (s:Slot) (c:dj):Int × Hs:=
 if bC bits s=false then (50,H) else if cv c≠0 then (cv c,H) else if c.kind=0 then (1,H) else if (H s).isSome then (51,H) else (0,cW H s (some c))
section
variable {B:Nat} {w0 w:World} {R L:List aA} {b:Nat} {bits:List Int} {H:Hs}
theorem gN {s:Slot} {c:dj} {K:Int->Pw} (hc:ia c) (h:Ow B w0 w (av b bits H::R)) (hK:∀w',Ow B w0 w' (av b bits (pA bits H s c).2::R)->K (pA bits H s c).1 w'):
  C.qbR (some ⟨b,0,none⟩) s.1 s.2 c.kind c.obj c.au c.aB c.guard c.bits K w:=by
 apply S.qbR0;refine h.al fun w1 h=>?_
 refine h.al fun w2 h=>?_
 have h:Ow B w0 w2 (aa w1.heap.size c.cells::aa w.heap.size [.z s.1, .z s.2]::av b bits H::R):=h;refine h.rC 0 rfl rfl ?_;refine gR h hc fun w3 h=>?_
 intro k20 hk20;refine h.dr fun w4 h=>?_
 have h:Ow B w0 w4 (av b bits H::aa w1.heap.size c.cells::aa w.heap.size [.z s.1, .z s.2]::R):=h.take 2 rfl;have hn:=h;obtain ⟨x,hk,hM,h⟩:=h.nodes;refine ⟨_,rfl,some x.m,h.ld 0 rfl rfl, ?_⟩;refine h.mW 4 rfl rfl ?_;refine AW (k:=fun _ b w=>k20 b w) h 2 rfl (H s) (hM s) fun w5 h=>?_
 apply hk20;have h:Ow B w0 w5 (av b bits H::aa w1.heap.size c.cells::aa w.heap.size [.z s.1, .z s.2]::R):=Ow.eF hk hM h.drop;refine h.mW 2 rfl rfl ?_;refine cz h 0 rfl fun w6 h=>?_
 have fail:∀e:Int,pA bits H s c=(e,H)->K e w6:=fun e he=>by
  rw[he] at hK;have h1:Ow B w0 w6 (aa w.heap.size [.z s.1, .z s.2]::av b bits H::aa w1.heap.size c.cells::R):=h.take 2 rfl;exact hK w6 ((h1.drop.perm (List.Perm.swap _ _ _)).drop)
 cases ht:bC bits s with
 |false=>
  rw[Bool.not_false,cond_true];exact fail 50 (by unfold pA;rw[if_pos ht])
 |true=>
  have ht':¬bC bits s=false:=by rw[ht];decide
  rw[Bool.not_true,cond_false];by_cases e1:cv c=0
  ·rw[show (cv c !=0)=false from by simpa using e1,cond_false]
   refine ⟨c.kind,h.jS 1 rfl rfl, ?_⟩;by_cases e2:c.kind=0
   ·rw[show (c.kind==0)=true from by simpa using e2,cond_true]
    exact fail 1 (by unfold pA;rw[if_neg ht',if_neg (by simpa using e1),if_pos e2])
   ·rw[show (c.kind==0)=false from by simpa using e2,cond_false]
    cases e3:(H s).isSome with
    |true=>
     rw[cond_true];exact fail 51 (by unfold pA;rw[if_neg ht',if_neg (by simpa using e1),if_neg e2,if_pos e3])
    |false=>
     rw[cond_false];have ep:pA bits H s c=(0,cW H s (some c)):=by unfold pA;rw[if_neg ht',if_neg (by simpa using e1),if_neg e2,if_neg (by rw[e3];decide)]
     rw[ep] at hK;refine h.dr fun w7 h=>?_
     obtain ⟨x,hk,hM,h⟩:=h.nodes;refine ⟨_,rfl,some x.m,h.ld 0 rfl rfl, ?_⟩;refine h.mW 4 rfl rfl ?_;refine h.rC 3 rfl rfl ?_;refine ⟨?_,trivial⟩;refine h.iS (enc:=cY) (encV:=jg) (k:=s) (v:=c) Tryz.underlying185 ib 2 rfl fun w8 h=>?_
     have h1:=Ow.eF (hk.put ht e1 e2 hc) (u4 hM s c) h;have h2:Ow B w0 w8 (aa w.heap.size [.z s.1, .z s.2]::av b bits (cW H s (some c))::aa w1.heap.size c.cells::R):=h1.take 2 rfl;exact hK w8 ((h2.drop.perm (List.Perm.swap _ _ _)).drop)
  ·rw[show (cv c !=0)=true from by simpa using e1,cond_true]
   exact fail (cv c) (by unfold pA;rw[if_neg ht',if_pos e1])
theorem gi {s:Slot} {K:Int->Int->Int->Int->Int->Int->Int->Pw} (h:Ow B w0 w (av b bits H::R))
  (h1:bC bits s=false->∀w',Ow B w0 w' (av b bits H::R)->K 0 0 0 0 0 0 50 w')
  (h2:bC bits s=true->H s=none->∀w',Ow B w0 w' (av b bits H::R)->K 0 0 0 0 0 0 52 w')
  (h3:bC bits s=true->∀c,H s=some c->∀w',Ow B w0 w' (av b bits (cW H s none)::R)->K c.kind c.obj c.au c.aB c.guard c.bits 0 w'):C.qbA (some ⟨b,0,none⟩) s.1 s.2 K w:=by
 apply S.qbA0;refine h.al fun w1 h=>?_
 refine h.al fun w2 h=>?_
 have h:Ow B w0 w2 (aa w1.heap.size ay.cells::aa w.heap.size [.z s.1, .z s.2]::av b bits H::R):=h;intro k6 hk6;refine h.dr fun w3 h=>?_
 have h:Ow B w0 w3 (av b bits H::aa w1.heap.size ay.cells::aa w.heap.size [.z s.1, .z s.2]::R):=h.take 2 rfl;obtain ⟨x,hk,hM,h⟩:=h.nodes;refine ⟨_,rfl,some x.m,h.ld 0 rfl rfl, ?_⟩;refine h.mW 4 rfl rfl ?_;refine AW (k:=fun a b w=>k6 a b w) h 2 rfl (H s) (hM s) fun w4 h=>?_
 apply hk6
 have h:Ow B w0 w4 (av b bits H::aa w1.heap.size ay.cells::aa w.heap.size [.z s.1, .z s.2]::aa w3.heap.size ((H s).getD ay).cells::R):=by
  have h5:=Ow.eF hk hM h.drop;have h6:Ow B w0 w4 (aa w3.heap.size ((H s).getD ay).cells::aa b [eT x.s, .map (some x.m)]::ah aG x.s bits::jm x.m x.M::(aa w1.heap.size ay.cells::aa w.heap.size [.z s.1, .z s.2]::R)):=h
  have h7:Ow B w0 w4 (aa b [eT x.s, .map (some x.m)]::ah aG x.s bits::jm x.m x.M::(aa w1.heap.size ay.cells::aa w.heap.size [.z s.1, .z s.2]::aa w3.heap.size ((H s).getD ay).cells::R)):=by
   refine h6.perm ?_
   have p:∀(a b c d e f:aA) (R:List aA),(a::b::c::d::e::f::R).Perm (b::c::d::e::f::a::R):=fun a b c d e f R=>by
    refine (List.Perm.swap _ _ _).trans (List.Perm.cons _ ?_);refine (List.Perm.swap _ _ _).trans (List.Perm.cons _ ?_);refine (List.Perm.swap _ _ _).trans (List.Perm.cons _ ?_);refine (List.Perm.swap _ _ _).trans (List.Perm.cons _ ?_);exact List.Perm.swap _ _ _
   exact p _ _ _ _ _ _ _
  exact Ow.eF hk hM h7
 have fin:∀w' H',Ow B w0 w' (av b bits H'::aa w1.heap.size ay.cells::aa w.heap.size [.z s.1, .z s.2]::aa w3.heap.size ((H s).getD ay).cells::R)->Ow B w0 w' (av b bits H'::R):=fun w' H' h=>by
  have g1:Ow B w0 w' (aa w1.heap.size ay.cells::av b bits H'::aa w.heap.size [.z s.1, .z s.2]::aa w3.heap.size ((H s).getD ay).cells::R):=h.perm (List.Perm.swap _ _ _);exact ((g1.drop.perm (List.Perm.swap _ _ _)).drop.perm (List.Perm.swap _ _ _)).drop
 refine h.mW 2 rfl rfl ?_;refine cz h 0 rfl fun w5 h=>?_
 cases ht:bC bits s with
 |false=>
  rw[Bool.not_false,cond_true];refine h.FJ 1 rfl rfl rfl fun w6 h=>?_
  refine h.rC 1 rfl rfl ?_;exact h1 ht w6 (fin _ _ h)
 |true=>
  rw[Bool.not_true,cond_false];cases hs:H s with
  |none=>
   rw[Option.isSome_none,Bool.not_false,cond_true];refine h.FJ 1 rfl rfl rfl fun w6 h=>?_
   refine h.rC 1 rfl rfl ?_;exact h2 ht hs w6 (fin _ _ h)
  |some c=>
   rw[Option.isSome_some,Bool.not_true,cond_false];refine h.dr fun w6 h=>?_
   obtain ⟨x,hk,hM,h⟩:=h.nodes;have hnd:=h.zK 2 rfl;refine ⟨_,rfl,some x.m,h.ld 0 rfl rfl, ?_⟩;refine h.mW 4 rfl rfl ?_;refine ⟨?_,trivial⟩;refine h.Ez (enc:=cY) (encV:=jg) (k:=s) Tryz.underlying185 ib 2 rfl fun w7 h=>?_
   have h:=Ow.eF (hk.del s) (u3 hnd hM s) h;have hcell:((H s).getD ay).cells=c.cells:=by rw[hs];rfl
   rw[hcell] at h fin;refine h.rC 3 rfl rfl ?_;refine h.FJ 1 rfl rfl rfl fun w8 h=>?_
   refine h.rC 1 rfl rfl ?_;have h:Ow B w0 w8 (av b bits (cW H s none)::aa w1.heap.size c.cells::aa w.heap.size [.z s.1, .z s.2]::aa w3.heap.size c.cells::R):=h;have g1:Ow B w0 w8 (aa w1.heap.size c.cells::av b bits (cW H s none)::aa w.heap.size [.z s.1, .z s.2]::aa w3.heap.size c.cells::R):=h.perm (List.Perm.swap _ _ _);exact h3 ht c hs w8 (((g1.drop.perm (List.Perm.swap _ _ _)).drop.perm (List.Perm.swap _ _ _)).drop)
end
section
variable {B:Nat} {w0 w:World} {R L:List aA} {b:Nat} {bits:List Int} {H:Hs}
def fk (bits:List Int) (H:Hs) (f t:Slot):Int × Hs:=
 if bC bits f=false∨bC bits t=false then (50,H) else match H f with|none=>(52,H)|some c=>if (H t).isSome then (51,H) else (0,cW (cW H f none) t (some c))
theorem kO {f t:Slot} {K:Int->Pw} (h:Ow B w0 w (av b bits H::R)) (hK:∀w',Ow B w0 w' (av b bits (fk bits H f t).2::R)->K (fk bits H f t).1 w'):
  C.qcc (some ⟨b,0,none⟩) f.1 f.2 t.1 t.2 K w:=by
 apply S.qcc0;refine h.al fun w1 h=>?_
 refine h.al fun w2 h=>?_
 have h:Ow B w0 w2 (av b bits H::aa w1.heap.size [.z t.1, .z t.2]::aa w.heap.size [.z f.1, .z f.2]::R):=h.take 2 rfl;intro k8 hk8;refine h.dr fun w3 h=>?_
 obtain ⟨x,hk,hM,h⟩:=h.nodes;refine ⟨_,rfl,some x.m,h.ld 0 rfl rfl, ?_⟩;refine h.mW 4 rfl rfl ?_;refine AW (k:=fun a b w=>k8 a b w) h 2 rfl (H f) (hM f) fun w4 h=>?_
 apply hk8;intro k12 hk12
 have h:Ow B w0 w4 (aa w3.heap.size ((H f).getD ay).cells::av b bits H::aa w1.heap.size [.z t.1, .z t.2]::aa w.heap.size [.z f.1, .z f.2]::R):=by
  have p:∀(a b c d:aA) (R:List aA),(a::b::c::d::R).Perm (b::c::d::a::R):=fun a b c d R=>by
   refine (List.Perm.swap _ _ _).trans (List.Perm.cons _ ?_);refine (List.Perm.swap _ _ _).trans (List.Perm.cons _ ?_);exact List.Perm.swap _ _ _
  have q:∀(a b c d:aA) (R:List aA),(a::b::c::d::R).Perm (a::d::b::c::R):=fun a b c d R=>by
   refine List.Perm.cons _ ?_;refine (List.Perm.cons _ (List.Perm.swap _ _ _)).trans ?_;exact List.Perm.swap _ _ _
  have h5:=Ow.eF hk hM (h.perm (p _ _ _ _ _));exact h5.perm (List.Perm.swap _ _ _)
 refine h.dr fun w5 h=>?_
 have h:=h.perm (List.Perm.swap _ _ _);obtain ⟨x,hk,hM,h⟩:=h.nodes;refine ⟨_,rfl,some x.m,h.ld 0 rfl rfl, ?_⟩;refine h.mW 4 rfl rfl ?_;refine AW (k:=fun a b w=>k12 b w) h 2 rfl (H t) (hM t) fun w6 h=>?_
 apply hk12;have h:Ow B w0 w6 (av b bits H::aa w3.heap.size ((H f).getD ay).cells::aa w1.heap.size [.z t.1, .z t.2]::aa w.heap.size [.z f.1, .z f.2]::R):=Ow.eF hk hM h.drop
 have fin:∀w' H',Ow B w0 w' (av b bits H'::aa w3.heap.size ((H f).getD ay).cells::aa w1.heap.size [.z t.1, .z t.2]::aa w.heap.size [.z f.1, .z f.2]::R)->Ow B w0 w' (av b bits H'::R):=fun w' H' h=>by
  have g1:Ow B w0 w' (aa w3.heap.size ((H f).getD ay).cells::av b bits H'::aa w1.heap.size [.z t.1, .z t.2]::aa w.heap.size [.z f.1, .z f.2]::R):=h.perm (List.Perm.swap _ _ _);exact ((g1.drop.perm (List.Perm.swap _ _ _)).drop.perm (List.Perm.swap _ _ _)).drop
 intro k15 hk15
 have none':∀w',(bC bits f=false∨bC bits t=false)->Ow B w0 w' (av b bits H::aa w3.heap.size ((H f).getD ay).cells::aa w1.heap.size [.z t.1, .z t.2]::aa w.heap.size [.z f.1, .z f.2]::R)->k15 true w':=fun w' hn h=>by
  apply hk15;rw[cond_true];have e:fk bits H f t=(50,H):=by unfold fk;rw[if_pos hn]
  rw[e] at hK;exact hK w' (fin _ _ h)
 refine h.mW 3 rfl rfl ?_;refine cz h 0 rfl fun w7 h=>?_
 cases hf:bC bits f with
 |false=>rw[Bool.not_false,cond_true];exact none' w7 (.inl hf) h
 |true=>
  rw[Bool.not_true,cond_false];refine h.mW 2 rfl rfl ?_;refine cz h 0 rfl fun w8 h=>?_
  cases ht:bC bits t with
  |false=>exact none' w8 (.inr ht) h
  |true=>
   rw[Bool.not_true];apply hk15;rw[cond_false];have hn:¬(bC bits f=false∨bC bits t=false):=by rw[hf,ht];decide
   cases hs:H f with
   |none=>
    rw[Option.isSome_none,Bool.not_false,cond_true];have e:fk bits H f t=(52,H):=by unfold fk;rw[if_neg hn,hs]
    rw[e] at hK;exact hK w8 (fin _ _ h)
   |some c=>
    rw[Option.isSome_some,Bool.not_true,cond_false];cases hto:(H t).isSome with
    |true=>
     rw[cond_true];have e:fk bits H f t=(51,H):=by unfold fk;rw[if_neg hn,hs];simp only[hto,if_true]
     rw[e] at hK;exact hK w8 (fin _ _ h)
    |false=>
     rw[cond_false];have e:fk bits H f t=(0,cW (cW H f none) t (some c)):=by unfold fk;rw[if_neg hn,hs];simp[hto]
     rw[e] at hK;have hcell:((H f).getD ay).cells=c.cells:=by rw[hs];rfl
     rw[hcell] at h fin;refine h.dr fun w9 h=>?_
     obtain ⟨x,hk,hM,h⟩:=h.nodes;have hnd:=h.zK 2 rfl;obtain ⟨g1,g2,g3,g4⟩:=hk.held f c hs;refine ⟨_,rfl,some x.m,h.ld 0 rfl rfl, ?_⟩;refine h.mW 5 rfl rfl ?_;refine ⟨?_,trivial⟩;refine h.Ez (enc:=cY) (encV:=jg) (k:=f) Tryz.underlying185 ib 2 rfl fun w10 h=>?_
     refine h.dr fun w11 h=>?_
     refine ⟨_,rfl,some x.m,h.ld 0 rfl rfl, ?_⟩;refine h.mW 4 rfl rfl ?_;refine h.rC 3 rfl rfl ?_;refine ⟨?_,trivial⟩;refine h.iS (enc:=cY) (encV:=jg) (k:=t) (v:=c) Tryz.underlying185 ib 2 rfl fun w12 h=>?_
     exact hK w12 (fin _ _ (Ow.eF ((hk.del f).put ht g2 g3 g4) (u4 (u3 hnd hM f) t c) h))
end
theorem ng {α:Type}:∀{l:List α} {j:Nat} {k q:α},l.Nodup->l[j]?=some k->(q∈l.eraseIdx j↔q∈l/\q≠k)
 | [],j,k,q,_,h=>by simp at h
 |a::l,0,k,q,hn,h=>by
  simp only[List.getElem?_cons_zero,Option.some.injEq] at h;subst h;rw[List.nodup_cons] at hn;rw[List.eraseIdx_cons_zero,List.mem_cons];constructor
  ·intro hq;exact ⟨.inr hq,fun e=>hn.1 (e▸hq)⟩
  ·rintro ⟨hq|hq,hne⟩
   ·exact absurd hq hne
   ·exact hq
 |a::l,j+1,k,q,hn,h=>by
  rw[List.nodup_cons] at hn;rw[List.getElem?_cons_succ] at h;have hak:a≠k:=fun e=>hn.1 (e▸List.mem_of_getElem? h)
  rw[List.eraseIdx_cons_succ,List.mem_cons,List.mem_cons,ng hn.2 h];constructor
  ·rintro (rfl|⟨h1,h2⟩)
   ·exact ⟨.inl rfl,hak⟩
   ·exact ⟨.inr h1,h2⟩
  ·rintro ⟨rfl|h1,h2⟩
   ·exact .inl rfl
   ·exact .inr ⟨h1,h2⟩
end Go.Proofs.YtlhljbbfckbjpaaGreat.Sl
end
section
set_option maxRecDepth 100000
namespace Go.Proofs.YtlhljbbfckbjpaaGreat
open Go Go.Vc Go.Proofs
theorem S.qdC0 {K w}:Fr (C.qdC K w) (A2 w [.z 0, .z 0, .z 0, .slice none 0 0] 24 fun a b=>A2 b [.z 5] 3 fun b c=>aH c a.p 0 [.z 1, .z 10, .z 2, .slice (some b.p) 1 1] fun b=>az b a.p 0 [.o, .o, .o, .s] fun (a c d:Int) (e:Sl)=>K a c d e b):=aD Tryz.func27 (.v .w)
theorem S.qcX0 {a b c d K w}:Fr (C.qcX a b c d K w) (A2 w [.z a, .z b, .z c, .slice d.a d.len d.cap] 24 fun a b=>A2 b [.z 0, .z 0, .z 0, .slice none 0 0] 24 fun b c=>∃d,c.cell? a.p=some (.z d)/\(3:Int)≠0/\∃e,c.cell? (a.p.add 1)=some (.z e)/\(7:Int)≠0/\∃f,c.cell? (a.p.add 2)=some (.z f)/\A2 c [.z 0, .z 0, .z 0, .slice none 0 0] 24 fun c g=>aH g c.p 0 [.z (IntKind.i64.wrap (1+((dw .i64 d 65535).tmod 3))), .z (IntKind.i64.wrap (6+((dw .i64 e 65535).tmod 7))), .z (dw .i64 f 3), .slice none 0 0] fun e=>∀f:Int->Pw,(∀(e:Int) (g:World),(bif decide (e<(IntKind.i64.wrap (1+((dw .i64 d 65535).tmod 3)))) then ∃d:Sl,g.cell? (a.p.add 3)=some (.slice d.a d.len d.cap)/\∀h:Int->Pw,(∀(a:Int) (b:World),(∃d:Sl,b.cell? (c.p.add 3)=some (.slice d.a d.len d.cap)/\A2 b [.z a] 3 fun a b=>∃g h,bo Tryz.prog [22,22] 22 (.slice d.a d.len d.cap) (.slice (some a.p) 1 1) b g h/\St h (c.p.add 3) (.slice g.a g.len g.cap) fun a=>f (IntKind.i64.wrap (e+1)) a)->h a b)->(bif decide (e<(d.len:Int)) then ∃b:Sl,g.cell? (a.p.add 3)=some (.slice b.a b.len b.cap)/\∃a,b.a=some a/\0≤e/\e<(b.len:Int)/\∃b,g.cell? (a.add (e.toNat*1))=some (.z b)/\h (dw .i64 b 255) g else h 5 g) else az g c.p 0 [.o, .o, .o, .s] fun (a c d:Int) (e:Sl)=>aH g b.p 0 [.z a, .z c, .z d, .slice e.a e.len e.cap] fun a=>az a b.p 0 [.o, .o, .o, .s] fun (b c d:Int) (e:Sl)=>K b c d e a)->f e g)->f 0 e):=aD Tryz.func29 (.v (.v (.v (.y (.v (.x (.t (some [(5,.c (.i .i64))]) (.y (.v .w) (.x (.x (.v (.x (.v (.t (some [(6,.c (.i .i64))]) .u .u))))))) .u))) .w))))
theorem S.qdm0 {a b c d e f K w}:Fr (C.qdm a b c d e f K w) (A2 w [.z a, .z b, .z c, .slice d.a d.len d.cap, .slice e.a e.len e.cap, .z f] 27 fun a b=>A2 b [.z 0, .z 0, .z 0, .slice none 0 0, .slice none 0 0, .z 0] 27 fun b c=>Dr c fun c=>az c a.p 0 [.o, .o, .o, .s] fun (d e f:Int) (g:Sl)=>∃h:Sl,c.cell? (a.p.add 4)=some (.slice h.a h.len h.cap)/\∃i:Sl,c.cell? (a.p.add 4)=some (.slice i.a i.len i.cap)/\0≤ic (i.len:Int) 40/\ic (i.len:Int) 40≤(h.cap:Int)/\∃j,c.cell? (a.p.add 5)=some (.z j)/\(C.qcX d e f g (fun c d e f g=>g.cell? (a.p.add 5)=some (.z j)/\g.cell? (a.p.add 4)=some (.slice i.a i.len i.cap)/\g.cell? (a.p.add 4)=some (.slice h.a h.len h.cap)/\(A2 g [] 76 fun g k=>(∃l m,bo Tryz.prog [25,25] 25 (.slice (some g.p) 0 0) (.slice (dV h.a 0 h.cap 6) (((ic (i.len:Int) 40).toNat)-0) (h.cap-0)) k l m/\m.cell? (a.p.add 5)=some (.z j)/\(aH m b.p 0 [.z c, .z d, .z e, .slice f.a f.len f.cap, .slice l.a l.len l.cap, .z (IntKind.i64.wrap (1+(dw .i64 j 7)))] fun a=>az a b.p 0 [.o, .o, .o, .s, .s, .o] fun (b c d:Int) (e f:Sl) (g:Int)=>K b c d e f g a)/\True)/\True)/\True) c)/\(A2 c [] 76 fun c k=>(C.qcX d e f g (fun d e f g k=>k.cell? (a.p.add 5)=some (.z j)/\k.cell? (a.p.add 4)=some (.slice i.a i.len i.cap)/\k.cell? (a.p.add 4)=some (.slice h.a h.len h.cap)/\(∃l m,bo Tryz.prog [25,25] 25 (.slice (some c.p) 0 0) (.slice (dV h.a 0 h.cap 6) (((ic (i.len:Int) 40).toNat)-0) (h.cap-0)) k l m/\m.cell? (a.p.add 5)=some (.z j)/\(aH m b.p 0 [.z d, .z e, .z f, .slice g.a g.len g.cap, .slice l.a l.len l.cap, .z (IntKind.i64.wrap (1+(dw .i64 j 7)))] fun a=>az a b.p 0 [.o, .o, .o, .s, .s, .o] fun (b c d:Int) (e f:Sl) (g:Int)=>K b c d e f g a)/\True)/\True) k)/\True)/\True):=aD Tryz.func14 (.v (.x (.z (.o 0 63480 (.o 1 63480 (.o 4 62412 (.o 6 61484 (.o 12 4012 (.hold 5 58252 129023 (.hold 7 57356 129023 (.o 8 57356 (.o 9 57356 (.o 10 57356 (.hold 13 2060 131071 (.o 14 2060 (.o 15 2060 (.f 2 (.e 3 (.e 11 (.o 16 0 (.e 17 .done)))) (.e 3 (.e 2 (.e 11 (.o 16 0 (.e 17 .done))))))))))))))))))))))
theorem S.qcw0 {a K w}:Fr (C.qcw a K w) (∃b,a=some b/\∃a,w.cell? (b.add 1)=some (.pointer a)/\∀b:Sl->Option Addr->Pw,(∀(a:Sl) (c:Option Addr) (d:World),(∀e:Bool->Pw,(∀(d:Bool) (f:World),(bif d then ∃d,c=some d/\∃e,f.cell? d=some (.z e)/\A2 f [.z e] 3 fun d e=>∃g h,bo Tryz.prog [22,22] 22 (.slice a.a a.len a.cap) (.slice (some d.p) 1 1) e g h/\∃d,c=some d/\∃c,h.cell? (d.add 1)=some (.pointer c)/\b g c h else C.qam a (fun b=>K a b) f)->e d f)->(bif !c.isNone then ∃a,c=some a/\∃b,d.cell? (a.add 2)=some (.bool b)/\e b d else e false d))->b a c d)->b ⟨none,0,0⟩ a w):=aD Tryz.func26 (.v (.v (.y (.v (.x (.t (some [(3,.c .s),(4,.c .p)]) (.y (.y (.r (some [(16,.c .b)]) .done) .w) (.x .w)) .u))) (.v .w))))
theorem S.qdH0 {a K w}:Fr (C.qdH a K w) (∀b:Bool->Pw,(∀(c:Bool) (d:World),(bif c then K none 1 d else ∃(b:Sl) (c:World),nK Tryz.prog 126 (.z a) (.z a) d b c/\A2 c [.z a, .pointer none, .slice b.a b.len b.cap] 128 fun a b=>K (some a.p) 0 b)->b c d)->(bif decide (a<1) then b true w else b (decide (a>8)) w)):=aD Tryz.func32 .Is
theorem S.qar0 {a b K w}:Fr (C.qar a b K w) (C.qcF a b (fun c d=>bif !c then K 1 d else ∃c,a=some c/\∃e:Sl,d.cell? (c.add 2)=some (.slice e.a e.len e.cap)/\∃c,e.a=some c/\0≤b/\b<(e.len:Int)/\∃e,d.cell? (c.add (b.toNat*1))=some (.pointer e)/\bif !e.isNone then K 160 d else ∃c,a=some c/\∃e,d.cell? (c.add 1)=some (.pointer e)/\A2 d [.z b, .pointer e, .bool true] 130 fun c d=>∃e,a=some e/\∃f:Sl,d.cell? (e.add 2)=some (.slice f.a f.len f.cap)/\∃e,a=some e/\St d (e.add 1) (.pointer (some c.p)) fun a=>∃d,f.a=some d/\0≤b/\b<(f.len:Int)/\St a (d.add (b.toNat*1)) (.pointer (some c.p)) fun a=>K 0 a) w):=aD Tryz.func39 .JB
theorem S.qbh0 {a b K w}:Fr (C.qbh a b K w) (C.qcF a b (fun c d=>bif !c then K false 1 d else ∃c,a=some c/\∃e:Sl,d.cell? (c.add 2)=some (.slice e.a e.len e.cap)/\∃c,e.a=some c/\0≤b/\b<(e.len:Int)/\∃e,d.cell? (c.add (b.toNat*1))=some (.pointer e)/\bif e.isNone then K false 161 d else ∃c,a=some c/\∃a:Sl,d.cell? (c.add 2)=some (.slice a.a a.len a.cap)/\∃c,a.a=some c/\0≤b/\b<(a.len:Int)/\∃a,d.cell? (c.add (b.toNat*1))=some (.pointer a)/\C.qdk a (fun a b=>K a 0 b) d) w):=aD Tryz.func40 (.v (.y .G2 .w))
theorem S.qas0 {a b K w}:Fr (C.qas a b K w) (C.qbh a b (fun c d e=>bif d !=0 then K d e else bif !c then K 161 e else ∃c,a=some c/\∃d:Sl,e.cell? (c.add 2)=some (.slice d.a d.len d.cap)/\∃c,d.a=some c/\0≤b/\b<(d.len:Int)/\∃d,e.cell? (c.add (b.toNat*1))=some (.pointer d)/\∃c,d=some c/\St e (c.add 2) (.bool false) fun c=>∃e,d=some e/\St c (e.add 1) (.pointer none) fun c=>∃d,a=some d/\∃a:Sl,c.cell? (d.add 2)=some (.slice a.a a.len a.cap)/\∃d,a.a=some d/\0≤b/\b<(a.len:Int)/\St c (d.add (b.toNat*1)) (.pointer none) fun a=>K 0 a) w):=aD Tryz.func42 (.v (.v (.y .G2 (.v (.v (.v .w))))))
theorem S.qbU0 {a K w}:Fr (C.qbU a K w) (∃b,a=some b/\∃a:Sl,w.cell? (b.add 2)=some (.slice a.a a.len a.cap)/\C.qp a (.func (.func 74) #[] #[]) (fun a b=>K (ph a 0) (decide (a≥0)) b) w):=aD Tryz.func44 (.v (.v .w))
theorem S.qcF0 {a b K w}:Fr (C.qcF a b K w) (bif decide (b≥0) then ∃c,a=some c/\∃a,w.cell? c=some (.z a)/\K (decide (b<a)) w else K false w):=aD Tryz.func68 (.v .w)
theorem S.qdk0 {a K w}:Fr (C.qdk a K w) (∃b,a=some b/\∃c,w.cell? (b.add 1)=some (.pointer c)/\bif c.isNone then K true w else ∃b,a=some b/\∃a,w.cell? (b.add 1)=some (.pointer a)/\∃b,a=some b/\∃a,w.cell? (b.add 2)=some (.bool a)/\K (!a) w):=aD Tryz.func69 (.v .w)
theorem S.qbW0 {a K w}:Fr (C.qbW a K w) (bif !a.isNone then C.qdk a (fun a b=>K a b) w else K false w):=aD Tryz.func74 (.v .w)
theorem S.qdb0 {a b c d e f g h i K w}:Fr (C.qdb a b c d e f g h i K w) (A2 w [.z b, .z c, .z d, .y e, .y f, .z g] 207 fun b c=>A2 c [.z 0, .z 0] 204 fun c d=>∀e:Bool->Pw,(∀(d:Bool) (f:World),(bif d then aH f c.p 0 [.z 0, .z 0] fun d=>az d c.p 0 [.o, .o] fun (e g:Int)=>K e g 1 d else A2 f [.y h, .z i] 379 fun d e=>az e b.p 0 [.o, .o, .o, .u, .u, .o] fun (b f g h i j:Int)=>A2 e [.z 0, .z 0, .z 0, .y 0, .y 0, .z 0] 207 fun e k=>aH k e.p 0 [.z b, .z f, .z g, .y h, .y i, .z j] fun b=>∀f:Addr->Pw,(∀(b:Addr) (e:World),(az e b 0 [.o, .o, .o, .u, .u, .o] fun (g h i j k l:Int)=>C.qdq a g h i j k l (.func (.func 258) #[.pointer (some d.p)] #[]) (fun e g h i=>A2 i [.z 0, .z 0] 204 fun i j=>aH j i.p 0 [.z e, .z g] fun e=>∀g:Bool->Pw,(∀(d:Bool) (e:World),(bif d then az e i.p 0 [.o, .o] fun (d g:Int)=>aH e c.p 0 [.z d, .z g] fun d=>az d c.p 0 [.o, .o] fun (g j:Int)=>K g j h d else az e i.p 0 [.o, .o] fun (d g:Int)=>C.qV a d g (fun a d e g h i _ j=>aH j b 0 [.z a, .z d, .z e, .y g, .y h, .z i] fun a=>∃d,a.cell? b=some (.z d)/\bif d !=2 then aH a c.p 0 [.z 0, .z 0] fun d=>az d c.p 0 [.o, .o] fun (c e:Int)=>K c e 62 d else az a b 0 [.o, .o, .o, .u, .u, .o] fun (b c d e g h:Int)=>A2 a [.z 0, .z 0, .z 0, .y 0, .y 0, .z 0] 207 fun a i=>aH i a.p 0 [.z b, .z c, .z d, .y e, .y g, .z h] fun b=>f a.p b) e)->g d e)->(bif h !=0 then g true e else ∃a,some d.p=some a/\∃b,e.cell? (a.add 1)=some (.z b)/\g (b==0) e)) e)->f b e)->f e.p b)->e d f)->(bif decide (i<1) then e true d else e (decide (i>64)) d)):=aD Tryz.func211 (.v (.y (.y (.r (some [(19,.c .b)]) .done) (.x .w)) (.v (.v (.x (.t (some [(11,.c .q)]) (.y (.x (.v (.y (.y (.r (some [(42,.c .b)]) .done) (.x .w)) (.v (.v (.x .w)))))) .w) .u))))))
theorem S.qdq0 {a b c d e f g h K w}:Fr (C.qdq a b c d e f g h K w) (A2 w [.z b, .z c, .z d, .y e, .y f, .z g] 207 fun b c=>A2 c [.z 0, .z 0] 204 fun c d=>az d b.p 0 [.o, .o, .o, .u, .u, .o] fun (e f g i j k:Int)=>C.qdr a e f g i j k (fun a d e=>bif !d then aH e c.p 0 [.z 0, .z 0] fun d=>az d c.p 0 [.o, .o] fun (f g:Int)=>K f g 60 d else ∃d,e.cell? (b.p.add 5)=some (.z d)/\bY Tryz.prog (h) [.z d] e fun d e=>∃f,∃g,d= .returned (.tuple #[.y f, .bool g])/\∀d:Bool->Pw,(∀(e:Bool) (f:World),(bif e then aH f c.p 0 [.z 0, .z 0] fun d=>az d c.p 0 [.o, .o] fun (e g:Int)=>K e g 61 d else bY Tryz.prog (h) [.z a] f fun a d=>∃e,∃f,a= .returned (.tuple #[.y e, .bool f])/\bif !f then aH d c.p 0 [.z 0, .z 0] fun a=>az a c.p 0 [.o, .o] fun (f g:Int)=>K f g 62 a else ∃a,d.cell? (b.p.add 1)=some (.z a)/\aH d c.p 0 [.z a, .z (IntKind.i64.wrap e)] fun a=>az a c.p 0 [.o, .o] fun (b c:Int)=>K b c 0 a)->d e f)->(bif !g then d true e else ∃a,e.cell? (b.p.add 4)=some (.y a)/\d (f !=a) e)) d):=aD Tryz.func257 (.v (.v (.y (.v (.x .w)) (.y (.v (.y (.r (some [(37,.c .b)]) .done) (.x .w))) .G3))))
theorem S.qcd0 {a b K w}:Fr (C.qcd a b K w) (∃c,a=some c/\∃d,w.cell? (c.add 1)=some (.z d)/\bif decide (b>d) then K 0 false w else ∃c,a=some c/\∃d,w.cell? (c.add 1)=some (.z d)/\∃c,a=some c/\St w (c.add 1) (.z (IntKind.i64.wrap (d-b))) fun c=>Dr c fun c=>∃d,a=some d/\∃e,c.cell? d=some (.y e)/\∃d,a=some d/\∃a,c.cell? (d.add 1)=some (.z a)/\(C.qcg e a b (fun a _ b=>K a true b) c)/\True):=aD Tryz.func258 (.v (.y (.v (.x .w)) (.v (.y (.z (.o 0 496 (.o 1 496 (.o 2 496 (.o 3 496 (.o 4 256 (.o 5 256 (.o 6 256 (.o 7 256 (.o 8 0 (.e 9 (.o 10 0 (.o 11 4096 (.o 12 8192 (.o 13 0 (.o 14 0 .done)))))))))))))))) .w))))
theorem S.qdr0 {a b c d e f g K w}:Fr (C.qdr a b c d e f g K w) (A2 w [.z b, .z c, .z d, .y e, .y f, .z g] 207 fun b c=>∀d:Bool->Pw,(∀(c:Bool) (e:World),(bif c then K 0 false e else ∃c,e.cell? (b.p.add 1)=some (.z c)/\C.qbx a c (fun a b c=>K a b c) e)->d c e)->(∃a,c.cell? b.p=some (.z a)/\bif a !=2 then d true c else az c b.p 0 [.o, .o, .o, .u, .u, .o] fun (a b e f g h:Int)=>C.qcY a b e f g h (fun a b=>d (a !=0) b) c)):=aD Tryz.func285 (.v (.y (.y (.r (some [(13,.c .b)]) .done) (.x .w)) .w))
theorem S.qM0 {a b c d e K w}:Fr (C.qM a b c d e K w) (A2 w [.z b, .z c, .z d, .z e] 44 fun b c=>A2 c [.z 0, .z 0, .z 0, .z 0, .y 0, .z 0, .slice none 0 0, .z 0, .z 0, .bool false] 40 fun c d=>Dr d fun d=>az d b.p 0 [.o, .o, .o, .o] fun (e f g h:Int)=>∃i,a=some i/\∃j:Sl,d.cell? (i.add 3)=some (.slice j.a j.len j.cap)/\(C.qcm e f g h (j.len:Int) (fun d e=>bif !d then aH e c.p 0 [.z 0, .z 0, .z 0, .z 0, .y 0, .z 0, .slice none 0 0, .z 0, .z 0, .bool false] fun d=>az d c.p 0 [.o, .o, .o, .o, .u, .o, .s, .o, .o, .b] fun (f g h i j k:Int) (l:Sl) (m n:Int) (o:Bool)=>K f g h i j k l m n o false d else ∃d,e.cell? b.p=some (.z d)/\bif d==1 then az e b.p 0 [.o, .o, .o, .o] fun (d f g h:Int)=>C.qaF a d f g h (fun a b d e f g h i j k l m=>aH m c.p 0 [.z a, .z b, .z d, .z e, .y f, .z g, .slice h.a h.len h.cap, .z i, .z j, .bool k] fun a=>az a c.p 0 [.o, .o, .o, .o, .u, .o, .s, .o, .o, .b] fun (b c d e f g:Int) (h:Sl) (i j:Int) (k:Bool)=>K b c d e f g h i j k l a) e else ∃d,e.cell? b.p=some (.z d)/\bif d==0 then ∃d,e.cell? (b.p.add 1)=some (.z d)/\C.qaG a d (fun a b d e f g h i j k l m=>aH m c.p 0 [.z a, .z b, .z d, .z e, .y f, .z g, .slice h.a h.len h.cap, .z i, .z j, .bool k] fun a=>az a c.p 0 [.o, .o, .o, .o, .u, .o, .s, .o, .o, .b] fun (b c d e f g:Int) (h:Sl) (i j:Int) (k:Bool)=>K b c d e f g h i j k l a) e else C.qaH a (fun d e=>bif !d then aH e c.p 0 [.z 0, .z 0, .z 0, .z 0, .y 0, .z 0, .slice none 0 0, .z 0, .z 0, .bool false] fun d=>az d c.p 0 [.o, .o, .o, .o, .u, .o, .s, .o, .o, .b] fun (f g h i j k:Int) (l:Sl) (m n:Int) (o:Bool)=>K f g h i j k l m n o false d else ∃d,e.cell? b.p=some (.z d)/\bif d==2 then Dr e fun d=>∃f,a=some f/\∃g,d.cell? f=some (.pointer g)/\∃f,d.cell? (b.p.add 2)=some (.z f)/\(C.qbE g f (fun a d e=>∃f,e.cell? (b.p.add 1)=some (.z f)/\∃g,e.cell? (b.p.add 2)=some (.z g)/\aH e c.p 0 [.z 4, .z f, .z g, .z d, .y 0, .z a, .slice none 0 0, .z 0, .z 0, .bool false] fun a=>az a c.p 0 [.o, .o, .o, .o, .u, .o, .s, .o, .o, .b] fun (b c d e f g:Int) (h:Sl) (i j:Int) (k:Bool)=>K b c d e f g h i j k true a) d)/\True else Dr e fun d=>∃e,a=some e/\∃a,d.cell? e=some (.pointer a)/\∃e,d.cell? (b.p.add 1)=some (.z e)/\∃f,d.cell? (b.p.add 1)=some (.z f)/\(C.qbj a e (fun a d=>d.cell? (b.p.add 1)=some (.z f)/\(aH d c.p 0 [.z 5, .z f, .z 0, .z 0, .y 0, .z 0, .slice none 0 0, .z 0, .z 0, .bool a] fun a=>az a c.p 0 [.o, .o, .o, .o, .u, .o, .s, .o, .o, .b] fun (b c d e f g:Int) (h:Sl) (i j:Int) (k:Bool)=>K b c d e f g h i j k true a)/\True) d)/\True) e) d)/\True):=aD Tryz.func6 (.v (.y (.y (.z (.o 0 62 (.o 1 0 (.o 2 0 (.o 3 0 .I9))))) (.x .w)) (.y (.x (.v (.y .w (.v (.y .w (.v (.y .w (.v (.x (.y .g9 .w)))))))))) (.x (.z (.o 0 508 (.o 2 194 (.o 3 194 (.o 4 194 (.o 5 194 (.o 6 2 (.o 7 2 (.hold 1 256 3071 (.e 8 (.o 9 0 (.e 10 (.o 11 0 .done)))))))))))))))))
theorem S.qaC0 {a b K w}:Fr (C.qaC a b K w) (C.qbk a b (fun c d=>bif !c then K 0 false d else ∃c,a=some c/\∃a:Sl,d.cell? (c.add 3)=some (.slice a.a a.len a.cap)/\∃c,a.a=some c/\0≤b/\b<(a.len:Int)/\∃a,d.cell? ((c.add (b.toNat*7)).add 1)=some (.z a)/\K a true d) w):=aD Tryz.func7 .G3
theorem S.qaD0 {a b K w}:Fr (C.qaD a b K w) (∃c,a=some c/\∃a,w.cell? (c.add 2)=some (.pointer a)/\C.qaI a b (fun a b=>K a b) w):=aD Tryz.func8 (.v .w)
theorem S.qaE0 {a K w}:Fr (C.qaE a K w) (∃b,a=some b/\∃a,w.cell? (b.add 1)=some (.pointer a)/\C.qcw a (fun a b=>K a b) w):=aD Tryz.func10 (.v .w)
theorem S.qcW0 {a b c d e f K w}:Fr (C.qcW a b c d e f K w) (A2 w [.z a, .z b, .z c, .slice d.a d.len d.cap] 24 fun a b=>az b a.p 0 [.o, .o, .o, .s] fun (c d g:Int) (h:Sl)=>C.qdn c d g h (fun b c d=>bif c !=0 then K none c d else C.qD e (fun c d=>A2 d [.pointer b, .pointer none, .pointer none, .slice none 0 0, .slice c.a c.len c.cap] 64 fun b c=>∃d,c.cell? a.p=some (.z d)/\C.qdH d (fun c _ d=>∃e,some b.p=some e/\St d (e.add 1) (.pointer c) fun c=>∃d,c.cell? a.p=some (.z d)/\C.qdo d (fun c _ d=>∃e,some b.p=some e/\St d (e.add 2) (.pointer c) fun c=>∃d,c.cell? a.p=some (.z d)/\∀a:Int->Pw,(∀(c:Int) (e:World),(bif decide (c<d) then C.qdT f (fun d e f=>bif e !=0 then K none e f else ∃e,some b.p=some e/\∃g:Sl,f.cell? (e.add 3)=some (.slice g.a g.len g.cap)/\A2 f [.pointer d, .z 0, .z 0, .z 0, .y 0, .z 0, .slice none 0 0] 71 fun d e=>∃f h,bo Tryz.prog [62,62] 62 (.slice g.a g.len g.cap) (.slice (some d.p) 1 1) e f h/\∃d,some b.p=some d/\St h (d.add 3) (.slice f.a f.len f.cap) fun b=>a (IntKind.i64.wrap (c+1)) b) e else K (some b.p) 0 e)->a c e)->a 0 c) c) c) d) b):=aD Tryz.func15 (.v (.v (.y (.v (.x .w)) (.v (.v (.v (.y (.v (.x (.t (some [(46,.c (.i .i64))]) (.v (.y .w (.x (.x (.v (.x (.v (.x .w)))))))) .u))) .w)))))))
theorem S.qaF0 {a b c d e K w}:Fr (C.qaF a b c d e K w) (A2 w [.z b, .z c, .z d, .z e] 44 fun b c=>A2 c [.z 0, .z 0, .z 0, .z 0, .y 0, .z 0, .slice none 0 0, .z 0, .z 0, .bool false] 40 fun c d=>Dr d fun d=>∃e,a=some e/\∃f:Sl,d.cell? (e.add 3)=some (.slice f.a f.len f.cap)/\∃e,d.cell? (b.p.add 1)=some (.z e)/\∃g,f.a=some g/\0≤e/\e<(f.len:Int)/\∃f,some (g.add (e.toNat*7))=some f/\∃h,d.cell? (f.add 1)=some (.z h)/\bif h !=0 then aH d c.p 0 [.z 0, .z 0, .z 0, .z 0, .y 0, .z 0, .slice none 0 0, .z 0, .z 0, .bool false] fun f=>az f c.p 0 [.o, .o, .o, .o, .u, .o, .s, .o, .o, .b] fun (h i j k l m:Int) (n:Sl) (o p:Int) (q:Bool)=>K h i j k l m n o p q false f else ∃f,d.cell? (b.p.add 3)=some (.z f)/\bif decide (f>0) then ∃f,d.cell? (b.p.add 1)=some (.z f)/\∃h,d.cell? (b.p.add 2)=some (.z h)/\C.qaK a f h (fun a b d e f g h i j k l m=>aH m c.p 0 [.z a, .z b, .z d, .z e, .y f, .z g, .slice h.a h.len h.cap, .z i, .z j, .bool k] fun a=>az a c.p 0 [.o, .o, .o, .o, .u, .o, .s, .o, .o, .b] fun (b c d e f g:Int) (h:Sl) (i j:Int) (k:Bool)=>K b c d e f g h i j k l a) d else Dr d fun d=>∃f,d.cell? (b.p.add 2)=some (.z f)/\∃h,a=some h/\∃a:Sl,d.cell? (h.add 4)=some (.slice a.a a.len a.cap)/\bif decide (f<(a.len:Int)) then Dr d fun a=>∃f,some (g.add (e.toNat*7))=some f/\∃h,a.cell? (b.p.add 2)=some (.z h)/\(St a (f.add 1) (.z 1) fun a=>a.cell? (b.p.add 2)=some (.z h)/\∃b,some (g.add (e.toNat*7))=some b/\(St a (b.add 2) (.z h) fun a=>aH a c.p 0 [.z 0, .z 0, .z 0, .z 0, .y 0, .z 0, .slice none 0 0, .z 0, .z 0, .bool false] fun a=>az a c.p 0 [.o, .o, .o, .o, .u, .o, .s, .o, .o, .b] fun (b c d e f g:Int) (h:Sl) (i j:Int) (k:Bool)=>K b c d e f g h i j k false a)/\True)/\True else aH d c.p 0 [.z 0, .z 0, .z 0, .z 0, .y 0, .z 0, .slice none 0 0, .z 0, .z 0, .bool false] fun a=>az a c.p 0 [.o, .o, .o, .o, .u, .o, .s, .o, .o, .b] fun (b c d e f g:Int) (h:Sl) (i j:Int) (k:Bool)=>K b c d e f g h i j k false a):=aD Tryz.func18 (.v (.y (.z (.o 0 48 (.o 1 48 (.o 2 48 (.o 3 48 (.o 4 0 (.o 5 0 (.o 6 0 (.o 7 0 .done))))))))) (.y (.x (.v (.v (.v (.y .w (.y (.z (.o 0 124 (.o 1 124 (.o 2 0 (.o 3 0 (.o 4 0 (.o 5 0 (.o 6 0 (.o 7 0 (.o 8 0 .done)))))))))) (.x .g10))))))) .w)))
theorem S.qaG0 {a b K w}:Fr (C.qaG a b K w) (A2 w [.z 0, .z 0, .z 0, .z 0, .y 0, .z 0, .slice none 0 0, .z 0, .z 0, .bool false] 40 fun c d=>∃e,a=some e/\∃f:Sl,d.cell? (e.add 3)=some (.slice f.a f.len f.cap)/\∃e,f.a=some e/\0≤b/\b<(f.len:Int)/\C.qav a b (fun d f=>bif d then aH f c.p 0 [.z 0, .z 0, .z 0, .z 0, .y 0, .z 0, .slice none 0 0, .z 0, .z 0, .bool false] fun d=>az d c.p 0 [.o, .o, .o, .o, .u, .o, .s, .o, .o, .b] fun (g h i j k l:Int) (m:Sl) (n o:Int) (p:Bool)=>K g h i j k l m n o p false d else ∃d,some (e.add (b.toNat*7))=some d/\∃g,f.cell? (d.add 1)=some (.z g)/\bif g==1 then ∃d,a=some d/\∃g,f.cell? (d.add 1)=some (.pointer g)/\C.qar g b (fun _ a=>∃d,some (e.add (b.toNat*7))=some d/\St a (d.add 1) (.z 2) fun a=>∃d,some (e.add (b.toNat*7))=some d/\∃e,a.cell? (d.add 2)=some (.z e)/\aH a c.p 0 [.z 0, .z b, .z e, .z 0, .y 0, .z 0, .slice none 0 0, .z 0, .z 0, .bool false] fun a=>az a c.p 0 [.o, .o, .o, .o, .u, .o, .s, .o, .o, .b] fun (b c d e f g:Int) (h:Sl) (i j:Int) (k:Bool)=>K b c d e f g h i j k true a) f else ∃d,some (e.add (b.toNat*7))=some d/\∃g,f.cell? (d.add 1)=some (.z g)/\bif g==2 then ∃d,a=some d/\∃g,f.cell? (d.add 1)=some (.pointer g)/\C.qbh g b (fun d _ e=>bif d then C.qaW a b (fun a b d e f g h i j k l=>aH l c.p 0 [.z a, .z b, .z d, .z e, .y f, .z g, .slice h.a h.len h.cap, .z i, .z j, .bool k] fun a=>az a c.p 0 [.o, .o, .o, .o, .u, .o, .s, .o, .o, .b] fun (b c d e f g:Int) (h:Sl) (i j:Int) (k:Bool)=>K b c d e f g h i j k true a) e else aH e c.p 0 [.z 0, .z 0, .z 0, .z 0, .y 0, .z 0, .slice none 0 0, .z 0, .z 0, .bool false] fun a=>az a c.p 0 [.o, .o, .o, .o, .u, .o, .s, .o, .o, .b] fun (b c d e f g:Int) (h:Sl) (i j:Int) (k:Bool)=>K b c d e f g h i j k false a) f else ∀d:Bool->Pw,(∀(f:Bool) (g:World),(bif f then ∃d,a=some d/\∃a,g.cell? (d.add 1)=some (.pointer a)/\C.qas a b (fun _ a=>∃d,some (e.add (b.toNat*7))=some d/\St a (d.add 1) (.z 0) fun a=>Dr a fun a=>∃d,some (e.add (b.toNat*7))=some d/\∃f,some (e.add (b.toNat*7))=some f/\az a (f.add 3) 0 [.o, .u, .o, .s] fun (e f g:Int) (h:Sl)=>∃i,a.cell? (d.add 2)=some (.z i)/\(C.qcD e f g h (fun a e f g h=>h.cell? (d.add 2)=some (.z i)/\(aH h c.p 0 [.z 2, .z b, .z i, .z a, .y e, .z f, .slice g.a g.len g.cap, .z 0, .z 0, .bool false] fun a=>az a c.p 0 [.o, .o, .o, .o, .u, .o, .s, .o, .o, .b] fun (b c d e f g:Int) (h:Sl) (i j:Int) (k:Bool)=>K b c d e f g h i j k true a)/\True) a)/\True) g else aH g c.p 0 [.z 0, .z 0, .z 0, .z 0, .y 0, .z 0, .slice none 0 0, .z 0, .z 0, .bool false] fun a=>az a c.p 0 [.o, .o, .o, .o, .u, .o, .s, .o, .o, .b] fun (b c d e f g:Int) (h:Sl) (i j:Int) (k:Bool)=>K b c d e f g h i j k false a)->d f g)->(∃c,some (e.add (b.toNat*7))=some c/\∃e,f.cell? (c.add 1)=some (.z e)/\bif e==3 then ∃c,a=some c/\∃a,f.cell? (c.add 2)=some (.pointer a)/\C.qaI a b (fun a b=>d (a==0) b) f else d false f)) d):=aD Tryz.func19 (.v (.v (.y (.x (.v (.v (.v (.y (.v (.v .w)) (.v (.y (.v (.v (.x .w))) (.y (.r (some [(59,.c .b)]) .done) (.x (.v (.v (.x (.z (.o 0 1022 (.o 1 992 (.o 2 992 (.o 3 992 (.o 5 16 (.o 6 16 (.o 7 16 (.o 8 16 (.hold 4 512 6143 (.e 9 .Jd))))))))))))))))))))))) .w)))
theorem S.qaH0 {a K w}:Fr (C.qaH a K w) (∃b,a=some b/\∃a,w.cell? (b.add 1)=some (.pointer a)/\C.qbU a (fun _ a b=>K (!a) b) w):=aD Tryz.func20 (.v (.v .w))
theorem S.qbk0 {a b K w}:Fr (C.qbk a b K w) (bif decide (b≥0) then ∃c,a=some c/\∃a:Sl,w.cell? (c.add 3)=some (.slice a.a a.len a.cap)/\K (decide (b<(a.len:Int))) w else K false w):=aD Tryz.func23 (.v .w)
theorem S.qaJ0 {a K w}:Fr (C.qaJ a K w) (∃b,a=some b/\∃a,w.cell? b=some (.pointer a)/\C.qbl a (fun a b=>K a b) w):=aD Tryz.func28 (.v .w)
theorem S.qaK0 {a b c K w}:Fr (C.qaK a b c K w) (A2 w [.z 0, .z 0, .z 0, .z 0, .y 0, .z 0, .slice none 0 0, .z 0, .z 0, .bool false] 40 fun d e=>∃f,a=some f/\∃g:Sl,e.cell? (f.add 3)=some (.slice g.a g.len g.cap)/\∃f,g.a=some f/\0≤b/\b<(g.len:Int)/\∃g,some (f.add (b.toNat*7))=some g/\∃h,e.cell? g=some (.pointer h)/\C.qdd h 0 c (fun e g h i=>A2 i [.z 0, .z 0] 38 fun i j=>aH j i.p 0 [.z e, .z g] fun e=>∀g:Bool->Pw,(∀(a:Bool) (e:World),(az e i.p 0 [.o, .o] fun (f g:Int)=>aH e d.p 0 [.z 3, .z b, .z c, .z 0, .y 0, .z 0, .slice none 0 0, .z f, .z g, .bool a] fun a=>az a d.p 0 [.o, .o, .o, .o, .u, .o, .s, .o, .o, .b] fun (b c d e f g:Int) (h:Sl) (i j:Int) (k:Bool)=>K b c d e f g h i j k true a)->g a e)->(bif !h then C.qaM a c (fun a d e h=>aH h i.p 0 [.z a, .z d] fun a=>bif e then Dr a fun d=>∃h,some (f.add (b.toNat*7))=some h/\∃b,d.cell? h=some (.pointer b)/\az d i.p 0 [.o, .o] fun (f h:Int)=>(C.qde b 0 c f h (fun a=>g e a) d)/\True else g e a) e else g h e)) e):=aD Tryz.func37 (.v (.v (.v (.y (.v (.t (some [(10,.c .b)]) (.v (.v (.x (.z (.o 0 112 (.o 1 112 (.o 2 112 (.o 3 112 (.o 4 32 (.o 5 0 (.o 6 0 (.e 7 .done)))))))))))) .u)) .w))))
theorem S.qav0 {a b K w}:Fr (C.qav a b K w) (∃c,a=some c/\∃d,w.cell? (c.add 2)=some (.pointer d)/\C.qbm d b (fun c d e f g=>A2 g [.z 0, .z 0, .z 0] 123 fun g h=>aH h g.p 0 [.z c, .z d, .z e] fun c=>bif f then Dr c fun d=>∃e,a=some e/\∃a:Sl,d.cell? (e.add 3)=some (.slice a.a a.len a.cap)/\∃e,a.a=some e/\0≤b/\b<(a.len:Int)/\∃a,d.cell? (e.add (b.toNat*7))=some (.pointer a)/\∃b,d.cell? (g.p.add 2)=some (.z b)/\(4096:Int)≠0/\∃e,d.cell? (g.p.add 2)=some (.z e)/\(4096:Int)≠0/\(C.qcE a (IntKind.i64.wrap (b.tdiv 4096)) (e.tmod 4096) (fun _ a=>K f a) d)/\True else K f c) w):=aD Tryz.func38 (.v (.v (.y (.v (.x (.z (.o 0 16144 (.o 1 16144 (.o 2 16144 (.o 3 16144 (.o 4 16128 (.o 5 16128 (.o 6 16128 (.o 7 16128 .g18))))))))))) .w)))
theorem S.qaW0 {a b K w}:Fr (C.qaW a b K w) (A2 w [.z 0, .z 0, .z 0, .z 0, .y 0, .z 0, .slice none 0 0, .z 0, .z 0, .bool false] 40 fun c d=>∃e,a=some e/\∃f:Sl,d.cell? (e.add 3)=some (.slice f.a f.len f.cap)/\∃e,f.a=some e/\0≤b/\b<(f.len:Int)/\Dr d fun d=>∃f,a=some f/\∃g,d.cell? f=some (.pointer g)/\∃f,a=some f/\∃h:Sl,d.cell? (f.add 4)=some (.slice h.a h.len h.cap)/\∃f,some (e.add (b.toNat*7))=some f/\∃i,d.cell? (f.add 2)=some (.z i)/\∃f,h.a=some f/\0≤i/\i<(h.len:Int)/\az d (f.add (i.toNat*6)) 0 [.o, .o, .o, .o, .o, .o] fun (f h i j k l:Int)=>(C.qbV g b f h i j k l (fun d f g h i=>∃j,some (e.add (b.toNat*7))=some j/\(aH i (j.add 3) 0 [.z d, .y f, .z g, .slice h.a h.len h.cap] fun d=>∃f,some (e.add (b.toNat*7))=some f/\∃g:Sl,d.cell? ((f.add 3).add 3)=some (.slice g.a g.len g.cap)/\∀f:Int->Pw,(∀(d:Int) (h:World),(bif decide (d<(g.len:Int)) then ∃i,g.a=some i/\0≤d/\d<(g.len:Int)/\az h (i.add (d.toNat*4)) 0 [.o, .o, .o, .o] fun (g i j k:Int)=>A2 h [.z 0, .z 0, .z 0, .z 0] 153 fun l m=>aH m l.p 0 [.z g, .z i, .z j, .z k] fun g=>Dr g fun g=>∃i,some (e.add (b.toNat*7))=some i/\∃j,g.cell? i=some (.pointer j)/\∃i,g.cell? l.p=some (.z i)/\∃k,g.cell? (l.p.add 1)=some (.z k)/\(C.qcE j i k (fun _ c=>Dr c fun c=>∃e,a=some e/\∃a,c.cell? (e.add 2)=some (.pointer a)/\∃e,c.cell? l.p=some (.z e)/\∃g,c.cell? (l.p.add 1)=some (.z g)/\(C.qbF a b 0 (IntKind.i64.wrap ((IntKind.i64.wrap (e*4096))+g)) (fun _ a=>f (IntKind.i64.wrap (d+1)) a) c)/\True) g)/\True else ∃a,some (e.add (b.toNat*7))=some a/\St h (a.add 1) (.z 3) fun a=>Dr a fun a=>∃d,some (e.add (b.toNat*7))=some d/\∃f,some (e.add (b.toNat*7))=some f/\az a (f.add 3) 0 [.o, .u, .o, .s] fun (e f g:Int) (h:Sl)=>∃i,a.cell? (d.add 2)=some (.z i)/\(C.qcD e f g h (fun a e f g h=>h.cell? (d.add 2)=some (.z i)/\(aH h c.p 0 [.z 1, .z b, .z i, .z a, .y e, .z f, .slice g.a g.len g.cap, .z 0, .z 0, .bool false] fun a=>az a c.p 0 [.o, .o, .o, .o, .u, .o, .s, .o, .o, .b] fun (b c d e f g:Int) (h:Sl) (i j:Int) (k:Bool)=>K b c d e f g h i j k a)/\True) a)/\True)->f d h)->f 0 d)/\True) d)/\True):=aD Tryz.func41 (.v (.v (.y (.z (.o 0 131070 (.o 1 65504 (.o 2 65504 (.o 3 65504 (.o 4 65504 (.o 5 65472 (.o 6 15360 (.o 7 15360 (.o 8 15360 (.o 9 15360 (.o 10 0 (.o 11 0 (.o 12 0 (.o 13 0 (.o 14 0 (.o 15 0 (.e 16 (.o 17 0 (.o 18 0 (.e 19 .done))))))))))))))))))))) (.y (.v (.x (.t (some [(39,.c (.i .i64))]) (.v (.y .w (.x (.x (.v (.y (.z (.o 0 240 (.o 1 240 (.o 2 240 (.o 3 240 (.o 4 192 (.o 5 192 .IS))))))) (.z (.o 0 2032 (.o 1 2032 (.o 2 2032 (.o 3 2032 (.o 4 2016 (.o 5 768 (.o 6 768 (.o 7 768 (.o 8 0 .Je)))))))))))))))) .u))) (.v (.x (.z (.o 0 1022 (.o 1 992 (.o 2 992 (.o 3 992 (.o 5 16 (.o 6 16 (.o 7 16 (.o 8 16 (.hold 4 512 2047 (.e 9 (.o 10 0 (.e 11 .done)))))))))))))))))))
theorem S.qcD0 {a b c d K w}:Fr (C.qcD a b c d K w) (A2 w [.z a, .y b, .z c, .slice d.a d.len d.cap] 36 fun a b=>A2 b [.z 0, .y 0, .z 0, .slice none 0 0] 36 fun b c=>∃d:Sl,c.cell? (a.p.add 3)=some (.slice d.a d.len d.cap)/\C.qE d (fun c d=>St d (a.p.add 3) (.slice c.a c.len c.cap) fun c=>az c a.p 0 [.o, .u, .o, .s] fun (a d e:Int) (f:Sl)=>aH c b.p 0 [.z a, .y d, .z e, .slice f.a f.len f.cap] fun a=>az a b.p 0 [.o, .u, .o, .s] fun (b c d:Int) (e:Sl)=>K b c d e a) c):=aD Tryz.func43 (.v (.v .w))
theorem S.qaM0 {a b K w}:Fr (C.qaM a b K w) (A2 w [.z b] 3 fun b c=>A2 c [.z 0, .z 0] 38 fun c d=>∃e,a=some e/\∃a,d.cell? e=some (.pointer a)/\C.qaX a 0 (fun a d=>C.qt a (.func (.func 101) #[] #[.pointer (some b.p)]) (fun b d=>bif decide (b<0) then aH d c.p 0 [.z 0, .z 0] fun e=>az e c.p 0 [.o, .o] fun (f g:Int)=>K f g false e else ∃e,a.a=some e/\0≤b/\b<(a.len:Int)/\az d ((e.add (b.toNat*3)).add 1) 0 [.o, .o] fun (a b:Int)=>aH d c.p 0 [.z a, .z b] fun a=>az a c.p 0 [.o, .o] fun (b c:Int)=>K b c true a) d) d):=aD Tryz.func64 (.v .H3)
theorem S.qaT0 {a b c d K w}:Fr (C.qaT a b c d K w) (A2 w [.z a, .z b, .z c] 220 fun a b=>∃c,b.cell? a.p=some (.z c)/\∃a,b.cell? d=some (.z a)/\K (c==a) b):=aD Tryz.func101 (.v .w)
end Go.Proofs.YtlhljbbfckbjpaaGreat
end
section
set_option maxRecDepth 8000
namespace Go.Proofs.YtlhljbbfckbjpaaGreat.Sl
open Go Go.Vc Go.Proofs
def mH (bits:List Int) (c:dj):Option Int:=if c.kind≠2 then none else if cv c≠0 then none else eR bits c.obj
def dq (bits:List Int) (addr:Nat) (c:dj) (left:Nat):Int × Slot × Nat:=
 match mH bits c with
 |none=>(60,(0,0),left)
 |some z=>
  if left<c.bits.toNat then (61,(0,0),left)
  else if ((addr / 2^(left-c.bits.toNat)%2^c.bits.toNat:Nat):Int)≠c.guard then (61,(0,0),left)
  else if left-c.bits.toNat<z.toNat then (62,(0,0),left)
  else (0,(c.obj,((addr / 2^(left-c.bits.toNat-z.toNat)%2^z.toNat:Nat):Int)),left-c.bits.toNat-z.toNat)
def jb (bits:List Int) (H:Hs) (addr:Nat):Nat->dj->Nat->Slot × Int
 |0,_,_=>((0,0),62)
 |f+1,c,left=>
  if (dq bits addr c left).1≠0 then ((0,0),(dq bits addr c left).1)
  else if (dq bits addr c left).2.2=0 then ((dq bits addr c left).2.1,0)
  else if ((H (dq bits addr c left).2.1).getD ay).kind≠2 then ((0,0),62)
  else jb bits H addr f ((H (dq bits addr c left).2.1).getD ay) (dq bits addr c left).2.2
def oy (bits:List Int) (H:Hs) (root:dj) (addr:Nat) (depth:Int):Slot × Int:=
 if depth<1∨64<depth then ((0,0),1) else jb bits H addr depth.toNat root depth.toNat
theorem sW {bits:List Int} {c:dj} {z:Int} (h:mH bits c=some z):c.kind=2/\cv c=0/\eR bits c.obj=some z:=by
 unfold mH at h;split at h
 ·cases h
 ·split at h
  ·cases h
  ·exact ⟨om,om,h⟩
theorem zN {c:dj} (h1:c.kind=2) (h2:cv c=0):0≤c.bits/\c.bits≤64/\c.guard<2^c.bits.toNat:=by
 unfold cv at h2;split at h2
 ·rename_i e;rw[e] at h1;cases h1
 ·split at h2
  ·cases h2
  ·rename_i e
   unfold iv at e;simp only[Bool.or_eq_true,not_or,Bool.not_eq_true,Bool.not_eq_false',Bool.and_eq_true] at e;have:=e.1.1.1.2;unfold iB at this;simpa using this
section
variable {B:Nat} {w0 w:World} {R L:List aA} {b rb:Nat} {bits:List Int} {H:Hs}
theorem gA {a n:Nat} {K:Bool->Pw} (ha:a+n≤64) (h:K true w):C.qcq (a:Int) (n:Int) K w:=by
 apply S.qcq0;refine aR om (aR om (aR om ?_));rw[wr om om,decide_eq_true om];exact h
theorem gz {v a n:Nat} {K:Int->Int->Pw} (hv:v<2^64) (hn:a+n≤64) (h:Ow B w0 w L) (hK:∀w',Ow B w0 w' L->K ((v / 2^a%2^n:Nat):Int) 0 w'):C.qcg (v:Int) (a:Int) (n:Int) K w:=by
 apply S.qcg0;refine gA hn ?_;refine bD rfl ?_
 (repeat (first|(refine h.al fun w h=>?_)|(refine h.dr fun w h=>?_)|(refine h.aL rfl ?_)|(refine h.aV rfl ?_)|(refine ⟨_,h.aq rfl, ?_⟩)|(refine ⟨_,h.ao rfl, ?_⟩)|(refine h.hd rfl ?_)|(refine ⟨h.aq rfl, ?_⟩)|(refine ⟨h.ao rfl, ?_⟩)|(refine h.ax rfl rfl fun w h=>?_)|(refine eC ?_)|(refine _root_.Go.Vc.a2 ?_)|(refine h.dy rfl rfl fun w h=>?_)|(refine h.cC rfl rfl fun w h=>?_)))
 refine ⟨om,a2 ?_⟩;refine fa om ?_;rw[ko v a om,vF _ n (Nat.lt_of_le_of_lt (Nat.div_le_self _ _) hv) om];exact hK _ h
theorem jD {addr left n:Nat} {K:Int->Bool->Pw} (ha:addr<2^64) (hl:left≤64) (h:Ow B w0 w (aa rb [.y (addr:Int), .z (left:Int)]::R)) (hn:n≤64)
  (h1:left<n->∀w',Ow B w0 w' (aa rb [.y (addr:Int), .z (left:Int)]::R)->K 0 false w')
  (h2:n≤left->∀w',Ow B w0 w' (aa rb [.y (addr:Int), .z ((left-n:Nat):Int)]::R)->K ((addr / 2^(left-n)%2^n:Nat):Int) true w'):
  C.qcd (some ⟨rb,0,none⟩) (n:Int) K w:=by
 apply S.qcd0
 (repeat (first|(refine h.al fun w h=>?_)|(refine h.dr fun w h=>?_)|(refine h.aL rfl ?_)|(refine h.aV rfl ?_)|(refine ⟨_,h.aq rfl, ?_⟩)|(refine ⟨_,h.ao rfl, ?_⟩)|(refine h.hd rfl ?_)|(refine ⟨h.aq rfl, ?_⟩)|(refine ⟨h.ao rfl, ?_⟩)|(refine h.ax rfl rfl fun w h=>?_)|(refine eC ?_)|(refine _root_.Go.Vc.a2 ?_)|(refine h.dy rfl rfl fun w h=>?_)|(refine h.cC rfl rfl fun w h=>?_)))
 refine dD (fun e=>h1 om _ h) (fun e=>?_);have e2:IntKind.i64.wrap ((left:Int)-(n:Int))=((left-n:Nat):Int):=by rw[wr om om];omega
 (repeat (first|(refine h.al fun w h=>?_)|(refine h.dr fun w h=>?_)|(refine h.aL rfl ?_)|(refine h.aV rfl ?_)|(refine ⟨_,h.aq rfl, ?_⟩)|(refine ⟨_,h.ao rfl, ?_⟩)|(refine h.hd rfl ?_)|(refine ⟨h.aq rfl, ?_⟩)|(refine ⟨h.ao rfl, ?_⟩)|(refine h.ax rfl rfl fun w h=>?_)|(refine eC ?_)|(refine _root_.Go.Vc.a2 ?_)|(refine h.dy rfl rfl fun w h=>?_)|(refine h.cC rfl rfl fun w h=>?_)))
 rw[e2] at h⊢;refine gz ha om h fun w h=>?_
 exact h2 om _ h
theorem pa {c:dj} {K:Int->Bool->Pw} (hc:ia c) (h:Ow B w0 w L) (i:Nat) (hi:L[i]?=some (av b bits H)) (hK:∀w',Ow B w0 w' L->K ((mH bits c).getD 0) (mH bits c).isSome w'):C.qdr (some ⟨b,0,none⟩) c.kind c.obj c.au c.aB c.guard c.bits K w:=by
 apply S.qdr0;unfold mH at hK;refine h.al fun w1 h=>?_
 have h:Ow B w0 w1 (aa w.heap.size c.cells::L):=h;intro k hk
 (repeat (first|(refine h.al fun w h=>?_)|(refine h.dr fun w h=>?_)|(refine h.aL rfl ?_)|(refine h.aV rfl ?_)|(refine ⟨_,h.aq rfl, ?_⟩)|(refine ⟨_,h.ao rfl, ?_⟩)|(refine h.hd rfl ?_)|(refine ⟨h.aq rfl, ?_⟩)|(refine ⟨h.ao rfl, ?_⟩)|(refine h.ax rfl rfl fun w h=>?_)|(refine eC ?_)|(refine _root_.Go.Vc.a2 ?_)|(refine h.dy rfl rfl fun w h=>?_)|(refine h.cC rfl rfl fun w h=>?_)))
 refine y8 (fun e=>?_) (fun e=>?_)
 ·apply hk
  rw[if_pos e] at hK;exact hK _ h.drop
 ·rw[if_neg om] at hK
  (repeat (first|(refine h.al fun w h=>?_)|(refine h.dr fun w h=>?_)|(refine h.aL rfl ?_)|(refine h.aV rfl ?_)|(refine ⟨_,h.aq rfl, ?_⟩)|(refine ⟨_,h.ao rfl, ?_⟩)|(refine h.hd rfl ?_)|(refine ⟨h.aq rfl, ?_⟩)|(refine ⟨h.ao rfl, ?_⟩)|(refine h.ax rfl rfl fun w h=>?_)|(refine eC ?_)|(refine _root_.Go.Vc.a2 ?_)|(refine h.dy rfl rfl fun w h=>?_)|(refine h.cC rfl rfl fun w h=>?_)))
  refine gR h hc fun w h=>?_
  apply hk;refine y8 (fun e=>?_) (fun e=>?_)
  ·rw[if_pos e] at hK
   exact hK _ h.drop
  ·rw[if_neg om] at hK
   (repeat (first|(refine h.al fun w h=>?_)|(refine h.dr fun w h=>?_)|(refine h.aL rfl ?_)|(refine h.aV rfl ?_)|(refine ⟨_,h.aq rfl, ?_⟩)|(refine ⟨_,h.ao rfl, ?_⟩)|(refine h.hd rfl ?_)|(refine ⟨h.aq rfl, ?_⟩)|(refine ⟨h.ao rfl, ?_⟩)|(refine h.ax rfl rfl fun w h=>?_)|(refine eC ?_)|(refine _root_.Go.Vc.a2 ?_)|(refine h.dy rfl rfl fun w h=>?_)|(refine h.cC rfl rfl fun w h=>?_)))
   exact gh h (i+1) (by simpa using hi) (hK _ h.drop)
end
theorem Cx (x n:Nat) (hn:n≤8):x%2^n<256:=by
 have h1:0<2^n:=Nat.two_pow_pos n;have h2:2^n≤2^8:=Nat.pow_le_pow_right om hn;have:=Nat.mod_lt x h1;omega
section
variable {B:Nat} {w0 w:World} {R L:List aA} {b rb:Nat} {bits:List Int} {H:Hs}
theorem pd {addr left:Nat} {c:dj} {K:Int->Int->Int->Pw} (hc:ia c) (ha:addr<2^64) (hl:left≤64)
  (h:Ow B w0 w (av b bits H::aa rb [.y (addr:Int), .z (left:Int)]::R))
  (h1:(dq bits addr c left).1≠0->∀w' l',Ow B w0 w' (av b bits H::aa rb [.y (addr:Int), .z l']::R)->K 0 0 (dq bits addr c left).1 w')
  (h2:(dq bits addr c left).1=0->∀w',Ow B w0 w' (av b bits H::aa rb [.y (addr:Int), .z ((dq bits addr c left).2.2:Int)]::R)->K (dq bits addr c left).2.1.1 (dq bits addr c left).2.1.2 0 w'):
  C.qdq (some ⟨b,0,none⟩) c.kind c.obj c.au c.aB c.guard c.bits (.func (.func 258) #[.pointer (some ⟨rb,0,none⟩)] #[]) K w:=by
 apply S.qdq0;have hk:=h.pv
 (repeat (first|(refine h.al fun w h=>?_)|(refine h.dr fun w h=>?_)|(refine h.aL rfl ?_)|(refine h.aV rfl ?_)|(refine ⟨_,h.aq rfl, ?_⟩)|(refine ⟨_,h.ao rfl, ?_⟩)|(refine h.hd rfl ?_)|(refine ⟨h.aq rfl, ?_⟩)|(refine ⟨h.ao rfl, ?_⟩)|(refine h.ax rfl rfl fun w h=>?_)|(refine eC ?_)|(refine _root_.Go.Vc.a2 ?_)|(refine h.dy rfl rfl fun w h=>?_)|(refine h.cC rfl rfl fun w h=>?_)))
 refine pa hc h 2 rfl fun w h=>?_
 cases hn:mH bits c with
 |none=>
  have hs:dq bits addr c left=(60,(0,0),left):=by unfold dq;rw[hn]
  rw[hs] at h1;refine bN rfl ?_
  (repeat (first|(refine h.al fun w h=>?_)|(refine h.dr fun w h=>?_)|(refine h.aL rfl ?_)|(refine h.aV rfl ?_)|(refine ⟨_,h.aq rfl, ?_⟩)|(refine ⟨_,h.ao rfl, ?_⟩)|(refine h.hd rfl ?_)|(refine ⟨h.aq rfl, ?_⟩)|(refine ⟨h.ao rfl, ?_⟩)|(refine h.ax rfl rfl fun w h=>?_)|(refine eC ?_)|(refine _root_.Go.Vc.a2 ?_)|(refine h.dy rfl rfl fun w h=>?_)|(refine h.cC rfl rfl fun w h=>?_)))
  exact h1 (by simp) _ (left:Int) h.sub
 |some z=>
  obtain ⟨hk2,he,hz⟩:=sW hn;obtain ⟨g1,g2,g3⟩:=zN hk2 he;obtain ⟨z1,z2⟩:=pG hk hz;obtain ⟨cb,hcb⟩:=Int.eq_ofNat_of_zero_le g1;obtain ⟨zz,rfl⟩:=Int.eq_ofNat_of_zero_le (show 0≤z by omega);refine bD rfl ?_
  (repeat (first|(refine h.al fun w h=>?_)|(refine h.dr fun w h=>?_)|(refine h.aL rfl ?_)|(refine h.aV rfl ?_)|(refine ⟨_,h.aq rfl, ?_⟩)|(refine ⟨_,h.ao rfl, ?_⟩)|(refine h.hd rfl ?_)|(refine ⟨h.aq rfl, ?_⟩)|(refine ⟨h.ao rfl, ?_⟩)|(refine h.ax rfl rfl fun w h=>?_)|(refine eC ?_)|(refine _root_.Go.Vc.a2 ?_)|(refine h.dy rfl rfl fun w h=>?_)|(refine h.cC rfl rfl fun w h=>?_)))
  refine aP ?_;have hgoN:c.bits.toNat=cb:=by omega
  rw[hcb];refine jD ha hl h.vr om (fun e w h=>?_) (fun e w h=>?_)
  ·have hs:dq bits addr c left=(61,(0,0),left):=by unfold dq;rw[hn];simp only[hgoN];rw[if_pos e]
   rw[hs] at h1;intro k hk';refine bN rfl ?_;apply hk';refine bN rfl ?_
   (repeat (first|(refine h.al fun w h=>?_)|(refine h.dr fun w h=>?_)|(refine h.aL rfl ?_)|(refine h.aV rfl ?_)|(refine ⟨_,h.aq rfl, ?_⟩)|(refine ⟨_,h.ao rfl, ?_⟩)|(refine h.hd rfl ?_)|(refine ⟨h.aq rfl, ?_⟩)|(refine ⟨h.ao rfl, ?_⟩)|(refine h.ax rfl rfl fun w h=>?_)|(refine eC ?_)|(refine _root_.Go.Vc.a2 ?_)|(refine h.dy rfl rfl fun w h=>?_)|(refine h.cC rfl rfl fun w h=>?_)))
   exact h1 (by simp) _ (left:Int) h.sub
  ·intro k hk'
   refine bD rfl ?_
   (repeat (first|(refine h.al fun w h=>?_)|(refine h.dr fun w h=>?_)|(refine h.aL rfl ?_)|(refine h.aV rfl ?_)|(refine ⟨_,h.aq rfl, ?_⟩)|(refine ⟨_,h.ao rfl, ?_⟩)|(refine h.hd rfl ?_)|(refine ⟨h.aq rfl, ?_⟩)|(refine ⟨h.ao rfl, ?_⟩)|(refine h.ax rfl rfl fun w h=>?_)|(refine eC ?_)|(refine _root_.Go.Vc.a2 ?_)|(refine h.dy rfl rfl fun w h=>?_)|(refine h.cC rfl rfl fun w h=>?_)))
   apply hk';refine y8 (fun e2=>?_) (fun e2=>?_)
   ·have hs:dq bits addr c left=(61,(0,0),left):=by unfold dq;rw[hn];simp only[hgoN];rw[if_neg om,if_pos e2]
    rw[hs] at h1
    (repeat (first|(refine h.al fun w h=>?_)|(refine h.dr fun w h=>?_)|(refine h.aL rfl ?_)|(refine h.aV rfl ?_)|(refine ⟨_,h.aq rfl, ?_⟩)|(refine ⟨_,h.ao rfl, ?_⟩)|(refine h.hd rfl ?_)|(refine ⟨h.aq rfl, ?_⟩)|(refine ⟨h.ao rfl, ?_⟩)|(refine h.ax rfl rfl fun w h=>?_)|(refine eC ?_)|(refine _root_.Go.Vc.a2 ?_)|(refine h.dy rfl rfl fun w h=>?_)|(refine h.cC rfl rfl fun w h=>?_)))
    exact h1 (by simp) _ ((left-cb:Nat):Int) h.sub
   ·refine aP ?_
    refine jD ha om h om (fun e3 w h=>?_) (fun e3 w h=>?_)
    ·have hs:dq bits addr c left=(62,(0,0),left):=by unfold dq;rw[hn];simp only[hgoN];rw[if_neg om,if_neg om,if_pos om]
     rw[hs] at h1;refine bN rfl ?_
     (repeat (first|(refine h.al fun w h=>?_)|(refine h.dr fun w h=>?_)|(refine h.aL rfl ?_)|(refine h.aV rfl ?_)|(refine ⟨_,h.aq rfl, ?_⟩)|(refine ⟨_,h.ao rfl, ?_⟩)|(refine h.hd rfl ?_)|(refine ⟨h.aq rfl, ?_⟩)|(refine ⟨h.ao rfl, ?_⟩)|(refine h.ax rfl rfl fun w h=>?_)|(refine eC ?_)|(refine _root_.Go.Vc.a2 ?_)|(refine h.dy rfl rfl fun w h=>?_)|(refine h.cC rfl rfl fun w h=>?_)))
     exact h1 (by simp) _ ((left-cb:Nat):Int) h.sub
    ·have hs:dq bits addr c left=(0,(c.obj,((addr / 2^(left-cb-zz)%2^zz:Nat):Int)),left-cb-zz):=by
      unfold dq;rw[hn];simp only[hgoN,Int.toNat_natCast];rw[if_neg om,if_neg om,if_neg om]
     rw[hs] at h2;refine bD rfl ?_;have:=Cx (addr / 2^(left-cb-zz)) zz om;rw[wr om om]
     (repeat (first|(refine h.al fun w h=>?_)|(refine h.dr fun w h=>?_)|(refine h.aL rfl ?_)|(refine h.aV rfl ?_)|(refine ⟨_,h.aq rfl, ?_⟩)|(refine ⟨_,h.ao rfl, ?_⟩)|(refine h.hd rfl ?_)|(refine ⟨h.aq rfl, ?_⟩)|(refine ⟨h.ao rfl, ?_⟩)|(refine h.ax rfl rfl fun w h=>?_)|(refine eC ?_)|(refine _root_.Go.Vc.a2 ?_)|(refine h.dy rfl rfl fun w h=>?_)|(refine h.cC rfl rfl fun w h=>?_)))
     exact h2 rfl _ h.sub
end
theorem uk {bits:List Int} {addr left:Nat} {c:dj} (hb:∀z∈bits,z= -1∨(1≤z/\z≤8)) (h:(dq bits addr c left).1=0):
  bC bits (dq bits addr c left).2.1=true/\(dq bits addr c left).2.2<left:=by
 unfold dq at h⊢;cases hn:mH bits c with
 |none=>rw[hn] at h;simp at h
 |some z=>
  rw[hn] at h;obtain ⟨hk2,he,hz⟩:=sW hn;simp only at h⊢;obtain ⟨_,hz2,hz3⟩:=kp hz
  have hzr:1≤z/\z≤8:=by
   rcases hb z (List.mem_of_getElem? hz2) with e|e
   ·exact absurd e hz3
   ·exact e
  by_cases e1:left<c.bits.toNat
  ·rw[if_pos e1] at h;simp at h
  rw[if_neg e1] at h⊢;by_cases e2:((addr / 2^(left-c.bits.toNat)%2^c.bits.toNat:Nat):Int)≠c.guard
  ·rw[if_pos e2] at h;simp at h
  rw[if_neg e2] at h⊢;by_cases e3:left-c.bits.toNat<z.toNat
  ·rw[if_pos e3] at h;simp at h
  rw[if_neg e3];refine ⟨?_,by show left-c.bits.toNat-z.toNat<left;omega⟩;unfold bC;simp only[hz];rw[decide_eq_true_iff];have hm:addr / 2^(left-c.bits.toNat-z.toNat)%2^z.toNat<2^z.toNat:=Nat.mod_lt _ (Nat.two_pow_pos _);refine ⟨Int.natCast_nonneg _, ?_⟩;rw[show ((2:Int)^z.toNat)=((2^z.toNat:Nat):Int) from by simp];exact Int.ofNat_lt.2 hm
theorem tV.Ig {bits:List Int} {H:Hs} (h:tV bits H) (s:Slot):ia ((H s).getD ay):=by
 cases hs:H s with
 |none=>exact ⟨by decide,by decide,by decide,by decide⟩
 |some c=>exact (h.held s c hs).2.2.2
section
variable {B:Nat} {w0 w:World} {R L:List aA} {b rb:Nat} {bits:List Int} {H:Hs}
theorem jC {addr:Nat} {depth:Int} {root:dj} {K:Int->Int->Int->Pw} (hc:ia root) (ha:addr<2^64) (h:Ow B w0 w (av b bits H::R))
  (hK:∀w',Ow B w0 w' (av b bits H::R)->K (oy bits H root addr depth).1.1 (oy bits H root addr depth).1.2 (oy bits H root addr depth).2 w'):
  C.qdb (some ⟨b,0,none⟩) root.kind root.obj root.au root.aB root.guard root.bits (addr:Int) depth K w:=by
 apply S.qdb0;have hk:=h.pv;refine h.al fun w1 h=>?_
 refine h.al fun w2 h=>?_
 intro k hk12
 have hT:(depth<1∨64<depth)->k true w2:=fun e=>by
  have hs:oy bits H root addr depth=((0,0),1):=by unfold oy;rw[if_pos e]
  rw[hs] at hK;apply hk12;refine bN rfl ?_
  (repeat (first|(refine h.al fun w h=>?_)|(refine h.dr fun w h=>?_)|(refine h.aL rfl ?_)|(refine h.aV rfl ?_)|(refine ⟨_,h.aq rfl, ?_⟩)|(refine ⟨_,h.ao rfl, ?_⟩)|(refine h.hd rfl ?_)|(refine ⟨h.aq rfl, ?_⟩)|(refine ⟨h.ao rfl, ?_⟩)|(refine h.ax rfl rfl fun w h=>?_)|(refine eC ?_)|(refine _root_.Go.Vc.a2 ?_)|(refine h.dy rfl rfl fun w h=>?_)|(refine h.cC rfl rfl fun w h=>?_)))
  exact hK _ h.sub
 refine dD (fun e=>hT (.inl e)) (fun e=>?_);by_cases e2:64<depth
 ·rw[decide_eq_true om];exact hT (.inr e2)
 rw[decide_eq_false om];have hs:oy bits H root addr depth=jb bits H addr depth.toNat root depth.toNat:=by unfold oy;rw[if_neg om]
 rw[hs] at hK;obtain ⟨d,rfl⟩:=Int.eq_ofNat_of_zero_le (show 0≤depth by omega);rw[Int.toNat_natCast] at hK;apply hk12;refine bD rfl ?_;refine h.al fun w3 h=>?_
 (repeat (first|(refine h.al fun w h=>?_)|(refine h.dr fun w h=>?_)|(refine h.aL rfl ?_)|(refine h.aV rfl ?_)|(refine ⟨_,h.aq rfl, ?_⟩)|(refine ⟨_,h.ao rfl, ?_⟩)|(refine h.hd rfl ?_)|(refine ⟨h.aq rfl, ?_⟩)|(refine ⟨h.ao rfl, ?_⟩)|(refine h.ax rfl rfl fun w h=>?_)|(refine eC ?_)|(refine _root_.Go.Vc.a2 ?_)|(refine h.dy rfl rfl fun w h=>?_)|(refine h.cC rfl rfl fun w h=>?_)))
 intro l hl
 have loop:∀(f left:Nat) (c:dj) (cb:Nat) (w':World),1≤left->left≤f->left≤64->ia c->
   Ow B w0 w' (av b bits H::aa w2.heap.size [.y (addr:Int), .z (left:Int)]::aa cb c.cells::aa w1.heap.size [.z 0, .z 0]::R)->
   jb bits H addr f c left=jb bits H addr d root d->l ⟨cb,0,none⟩ w':=by
  intro f
  induction f with
  |zero=>intro left c cb w' h1 h2;omega
  |succ f ih=>
   intro left c cb w' h1 h2 h64 hc h heq;apply hl
   (repeat (first|(refine h.al fun w h=>?_)|(refine h.dr fun w h=>?_)|(refine h.aL rfl ?_)|(refine h.aV rfl ?_)|(refine ⟨_,h.aq rfl, ?_⟩)|(refine ⟨_,h.ao rfl, ?_⟩)|(refine h.hd rfl ?_)|(refine ⟨h.aq rfl, ?_⟩)|(refine ⟨h.ao rfl, ?_⟩)|(refine h.ax rfl rfl fun w h=>?_)|(refine eC ?_)|(refine _root_.Go.Vc.a2 ?_)|(refine h.dy rfl rfl fun w h=>?_)|(refine h.cC rfl rfl fun w h=>?_)))
   refine pd hc ha h64 h (fun he w l' h=>?_) (fun he w h=>?_)
   ·(repeat (first|(refine h.al fun w h=>?_)|(refine h.dr fun w h=>?_)|(refine h.aL rfl ?_)|(refine h.aV rfl ?_)|(refine ⟨_,h.aq rfl, ?_⟩)|(refine ⟨_,h.ao rfl, ?_⟩)|(refine h.hd rfl ?_)|(refine ⟨h.aq rfl, ?_⟩)|(refine ⟨h.ao rfl, ?_⟩)|(refine h.ax rfl rfl fun w h=>?_)|(refine eC ?_)|(refine _root_.Go.Vc.a2 ?_)|(refine h.dy rfl rfl fun w h=>?_)|(refine h.cC rfl rfl fun w h=>?_)))
    intro k hk;refine lj he ?_;apply hk;refine bN rfl ?_
    (repeat (first|(refine h.al fun w h=>?_)|(refine h.dr fun w h=>?_)|(refine h.aL rfl ?_)|(refine h.aV rfl ?_)|(refine ⟨_,h.aq rfl, ?_⟩)|(refine ⟨_,h.ao rfl, ?_⟩)|(refine h.hd rfl ?_)|(refine ⟨h.aq rfl, ?_⟩)|(refine ⟨h.ao rfl, ?_⟩)|(refine h.ax rfl rfl fun w h=>?_)|(refine eC ?_)|(refine _root_.Go.Vc.a2 ?_)|(refine h.dy rfl rfl fun w h=>?_)|(refine h.cC rfl rfl fun w h=>?_)))
    have hs:jb bits H addr (f+1) c left=((0,0),(dq bits addr c left).1):=by rw[jb,if_pos he]
    rw[←heq,hs] at hK;exact hK _ h.sub
   ·obtain ⟨ht,hlt⟩:=uk hk.wX he
    generalize hst:dq bits addr c left=st at he ht hlt h⊢;obtain ⟨er,s,left'⟩:=st;simp only at he ht hlt h⊢;subst he
    (repeat (first|(refine h.al fun w h=>?_)|(refine h.dr fun w h=>?_)|(refine h.aL rfl ?_)|(refine h.aV rfl ?_)|(refine ⟨_,h.aq rfl, ?_⟩)|(refine ⟨_,h.ao rfl, ?_⟩)|(refine h.hd rfl ?_)|(refine ⟨h.aq rfl, ?_⟩)|(refine ⟨h.ao rfl, ?_⟩)|(refine h.ax rfl rfl fun w h=>?_)|(refine eC ?_)|(refine _root_.Go.Vc.a2 ?_)|(refine h.dy rfl rfl fun w h=>?_)|(refine h.cC rfl rfl fun w h=>?_)))
    intro k hk2;refine fP rfl ?_
    (repeat (first|(refine h.al fun w h=>?_)|(refine h.dr fun w h=>?_)|(refine h.aL rfl ?_)|(refine h.aV rfl ?_)|(refine ⟨_,h.aq rfl, ?_⟩)|(refine ⟨_,h.ao rfl, ?_⟩)|(refine h.hd rfl ?_)|(refine ⟨h.aq rfl, ?_⟩)|(refine ⟨h.ao rfl, ?_⟩)|(refine h.ax rfl rfl fun w h=>?_)|(refine eC ?_)|(refine _root_.Go.Vc.a2 ?_)|(refine h.dy rfl rfl fun w h=>?_)|(refine h.cC rfl rfl fun w h=>?_)))
    by_cases hz:left'=0
    ·rw[show ((left':Int)==0)=true from by simpa using hz]
     apply hk2;refine bN rfl ?_
     (repeat (first|(refine h.al fun w h=>?_)|(refine h.dr fun w h=>?_)|(refine h.aL rfl ?_)|(refine h.aV rfl ?_)|(refine ⟨_,h.aq rfl, ?_⟩)|(refine ⟨_,h.ao rfl, ?_⟩)|(refine h.hd rfl ?_)|(refine ⟨h.aq rfl, ?_⟩)|(refine ⟨h.ao rfl, ?_⟩)|(refine h.ax rfl rfl fun w h=>?_)|(refine eC ?_)|(refine _root_.Go.Vc.a2 ?_)|(refine h.dy rfl rfl fun w h=>?_)|(refine h.cC rfl rfl fun w h=>?_)))
     have hs:jb bits H addr (f+1) c left=(s,0):=by rw[jb,hst,if_neg (by simp),if_pos hz]
     rw[←heq,hs] at hK;exact hK _ h.sub
    ·rw[show ((left':Int)==0)=false from by simpa using hz]
     apply hk2;refine bD rfl ?_
     (repeat (first|(refine h.al fun w h=>?_)|(refine h.dr fun w h=>?_)|(refine h.aL rfl ?_)|(refine h.aV rfl ?_)|(refine ⟨_,h.aq rfl, ?_⟩)|(refine ⟨_,h.ao rfl, ?_⟩)|(refine h.hd rfl ?_)|(refine ⟨h.aq rfl, ?_⟩)|(refine ⟨h.ao rfl, ?_⟩)|(refine h.ax rfl rfl fun w h=>?_)|(refine eC ?_)|(refine _root_.Go.Vc.a2 ?_)|(refine h.dy rfl rfl fun w h=>?_)|(refine h.cC rfl rfl fun w h=>?_)))
     refine gM (s:=s) h 1 rfl (fun hn=>by rw[ht] at hn;cases hn) fun _ w c' hc' h=>?_
     have hcR:ia c':=by rw[hc'];exact hk.Ig s
     (repeat (first|(refine h.al fun w h=>?_)|(refine h.dr fun w h=>?_)|(refine h.aL rfl ?_)|(refine h.aV rfl ?_)|(refine ⟨_,h.aq rfl, ?_⟩)|(refine ⟨_,h.ao rfl, ?_⟩)|(refine h.hd rfl ?_)|(refine ⟨h.aq rfl, ?_⟩)|(refine ⟨h.ao rfl, ?_⟩)|(refine h.ax rfl rfl fun w h=>?_)|(refine eC ?_)|(refine _root_.Go.Vc.a2 ?_)|(refine h.dy rfl rfl fun w h=>?_)|(refine h.cC rfl rfl fun w h=>?_)))
     refine y8 (fun e3=>?_) (fun e3=>?_)
     ·(repeat (first|(refine h.al fun w h=>?_)|(refine h.dr fun w h=>?_)|(refine h.aL rfl ?_)|(refine h.aV rfl ?_)|(refine ⟨_,h.aq rfl, ?_⟩)|(refine ⟨_,h.ao rfl, ?_⟩)|(refine h.hd rfl ?_)|(refine ⟨h.aq rfl, ?_⟩)|(refine ⟨h.ao rfl, ?_⟩)|(refine h.ax rfl rfl fun w h=>?_)|(refine eC ?_)|(refine _root_.Go.Vc.a2 ?_)|(refine h.dy rfl rfl fun w h=>?_)|(refine h.cC rfl rfl fun w h=>?_)))
      have hs:jb bits H addr (f+1) c left=((0,0),62):=by rw[jb,hst,if_neg (by simp),if_neg hz,if_pos (by simpa [hc'] using e3)]
      rw[←heq,hs] at hK;exact hK _ h.sub
     ·(repeat (first|(refine h.al fun w h=>?_)|(refine h.dr fun w h=>?_)|(refine h.aL rfl ?_)|(refine h.aV rfl ?_)|(refine ⟨_,h.aq rfl, ?_⟩)|(refine ⟨_,h.ao rfl, ?_⟩)|(refine h.hd rfl ?_)|(refine ⟨h.aq rfl, ?_⟩)|(refine ⟨h.ao rfl, ?_⟩)|(refine h.ax rfl rfl fun w h=>?_)|(refine eC ?_)|(refine _root_.Go.Vc.a2 ?_)|(refine h.dy rfl rfl fun w h=>?_)|(refine h.cC rfl rfl fun w h=>?_)))
      (try dsimp only[putAt,List.set_cons_zero,List.set_cons_succ] at h)
      refine ih left' c' _ _ om om om hcR h.sub ?_;rw[←heq];rw[jb,hst,if_neg (by simp),if_neg hz,if_neg (by simpa [hc'] using e3),hc']
 (try dsimp only[putAt,List.set_cons_zero,List.set_cons_succ] at h)
 exact loop d d root _ _ om om om hc h.sub rfl
end
def zy (bits:List Int) (H:Hs) (s:Slot):dj × Int:=if bC bits s=false then (ay,50) else ((H s).getD ay,0)
theorem zI {a d k g m:Nat} (ha:a<2^d) (hg:g<2^k):a*2^k+g<2^(d+k):=by
 rw[Nat.pow_add];have:(a+1)*2^k≤2^d*2^k:=Nat.mul_le_mul_right _ ha;rw[Nat.succ_mul] at this;omega
theorem Hb {a k d:Nat} (ha:a<2^d) (hd:d+k≤64):gy .u64 (a:Int) (k:Int)=((a*2^k:Nat):Int):=by
 unfold gy;rw[Int.toNat_natCast,show IntKind.u64.bits=64 from rfl,Nat.min_eq_left om,show ((2:Int)^k)=((2^k:Nat):Int) from by simp,←Int.natCast_mul,wrap_u64,Nat.mod_eq_of_lt];have:=zI (m:=0) ha (Nat.two_pow_pos k);have h2:2^(d+k)≤2^64:=Nat.pow_le_pow_right om hd;omega
section
variable {B:Nat} {w0 w:World} {R L:List aA} {b rb:Nat} {bits:List Int} {H:Hs}
theorem yF {s:Slot} {K:Int->Int->Int->Int->Int->Int->Int->Pw} (h:Ow B w0 w L) (i:Nat) (hi:L[i]?=some (av b bits H))
  (hK:∀w' c e,(c,e)=zy bits H s->ia c->Ow B w0 w' L->K c.kind c.obj c.au c.aB c.guard c.bits e w'):C.qV (some ⟨b,0,none⟩) s.1 s.2 K w:=by
 have hk:=(h.take i hi).pv;refine gM h i hi (fun hn w h=>?_) (fun ht w c hc h=>?_)
 ·exact hK w ay 50 (by unfold zy;rw[if_pos hn]) ⟨by decide,by decide,by decide,by decide⟩ h
 ·exact hK w c 0 (by unfold zy;rw[if_neg (by rw[ht];decide),hc]) (by rw[hc];exact hk.Ig s) h
end
end Go.Proofs.YtlhljbbfckbjpaaGreat.Sl
end
section
set_option maxRecDepth 8000
namespace Go.Proofs.YtlhljbbfckbjpaaGreat
open Go Go.Vc Go.Proofs
structure ua where
 base:Nat
 bits:Nat
 used:Nat
deriving DecidableEq
def zU:ua:=⟨0,0,0⟩
def fj:cQ ua:=⟨3,fun u=>[.y (u.base:Int), .z (u.bits:Int), .y (u.used:Int)],fun _=>rfl,fun x v h=>by
 simp only[List.mem_cons,List.not_mem_nil,or_false] at h;rcases h with rfl|rfl|rfl<;>rfl,by decide⟩
def wE:cQ Nat:=⟨1,fun x=>[.y (x:Int)],fun _=>rfl,fun x v h=>by
 simp only[List.mem_cons,List.not_mem_nil,or_false] at h;subst h;rfl,by decide⟩
structure xh (u:ua):Prop where
 bits:u.bits≤20
 top:u.base+2^u.bits≤2^20
 dvd:u.base%2^u.bits=0
 used:u.used≤2^u.bits
def Dd (v n:Nat):Nat:=(v+(2^n-1)) / 2^n*2^n
def fm (kind bits:Int):Int × Int:=
 if kind=1 then (if 4≤bits/\bits≤20 then (bits,0) else (0,1))
 else if kind=2 then (if 1≤bits/\bits≤8 then (bits+2,0) else (0,1))
 else if kind=3 then (5,0) else if kind=4∨kind=5 then (2,0) else if kind=6∨kind=7∨kind=8 then (6,0) else (0,80)
def bF (u:ua) (kind bits n:Int):List Nat × ua × Int:=
 if (fm kind bits).2≠0 then ([],zU,(fm kind bits).2) else if n<1∨64<n then ([],zU,1)
 else if u.base+2^u.bits<Dd (u.base+u.used) (fm kind bits).1.toNat+n.toNat*2^(fm kind bits).1.toNat then ([],zU,81)
 else ((List.range n.toNat).map fun i=>Dd (u.base+u.used) (fm kind bits).1.toNat+i*2^(fm kind bits).1.toNat,
  { u with used:=Dd (u.base+u.used) (fm kind bits).1.toNat+n.toNat*2^(fm kind bits).1.toNat-u.base},0)
theorem yE {kind bits:Int}:0≤(fm kind bits).1/\(fm kind bits).1≤20:=by
 unfold fm
 repeat' split
 all_goals (dsimp only;omega)
theorem Ap (v n:Nat):v≤Dd v n/\Dd v n<v+2^n:=by
 unfold Dd;have hp:0<2^n:=Nat.two_pow_pos n;have h1:=Nat.div_add_mod (v+(2^n-1)) (2^n);have h2:=Nat.mod_lt (v+(2^n-1)) hp;rw[Nat.mul_comm] at h1;omega
theorem Fs {v n:Nat} (h:v%2^n=0):Dd v n=v:=by
 have hp:0<2^n:=Nat.two_pow_pos n;have h1:=Ap v n;have h2:Dd v n%2^n=0:=by unfold Dd;exact Nat.mul_mod_left _ _
 obtain ⟨a,ha⟩:=Nat.dvd_of_mod_eq_zero h;obtain ⟨c,hc⟩:=Nat.dvd_of_mod_eq_zero h2;rw[hc,ha] at h1;have h3:a≤c:=Nat.le_of_mul_le_mul_left h1.1 hp;have h4:c<a+1:=Nat.lt_of_mul_lt_mul_left (a:=2^n) (by rw[Nat.mul_add];omega);rw[hc,ha,show c=a from by omega]
theorem zj (v n:Nat) (hv:v<2^64) (hn:n≤64):fc .u64 (v:Int) ((2^n-1:Nat):Int)=((v / 2^n*2^n:Nat):Int):=by
 have hp:0<2^n:=Nat.two_pow_pos n;have hle:2^n≤2^64:=Nat.pow_le_pow_right om hn;unfold fc;rw[Sl.nO,Sl.nO];have hgl:∀(z j:Nat),j<64->(BitVec.ofNat 64 z).getLsbD j=z.testBit j:=fun z j hj=>by rw[BitVec.getLsbD_ofNat];simp[hj]
 have hbit:∀j,j<64->(BitVec.ofNat 64 v &&& ~~~ BitVec.ofNat 64 (2^n-1)).toNat.testBit j=(v.testBit j&& !decide (j<n)):=fun j hj=>by
  rw[BitVec.testBit_toNat,BitVec.getLsbD_and,BitVec.getLsbD_not,hgl _ _ hj,hgl _ _ hj,Nat.testBit_two_pow_sub_one];simp[hj]
 have hlt:=(BitVec.ofNat 64 v &&& ~~~ BitVec.ofNat 64 (2^n-1)).isLt;show IntKind.u64.wrap (((BitVec.ofNat 64 v &&& ~~~ BitVec.ofNat 64 (2^n-1)).toNat:Nat):Int)=_;generalize hz:(BitVec.ofNat 64 v &&& ~~~ BitVec.ofNat 64 (2^n-1)).toNat=z at hbit hlt;rw[Sl.wrap_u64,Nat.mod_eq_of_lt hlt];congr 1;have hdm:v / 2^n*2^n≤v:=Nat.div_mul_le_self _ _;apply Nat.eq_of_testBit_eq;intro i;by_cases h64:i<64
 ·rw[hbit i h64,Nat.testBit_mul_two_pow,Nat.testBit_div_two_pow]
  by_cases hin:i<n
  ·simp[hin];omega
  ·simp[hin,Nat.sub_add_cancel (Nat.le_of_not_lt hin)];intro _;omega
 ·rw[Nat.testBit_lt_two_pow (Nat.lt_of_lt_of_le hlt (Nat.pow_le_pow_right om om)),Nat.testBit_lt_two_pow (Nat.lt_of_lt_of_le (Nat.lt_of_le_of_lt hdm hv) (Nat.pow_le_pow_right om om))]
section
variable {B:Nat} {w0 w:World} {R L:List aA}
theorem BK (x y:Nat) (w:World):xb Tryz.prog 261 #[.y (x:Int), .y (y:Int), .y (0:Int)] w (.tuple #[.y (((x+y)%18446744073709551616:Nat):Int), .y (((x+y) / 18446744073709551616:Nat):Int)]) w:=by
 unfold xb;rw[run_callFunc_extern Tryz.func261 (by kernel_rfl) (by kernel_rfl) (by kernel_rfl) (e:=add64Entry) (by kernel_rfl),run_add64 (x:Int) (y:Int) 0 om om om om];simp only[Result.andThen,Int.add_zero];congr 5
theorem mM {v n:Nat} {K:Int->Int->Pw} (hv:v<2^62) (hn:n≤60) (h:K ((Dd v n:Nat):Int) 0 w):C.qdI (v:Int) (n:Int) K w:=by
 apply S.qdI0;have e62:(2:Nat)^62=4611686018427387904:=by decide
 have hle:2^n≤2^60:=Nat.pow_le_pow_right om hn;have e60:(2:Nat)^60=1152921504606846976:=by decide
 intro k hk;refine aE om ?_;apply hk;rw[decide_eq_false om];refine bD rfl ?_;refine Sl.fa om ?_;refine ⟨_,_,w,BK v (2^n-1) w, ?_⟩;rw[Nat.div_eq_of_lt om,Nat.mod_eq_of_lt om];refine fP rfl ?_;have h64:(2:Nat)^64=18446744073709551616:=by decide
 rw[zj _ _ om om];exact h
theorem nN {n a c d:Int} {K:Int->Int->Pw} (hb:a≤n/\n≤c->0≤n+d/\n+d≤1000) (h:K (if a≤n/\n≤c then n+d else 0) (if a≤n/\n≤c then 0 else 1) w):C.qbT n a c d K w:=by
 apply S.qbT0;intro k hk;refine dD (fun e=>?_) (fun e=>?_)
 ·apply hk
  rw[if_neg om,if_neg om] at h;exact bN rfl h
 ·apply hk
  by_cases e2:n>c
  ·rw[decide_eq_true e2]
   rw[if_neg om,if_neg om] at h;exact bN rfl h
  ·rw[decide_eq_false e2]
   have:=hb om;rw[if_pos om,if_pos om] at h;rw[wr om om];exact bD rfl h
theorem tn {K:Int->Int->Int->Int->Int->Int->Int->Int->Int->Int->Pw} (h:Ow B w0 w R) (hK:∀w',Ow B w0 w' R->K 0 0 0 5 2 2 6 6 6 0 w'):C.qcv K w:=by
 apply S.qcv0;refine h.a fun c w1 h=>?_;refine h.ax rfl rfl fun w h=>?_
 (try dsimp only[putAt,List.set_cons_zero,List.set_cons_succ] at h)
 refine h.nZ rfl ?_;exact hK w h.drop
theorem BG {kind bits:Int} {K:Int->Int->Pw} (h:Ow B w0 w R) (hK:∀w',Ow B w0 w' R->K (fm kind bits).1 (fm kind bits).2 w'):C.qdg kind bits K w:=by
 apply S.qdg0;unfold fm at hK;refine gB (fun e=>?_) (fun e=>?_)
 ·rw[if_pos e] at hK
  refine nN om ?_;have:=hK w h;split at this
  ·rename_i hb
   rw[if_pos hb,if_pos hb,Int.add_zero];exact this
  ·rename_i hb
   rw[if_neg hb,if_neg hb];exact this
 rw[if_neg e] at hK;refine gB (fun e2=>?_) (fun e2=>?_)
 ·rw[if_pos e2] at hK
  refine nN om ?_;have:=hK w h;split at this
  ·rename_i hb
   rw[if_pos hb,if_pos hb];exact this
  ·rename_i hb
   rw[if_neg hb,if_neg hb];exact this
 rw[if_neg e2] at hK;intro k hk;refine dD (fun e3=>?_) (fun e3=>?_)
 ·rw[if_neg om,if_neg om,if_neg om] at hK
  apply hk;exact bN rfl (hK w h)
 refine dD (fun e4=>?_) (fun e4=>?_)
 ·rw[if_neg om,if_neg om,if_neg om] at hK
  apply hk;exact bN rfl (hK w h)
 refine tn h fun w h=>?_
 refine ⟨om,om, ?_⟩;have hk2:kind=0∨kind=3∨kind=4∨kind=5∨kind=6∨kind=7∨kind=8∨kind=9:=by omega
 have fin:∀z:Int,(#[.z 0, .z 0, .z 0, .z 5, .z 2, .z 2, .z 6, .z 6, .z 6, .z 0]:Array Value)[kind.toNat*1]?=some (.z z)->z≠0->
   (∀w',Ow B w0 w' R->K z 0 w')->k (z==0) w:=fun z hz z0 hK=>by
  rw[show (z==0)=false from by simpa using z0];apply hk;refine bD rfl ?_;refine tn h fun w h=>?_
  exact ⟨om,om,z,hz,hK w h⟩
 have fin0:(∀w',Ow B w0 w' R->K 0 80 w')->k ((0:Int)==0) w:=fun hK=>by
  apply hk;exact bN rfl (hK w h)
 rcases hk2 with rfl|rfl|rfl|rfl|rfl|rfl|rfl|rfl
 ·exact ⟨0,rfl,fin0 hK⟩
 ·exact ⟨5,rfl,fin 5 rfl (by decide) hK⟩
 ·exact ⟨2,rfl,fin 2 rfl (by decide) hK⟩
 ·exact ⟨2,rfl,fin 2 rfl (by decide) hK⟩
 ·exact ⟨6,rfl,fin 6 rfl (by decide) hK⟩
 ·exact ⟨6,rfl,fin 6 rfl (by decide) hK⟩
 ·exact ⟨6,rfl,fin 6 rfl (by decide) hK⟩
 ·exact ⟨0,rfl,fin0 hK⟩
theorem HP {n:Nat} (hn:n≤62):gy .u64 1 (n:Int)=((2^n:Nat):Int):=by
 have:=Sl.Hb (a:=1) (k:=n) (d:=1) (by decide) om;rw[Nat.one_mul] at this;exact this
theorem xh.room {u:ua} (hu:xh u):2^u.bits≤2^20/\u.base≤2^20/\u.used≤2^20:=by
 have h1:=hu.top;have h2:=hu.used;have h3:0<2^u.bits:=Nat.two_pow_pos _;omega
theorem za {u:ua} {K:Int->Pw} (hu:xh u) (h:Ow B w0 w R) (hK:∀w',Ow B w0 w' R->K 0 w'):C.qcP (u.base:Int) (u.bits:Int) (u.used:Int) K w:=by
 apply S.qcP0;obtain ⟨r1,r2,r3⟩:=hu.room;have e20:(2:Nat)^20=1048576:=by decide
 have hb:=hu.bits;have e62:(2:Nat)^62=4611686018427387904:=by decide
 refine h.a fun c w1 h=>?_;intro k hk;refine ⟨_,h.ao rfl,aE om ?_⟩;refine ⟨_,h.ao rfl,aE om ?_⟩;refine ⟨_,h.aq rfl, ?_⟩;apply hk;rw[decide_eq_false om];refine bD rfl ?_;refine ⟨_,h.aq rfl,_,h.ao rfl, ?_⟩;refine mM om om ?_;refine h.dr fun w h=>?_
 refine fP rfl ?_;refine ⟨_,h.aq rfl, ?_⟩;rw[Fs hu.dvd];refine fP rfl ?_;refine ⟨_,h.ao rfl,_,h.ao rfl,om, ?_⟩;rw[HP om];have:=hu.used;refine aE om ?_;exact hK _ h.drop
theorem Hh {s:Sl} {ys:List Nat} {y:Nat} {c:Nat} {L:List aA} {k:Sl->Pw} [I:bT s L Nat wE ys] [J:dG (ah wE s ys) L R] (h:Ow B w0 w (aa c [.y (y:Int)]::L)) (hbig:ys.length≤1000000000)
  (hk:∀s' w',s'.len=ys.length+1->Ow B w0 w' (ah wE s' (ys++ [y])::R)->k s' w'):
  ∃s' w',bo Tryz.prog [300,300] 300 (.slice s.a s.len s.cap) (.slice (some (Addr.mk c 0 none)) 1 1) w s' w'/\k s' w':=
 Ow.fy (E:=wE) (y:=y) Tryz.underlying300 (show Tryz.prog.info? 33=some Tryz.t33 from by kernel_rfl) (zv:= .y 0) (by kernel_rfl) (by kernel_rfl) rfl (by decide) h (by
  have e:Tryz.t33.bytes=8:=by kernel_rfl
  rw[e];omega) hk
theorem sh {u:ua} {kind bits n:Int} {K:Sl->Int->Int->Int->Int->Pw} (hu:xh u) (h:Ow B w0 w R)
  (hK:∀s w',Ow B w0 w' (ah wE s (bF u kind bits n).1::R)->K s ((bF u kind bits n).2.1.base:Int) ((bF u kind bits n).2.1.bits:Int) ((bF u kind bits n).2.1.used:Int) (bF u kind bits n).2.2 w'):C.qcs (u.base:Int) (u.bits:Int) (u.used:Int) kind bits n K w:=by
 apply S.qcs0;obtain ⟨r1,r2,r3⟩:=hu.room;have e20:(2:Nat)^20=1048576:=by decide
 have hb:=hu.bits;have e62:(2:Nat)^62=4611686018427387904:=by decide
 refine h.a fun c w1 h=>?_;refine h.a fun d w2 h=>?_;refine h.rB rfl ?_;refine za hu h fun w h=>?_
 refine BG h fun w h=>?_
 refine fP rfl ?_;unfold bF at hK;have hs:=yE (kind:=kind) (bits:=bits);generalize fm kind bits=sz at hK hs⊢;obtain ⟨z,e⟩:=sz;dsimp only at hK hs⊢;obtain ⟨m,rfl⟩:=Int.eq_ofNat_of_zero_le hs.1;rw[Int.toNat_natCast] at hK;have hz2:2^m≤2^20:=Nat.pow_le_pow_right om om
 have bad:∀(q:Int) (w:World),(∀s w',Ow B w0 w' (ah wE s []::R)->K s 0 0 0 q w')->Ow B w0 w (aa d [.y 0, .z 0, .y 0]::aa c [.y (u.base:Int), .z (u.bits:Int), .y (u.used:Int)]::R)->
   aH w (Addr.mk d 0 none) 0 [.y (0:Int), .z (0:Int), .y (0:Int)] fun w17=>az w17 (Addr.mk d 0 none) 0 [.u, .o, .u] fun (r18:Int) (r19:Int) (r20:Int)=>K ⟨none,0,0⟩ r18 r19 r20 q w17:=fun q w hK h=>by
  refine h.ax rfl rfl fun w h=>?_
  (try dsimp only[putAt,List.set_cons_zero,List.set_cons_succ] at h)
  refine h.rB rfl ?_;exact hK _ w (Ow.dK h.drop.drop)
 by_cases he:e≠0
 ·rw[if_pos he] at hK
  refine lj he ?_;exact bad e w hK h
 rw[if_neg he] at hK;refine fP om ?_;intro k hk;by_cases hn:n<1∨64<n
 ·rw[if_pos hn] at hK
  have:k true w:=by
   apply hk;refine bN rfl ?_;exact bad 1 w hK h
  refine dD (fun e1=>this) (fun e1=>?_);rw[decide_eq_true om];exact this
 rw[if_neg hn] at hK;obtain ⟨n,rfl⟩:=Int.eq_ofNat_of_zero_le (show 0≤n by omega);rw[Int.toNat_natCast] at hK;refine aE om ?_;rw[decide_eq_false om];apply hk;refine bD rfl ?_;refine ⟨_,h.aq rfl,_,h.ao rfl, ?_⟩
 have hw:IntKind.u64.wrap ((u.base:Int)+(u.used:Int))=((u.base+u.used:Nat):Int):=by
  have:=Sl.wrap_u64 (u.base+u.used);rw[Nat.mod_eq_of_lt om] at this;rw[←this];congr 1
 rw[hw];have hup:=Ap (u.base+u.used) m;refine mM om om ?_;refine h.dr fun w h=>?_
 refine ⟨_,h.aq rfl,_,h.ao rfl,om,om, ?_⟩;generalize Dd (u.base+u.used) m=q at hK hup⊢;have hnw:IntKind.u64.wrap (n:Int)=(n:Int):=by rw[Sl.wrap_u64,Nat.mod_eq_of_lt om]
 have hnm:n*2^m≤64*2^20:=Nat.mul_le_mul om hz2
 have w1:IntKind.u64.wrap ((q:Int)+gy .u64 (IntKind.u64.wrap (n:Int)) (m:Int))=((q+n*2^m:Nat):Int):=by
  rw[hnw,Sl.Hb (a:=n) (k:=m) (d:=7) om om,←Int.natCast_add,Sl.wrap_u64,Nat.mod_eq_of_lt om]
 have w2:IntKind.u64.wrap ((u.base:Int)+gy .u64 1 (u.bits:Int))=((u.base+2^u.bits:Nat):Int):=by
  rw[HP om,←Int.natCast_add,Sl.wrap_u64,Nat.mod_eq_of_lt om]
 rw[w1,w2];by_cases hfit:u.base+2^u.bits<q+n*2^m
 ·rw[if_pos hfit] at hK
  refine aR om ?_;exact bad 81 w hK h
 rw[if_neg hfit] at hK;refine aE om ?_;intro l hl
 have loop:∀(r j:Nat) (o:Sl) (w:World),j+r=n->Ow B w0 w (ah wE o ((List.range j).map fun i=>q+i*2^m)::aa d [.y 0, .z 0, .y 0]::aa c [.y (u.base:Int), .z (u.bits:Int), .y (u.used:Int)]::R)->l ((q+j*2^m:Nat):Int) o (j:Int) w:=by
  intro r
  induction r with
  |zero=>
   intro j o w hj h;have hj:j=n:=by omega
   subst hj;apply hl;refine aE om ?_;refine ⟨_,h.aq rfl, ?_⟩
   have e3:IntKind.u64.wrap (((q+j*2^m:Nat):Int)-(u.base:Int))=((q+j*2^m-u.base:Nat):Int):=by
    rw[show (((q+j*2^m:Nat):Int)-(u.base:Int))=((q+j*2^m-u.base:Nat):Int) from by omega,Sl.wrap_u64,Nat.mod_eq_of_lt om]
   rw[e3];refine h.cC rfl rfl fun w h=>?_
   refine h.dr fun w h=>?_
   (try dsimp only[putAt,List.set_cons_zero,List.set_cons_succ] at h)
   refine h.rB rfl ⟨?_,trivial⟩;refine h.ax rfl rfl fun w h=>?_
   (try dsimp only[putAt,List.set_cons_zero,List.set_cons_succ] at h)
   refine h.rB rfl ?_;exact hK _ w h.yy.yy
  |succ r ih=>
   intro j o w hj h;have hjm:(j+1)*2^m≤n*2^m:=Nat.mul_le_mul_right _ om;apply hl;refine aR om ?_;refine h.a fun g w2 h=>?_;refine Hh (s:=o) (y:=q+j*2^m) h (by simp;omega) fun o' w ho' h=>⟨om, ?_⟩
   have e4:IntKind.u64.wrap (((q+j*2^m:Nat):Int)+gy .u64 1 (m:Int))=((q+(j+1)*2^m:Nat):Int):=by
    rw[HP om,←Int.natCast_add,Sl.wrap_u64,Nat.mod_eq_of_lt (by rw[Nat.add_mul] at hjm;omega)];rw[Nat.add_mul,Nat.one_mul,Nat.add_assoc]
   rw[e4,show IntKind.i64.wrap ((j:Int)+1)=((j+1:Nat):Int) from by rw[wr om om];omega];refine ih (j+1) o' w om ?_;rw[List.range_succ,List.map_append];exact h
 have:=loop n 0 ⟨none,0,0⟩ w om (Ow.dK h);rw[Nat.zero_mul,Nat.add_zero] at this;exact this
theorem zf {u:ua} {K:Int->Int->Int->Pw} (h:Ow B w0 w R) (hK:∀w',Ow B w0 w' R->K (u.base:Int) (u.bits:Int) 0 w'):C.qcN (u.base:Int) (u.bits:Int) (u.used:Int) K w:=by
 apply S.qcN0;refine h.a fun c w1 h=>?_;refine h.a fun d w2 h=>?_;refine h.cC rfl rfl fun w h=>?_
 (try dsimp only[putAt,List.set_cons_zero,List.set_cons_succ] at h)
 refine h.rB rfl ?_;refine h.ax rfl rfl fun w h=>?_
 (try dsimp only[putAt,List.set_cons_zero,List.set_cons_succ] at h)
 refine h.rB rfl ?_;exact hK w h.drop.drop
theorem xh.place {u:ua} (hu:xh u) {kind bits n:Int} (h:(bF u kind bits n).2.2=0):1≤n/\n≤64/\xh (bF u kind bits n).2.1/\(bF u kind bits n).1.length=n.toNat/\(fm kind bits).2=0/\
  ∀a∈(bF u kind bits n).1,a%2^(fm kind bits).1.toNat=0/\a+2^(fm kind bits).1.toNat≤2^20:=by
 unfold bF at*
 have hs:=yE (kind:=kind) (bits:=bits);generalize fm kind bits=sz at*
 split at h
 ·rename_i h0;exact absurd h h0
 rename_i h0;rw[if_neg h0];split at h
 ·cases h
 rename_i h1;rw[if_neg h1];split at h
 ·cases h
 rename_i h2;rw[if_neg h2];have hup:=Ap (u.base+u.used) sz.1.toNat;have ht:=hu.top;refine ⟨om,om,⟨hu.bits,hu.top,hu.dvd, ?_⟩,by simp,om,fun a ha=>?_⟩
 ·dsimp only;omega
 ·obtain ⟨i,hi,rfl⟩:=List.mem_map.1 ha
  rw[List.mem_range] at hi;have hm:(i+1)*2^sz.1.toNat≤n.toNat*2^sz.1.toNat:=Nat.mul_le_mul_right _ om;rw[Nat.add_mul,Nat.one_mul] at hm;refine ⟨?_,om⟩;rw[Nat.add_mul_mod_self_right];unfold Dd;exact Nat.mul_mod_left _ _
end
end Go.Proofs.YtlhljbbfckbjpaaGreat
end
section
set_option maxRecDepth 100000
namespace Go.Proofs.YtlhljbbfckbjpaaGreat
open Go Go.Vc Go.Proofs
theorem S.qo0 {a b c K w}:Fr (C.qo a b c K w) (0≤(a.len:Int)/\(a.len:Int)≤(a.cap:Int)/\0≤c/\c≤(((a.len:Int).toNat:Nat):Int)/\0≤b/\b≤(c.toNat:Int)/\bif b==c then K a w else Dr w fun d=>0≤b/\b≤(a.cap:Int)/\0≤c/\c≤(a.len:Int)/\(∃e f,bo Tryz.prog [188,188] 188 (.slice (dV a.a 0 a.cap 3) (b.toNat-0) (a.cap-0)) (.slice (dV a.a c.toNat a.cap 3) (a.len-c.toNat) (a.cap-c.toNat)) d e f/\0≤(a.len:Int)/\(a.len:Int)≤(e.cap:Int)/\0≤(e.len:Int)/\(e.len:Int)≤(((a.len:Int).toNat:Nat):Int)/\∃b:World,gP Tryz.prog [188] 0 (.slice (dV e.a ((e.len:Int).toNat) e.cap 3) (((a.len:Int).toNat)-((e.len:Int).toNat)) (e.cap-((e.len:Int).toNat))) f b/\K e b)/\True):=aD Tryz.func264 .g8
theorem S.qw0 {a b K w}:Fr (C.qw a b K w) (∀c:Int->Pw,(∀(d:Int) (e:World),(bif decide (d<(a.len:Int)) then ∃f,a.a=some f/\0≤d/\d<(a.len:Int)/\az e (f.add (d.toNat*8)) 0 [.o, .o, .o, .o, .o, .u, .u, .o] fun (a f g h i j k l:Int)=>bY Tryz.prog (b) [.agg #[.z a, .z f, .z g, .z h, .z i, .y j, .y k, .z l]] e fun a b=>∃f,a= .returned (.bool f)/\bif f then K d b else c (IntKind.i64.wrap (d+1)) b else K (-1) e)->c d e)->c 0 w):=aD Tryz.func265 .g14
theorem S.qh0 {a b K w}:Fr (C.qh a b K w) (C.qd a b (fun c d=>bif c==(-1) then K a d else ∀e:Int->Int->Pw,(∀(c d:Int) (f:World),(bif decide (d<(a.len:Int)) then ∃g,a.a=some g/\0≤d/\d<(a.len:Int)/\az f (g.add (d.toNat*8)) 0 [.o, .o, .u, .u, .u, .u, .u, .b] fun (g h i j k l m:Int) (n:Bool)=>A2 f [.z 0, .z 0, .y 0, .y 0, .y 0, .y 0, .y 0, .bool false] 357 fun o p=>aH p o.p 0 [.z g, .z h, .y i, .y j, .y k, .y l, .y m, .bool n] fun g=>az g o.p 0 [.o, .o, .u, .u, .u, .u, .u, .b] fun (h i j k l m n:Int) (p:Bool)=>bY Tryz.prog (b) [.agg #[.z h, .z i, .y j, .y k, .y l, .y m, .y n, .bool p]] g fun b g=>∃h,b= .returned (.bool h)/\bif !h then az g o.p 0 [.o, .o, .u, .u, .u, .u, .u, .b] fun (b h i j k l m:Int) (n:Bool)=>∃o,a.a=some o/\0≤c/\c<(a.len:Int)/\aH g (o.add (c.toNat*8)) 0 [.z b, .z h, .y i, .y j, .y k, .y l, .y m, .bool n] fun b=>e (IntKind.i64.wrap (c+1)) (IntKind.i64.wrap (d+1)) b else e c (IntKind.i64.wrap (d+1)) g else 0≤c/\c≤(a.len:Int)/\∃b:World,gP Tryz.prog [388] 0 (.slice (dV a.a c.toNat a.cap 8) (a.len-c.toNat) (a.cap-c.toNat)) f b/\0≤c/\c≤(a.cap:Int)/\K ⟨dV a.a 0 a.cap 8,c.toNat-0,a.cap-0⟩ b)->e c d f)->e c (IntKind.i64.wrap (c+1)) d) w):=aD Tryz.func269 .g6
theorem S.qg0 {a b K w}:Fr (C.qg a b K w) (C.qd a b (fun a b=>K (decide (a≥0)) b) w):=aD Tryz.func272 (.v .w)
theorem S.qj0 {a b c K w}:Fr (C.qj a b c K w) (0≤(a.len:Int)/\(a.len:Int)≤(a.cap:Int)/\0≤c/\c≤(((a.len:Int).toNat:Nat):Int)/\0≤b/\b≤(c.toNat:Int)/\bif b==c then K a w else Dr w fun d=>0≤b/\b≤(a.cap:Int)/\0≤c/\c≤(a.len:Int)/\(∃e f,bo Tryz.prog [388,388] 388 (.slice (dV a.a 0 a.cap 8) (b.toNat-0) (a.cap-0)) (.slice (dV a.a c.toNat a.cap 8) (a.len-c.toNat) (a.cap-c.toNat)) d e f/\0≤(a.len:Int)/\(a.len:Int)≤(e.cap:Int)/\0≤(e.len:Int)/\(e.len:Int)≤(((a.len:Int).toNat:Nat):Int)/\∃b:World,gP Tryz.prog [388] 0 (.slice (dV e.a ((e.len:Int).toNat) e.cap 8) (((a.len:Int).toNat)-((e.len:Int).toNat)) (e.cap-((e.len:Int).toNat))) f b/\K e b)/\True):=aD Tryz.func274 .g8
theorem S.qaS0 {a b K w}:Fr (C.qaS a b K w) (∀c:Int->Pw,(∀(d:Int) (e:World),(bif decide (d<(a.len:Int)) then ∃f,a.a=some f/\0≤d/\d<(a.len:Int)/\∃a,e.cell? (f.add (d.toNat*1))=some (.z a)/\bif b==a then K d e else c (IntKind.i64.wrap (d+1)) e else K (-1) e)->c d e)->c 0 w):=aD Tryz.func275 .g14
theorem S.qk0 {a b K w}:Fr (C.qk a b K w) (∀c:Int->Pw,(∀(d:Int) (e:World),(bif decide (d<(a.len:Int)) then ∃f,a.a=some f/\0≤d/\d<(a.len:Int)/\az e (f.add (d.toNat*2)) 0 [.o, .m] fun (a:Int) (f:Option Nat)=>bY Tryz.prog (b) [.agg #[.z a, .map f]] e fun a b=>∃f,a= .returned (.bool f)/\bif f then K d b else c (IntKind.i64.wrap (d+1)) b else K (-1) e)->c d e)->c 0 w):=aD Tryz.func276 .g14
theorem S.qd0 {a b K w}:Fr (C.qd a b K w) (∀c:Int->Pw,(∀(d:Int) (e:World),(bif decide (d<(a.len:Int)) then ∃f,a.a=some f/\0≤d/\d<(a.len:Int)/\az e (f.add (d.toNat*8)) 0 [.o, .o, .u, .u, .u, .u, .u, .b] fun (a f g h i j k:Int) (l:Bool)=>bY Tryz.prog (b) [.agg #[.z a, .z f, .y g, .y h, .y i, .y j, .y k, .bool l]] e fun a b=>∃f,a= .returned (.bool f)/\bif f then K d b else c (IntKind.i64.wrap (d+1)) b else K (-1) e)->c d e)->c 0 w):=aD Tryz.func288 .g14
end Go.Proofs.YtlhljbbfckbjpaaGreat
end
