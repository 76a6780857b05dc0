/- What the row rests on: the declarations that it needs, out of my texts (part 4). -/
import Derived.Test.YtfgikfglabdeoaaGreatZy3
open Bool renaming false->G,true->Z
open Decidable renaming decide->V
open Go renaming Addr->qg,Value->Q,World->J
open Go.IntKind renaming i64->qf,u64->qv
open Go.Proofs.Tryz renaming f154->aaI,prog->qe,t139->qS,t248->aa2,t259->aa4,t3->qF,t435->aa3,underlying133->aaO,underlying22->qG
open Option renaming none->N,some->S
open _root_ renaming Bool->W,False->qk,Int->O,List->Y,Nat->X,Option->qh,True->I,absurd->qj,beq_iff_eq->qH,bne_iff_ne->qN,cond_false->qp,cond_true->ql,decide_eq_decide->qV,decide_eq_false->qm,decide_eq_true->qu,decide_eq_true_eq->qB,if_false->qy,if_neg->F,if_pos->qd,if_true->qC,or_false->qI,rfl->U
open Go.Proofs.Tryz
open Bool renaming and_eq_true->LO,false_and->M0,true_and->M6
open Decidable renaming not_not->OG
open Int renaming eq_ofNat_of_zero_le->LB,natCast_add->Oa,natCast_emod->P7,tmod_eq_emod_of_nonneg->Oq,toNat_natCast->Lw,toNat_of_nonneg->Ox
open List renaming append_assoc->LN,append_nil->LQ,drop_eq_nil_of_le->Nz,drop_replicate->PJ,eraseIdx_cons_succ->Nk,ext_getElem?->L5,filter_append->Mi,filter_congr->Od,filter_cons->Mc,filter_eq_self->Mv,filter_filter->M7,filter_sublist->NS,find?_cons->Qf,flatMap_cons->MP,flatMap_nil->OL,getElem?_append_left->LI,getElem?_eq_none->L0,getElem?_eq_some_iff->Lu,getElem?_map->LV,getElem?_mapIdx->Oi,getElem?_range->ME,getElem?_replicate->NP,getElem?_set->Mb,getElem?_zipWith->N0,length_cons->LL,length_filter_le->L6,length_nil->M5,length_set->MJ,length_take->LX,map_append->LU,map_cons->L1,mem_append->Mm,mem_cons->LD,mem_filter->LP,mem_map->L2,mem_of_getElem?->L4,mem_or_eq_of_mem_set->Mz,mem_replicate->OA,nodup_cons->Mj,not_mem_nil->MB,pairwise_cons->My,perm_ext_iff_of_nodup->ND,perm_middle->Ml,range->LA,range_succ->N1,replicate->Ly,replicate_succ->N6,replicate_succ'->PC,replicate_zero->PL,set_append_left->Nw,set_cons_succ->LM,take_add_one->LJ,take_of_length_le->Lz,zipWith->Lx,zipWith_append->O1
open Nat renaming add_mul->MG,add_zero->NB,le_refl->Lv,le_trans->LY,mod_eq_of_lt->L7,mod_lt->OC,pow_le_pow_right->Mh,sub_self->MV,two_pow_pos->MD,zero_mul->Of
open Option renaming map_some->Mx
set_option maxRecDepth 100000
set_option maxHeartbeats 4000000
set_option linter.all false
namespace Go.Vc
open Go.Proofs
theorem Yt{a K w}:Fr (Sm a K w) (∀b:W->Pw,(∀(c:W)(d:J),(bif c then K N 1 d else A2 d [.z (-1)] 3 λb c=>SR ⟨S b.p,1,1⟩ a (λb c=>A2 c [.slice N 0 0,.slice N 0 0,b.v] 247 λb c=>∀d:O->Pw,(∀(c:O)(e:J),(bif V (c<a)then Dr e λa=>∃f,S b.p=S f/\∃g,a.s (f.add 1) g/\(Ri (λa e=>e.s (f.add 1) g/\(A2 e [.pointer a] 248 λa e=>(∃f h,aM qe [245,245] 245 g.v (.slice (S a.p) 1 1) e f h/\∃a,S b.p=S a/\(St h (a.add 1) f.v λa=>d (qf.wrap (c+1)) a)/\I)/\I)/\I) a)/\I else K (S b.p) 0 e)->d c e)->d 0 c) c)->b c d)->(bif V (a<1)then b Z w else b (V (a>8)) w)):=aj func38 (.v (.y (.y (.r (S [(10,.c .b)]) .done) (.x .w)) (.v (.y (.v (.x (.t (S [(17,.c (.i .i64))]) (.v (.y .w (.x (.x (.z (.o 0 254 (.o 1 96 (.o 2 96 (.o 3 96 (.hold 4 96 895 (.e 5 (.e 6 (.e 7 (.o 8 0 (.o 9 0 (.e 10 .done)))))))))))))))) .u))) .w))))
theorem Yu{a b c K w}:Fr (PY a b c K w) (∀d:W->Pw,(∀(e:W)(f:J),(bif e then K 0 1 f else ∃d,a=S d/\∃e,f.s d e/\bif V ((e.len:O)>=64)then K 0 2 f else ∃d,a=S d/\∃e,f.s d e/\A2 f [.z 0,.z b,.z c,.z 5,.y 0,.y 0,.y 0,.y 0,.y 0,.y 0,.y 0,.y 0] 139 λb c=>∃d f,aM qe [133,133] 133 e.v (.slice (S b.p) 1 1) c d f/\∃b,a=S b/\St f b d.v λb=>∃c,a=S c/\∃a,b.s c a/\K (qf.wrap ((a.len:O)-1)) 0 b)->d e f)->(Rk b (λb e=>bif !b then d Z e else QA a c (λa b=>d (!a) b) e) w)):=aj func42 (.v (.y (.x (.y (.r (S [(8,.c .b)]) .done) (.y .w (.v (.x .w))))) (.v .w)))
theorem Yv{a b K w}:Fr (PZ a b K w) (OT a b (λc d=>bif c.isNone then K 100 d else ∀e:W->Pw,(∀(c:W)(d:J),(bif c then K 101 d else Qc a b (λa=>K 0 a) d)->e c d)->(∃a,c=S a/\∃b,d.z a b/\bif b==1 then e Z d else ∃a,c=S a/\∃b,d.z a b/\e (b==2) d)) w):=aj func43 (.v (.v (.y (.x (.v (.y .w (.y (.r (S [(12,.c .b)]) .done) (.x .w))))) (.v .w))))
theorem Yw{a b K w}:Fr (P2 a b K w) (QA a b (λc d=>bif !c then K 0 G d else Qe a b (λc d e=>∃f,a=S f/\∃g,e.s (f.add 1) g/\∃f,g.a=S f/\0<=b/\b<(g.len:O)/\∃g,e.q (f.add (b.toNat*1)) g/\SU g (λe f g=>∀h:W->Pw,(∀(f:W)(g:J),(bif f then K c d g else ∀f:Pw,(∀c:J,(OY a e 2 (λc=>∃d,a=S d/\∃a,c.s (d.add 2) a/\∃d,a.a=S d/\0<=b/\b<(a.len:O)/\St c (d.add (b.toNat*1)) (.z e) λa=>K e Z a) c)->f c)->(bif d then OY a c 1 (λb=>Qc a c (λa=>f a) b) g else f g))->h f g)->(Dr g λb=>bif !f then h Z b else bif d then ∃d,a=S d/\∃f,b.s d f/\∃d,f.a=S d/\0<=e/\e<(f.len:O)/\∃f,b.z ((d.add (e.toNat*12)).add 1) f/\∃d,a=S d/\∃a,b.s d a/\∃d,a.a=S d/\0<=c/\c<(a.len:O)/\∃a,b.z ((d.add (c.toNat*12)).add 1) a/\h (V (f<=a)) b else h G b)) e) d) w):=aj func44 (.v (.y (.v (.x .w)) (.v (.v (.y (.y .g1 (.x .w)) (.y (.v (.t (S []) .w .u)) (.v (.v .w))))))))
theorem Yx{a b K w}:Fr (Rh a b K w) (Qe a b (λc d e=>bif !d then K G e else ∃d,a=S d/\∃f,e.s d f/\∃d,f.a=S d/\0<=c/\c<(f.len:O)/\St e ((d.add (c.toNat*12)).add 3) (.z 5) λd=>OY a c 1 (λd=>Qc a c (λc=>P2 a b (λ_ _ a=>K Z a) c) d) d) w):=aj func66 (.v (.v (.y (.v (.x .w)) (.v (.v (.v (.v .w)))))))
theorem Yy{a b K w}:Fr (SH a b K w) (Qe a b (λc d e=>bif !d then K G e else ∃d,a=S d/\∃f,e.s d f/\∃d,f.a=S d/\0<=c/\c<(f.len:O)/\∃g,e.z ((d.add (c.toNat*12)).add 3) g/\∃d,f.a=S d/\0<=c/\c<(f.len:O)/\St e ((d.add (c.toNat*12)).add 3) (.z (qf.wrap (g-1))) λd=>∃e,a=S e/\∃f,d.s e f/\∃e,f.a=S e/\0<=c/\c<(f.len:O)/\∃f,d.z ((e.add (c.toNat*12)).add 3) f/\bif V (f<=0)then Rh a b (λ_ a=>K Z a) d else K Z d) w):=aj func79 (.v (.v (.y (.v (.x .w)) (.v (.y (.v .w) .w)))))
theorem Yz{a K w}:Fr (SL a K w) (Dr w λb=>∃c,a=S c/\∃d,b.s c d/\∃c,a=S c/\∃e,b.s (c.add 2) e/\(TE d (λb d=>d.s (c.add 2) e/\(Pv e (λc d=>(A2 d [b.v,.slice N 0 0,c.v] 247 λb c=>∃d,a=S d/\∃a,c.s (d.add 1) a/\∀d:O->Pw,(∀(c:O)(e:J),(bif V (c<(a.len:O))then ∃f,a.a=S f/\0<=c/\c<(a.len:O)/\∃a,e.q (f.add (c.toNat*1)) a/\Dr e λf=>∃g,S b.p=S g/\∃h,f.s (g.add 1) h/\(Ru a (λa e=>e.s (g.add 1) h/\(A2 e [.pointer a] 248 λa e=>(∃f g,aM qe [245,245] 245 h.v (.slice (S a.p) 1 1) e f g/\∃a,S b.p=S a/\(St g (a.add 1) f.v λa=>d (qf.wrap (c+1)) a)/\I)/\I)/\I) f)/\I else K (S b.p) e)->d c e)->d 0 c)/\I) d)/\I) b)/\I):=aj func82 (.v (.y .g12 (.y (.v (.x (.t (S [(23,.c (.i .i64))]) (.v (.y .w (.x (.x (.v (.z (.o 0 510 (.o 1 224 (.o 2 224 (.o 3 224 (.o 5 16 (.hold 4 192 1791 (.e 6 (.e 7 (.e 8 .Km))))))))))))))) .u))) .w)))
theorem YA{a K w}:Fr (Rk a K w) (bif V (a>=0)then K (V (a<256)) w else K G w):=aj func122 (.v .w)
theorem YB{a b K w}:Fr (QA a b K w) (bif V (b>=0)then ∃c,a=S c/\∃a,w.s (c.add 1) a/\K (V (b<(a.len:O))) w else K G w):=aj func123 (.v .w)
theorem YC{a b K w}:Fr (OT a b K w) (∀c:W->Pw,(∀(d:W)(e:J),(bif d then K N e else ∃c,a=S c/\∃a,e.s c a/\∃c,a.a=S c/\0<=b/\b<(a.len:O)/\K (S (c.add (b.toNat*12))) e)->c d e)->(bif V (b<0)then c Z w else ∃d,a=S d/\∃a,w.s d a/\c (V (b>=(a.len:O))) w)):=aj func124 .K9
theorem YD{a b K w}:Fr (Qc a b K w) (OT a b (λc d=>∃e,c=S e/\St d e (.z 1) λd=>Dr d λd=>∃e,a=S e/\∃a,d.s (e.add 1) a/\∃e,c=S e/\∃f,d.z (e.add 2) f/\∃e,a.a=S e/\0<=f/\f<(a.len:O)/\∃a,d.q (e.add (f.toNat*1)) a/\∃e,c=S e/\∃c,d.z (e.add 1) c/\(TI a c b (λ_ a=>K a) d)/\I) w):=aj func125 (.v (.v (.z (.o 0 31984 (.o 1 31984 (.o 2 31984 (.o 3 31984 (.o 4 31744 (.o 5 31744 (.o 6 31744 (.o 7 31744 (.o 8 31744 (.o 9 31744 .KV)))))))))))))
theorem YE{a b K w}:Fr (Qe a b K w) (∀c:W->Pw,(∀(d:W)(e:J),(bif d then K 0 G e else ∃c,a=S c/\∃a,e.s (c.add 2) a/\∃c,a.a=S c/\0<=b/\b<(a.len:O)/\∃a,e.z (c.add (b.toNat*1)) a/\K a Z e)->c d e)->(QA a b (λd e=>bif !d then c Z e else ∃d,a=S d/\∃a,e.s (d.add 2) a/\∃d,a.a=S d/\0<=b/\b<(a.len:O)/\∃a,e.z (d.add (b.toNat*1)) a/\c (a==(-1)) e) w)):=aj func126 (.v (.y .JP .w))
theorem Vr{a b c K w}:Fr (OY a b c K w) (OT a b (λd e=>∃f,d=S f/\∃g,e.z f g/\∀f:Pw,(∀a:J,(∃b,d=S b/\St a b (.z c) λa=>K a)->f a)->(bif g==1 then Dr e λc=>∃h,a=S h/\∃i,c.s (h.add 1) i/\∃h,d=S h/\∃j,c.z (h.add 2) j/\∃h,i.a=S h/\0<=j/\j<(i.len:O)/\∃i,c.q (h.add (j.toNat*1)) i/\(TK i b (λ_ a=>f a) c)/\I else bif g==2 then Dr e λb=>∃c,a=S c/\∃a,b.s (c.add 2) a/\∃c,d=S c/\∃d,b.z (c.add 2) d/\∃c,a.a=S c/\0<=d/\d<(a.len:O)/\(St b (c.add (d.toNat*1)) (.z (-1)) λa=>f a)/\I else f e)) w):=aj func128 (.v (.x (.v (.x (.v (.t (S []) (.z (.o 0 1264 (.o 1 1264 (.o 2 1264 (.o 3 1264 (.o 4 1024 (.o 5 1024 (.o 6 1024 (.o 7 1024 (.o 8 1024 (.o 9 1024 (.o 10 0 (.e 11 .done))))))))))))) (.v (.x (.z (.o 0 240 (.o 1 240 (.o 2 240 (.o 3 240 .J9)))))))))))))
theorem YF{a b K w}:Fr (QB a b K w) (A2 w [.z 0,.z 0,.z 0,.z 0,.y 0,.y 0,.y 0,.y 0,.y 0,.y 0,.y 0,.y 0] 139 λc d=>OT a b (λa b=>bif a.isNone then aB b c.p 0 [.z 0,.z 0,.z 0,.z 0,.y 0,.y 0,.y 0,.y 0,.y 0,.y 0,.y 0,.y 0] λd=>ax d c.p 0 [.o,.o,.o,.o,.u,.u,.u,.u,.u,.u,.u,.u] λ(e f g h i j k l m n o p:O)=>K e f g h i j k l m n o p 100 d else ∃d,a=S d/\ax b d 0 [.o,.o,.o,.o,.u,.u,.u,.u,.u,.u,.u,.u] λ(a d e f g h i j k l m n:O)=>aB b c.p 0 [.z a,.z d,.z e,.z f,.y g,.y h,.y i,.y j,.y k,.y l,.y m,.y n] λa=>ax a c.p 0 [.o,.o,.o,.o,.u,.u,.u,.u,.u,.u,.u,.u] λ(b c d e f g h i j k l m:O)=>K b c d e f g h i j k l m 0 a) d):=aj func140 .IW
theorem UR{a b c d K w}:Fr (QG a b c d K w) (OT a b (λa b=>∀e:O->Pw,(∀(b:O)(f:J),(bif b !=0 then K b f else ∃b,a=S b/\0<=c/\c<8/\St f ((b.add 4).add (c.toNat*1)) (.y d) λa=>K 0 a)->e b f)->(PW a.isNone 100 (λa b=>bif V (c<0)then PW Z 1 (λb c=>A2 c [.z a,.z b] 28 λa b=>Qo ⟨S a.p,2,2⟩ (λa b=>e a b) b) b else PW (V (c>=8)) 1 (λb c=>A2 c [.z a,.z b] 28 λa b=>Qo ⟨S a.p,2,2⟩ (λa b=>e a b) b) b) b)) w):=aj func194 (.v (.v (.y (.y (.r (S [(10,.c (.i .i64))]) .done) (.v (.x .w))) (.v .w))))
theorem YG{a b K w}:Fr (QR a b K w) (OT a b (λc d=>bif c.isNone then K 100 d else ∃e,c=S e/\∃c,d.z e c/\bif c==0 then K 101 d else OY a b 0 (λa=>K 0 a) d) w):=aj func262 .Ld
theorem YH{a b c K w}:Fr (TU a b c K w) (OT a b (λd e=>PW d.isNone 100 (λe f=>Rk c (λf g=>PW (!f) 1 (λf g=>A2 g [.z e,.z f] 28 λe f=>Qo ⟨S e.p,2,2⟩ (λe f=>bif e !=0 then K e f else ∃e,d=S e/\∃g,f.z e g/\bif g !=1 then ∃e,d=S e/\St f (e.add 1) (.z c) λe=>K 0 e else OY a b 1 (λe=>∃f,d=S f/\St e (f.add 1) (.z c) λc=>Qc a b (λa=>K 0 a) c) f) f) g) f) e) w):=aj func263 (.v (.v (.y (.v (.v (.x .w))) (.y (.v (.x (.v .w))) (.v (.v (.v .w)))))))
theorem YI{a K w}:Fr (Qo a K w) (Vd a (.func (.func 368) #[] #[]) (λb c=>bif V (b<0)then K 0 c else ∃d,a.a=S d/\0<=b/\b<(a.len:O)/\∃a,c.z (d.add (b.toNat*1)) a/\K a c) w):=aj func294 .IW
theorem YJ{a b K w}:Fr (PW a b K w) (bif a then K b w else K 0 w):=aj func295 .AQ
theorem YK{a b K w}:Fr (RY a b K w) (OT a b (λc d=>bif c.isNone then K 100 d else ∃e,c=S e/\∃c,d.z e c/\bif c !=2 then K 101 d else OY a b 3 (λa=>K 0 a) d) w):=aj func356 .Ld
theorem YL{a K w}:Fr (Ve a K w) (K (a !=0) w):=aj func368 (.v .w)
namespace Th
structure rj where
 st:O
 pr:O
 co:O
 le:O
 rg:X->O
def ff:dT rj:=⟨12,λt=>[.z t.st,.z t.pr,.z t.co,.z t.le,.y (t.rg 0),.y (t.rg 1),.y (t.rg 2),.y (t.rg 3),.y (t.rg 4),.y (t.rg 5),.y (t.rg 6),.y (t.rg 7)],λ_=>rfl,λx v h=>by simp only[LD,MB,qI]at h;rcases h with rfl|rfl|rfl|rfl|rfl|rfl|rfl|rfl|rfl|rfl|rfl|rfl<;>rfl,qb⟩
def dO:dT X:=⟨1,λb=>[.q b],λ_=>rfl,λx v h=>by simp at h;subst h;rfl,Lv _⟩
structure Mt where
 br:Y rj
 qs:Y Qs
 runs:Y O
def bu(b:X)(m:Mt):aH:=sB λp:(Sl × Sl × Sl)× Y X=>cj (dh (p.2.length=m.qs.length)::aa b [bg p.1.1,bg p.1.2.1,bg p.1.2.2]::af ff p.1.1 m.br::af dO p.1.2.1 p.2::af aq p.1.2.2 m.runs::Lx aD p.2 m.qs)
theorem FN{b:X}{L':Qs}:∀(bs:Y X)(qs:Y Qs)(c:X),bs[c]?=S b->(Lx aD bs qs).set c (aD b L')=Lx aD bs (qs.set c L')
 | [],_,_,h=>by simp at h
 |_::_,[],c,_=>by simp
 |b0::bs,q::qs,0,h=>by simp at h;subst h;rfl
 |b0::bs,q::qs,c+1,h=>by simp[FN bs qs c (by simpa using h)]
section
variable{B:X}{w0 w:J}{R L:Y aH}{b:X}{m:Mt}
theorem _root_.Go.Vc.Ow.ym(h:Ow B w0 w (bu b m::R)):∃l q r bs,bs.length=m.qs.length/\Ow B w0 w (aa b [bg l,bg q,bg r]::af ff l m.br::af dO q bs::af aq r m.runs::(Lx aD bs m.qs++R)):=by obtain⟨⟨⟨l,q,r⟩,bs⟩,h⟩:=h.ex;obtain⟨h1,h⟩:=Ow.pure h.star;exact⟨l,q,r,bs,h1,h⟩
theorem _root_.Go.Vc.Ow.bU{l q r:Sl}{bs:Y X}(h1:bs.length=m.qs.length)(h:Ow B w0 w (aa b [bg l,bg q,bg r]::af ff l m.br::af dO q bs::af aq r m.runs::(Lx aD bs m.qs++R))):Ow B w0 w (bu b m::R):=
 Ow.fk ((l,q,r),bs) (Ow.bW (Ow.cT h1 h))
theorem _root_.Go.Vc.Ow.He{A1 A2 A3 A4:aH}{bs:Y X}{qs:Y Qs}{c b1:X}{aby:Qs}(hb:bs[c]?=S b1)(hq:qs[c]?=S aby)(h:Ow B w0 w (A1::A2::A3::A4::(Lx aD bs qs++R))):
  Ow B w0 w (aD b1 aby::A1::A2::A3::A4::(Lx aD bs qs++R).eraseIdx c):=by
 have h1:=(Lu.1 hb).1;have h2:=(Lu.1 hq).1;have hz:(Lx aD bs qs++R)[c]?=S (aD b1 aby):=by rw[LI (by simp;omega),N0,hb,hq]
 exact h.take (c+4) (by simpa using hz)
theorem _root_.Go.Vc.Ow.JV{A1 A2 A3 A4:aH}{bs:Y X}{qs:Y Qs}{c b1:X}{aby:Qs}(hb:bs[c]?=S b1)(hc:c<qs.length)(h:Ow B w0 w (aD b1 aby::A1::A2::A3::A4::(Lx aD bs qs++R).eraseIdx c)):
  Ow B w0 w (A1::A2::A3::A4::(Lx aD bs (qs.set c aby)++R)):=by
 have h1:=(Lu.1 hb).1;have h2:Ow B w0 w (aD b1 aby::(A1::A2::A3::A4::(Lx aD bs qs++R)).eraseIdx (c+4)):=by simpa only[Nk]using h
 have h3:=h2.put (by simp;omega);simp only[LM]at h3;rw[Nw _ _ (by simp;omega),FN bs qs c hb]at h3;exact h3
def GA:rj:=⟨0,0,0,0,λ_=>0⟩
def Mt.th(m:Mt)(n:O):rj:=if n<0 then GA else(m.br[n.toNat]?).getD GA
def Mt.q(m:Mt)(n:O):Qs:=if n<0 then []else(m.qs[n.toNat]?).getD []
def Mt.run(m:Mt)(n:O):O:=if n<0 then -1 else(m.runs[n.toNat]?).getD (-1)
def Mt.aJ(m:Mt)(n:O)(t:rj):Mt:={ m with br:=m.br.set n.toNat t}
def Mt.ib(m:Mt)(n:O)(aby:Qs):Mt:={ m with qs:=m.qs.set n.toNat aby}
def Mt.gD(m:Mt)(n v:O):Mt:={ m with runs:=m.runs.set n.toNat v}
def Mt.cH(m:Mt)(n:O):W:=V (0<=n)&&V (n<m.br.length)
def Mt.fC(m:Mt)(n:O):W:=V (0<=n)&&V (n<m.qs.length)
def Mt.cr(m:Mt)(n:O):Mt:=(m.aJ n { m.th n with st:=1}).ib (m.th n).co (jy (m.q (m.th n).co) (m.th n).pr n).2
def Mt.bz(m:Mt)(n:O):Mt:=if(m.th n).st=1 then m.ib (m.th n).co (eV (m.q (m.th n).co) n).2 else if(m.th n).st=2 then m.gD (m.th n).co (-1)else m
def Mt.leave(m:Mt)(n s:O):Mt:=(m.bz n).aJ n { m.th n with st:=s}
def Mt.pick(m:Mt)(c:O):Mt:=match fZ (m.q c)with
 |none=>m
 |some n=>if m.run c= -1 then(m.leave n 2).gD c n else
  if(m.th n).pr<=(m.th (m.run c)).pr then m else(((m.leave (m.run c) 1).cr (m.run c)).leave n 2).gD c n
structure fH(m:Mt):Prop where
 eC:m.br.length<=64
 jk:m.runs.length=m.qs.length
 Fv:m.qs.length<=8
 core:∀t∈m.br,0<=t.co/\t.co<m.qs.length
 left:∀t∈m.br,t.le=t.le
 run:∀n∈m.runs,n= -1\/(0<=n/\n<m.br.length)
 line:∀aby∈m.qs,∀x∈aby,0<=x.2/\x.2<m.br.length
theorem FJ:∀(n:X)(l:Y O),l.Nodup->(∀x∈l,0<=x/\x<(n:O))->l.length<=n
 |0,l,_,h=>by
  cases l with
  |nil=>simp
  |cons a l=>have:=h a qc;omega
 |n+1,l,hn,h=>by
  have h1:=FJ n (l.filter λx=>x !=(n:O)) (hn.sublist NS) λx hx=>by
   have h2:=LP.1 hx;have h3:=h x h2.1;have h4:x≠(n:O):=by simpa using h2.2
   omega
  have h2:l.length<=(l.filter λx=>x !=(n:O)).length+1:=by
   clear h1 h;induction l with
   |nil=>simp
   |cons a l ih=>
    rw[Mj]at hn;by_cases e:a=(n:O)
    .have:l.filter (λx=>x !=(n:O))=l:=by
      rw[Mv];intro x hx;have:x≠(n:O):=λe2=>hn.1 (by rw[e,<-e2];exact hx);simpa using this
     rw[List.filter_cons_of_neg (by simp[e]),this,LL];exact Lv _
    .rw[List.filter_cons_of_pos (by simpa using e),LL,LL]
     have:=ih hn.2;omega
  omega
theorem IE{n:O}{t:rj}(h0:0<=n)(h:m.br[n.toNat]?=S t):m.th n=t:=by unfold Mt.th;rw[F om,h];rfl
theorem bI{n:O}(h:m.cH n=Z):0<=n/\n<m.br.length/\m.br[n.toNat]?=S (m.th n):=by unfold Mt.cH at h;simp only[LO,qB]at h;obtain⟨h0,h1⟩:=h;refine⟨h0,h1,?_⟩;have e:=gE (l:=m.br) (i:=n.toNat) om;rw[e,IE h0 e]
theorem pR{n:O}(h0:0<=n)(h1:n<m.qs.length):m.qs[n.toNat]?=S (m.q n):=by have e:=gE (l:=m.qs) (i:=n.toNat) om;unfold Mt.q;rw[F om,e];rfl
theorem uI{n:O}(h0:0<=n)(h1:n<m.runs.length):m.runs[n.toNat]?=S (m.run n):=by have e:=gE (l:=m.runs) (i:=n.toNat) om;unfold Mt.run;rw[F om,e];rfl
theorem ke{n:O}{K:W->Pw}(hK:K (V (0<=n)&&V (n<256)) w):Rk n K w:=by
 apply YA;refine bo (λe=>?_) (λe=>?_)
 .rw[qu (e:0<=n),M6]at hK;exact hK
 .rw[qm (e:¬0<=n),M0]at hK;exact hK
theorem ct{so:W}{e:O}{K:O->Pw}(hK:K (if so then e else 0) w):PW so e K w:=by apply YJ;cases so<;>exact hK
theorem oQ{l q r:Sl}{bs:Y X}{n:O}{A2 A4:aH}{K:W->Pw}(hb:bs.length=m.qs.length)(h:Ow B w0 w (aa b [bg l,bg q,bg r]::A2::af dO q bs::A4::L))(hK:K (m.fC n) w):QA b.o n K w:=by
 apply YB;have hl:=h.aL q;unfold Mt.fC at hK;refine bo (λe=>?_) (λe=>?_)
 ·(repeat first|refine h.l1 U ?_|refine eE ?_)
  rw[qu (e:0<=n),M6]at hK;rw[hl,hb];exact hK
 .rw[qm (e:¬0<=n),M0]at hK;exact hK
theorem eK{l q r:Sl}{n:O}{A3 A4:aH}{K:qh qg->Pw}(h:Ow B w0 w (aa b [bg l,bg q,bg r]::af ff l m.br::A3::A4::L))(hK0:m.cH n=G->K N w)(hK1:∀a,m.cH n=Z->l.a=S a->K (S (a.add (n.toNat*12))) w):OT b.o n K w:=by
 apply YC;have hl:=h.aL l;unfold Mt.cH at hK0 hK1;intro k hk;refine bo (λe=>?_) (λe=>?_)
 .refine hk _ _ (bh U ?_)
  exact hK0 (by rw[qm (show ¬0<=n by omega),M0])
 ·(repeat first|refine h.l1 U ?_|refine eE ?_)
  refine hk _ _ ?_;refine bo (λe2=>?_) (λe2=>?_)
  .exact hK0 (by rw[qm (show ¬n<(m.br.length:O) by omega),Bool.and_false])
  ·(repeat first|refine h.l1 U ?_|refine eE ?_)
   obtain⟨x,hx⟩:∃x,m.br[n.toNat]?=S x:=⟨_,gE om⟩
   refine h.cz (s:=l) (j:=n.toNat) om hx λa ha h0 hc=>?_;exact hK1 a (by rw[qu (show 0<=n by omega),qu (show n<(m.br.length:O) by omega)];rfl) ha
theorem fH.aJ(hm:fH m){n:O}{t:rj}(h1:0<=t.co/\t.co<m.qs.length)(h2:t.le=t.le):fH (m.aJ n t):=by
 unfold Mt.aJ;refine⟨by rw[MJ];exact hm.eC,hm.jk,hm.Fv,λx hx=>?_,λx hx=>rfl,by rw[MJ];exact hm.run,by rw[MJ];exact hm.line⟩;rcases Mz hx with h|h
 .exact hm.core x h
 .rw[h];exact h1
theorem fH.ib(hm:fH m){n:O}{aby:Qs}(h1:∀x∈aby,0<=x.2/\x.2<m.br.length):fH (m.ib n aby):=by
 unfold Mt.ib;refine⟨hm.eC,by rw[MJ];exact hm.jk,by rw[MJ];exact hm.Fv,by rw[MJ];exact hm.core,hm.left,hm.run,λx hx=>?_⟩;rcases Mz hx with h|h
 .exact hm.line x h
 .rw[h];exact h1
theorem fH.gD(hm:fH m){n v:O}(h1:v= -1\/(0<=v/\v<m.br.length)):fH (m.gD n v):=by
 unfold Mt.gD;refine⟨hm.eC,by rw[MJ];exact hm.jk,hm.Fv,hm.core,hm.left,λx hx=>?_,hm.line⟩;rcases Mz hx with h|h
 .exact hm.run x h
 .rw[h];exact h1
theorem fH.uE(hm:fH m){c:O}:∀x∈m.q c,0<=x.2/\x.2<m.br.length:=λx hx=>by
 unfold Mt.q at hx;split at hx
 .simp at hx
 .cases e:m.qs[c.toNat]? with
  |none=>rw[e]at hx;simp at hx
  |some aby=>rw[e]at hx;exact hm.line aby (L4 e) x hx
theorem fH.th(hm:fH m){n:O}(hn:m.cH n=Z):(0<=(m.th n).co/\(m.th n).co<m.qs.length)/\((m.th n).le=(m.th n).le):=by have:=L4 (bI hn).2.2;exact⟨hm.core _ this,hm.left _ this⟩
theorem FM{aby:Qs}{p n:O}{k:O}(h:∀x∈aby,0<=x.2/\x.2<k)(hn:0<=n/\n<k):∀x∈(jy aby p n).2,0<=x.2/\x.2<k:=by
 unfold jy;split
 .exact h
 .split
  .exact h
  .intro x hx
   rcases Mm.1 hx with h2|h2
   .exact h x h2
   .simp at h2;subst h2;exact hn
theorem wO{aby:Qs}{n:O}{k:O}(h:∀x∈aby,0<=x.2/\x.2<k):∀x∈(eV aby n).2,0<=x.2/\x.2<k:=by
 unfold eV;split
 .exact λx hx=>h x (LP.1 hx).1
 .exact h
theorem fH.cr(hm:fH m){n:O}(hn:m.cH n=Z):fH (m.cr n):=by
 have ht:=hm.th hn;have hb:=bI hn;unfold Mt.cr;refine(hm.aJ (t:={ m.th n with st:=1}) ht.1 ht.2).ib ?_;have:(m.aJ n { m.th n with st:=1}).br.length=m.br.length:=by unfold Mt.aJ;simp
 rw[this];exact FM hm.uE ⟨hb.1,hb.2.1⟩
theorem fH.bz(hm:fH m){n:O}:fH (m.bz n):=by
 unfold Mt.bz;split
 .exact hm.ib (wO hm.uE)
 .split
  .exact hm.gD (.inl U)
  .exact hm
theorem cX{n:O}:(m.bz n).br=m.br/\(m.bz n).qs.length=m.qs.length:=by
 unfold Mt.bz Mt.ib Mt.gD;split
 .simp
 .split<;>simp
theorem fH.leave(hm:fH m){n s:O}(hn:m.cH n=Z):fH (m.leave n s):=by have ht:=hm.th hn;unfold Mt.leave;refine hm.bz.aJ (t:={ m.th n with st:=s}) ?_ ht.2;rw[cX.2];exact ht.1
theorem xt{aby:Qs}{k:X}(hq:wV aby)(h:∀x∈aby,0<=x.2/\x.2<(k:O)):aby.length<=k:=by
 have:=FJ k (aby.map (·.2)) hq.nodup λx hx=>by obtain⟨y,hy,e⟩:=L2.1 hx;rw[<-e];exact h y hy
 simpa using this
theorem fV{n k:O}:(m.cr n).cH k=m.cH k:=by unfold Mt.cr Mt.cH Mt.ib Mt.aJ;simp
theorem ed{n s k:O}:(m.leave n s).cH k=m.cH k:=by unfold Mt.leave Mt.cH Mt.aJ;simp[cX.1]
theorem gV{n k:O}:(m.cr n).fC k=m.fC k:=by unfold Mt.cr Mt.fC Mt.ib Mt.aJ;simp
theorem gU{n s k:O}:(m.leave n s).fC k=m.fC k:=by unfold Mt.leave Mt.fC Mt.aJ;simp[cX.2]
theorem zQ{l:Sl}{A1 A3 A4:aH}{br:Y rj}{n:O}{t t':rj}{c:X}{v:Q}{a:qg}{k:Pw}(h:Ow B w0 w (A1::af ff l br::A3::A4::L))(h0:0<=n)(hx:br[n.toNat]?=S t)(ha:l.a=S a)
  (he:ff.enc t'=(ff.enc t).set c v) (hc:c<12) (hv:v.oneCell'=Z) (hk:∀w',Ow B w0 w' (A1::af ff l (br.set n.toNat t')::A3::A4::L)->k w'):St w ((a.add (n.toNat*12)).add c) v k:=
 Ow.zO (s:=l) (E:=ff) (xs:=br) (i:=n) (j:=n.toNat) (c:=c) (x:=t) h t' om hx ha he hc hv λw' h=>hk w' h.cq
theorem rF{l:Sl}{A1 A3 A4:aH}{br:Y rj}{n:O}{t:rj}{c:X}{v:Q}{a:qg}(h:Ow B w0 w (A1::af ff l br::A3::A4::L))(h0:0<=n)(hx:br[n.toNat]?=S t)(ha:l.a=S a)
  (he:(ff.enc t)[c]?=S v):w.cell? ((a.add (n.toNat*12)).add c)=S v:=
 (h.Jm (s:=l) (E:=ff) (i:=n) (j:=n.toNat) om hx ha).2 c v he
theorem fT{n:O}{K:Pw}(hm:fH m)(hn:m.cH n=Z)(h:Ow B w0 w (bu b m::R))(hK:∀w',Ow B w0 w' (bu b (m.cr n)::R)->K w'):Qc b.o n K w:=by
 apply YD;obtain⟨l,q,r,bs,hbs,h⟩:=h.ym;obtain⟨n0,n1,hx⟩:=bI hn;obtain⟨⟨c0,c1⟩,_⟩:=hm.th hn;obtain⟨b1,hb1⟩:∃x,bs[(m.th n).co.toNat]?=S x:=⟨_,gE om⟩
 refine eK h (λe=>by rw[hn]at e;cases e) λa _ ha=>?_;refine⟨_,U,zQ (c:=0) (t':={ m.th n with st:=1}) h n0 hx ha U qb U λw h=>?_⟩;have hx2:(m.br.set n.toNat { m.th n with st:=1})[n.toNat]?=S { m.th n with st:=1}:=by rw[Mb,qd U,qd om]
 refine h.dr λw h=>?_;refine⟨_,U,q,h.aE U,_,U,_,rF (c:=2) h n0 hx2 ha U,h.cz (s:=q) (j:=(m.th n).co.toNat) (by show(m.th n).co=_;omega) hb1 λa2 ha2 h0 hc=>⟨_,h0 _ U,?_⟩⟩
 refine⟨_,U,_,rF (c:=1) h n0 hx2 ha U,Go.Vc.a2 ?_⟩;have h:=h.He hb1 (pR c0 c1);have hqok:wV (m.q (m.th n).co):=by obtain⟨_,e,_⟩:=h.queue;exact e
 have hlen:=xt hqok hm.uE;have hfew:=hm.eC;refine mM h om λw h=>?_;have h:=h.JV (qs:=m.qs) hb1 om;exact hK w (Ow.bU (m:=m.cr n) (bs:=bs) (by unfold Mt.cr Mt.ib Mt.aJ;simpa using hbs) h)
theorem fx{n s:O}{K:Pw}(hm:fH m)(hn:m.cH n=Z)(h:Ow B w0 w (bu b m::R))(hK:∀w',Ow B w0 w' (bu b (m.leave n s)::R)->K w'):OY b.o n s K w:=by
 apply Vr;obtain⟨l,q,r,bs,hbs,h⟩:=h.ym;obtain⟨n0,n1,hx⟩:=bI hn;obtain⟨⟨c0,c1⟩,_⟩:=hm.th hn;have hcr:=hm.jk;obtain⟨b1,hb1⟩:∃x,bs[(m.th n).co.toNat]?=S x:=⟨_,gE om⟩
 refine eK h (λe=>by rw[hn]at e;cases e) λa _ ha=>?_;refine⟨_,U,_,rF (c:=0) h n0 hx ha U,?_⟩;intro k hk;have fin:∀w,Ow B w0 w (aa b [bg l,bg q,bg r]::af ff l m.br::af dO q bs::af aq r (m.bz n).runs::(Lx aD bs (m.bz n).qs++R))->k w:=λw h=>by
  apply hk;refine⟨_,U,zQ (c:=0) (t':={ m.th n with st:=s}) h n0 hx ha U qb U λw h=>?_⟩;refine hK w (Ow.bU (m:=m.leave n s) (l:=l) (q:=q) (r:=r) (bs:=bs) ?_ ?_)
  .show bs.length=(m.bz n).qs.length
   rw[cX.2];exact hbs
  .have e:(m.leave n s).br=m.br.set n.toNat { m.th n with st:=s}:=by unfold Mt.leave Mt.aJ;rw[cX.1]
   rw[e];exact h
 refine dE (λe=>?_) (λe=>?_)
 .have e1:m.bz n=m.ib (m.th n).co (eV (m.q (m.th n).co) n).2:=by unfold Mt.bz;rw[qd e]
  rw[e1]at fin;refine h.dr λw h=>?_;refine⟨_,U,q,h.aE U,_,U,_,rF (c:=2) h n0 hx ha U,h.cz (s:=q) (j:=(m.th n).co.toNat) (by show(m.th n).co=_;omega) hb1 λa2 ha2 h0 hc=>⟨_,h0 _ U,Go.Vc.a2 ?_⟩⟩
  have h:=h.He hb1 (pR c0 c1);refine gK h λw h=>?_;exact fin w (h.JV (qs:=m.qs) hb1 om)
 refine dE (λe2=>?_) (λe2=>?_)
 .have e1:m.bz n=m.gD (m.th n).co (-1):=by unfold Mt.bz;rw[F e,qd e2]
  rw[e1]at fin;refine h.dr λw h=>?_;refine⟨_,U,r,h.aE U,_,U,_,rF (c:=2) h n0 hx ha U,h.cz (s:=r) (j:=(m.th n).co.toNat) (by show(m.th n).co=_;omega) (uI (m:=m) c0 om) λa2 ha2 h0 hc=>Go.Vc.a2 ?_⟩;refine Ow.Iz (s:=r) (E:=aq) (xs:=m.runs) (i:=(m.th n).co) (j:=(m.th n).co.toNat) h (-1) om om ha2 U λw h=>?_;exact fin w h.vd.vd.vd
 .have e1:m.bz n=m:=by unfold Mt.bz;rw[F e,F e2]
  rw[e1]at fin;exact fin w h
def Mt.bP(m:Mt)(c:O):qh O:=if m.fC c=Z/\m.run c≠ -1 then S (m.run c)else N
theorem fF{c:O}:m.fC c=Z↔0<=c/\c<m.qs.length:=by unfold Mt.fC;simp
theorem ir{c:O}{K:O->W->Pw}(hm:fH m)(h:Ow B w0 w (bu b m::R))(hK:∀w',Ow B w0 w' (bu b m::R)->K ((m.bP c).getD 0) (m.bP c).isSome w'):Qe b.o c K w:=by
 apply YE;have hcr:=hm.jk;obtain⟨l,q,r,bs,hbs,h⟩:=h.ym;intro k hk;refine oQ hbs h ?_;unfold Mt.bP at hK;cases hc:m.fC c with
 |false=>
  rw[F (by rw[hc];simp)]at hK;refine bh U (hk _ _ (bh U ?_));exact hK w (Ow.bU hbs h)
 |true=>
  obtain⟨c0,c1⟩:=fF.1 hc;refine bc U ?_;repeat first|refine h.l1 U ?_|refine eE ?_
  refine h.cz (s:=r) (j:=c.toNat) om (uI (m:=m) c0 om) λa ha h0 hcc=>⟨_,h0 _ U,?_⟩
  refine hk _ _ ?_;refine dE (λe=>?_) (λe=>?_)
  .rw[F (by simp[e])]at hK
   exact hK w (Ow.bU hbs h)
  .rw[qd ⟨hc,e⟩]at hK
   repeat first|refine h.l1 U ?_|refine eE ?_
   refine h.cz (s:=r) (j:=c.toNat) om (uI (m:=m) c0 om) λa ha h0 hcc=>⟨_,h0 _ U,?_⟩
   exact hK w (Ow.bU hbs h)
theorem ll{n:O}{K:O->O->O->O->O->O->O->O->O->O->O->O->O->Pw}(h:Ow B w0 w (bu b m::R))
  (hK:∀w' t,t=(if m.cH n then m.th n else GA)->Ow B w0 w' (bu b m::R)->K t.st t.pr t.co t.le (t.rg 0) (t.rg 1) (t.rg 2) (t.rg 3) (t.rg 4) (t.rg 5) (t.rg 6) (t.rg 7) (if m.cH n then 0 else 100) w'):QB b.o n K w:=by
 apply YF;refine h.a λc w1 h=>?_;have h:Ow B w0 w1 (bu b m::aa c [.z 0,.z 0,.z 0,.z 0,.y 0,.y 0,.y 0,.y 0,.y 0,.y 0,.y 0,.y 0]::R):=h.cq;obtain⟨l,q,r,bs,hbs,h⟩:=h.ym;have back:∀{w:J}{cs:Y Q},Ow B w0 w (aa c cs::aa b [bg l,bg q,bg r]::af ff l m.br::af dO q bs::af aq r m.runs::(Lx aD bs m.qs++R))->Ow B w0 w (bu b m::R):=λh=>Ow.bU hbs h.drop;have mid:∀{w:J}{A:aH},Ow B w0 w (aa b [bg l,bg q,bg r]::af ff l m.br::af dO q bs::af aq r m.runs::(Lx aD bs m.qs++A::R))->Ow B w0 w (A::aa b [bg l,bg q,bg r]::af ff l m.br::af dO q bs::af aq r m.runs::(Lx aD bs m.qs++R)):=λ{w A}h=>by refine h.perm ?_;have:List.Perm (Lx aD bs m.qs++A::R) (A::(Lx aD bs m.qs++R)):=Ml;refine((((this.cons _).cons _).cons _).cons _).trans ?_;exact(Ml (l₁:=[aa b [bg l,bg q,bg r],af ff l m.br,af dO q bs,af aq r m.runs]))
 refine eK h (λe=>?_) λa e ha=>?_
 .have h:=mid h
  refine bh U ?_;refine h.aA U U λw h=>?_;refine h.sH U ?_;have:=hK w GA (by rw[e];rfl) (back h);rw[e]at this;exact this
 .obtain ⟨n0,n1,hx⟩:=bI e
  have hc:=(h.Jm (s:=l) (E:=ff) (i:=n) (j:=n.toNat) om hx ha).2;have h2:=mid h;refine bc U ?_;refine⟨_,U,⟨_,hc 0 _ U,_,hc 1 _ U,_,hc 2 _ U,_,hc 3 _ U,_,hc 4 _ U,_,hc 5 _ U,_,hc 6 _ U,_,hc 7 _ U,_,hc 8 _ U,_,hc 9 _ U,_,hc 10 _ U,_,hc 11 _ U,h2.aA U U λw h=>?_⟩⟩;refine h.sH U ?_;have:=hK w (m.th n) (by rw[e];rfl) (back h);rw[e]at this;exact this
theorem tt{n:O}{K:O->Pw}(hm:fH m)(h:Ow B w0 w (bu b m::R))
  (hK0:m.cH n=G->∀w',Ow B w0 w' (bu b m::R)->K 100 w') (hK1:m.cH n=Z->(m.th n).st=1\/(m.th n).st=2->∀w',Ow B w0 w' (bu b m::R)->K 101 w')
  (hK2:m.cH n=Z->(m.th n).st≠1->(m.th n).st≠2->∀w',Ow B w0 w' (bu b (m.cr n)::R)->K 0 w'):PZ b.o n K w:=by
 apply Yv;obtain⟨l,q,r,bs,hbs,h⟩:=h.ym;refine eK h (λe=>?_) λa e ha=>?_
 .refine bh U ?_
  exact hK0 e w (Ow.bU hbs h)
 .obtain ⟨n0,n1,hx⟩:=bI e
  refine bc U ?_;intro k hk;refine⟨_,U,_,rF (c:=0) h n0 hx ha U,dE (λe1=>?_) (λe1=>?_)⟩
  .refine hk _ _ (bh U ?_)
   exact hK1 e (.inl e1) w (Ow.bU hbs h)
  refine⟨_,U,_,rF (c:=0) h n0 hx ha U,hk _ _ (dE (λe2=>?_) (λe2=>?_))⟩
  .exact hK1 e (.inr e2) w (Ow.bU hbs h)
  .refine fT hm e (Ow.bU hbs h) λw h=>?_
   exact hK2 e e1 e2 w h
theorem uX{n:O}{K:O->Pw}(hm:fH m)(h:Ow B w0 w (bu b m::R))
  (hK0:m.cH n=G->∀w',Ow B w0 w' (bu b m::R)->K 100 w') (hK1:m.cH n=Z->(m.th n).st≠2->∀w',Ow B w0 w' (bu b m::R)->K 101 w')
  (hK2:m.cH n=Z->(m.th n).st=2->∀w',Ow B w0 w' (bu b (m.leave n 3)::R)->K 0 w'):RY b.o n K w:=by
 apply YK;obtain⟨l,q,r,bs,hbs,h⟩:=h.ym;refine eK h (λe=>?_) λa e ha=>?_
 .refine bh U ?_
  exact hK0 e w (Ow.bU hbs h)
 .obtain ⟨n0,n1,hx⟩:=bI e
  refine bc U ?_;refine⟨_,U,_,rF (c:=0) h n0 hx ha U,oU (λe1=>?_) (λe1=>?_)⟩
  .exact hK1 e e1 w (Ow.bU hbs h)
  .refine fx hm e (Ow.bU hbs h) λw h=>?_
   exact hK2 e e1 w h
theorem sk{n:O}{K:O->Pw}(hm:fH m)(h:Ow B w0 w (bu b m::R))
  (hK0:m.cH n=G->∀w',Ow B w0 w' (bu b m::R)->K 100 w') (hK1:m.cH n=Z->(m.th n).st=0->∀w',Ow B w0 w' (bu b m::R)->K 101 w')
  (hK2:m.cH n=Z->(m.th n).st≠0->∀w',Ow B w0 w' (bu b (m.leave n 0)::R)->K 0 w'):QR b.o n K w:=by
 apply YG;obtain⟨l,q,r,bs,hbs,h⟩:=h.ym;refine eK h (λe=>?_) λa e ha=>?_
 .refine bh U ?_
  exact hK0 e w (Ow.bU hbs h)
 .obtain ⟨n0,n1,hx⟩:=bI e
  refine bc U ?_;refine⟨_,U,_,rF (c:=0) h n0 hx ha U,dE (λe1=>?_) (λe1=>?_)⟩
  .exact hK1 e e1 w (Ow.bU hbs h)
  .refine fx hm e (Ow.bU hbs h) λw h=>?_
   exact hK2 e e1 w h
theorem zl{aby:Qs}{n:O}(h:fZ aby=S n):∃x∈aby,x.2=n:=by unfold fZ at h;obtain⟨p,hp,hl⟩:=Option.bind_eq_some_iff.1 h;have hm:=List.mem_of_head? hl;unfold bX at hm;obtain⟨x,hx,e⟩:=L2.1 hm;exact⟨x,(LP.1 hx).1,e⟩
theorem _root_.Go.Vc.Ow.JA{A1 A2 A3 A4:aH}{bs:Y X}{c:O}{b1:X}(hb:bs[c.toNat]?=S b1)(c0:0<=c)(c1:c<m.qs.length)(h:Ow B w0 w (aD b1 (m.q c)::A1::A2::A3::A4::(Lx aD bs m.qs++R).eraseIdx c.toNat)):
  Ow B w0 w (A1::A2::A3::A4::(Lx aD bs m.qs++R)):=by
 have h3:=h.JV (qs:=m.qs) hb om;have e:m.qs.set c.toNat (m.q c)=m.qs:=by
  apply L5;intro t;rw[Mb];by_cases e:c.toNat=t
  .subst e;rw[qd U,qd om,pR c0 c1]
  .rw[F e]
 rw[e]at h3;exact h3
def Mt.aW(m:Mt)(c:O):Mt:=if m.fC c then m.pick c else m
theorem jF{n v k:O}:(m.gD n v).fC k=m.fC k:=rfl
theorem pW{n v k:O}:(m.gD n v).cH k=m.cH k:=rfl
theorem fH.runT(hm:fH m){c o:O}(h:m.bP c=S o):m.fC c=Z/\m.run c=o/\o≠ -1/\m.cH o=true:=by
 unfold Mt.bP at h;split at h
 .rename_i hc
  cases h;obtain⟨c0,c1⟩:=fF.1 hc.1;have hcr:=hm.jk;have:=hm.run _ (L4 (uI (m:=m) c0 om));refine⟨hc.1,U,hc.2,?_⟩;rcases this with e|e
  .exact qj e hc.2
  .unfold Mt.cH;simp;exact e
 .cases h
theorem fH.Jz(hm:fH m){c n:O}(h:fZ (m.q c)=S n):0<=n/\m.cH n=true:=by obtain⟨x,hx,e⟩:=zl h;have:=hm.uE x hx;rw[e]at this;refine⟨this.1,?_⟩;unfold Mt.cH;simp;exact this
theorem iq{c:O}{K:O->W->Pw}(hm:fH m)(h:Ow B w0 w (bu b m::R))(hK:∀w',Ow B w0 w' (bu b (m.aW c)::R)->K (((m.aW c).bP c).getD 0) ((m.aW c).bP c).isSome w'):P2 b.o c K w:=by
 apply Yw;have hcr:=hm.jk;obtain⟨l,q,r,bs,hbs,h⟩:=h.ym;refine oQ hbs h ?_;unfold Mt.aW at hK;cases hc:m.fC c with
 |false=>
  rw[hc]at hK;have e:m.bP c=none:=by unfold Mt.bP;rw[F (by rw[hc];simp)]
  refine bh U ?_;have:=hK w (Ow.bU hbs h);simp only[Bool.false_eq_true,qy,e]at this;exact this
 |true=>
  rw[hc]at hK;simp only[qC]at hK;obtain⟨c0,c1⟩:=fF.1 hc;refine bc U ?_;refine ir (c:=c) hm (Ow.bU hbs h) λw h=>?_;obtain⟨l,q,r,bs,hbs,h⟩:=h.ym;obtain⟨b1,hb1⟩:∃x,bs[c.toNat]?=S x:=⟨_,gE om⟩
  refine⟨_,U,q,h.aE U,h.cz (s:=q) (j:=c.toNat) om hb1 λa2 ha2 h0 hcc=>⟨_,h0 _ U,?_⟩⟩
  refine lS (h.He hb1 (pR c0 c1)) λw h=>?_;have h:=h.JA hb1 c0 c1;intro k15 hk15;refine h.dr λw h=>?_;have stay:∀w,m.pick c=m->Ow B w0 w (bu b m::R)->k15 Z w:=λw e h=>by rw[e]at hK;exact hk15 _ _ (bh U (hK w h))
  cases hn:fZ (m.q c)with
  |none=>
   refine bh U ?_;exact stay w (by unfold Mt.pick;rw[hn]) (Ow.bU hbs h)
  |some n=>
   rw[hn]at hk15;obtain⟨n0,hnT⟩:=hm.Jz hn;obtain⟨_,n1,hnx⟩:=bI hnT;refine bc U ?_;have fin:∀(m1:Mt)(w:J),fH m1->m1.cH n=Z->m1.fC c=Z->m.pick c=(m1.leave n 2).gD c n->Ow B w0 w (bu b m1::R)->
     OY b.o n 2 (λw20=>
      ∃a21:qg,S (b.p:qg)=S a21/\
      ∃runs22:Sl,w20.cell? (a21.add 2)=S runs22.v/\
      ∃a23:qg,runs22.a=S a23/\0<=c/\c<(runs22.len:O)/\
      St w20 (a23.add (c.toNat*1)) (.z n) λw24=>K n Z w24) w:=λm1 w hm1 hT1 hC1 hp h=>by
    refine fx hm1 hT1 h λw h=>?_;have hm2:=hm1.leave (s:=2) hT1;have hcr2:=hm2.jk;have hC2:(m1.leave n 2).fC c=true:=by rw[gU];exact hC1
    obtain⟨d0,d1⟩:=fF.1 hC2;obtain⟨l,q,r,bs,hbs,h⟩:=h.ym;refine⟨_,U,r,h.aE U,h.cz (s:=r) (j:=c.toNat) om (uI (m:=m1.leave n 2) c0 om) λa ha h0 hcc=>?_⟩;refine Ow.Iz (s:=r) (E:=aq) (xs:=(m1.leave n 2).runs) (i:=c) (j:=c.toNat) h n om om ha U λw h=>?_;have h2:Ow B w0 w (bu b ((m1.leave n 2).gD c n)::R):=Ow.bU (m:=(m1.leave n 2).gD c n) hbs h.vd.vd.vd;have hrun:((m1.leave n 2).gD c n).bP c=S n:=by
     unfold Mt.bP;have e:((m1.leave n 2).gD c n).run c=n:=by unfold Mt.run Mt.gD;rw[F om];simp only;rw[Mb,qd U,qd om];rfl
     rw[e,qd ⟨by rw[jF];exact hC2,om⟩]
    rw[hp]at hK;have:=hK w h2;rw[hrun]at this;exact this
   cases hr:m.bP c with
   |none=>
    have hr1:m.run c= -1:=by
     unfold Mt.bP at hr;split at hr
     .cases hr
     .rename_i hh
      by_cases e:m.run c= -1
      .exact e
      .exact qj ⟨hc,e⟩ hh
    rw[hr]at hk15;refine bc U (hk15 _ _ (bc U ?_));intro k18 hk18;refine bc U (hk18 _ ?_);exact fin m w hm hnT hc (by unfold Mt.pick;rw[hn];simp only;rw[qd hr1]) (Ow.bU hbs h)
   |some o=>
    obtain⟨_,hro,ho1,hoT⟩:=hm.runT hr;obtain⟨o0,o1,hox⟩:=bI hoT;rw[hr]at hk15;refine bh U ?_;refine⟨_,U,l,h.aF U,h.cz (s:=l) (i:=n) (j:=n.toNat) om hnx λa ha h0 hcc=>⟨_,hcc 1 _ U,_,U,l,h.aF U,?_⟩⟩
    refine h.cz (s:=l) (i:=o) (j:=o.toNat) om hox λa ha h0 hcc=>⟨_,hcc 1 _ U,?_⟩
    refine(λ(hstay:(m.th n).pr<=(m.th o).pr->k15 Z w)(hgo:¬(m.th n).pr<=(m.th o).pr->k15 G w)=>?_) ?_ ?_
    .show k15 (V ((m.th n).pr<=(m.th o).pr)) w
     by_cases e:(m.th n).pr<=(m.th o).pr
     .rw[qu e];exact hstay e
     .rw[qm e];exact hgo e
    .intro e
     exact stay w (by unfold Mt.pick;rw[hn];simp only;rw[F (by rw[hro];exact ho1),hro,qd e]) (Ow.bU hbs h)
    .intro e
     refine hk15 _ _ (bc U ?_);intro k18 hk18;refine bh U ?_;refine fx hm hoT (Ow.bU hbs h) λw h=>?_;have hm2:=hm.leave (s:=1) hoT;have hT2:(m.leave o 1).cH o=true:=by rw[ed];exact hoT
     refine fT hm2 hT2 h λw h=>?_;refine hk18 _ ?_;exact fin ((m.leave o 1).cr o) w (hm2.cr hT2) (by rw[fV,ed];exact hnT) (by rw[gV,gU];exact hc) (by unfold Mt.pick;rw[hn];simp only;rw[F (by rw[hro];exact ho1),hro,F e]) h
end
end Th
theorem YM{a b c d e f K w}:Fr (RF a b c d e f K w) (A2 w [.y a,.z b,.y c] 98 λa b=>A2 b [.y 0,.z 0,.y 0] 98 λb c=>ax c a.p 0 [.u,.o,.u] λ(g h i:O)=>Uz g h i (λc g=>bif c !=0 then aB g b.p 0 [.y 0,.z 0,.y 0] λh=>ax h b.p 0 [.u,.o,.u] λ(i j k:O)=>K z0 i j k c h else UA d e (λc d e=>bif d !=0 then aB e b.p 0 [.y 0,.z 0,.y 0] λg=>ax g b.p 0 [.u,.o,.u] λ(h i j:O)=>K z0 h i j d g else ∀d:W->Pw,(∀(e:W)(g:J),(bif e then aB g b.p 0 [.y 0,.z 0,.y 0] λd=>ax d b.p 0 [.u,.o,.u] λ(e h i:O)=>K z0 e h i 1 d else Dr g λd=>∃e,d.y a.p e/\∃g,d.z (a.p.add 1) g/\(ON c (λc d=>d.z (a.p.add 1) g/\d.y a.p e/\(ON g (λd g=>g.y a.p e/\∃h,g.y a.p h/\∃i,g.y (a.p.add 2) i/\c≠0/\∀j:O->Pw,(∀(g:O)(h:J),(A2 h [] 39 λh i=>∀j:O->Sl->O->Pw,(∀(g:O)(h:Sl)(i:O)(k:J),(bif V (i<f)then bif V ((qv.wrap (g+c))>(qv.wrap (e+d)))then aB k b.p 0 [.y 0,.z 0,.y 0] λd=>ax d b.p 0 [.u,.o,.u] λ(e f l:O)=>K z0 e f l 81 d else A2 k [.y g] 39 λd e=>∃f l,aM qe [278,278] 278 h.v (.slice (S d.p) 1 1) e f l/\j (qv.wrap (g+c)) f (qf.wrap (i+1)) l else Dr k λc=>∃d,c.y a.p d/\∃e,c.z (a.p.add 1) e/\∃f,c.y a.p f/\(aB c b.p 0 [.y d,.z e,.y (qv.wrap (g-f))] λa=>ax a b.p 0 [.u,.o,.u] λ(b c d:O)=>K h b c d 0 a)/\I)->j g h i k)->j g ⟨S h.p,0,0⟩ 0 i)->j g h)->(bif ((qv.wrap (h+i)).tmod c) !=0 then c≠0/\j (qv.wrap ((qv.wrap ((qv.wrap (h+i))-((qv.wrap (h+i)).tmod c)))+c)) g else j (qv.wrap (h+i)) g)) d)/\I) d)/\I)->d e g)->(bif V (f<1)then d Z e else d (V (f>64)) e)) g) c):=aj func276 (.v (.v (.y (.v (.x .w)) (.v (.y (.v (.x .w)) (.y (.y (.r (S [(40,.c .b)]) .done) (.x .w)) (.y (.z (.o 0 60 (.o 2 370 (.o 4 10 (.hold 3 354 1023 (.hold 5 2 959 (.e 1 (.e 6 (.o 7 256 (.o 8 0 (.o 9 0 .done))))))))))) (.v (.y (.v (.t (S [(16,.c (.i .u64))]) .u .u)) (.v (.y (.v (.x (.t (S [(16,.c (.i .u64)),(17,.c .s),(18,.c (.i .i64))]) (.y (.v .w) (.x (.x (.y (.v (.x .w)) .w)))) .u))) (.x (.z (.o 0 1022 (.o 1 1528 (.o 2 1528 (.o 3 1504 (.o 4 1504 (.o 5 1216 (.o 6 1024 (.o 7 1024 (.o 8 1024 (.o 9 1024 .Jh)))))))))))))))))))))))
theorem YN{a b c K w}:Fr (Uz a b c K w) (A2 w [.y a,.z b,.y c] 98 λa b=>∀c:W->Pw,(∀(b:W)(d:J),(bif b then K 1 d else Dr d λb=>∃c,b.z (a.p.add 1) c/\∃d,b.y a.p d/\(ON c (λb c=>c.y a.p d/\b≠0/\bif (d.tmod b) !=0 then((K 1 c)/\I)/\(K 1 c)/\I else ∃b,c.z (a.p.add 1) b/\(∃d,c.y (a.p.add 2) d/\(ON b (λa b=>bif V (d>a)then K 1 b else K 0 b) c)/\I)/\(ON b (λb c=>∃d,c.y (a.p.add 2) d/\bif V (d>b)then K 1 c else K 0 c) c)/\I) b)/\I)->c b d)->(Dr b λb=>∃d,b.z (a.p.add 1) d/\bif V (d<0)then((c Z b)/\I)/\(c Z b)/\I else ∃d,b.z (a.p.add 1) d/\bif V (d>20)then((c Z b)/\I)/\(c Z b)/\I else(∃d,b.y a.p d/\(ON 40 (λa b=>c (V (d>a)) b) b)/\I)/\(ON 40 (λb d=>∃e,d.y a.p e/\c (V (e>b)) d) b)/\I)):=aj func365 (.v (.y (.y (.r (S [(16,.c .b)]) (.o 0 0 (.o 1 0 (.o 2 0 (.o 3 0 (.o 4 0 (.o 5 0 (.o 6 0 (.o 7 0 (.o 8 0 (.o 9 2048 (.f 10 (.e 11 (.o 12 0 (.o 13 0 .done))) (.e 11 (.o 10 0 (.o 12 0 (.o 13 0 .done)))))))))))))))) (.x .w)) (.y (.y (.z (.o 0 28 (.o 2 2 (.o 3 2 (.hold 1 16 28671 (.e 4 (.o 5 0 (.o 6 0 (.o 7 0 (.o 8 7168 (.o 10 512 (.o 11 512 (.f 9 (.e 12 .Jj) (.e 12 (.o 9 0 .Jj))))))))))))))) (.x .w)) .w)))
theorem YO{a b K w}:Fr (UA a b K w) (bif a==1 then bif V (b>=4)then bif V (b<=20)then K b 0 w else K 0 1 w else K 0 1 w else bif a==2 then ∀c:W->Pw,(∀(a:W)(d:J),(bif a then K (qf.wrap (b+2)) 0 d else K 0 1 d)->c a d)->(bif V (b>=1)then c (V (b<=8)) w else c G w)else bif a==3 then K 5 0 w else ∀b:W->Pw,(∀(c:W)(d:J),(bif c then K 2 0 d else bif a==6 then bif a==6 then K 6 0 d else K 0 80 d else bif a==7 then bif a==7 then K 6 0 d else K 0 80 d else bif a==8 then K 6 0 d else K 0 80 d)->b c d)->(bif a==4 then b (a==4) w else b (a==5) w)):=aj func366 (.v (.y (.v (.x (.v (.y (.y (.v (.x .w)) .w) (.v (.y (.y (.y (.r (S [(23,.c .b)]) .done) (.x .w)) .w) (.v (.y .w (.y (.v (.t (S [(28,.c .b)]) .u .u)) (.y .w (.y (.v (.v (.v .w))) (.x .w)))))))))))) .w))
theorem YP{a b K w}:Fr (Sv a b K w) (bif (a.len:O) !=(b.len:O)then K G w else ∀c:O->Pw,(∀(d:O)(e:J),(bif V (d<(a.len:O))then Dr e λf=>∃g,a.a=S g/\0<=d/\d<(a.len:O)/\∃a,f.z (g.add (d.toNat*1)) a/\∃g,b.a=S g/\0<=d/\d<(b.len:O)/\∃b,f.z (g.add (d.toNat*1)) b/\bif a !=b then K G f else c (qf.wrap (d+1)) f else K Z e)->c d e)->c 0 w):=aj func60 .g4
theorem YQ{a K w}:Fr (SX a K w) (∀b:O->Pw,(∀(c:O)(d:J),(bif V (c>=0)then TM a c (λa d=>bif V ((a.len:O)>0)then ∃e,a.a=S e/\(0:O)<=0/\0<(a.len:O)/\∃a,d.z (e.add ((0:O).toNat*1)) a/\K a Z d else b (qf.wrap (c-1)) d) d else K 0 G d)->b c d)->b 255 w):=aj func136 (.v (.y (.v (.x (.t (S [(4,.c (.i .i64))]) (.y (.v .w) (.x (.x (.v (.v (.x .w)))))) .u))) .w))
theorem YR{a b c K w}:Fr (TL a b c K w) (∀d:W->Pw,(∀(e:W)(f:J),(bif e then K 1 f else Ue a c (λ_ d e=>bif d then K 90 e else ∃d,a=S d/\∃f,e.s d f/\A2 e [.z b,.z c] 435 λb c=>∃d e,aM qe [260,260] 260 f.v (.slice (S b.p) 1 1) c d e/\∃b,a=S b/\St e b d.v λa=>K 0 a) f)->d e f)->(bif V (b<0)then d Z w else d (V (b>255)) w)):=aj func239 (.v (.y .Jg (.v .H9)))
theorem YS{a b K w}:Fr (TM a b K w) (A2 w [] 3 λc d=>∀e:Sl->O->Pw,(∀(c:Sl)(d:O)(f:J),(∃g,a=S g/\∃h,f.s g h/\bif V (d<(h.len:O))then ∃g,a=S g/\∃h,f.s g h/\∃g,h.a=S g/\0<=d/\d<(h.len:O)/\∃h,f.z (g.add (d.toNat*2)) h/\bif h==b then ∃b,a=S b/\∃a,f.s b a/\∃b,a.a=S b/\0<=d/\d<(a.len:O)/\∃a,f.z ((b.add (d.toNat*2)).add 1) a/\A2 f [.z a] 3 λa b=>∃g h,aM qe [22,22] 22 c.v (.slice (S a.p) 1 1) b g h/\e g (qf.wrap (d+1)) h else e c (qf.wrap (d+1)) f else K c f)->e c d f)->e ⟨S c.p,0,0⟩ 0 d):=aj func240 (.v (.v (.y .J6 .w)))
theorem YT{a b K w}:Fr (TN a b K w) (A2 w [] 435 λc d=>∀e:Sl->O->Pw,(∀(c:Sl)(d:O)(f:J),(∃g,a=S g/\∃h,f.s g h/\bif V (d<(h.len:O))then ∃g,a=S g/\∃h,f.s g h/\∃g,h.a=S g/\0<=d/\d<(h.len:O)/\∃h,f.z ((g.add (d.toNat*2)).add 1) h/\bif h !=b then ∃b,a=S b/\∃g,f.s b g/\∃b,g.a=S b/\0<=d/\d<(g.len:O)/\ax f (b.add (d.toNat*2)) 0 [.o,.o] λ(b g:O)=>A2 f [.z b,.z g] 435 λb g=>∃h i,aM qe [260,260] 260 c.v (.slice (S b.p) 1 1) g h i/\e h (qf.wrap (d+1)) i else e c (qf.wrap (d+1)) f else ∃b,a=S b/\∃d,f.s b d/\bif (c.len:O)==(d.len:O)then K 91 f else ∃b,a=S b/\St f b c.v λa=>K 0 a)->e c d f)->e ⟨S c.p,0,0⟩ 0 d):=aj func241 (.v (.v (.y .J6 .H9)))
theorem YU{a b K w}:Fr (Ue a b K w) (∀c:O->Pw,(∀(d:O)(e:J),(∃f,a=S f/\∃g,e.s f g/\bif V (d<(g.len:O))then ∃f,a=S f/\∃g,e.s f g/\∃f,g.a=S f/\0<=d/\d<(g.len:O)/\∃g,e.z ((f.add (d.toNat*2)).add 1) g/\bif g==b then ∃b,a=S b/\∃a,e.s b a/\∃b,a.a=S b/\0<=d/\d<(a.len:O)/\∃a,e.z (b.add (d.toNat*2)) a/\K a Z e else c (qf.wrap (d+1)) e else K 0 G e)->c d e)->c 0 w):=aj func326 .KQ
theorem YV{a b K w}:Fr (Q6 a b K w) (OZ a b (λc d e=>bif !d then K G e else Dr e λd=>∃e,a=S e/\∃f,d.s e f/\∃e,a=S e/\∃g,d.s e g/\∃e,g.a=S e/\0<=c/\c<(g.len:O)/\∃g,d.z ((e.add (c.toNat*12)).add 3) g/\∃e,f.a=S e/\0<=c/\c<(f.len:O)/\(St d ((e.add (c.toNat*12)).add 3) (.z (qf.wrap (g-1))) λd=>∃e,a=S e/\∃f,d.s e f/\∃e,f.a=S e/\0<=c/\c<(f.len:O)/\∃f,d.z ((e.add (c.toNat*12)).add 3) f/\bif f==0 then Qy a b (λ_ a=>K Z a) d else K Z d)/\I) w):=aj func16 (.v (.v (.y (.v (.x .w)) (.y (.z (.o 0 16368 (.o 1 16368 (.o 2 16368 (.o 3 16368 (.o 4 16352 (.o 5 512 (.o 6 512 (.o 7 512 (.o 8 512 (.o 9 0 (.o 10 0 (.o 11 0 (.o 12 0 (.o 13 0 (.o 14 0 (.o 15 0 (.e 16 .done)))))))))))))))))) (.y (.v .w) .w)))))
theorem YW{a K w}:Fr (Sp a K w) (∀b:W->Pw,(∀(c:W)(d:J),(bif c then K N 1 d else A2 d [.slice N 0 0,.slice N 0 0] 136 λb c=>∀d:O->Pw,(∀(c:O)(e:J),(bif V (c<a)then ∃a,S b.p=S a/\∃f,e.s (a.add 1) f/\A2 e [.slice N 0 0] 262 λa g=>A2 g [.pointer (S a.p)] 259 λa g=>∃h i,aM qe [134,134] 134 f.v (.slice (S a.p) 1 1) g h i/\∃a,S b.p=S a/\St i (a.add 1) h.v λa=>d (qf.wrap (c+1)) a else K (S b.p) 0 e)->d c e)->d 0 c)->b c d)->(bif V (a<1)then b Z w else b (V (a>8)) w)):=aj func45 (.v (.y (.y (.r (S [(11,.c .b)]) .done) (.x .w)) (.v (.y .K1 .w))))
theorem YX{a b c K w}:Fr (Rb a b c K w) (∀d:W->Pw,(∀(e:W)(f:J),(bif e then K 0 1 f else ∃d,a=S d/\∃e,f.s d e/\bif V ((e.len:O)>=64)then K 0 2 f else ∃d,a=S d/\∃e,f.s d e/\A2 f [.z 0,.z b,.z c,.z 5,.y 0,.y 0,.y 0,.y 0,.y 0,.y 0,.y 0,.y 0] 139 λb c=>∃d f,aM qe [133,133] 133 e.v (.slice (S b.p) 1 1) c d f/\∃b,a=S b/\St f b d.v λb=>∃c,a=S c/\∃a,b.s c a/\K (qf.wrap ((a.len:O)-1)) 0 b)->d e f)->(Rm b (λb e=>bif !b then d Z e else Rn a c (λa b=>d (!a) b) e) w)):=aj func49 (.v (.y (.y (.r (S [(16,.c .b)]) .done) (.x .w)) .H9))
theorem YY{a b K w}:Fr (Qu a b K w) (Pq a b (λc d=>bif !c then K 100 d else ∀c:W->Pw,(∀(d:W)(e:J),(bif d then K 101 e else Qh a b (λa=>K 0 a) e)->c d e)->(∃e,a=S e/\∃f,d.s e f/\∃e,f.a=S e/\0<=b/\b<(f.len:O)/\∃f,d.z (e.add (b.toNat*12)) f/\bif f==1 then c Z d else ∃e,a=S e/\∃a,d.s e a/\∃e,a.a=S e/\0<=b/\b<(a.len:O)/\∃a,d.z (e.add (b.toNat*12)) a/\c (a==2) d)) w):=aj func50 (.v (.y (.v (.x .w)) (.y (.y (.r (S [(28,.c .b)]) .done) (.x .w)) (.v .w))))
theorem YZ{a b K w}:Fr (P3 a b K w) (Rn a b (λc d=>bif !c then K 0 G d else OZ a b (λc d e=>∃f,a=S f/\∃g,e.s (f.add 1) g/\∃f,g.a=S f/\0<=b/\b<(g.len:O)/\∃g,e.q (f.add (b.toNat*1)) g/\SX g (λe f g=>∀h:W->Pw,(∀(f:W)(g:J),(∀h:Pw,(∀c:J,(OZ a b (λa b c=>K a b c) c)->h c)->(bif f then ∀b:Pw,(∀c:J,(Qi a e (λb=>∃c,a=S c/\∃a,b.s c a/\∃c,a.a=S c/\0<=e/\e<(a.len:O)/\St b (c.add (e.toNat*12)) (.z 2) λa=>h a) c)->b c)->(bif d then Qh a c (λa=>b a) g else b g)else h g))->h f g)->(Dr g λb=>bif f then bif !d then h Z b else ∃d,a=S d/\∃f,b.s d f/\∃d,f.a=S d/\0<=e/\e<(f.len:O)/\∃f,b.z ((d.add (e.toNat*12)).add 1) f/\∃d,a=S d/\∃a,b.s d a/\∃d,a.a=S d/\0<=c/\c<(a.len:O)/\∃a,b.z ((d.add (c.toNat*12)).add 1) a/\h (V (f>a)) b else h G b)) e) d) w):=aj func51 (.v (.y (.v (.x .w)) (.v (.v (.y (.y .g1 (.t (S []) (.y .Ji .w) .u)) .w)))))
theorem Y0{a b K w}:Fr (Rc a b K w) (A2 w [.z 0,.z 0,.z 0,.z 0,.y 0,.y 0,.y 0,.y 0,.y 0,.y 0,.y 0,.y 0] 139 λc d=>Pq a b (λd e=>bif !d then aB e c.p 0 [.z 0,.z 0,.z 0,.z 0,.y 0,.y 0,.y 0,.y 0,.y 0,.y 0,.y 0,.y 0] λd=>ax d c.p 0 [.o,.o,.o,.o,.u,.u,.u,.u,.u,.u,.u,.u] λ(f g h i j k l m n o p q:O)=>K f g h i j k l m n o p q 100 d else ∃d,a=S d/\∃a,e.s d a/\∃d,a.a=S d/\0<=b/\b<(a.len:O)/\ax e (d.add (b.toNat*12)) 0 [.o,.o,.o,.o,.u,.u,.u,.u,.u,.u,.u,.u] λ(a b d f g h i j k l m n:O)=>aB e c.p 0 [.z a,.z b,.z d,.z f,.y g,.y h,.y i,.y j,.y k,.y l,.y m,.y n] λa=>ax a c.p 0 [.o,.o,.o,.o,.u,.u,.u,.u,.u,.u,.u,.u] λ(b c d e f g h i j k l m:O)=>K b c d e f g h i j k l m 0 a) d):=aj func56 .AQ
theorem Y1{a b K w}:Fr (OZ a b K w) (∀c:O->Pw,(∀(d:O)(e:J),(∃f,a=S f/\∃g,e.s f g/\bif V (d<(g.len:O))then ∀f:W->Pw,(∀(a:W)(b:J),(bif a then K d Z b else c (qf.wrap (d+1)) b)->f a b)->(∃c,a=S c/\∃g,e.s c g/\∃c,g.a=S c/\0<=d/\d<(g.len:O)/\∃g,e.z (c.add (d.toNat*12)) g/\bif g==2 then ∃c,a=S c/\∃a,e.s c a/\∃c,a.a=S c/\0<=d/\d<(a.len:O)/\∃a,e.z ((c.add (d.toNat*12)).add 2) a/\f (a==b) e else f G e)else K 0 G e)->c d e)->c 0 w):=aj func65 (.v (.y (.v (.x (.t (S [(6,.c (.i .i64))]) (.y (.v .w) (.x (.x (.y (.r (S [(36,.c .b)]) .done) (.x .w))))) .u))) .w))
theorem Vs{a b K w}:Fr (Qy a b K w) (OZ a b (λc d e=>bif !d then K G e else ∃d,a=S d/\∃f,e.s d f/\∃d,f.a=S d/\0<=c/\c<(f.len:O)/\St e ((d.add (c.toNat*12)).add 3) (.z 5) λd=>Qh a c (λc=>P3 a b (λ_ _ a=>K Z a) c) d) w):=aj func69 (.v (.v (.y (.v (.x .w)) (.v (.v (.v .w))))))
theorem Y2{a K w}:Fr (Rm a K w) (bif V (a>=0)then K (V (a<=255)) w else K G w):=aj func132 (.v .w)
theorem Y5{a b K w}:Fr (Rn a b K w) (bif V (b>=0)then ∃c,a=S c/\∃a,w.s (c.add 1) a/\K (V (b<(a.len:O))) w else K G w):=aj func133 (.v .w)
theorem Y6{a b K w}:Fr (Pq a b K w) (bif V (b>=0)then ∃c,a=S c/\∃a,w.s c a/\K (V (b<(a.len:O))) w else K G w):=aj func134 (.v .w)
theorem Y7{a b K w}:Fr (Qh a b K w) (∃c,a=S c/\∃d,w.s c d/\∃c,d.a=S c/\0<=b/\b<(d.len:O)/\St w (c.add (b.toNat*12)) (.z 1) λc=>Dr c λc=>∃d,a=S d/\∃e,c.s (d.add 1) e/\∃d,a=S d/\∃f,c.s d f/\∃d,f.a=S d/\0<=b/\b<(f.len:O)/\∃f,c.z ((d.add (b.toNat*12)).add 2) f/\∃d,e.a=S d/\0<=f/\f<(e.len:O)/\∃e,c.q (d.add (f.toNat*1)) e/\∃d,a=S d/\∃a,c.s d a/\∃d,a.a=S d/\0<=b/\b<(a.len:O)/\∃a,c.z ((d.add (b.toNat*12)).add 1) a/\(TL e a b (λ_ a=>K a) c)/\I):=aj func135 (.v (.z (.o 0 8376304 (.o 1 8376304 (.o 2 8376304 (.o 3 8376304 (.o 4 8372480 (.o 5 8372480 (.o 6 8372480 (.o 7 8372480 (.o 8 8372224 (.o 9 8372224 (.o 10 8372224 (.o 11 8372224 (.o 12 8372224 (.o 13 8372224 (.o 14 4456448 (.o 15 4456448 (.o 16 4456448 (.o 17 4456448 (.o 18 4194304 (.o 19 4194304 (.o 20 4194304 (.o 21 4194304 (.o 22 0 (.e 23 .done))))))))))))))))))))))))))
theorem Y8{a b K w}:Fr (Qi a b K w) (Dr w λc=>∃d,a=S d/\∃e,c.s (d.add 1) e/\∃d,a=S d/\∃a,c.s d a/\∃d,a.a=S d/\0<=b/\b<(a.len:O)/\∃a,c.z ((d.add (b.toNat*12)).add 2) a/\∃d,e.a=S d/\0<=a/\a<(e.len:O)/\∃e,c.q (d.add (a.toNat*1)) e/\(TN e b (λ_ a=>K a) c)/\I):=aj func137 (.z (.o 0 20464 (.o 1 20464 (.o 2 20464 (.o 3 20464 (.o 4 16640 (.o 5 16640 (.o 6 16640 (.o 7 16640 (.o 8 16384 (.o 9 16384 .KV)))))))))))
theorem Y9{a b K w}:Fr (Rs a b K w) (Pq a b (λc d=>bif !c then K 100 d else ∃c,a=S c/\∃e,d.s c e/\∃c,e.a=S c/\0<=b/\b<(e.len:O)/\∃e,d.z (c.add (b.toNat*12)) e/\bif e==0 then K 101 d else Qi a b (λc=>∃d,a=S d/\∃a,c.s d a/\∃d,a.a=S d/\0<=b/\b<(a.len:O)/\St c (d.add (b.toNat*12)) (.z 0) λa=>K 0 a) d) w):=aj func179 (.v (.y (.v (.x .w)) (.y (.v (.x .w)) (.v (.v .w)))))
theorem Za{a b c K w}:Fr (Tq a b c K w) (Pq a b (λd e=>bif !d then K 100 e else Rm c (λd e=>bif !d then K 1 e else Qi a b (λd=>∃e,a=S e/\∃f,d.s e f/\∃e,f.a=S e/\0<=b/\b<(f.len:O)/\St d ((e.add (b.toNat*12)).add 1) (.z c) λc=>∃d,a=S d/\∃e,c.s d e/\∃d,e.a=S d/\0<=b/\b<(e.len:O)/\∃e,c.z (d.add (b.toNat*12)) e/\bif e==1 then Qh a b (λa=>K 0 a) c else K 0 c) e) e) w):=aj func180 (.v (.y (.v (.x .w)) (.y (.v (.x .w)) (.v (.v (.y (.v .w) .w))))))
theorem Zb{a b c d K w}:Fr (Ql a b c d K w) (Pq a b (λe f=>bif !e then K 100 f else ∀e:W->Pw,(∀(f:W)(g:J),(bif f then K 1 g else ∃e,a=S e/\∃a,g.s e a/\∃e,a.a=S e/\0<=b/\b<(a.len:O)/\0<=c/\c<8/\St g (((e.add (b.toNat*12)).add 4).add (c.toNat*1)) (.y d) λa=>K 0 a)->e f g)->(bif V (c<0)then e Z f else e (V (c>7)) f)) w):=aj func197 (.v (.y (.v (.x .w)) (.y (.y .Kr (.x .w)) (.v .w))))
theorem Zc{a b K w}:Fr (T9 a b K w) (Pq a b (λc d=>bif !c then K 100 d else ∃c,a=S c/\∃e,d.s c e/\∃c,e.a=S c/\0<=b/\b<(e.len:O)/\∃e,d.z (c.add (b.toNat*12)) e/\bif e !=2 then K 101 d else ∃c,a=S c/\∃a,d.s c a/\∃c,a.a=S c/\0<=b/\b<(a.len:O)/\St d (c.add (b.toNat*12)) (.z 3) λa=>K 0 a) w):=aj func290 (.v (.y (.v (.x .w)) .H9))
namespace Th
section
variable{B:X}{w0 w:J}{R:Y aH}{b:X}{m:Mt}
def Mt.make(m:Mt)(p c:O):Mt:={ m with br:=m.br++ [⟨0,p,c,5,λ_=>0⟩]}
theorem fH.make(hm:fH m){p c:O}(hl:m.br.length<64)(hc:m.fC c=Z):fH (m.make p c):=by
 obtain⟨c0,c1⟩:=fF.1 hc;unfold Mt.make;refine⟨by simp;omega,hm.jk,hm.Fv,λx hx=>?_,λx hx=>rfl,λn hn=>?_,λaby hQ x hx=>?_⟩
 .rcases Mm.1 hx with h|h
  .exact hm.core x h
  .simp at h;subst h;exact⟨c0,c1⟩
 .rcases hm.run n hn with h|h
  .exact .inl h
  .exact .inr ⟨h.1,by simp;omega⟩
 .have:=hm.line aby hQ x hx
  exact⟨this.1,by simp;omega⟩
theorem nX{p c:O}{K:O->O->Pw}(hm:fH m)(h:Ow B w0 w (bu b m::R))
  (hK0:¬(0<=p/\p<256/\m.fC c=Z)->∀w',Ow B w0 w' (bu b m::R)->K 0 1 w')
  (hK1:(0<=p/\p<256/\m.fC c=Z)->64<=m.br.length->∀w',Ow B w0 w' (bu b m::R)->K 0 2 w')
  (hK2:(0<=p/\p<256/\m.fC c=Z)->m.br.length<64->∀w',Ow B w0 w' (bu b (m.make p c)::R)->K (m.br.length:O) 0 w'):PY b.o p c K w:=by
 apply Yu;have hfew:=hm.eC;obtain⟨l,q,r,bs,hbs,h⟩:=h.ym;have hl:=h.aL l;intro k hk;refine ke ?_;refine HH (λe=>?_) (λe=>?_)
 .refine hk _ _ (bh U ?_)
  exact hK0 (λhh=>by rw[qu hh.1,qu hh.2.1]at e;cases e) w (Ow.bU hbs h)
 simp only[LO,qB]at e;refine oQ hbs h ?_;cases hc:m.fC c with
 |false=>
  refine hk _ _ (bh U ?_);exact hK0 (λhh=>by rw[hc]at hh;cases hh.2.2) w (Ow.bU hbs h)
 |true=>
  have hh:=And.intro e.1 (And.intro e.2 hc);refine hk _ _ (bc U ?_);refine⟨_,U,l,h.aF U,bo (λe2=>?_) (λe2=>?_)⟩
  .exact hK1 hh om w (Ow.bU hbs h)
  .refine ⟨_,U,l,h.aF U,?_⟩
   refine h.a λd w1 h=>?_;refine Ow.eL (s:=l) (E:=ff) (xs:=m.br) (y:=⟨0,p,c,5,λ_=>0⟩) aaO (show qe.info? 139=S qS from by kernel_rfl) (zv:=(qS.zero).get qa) qa qa qa qb h (by
    have e:qS.bytes=96:=qa
    rw[e];omega) λs' w hs' h=>?_
   refine⟨_,U,?_⟩;have h:=h.cq;refine h.jH U U λw h=>?_;refine⟨_,U,s',h.aF U,?_⟩;rw[show qf.wrap ((s'.len:O)-1)=(m.br.length:O)from by rw[hs',wr om om];omega];exact hK2 hh om w (Ow.bU (m:=m.make p c) (l:=s') (q:=q) (r:=r) (bs:=bs) hbs h)
def Mt.yield(m:Mt)(c:O):Mt:=match m.bP c with
 |none=>m
 |some o=>(((m.aJ o { m.th o with le:=5}).leave o 1).cr o).aW c
theorem db{n k:O}{t:rj}:(m.aJ n t).cH k=m.cH k:=by unfold Mt.aJ Mt.cH;simp
theorem mY{c:O}{K:W->Pw}(hm:fH m)(h:Ow B w0 w (bu b m::R))(hK:∀w',Ow B w0 w' (bu b (m.yield c)::R)->K (m.bP c).isSome w'):Rh b.o c K w:=by
 apply Yx;refine ir (c:=c) hm h λw h=>?_;unfold Mt.yield at hK;cases hr:m.bP c with
 |none=>
  rw[hr]at hK;exact bh U (hK w h)
 |some o=>
  rw[hr]at hK;obtain⟨hc,hro,ho1,hoT⟩:=hm.runT hr;obtain⟨o0,o1,hox⟩:=bI hoT;have ht:=hm.th hoT;refine bc U ?_;obtain⟨l,q,r,bs,hbs,h⟩:=h.ym;refine⟨_,U,l,h.aF U,h.cz (s:=l) (i:=o) (j:=o.toNat) om hox λa ha h0 hcc=>?_⟩;refine zQ (c:=3) (t':={ m.th o with le:=5}) h o0 hox ha U qb U λw h=>?_;have h:Ow B w0 w (bu b (m.aJ o { m.th o with le:=5})::R):=Ow.bU (m:=m.aJ o { m.th o with le:=5}) hbs h;have hm1:fH (m.aJ o { m.th o with le:=5}):=hm.aJ (t:={ m.th o with le:=5}) ht.1 U;have hT1:(m.aJ o { m.th o with le:=5}).cH o=true:=by rw[db];exact hoT
  refine fx hm1 hT1 h λw h=>?_;have hT2:((m.aJ o { m.th o with le:=5}).leave o 1).cH o=true:=by rw[ed];exact hT1
  refine fT (hm1.leave hT1) hT2 h λw h=>?_;refine iq ((hm1.leave hT1).cr hT2) h λw h=>?_;exact hK w h
def Mt.tick(m:Mt)(c:O):Mt:=match m.bP c with
 |none=>m
 |some o=>if qf.wrap ((m.th o).le-1)<=0 then(m.aJ o { m.th o with le:=qf.wrap ((m.th o).le-1)}).yield c else m.aJ o { m.th o with le:=qf.wrap ((m.th o).le-1)}
theorem vJ{c:O}{K:W->Pw}(hm:fH m)(h:Ow B w0 w (bu b m::R))(hK:∀w',Ow B w0 w' (bu b (m.tick c)::R)->K (m.bP c).isSome w'):SH b.o c K w:=by
 apply Yy;refine ir (c:=c) hm h λw h=>?_;unfold Mt.tick at hK;cases hr:m.bP c with
 |none=>
  rw[hr]at hK;exact bh U (hK w h)
 |some o=>
  rw[hr]at hK;obtain⟨hc,hro,ho1,hoT⟩:=hm.runT hr;obtain⟨o0,o1,hox⟩:=bI hoT;have ht:=hm.th hoT;refine bc U ?_;obtain⟨l,q,r,bs,hbs,h⟩:=h.ym;refine⟨_,U,l,h.aF U,h.cz (s:=l) (i:=o) (j:=o.toNat) om hox λa ha h0 hcc=>⟨_,hcc 3 _ U,?_⟩⟩
  refine h.cz (s:=l) (i:=o) (j:=o.toNat) om hox λa ha h0 hcc=>?_;simp only at hK;generalize hv:qf.wrap ((m.th o).le-1)=v at hK|-;refine zQ (c:=3) (t':={ m.th o with le:=v}) h o0 hox ha U qb U λw h=>?_;have hx2:(m.br.set o.toNat { m.th o with le:=v})[o.toNat]?=S { m.th o with le:=v}:=by rw[Mb,qd U,qd om]
  refine⟨_,U,l,h.aF U,h.cz (s:=l) (i:=o) (j:=o.toNat) om hx2 λa ha h0 hcc=>⟨_,hcc 3 _ U,?_⟩⟩
  have h:Ow B w0 w (bu b (m.aJ o { m.th o with le:=v})::R):=Ow.bU (m:=m.aJ o { m.th o with le:=v}) hbs h;have hm1:fH (m.aJ o { m.th o with le:=v}):=hm.aJ (t:={ m.th o with le:=v}) ht.1 U;refine bo (λe=>?_) (λe=>?_)
  .rw[qd (e:v<=0)]at hK
   exact mY hm1 h λw h=>hK w h
  .rw[F (e:¬v<=0)]at hK
   exact hK w h
theorem Eo{c:X}(h1:1<=c)(h8:c<=8){K:O->O->Pw}(hK:K 0 (c:O) w):TH (1:O) (c:O) K w:=by
 apply VX;apply VY;have:c=1\/c=2\/c=3\/c=4\/c=5\/c=6\/c=7\/c=8:=om
 rcases this with rfl|rfl|rfl|rfl|rfl|rfl|rfl|rfl<;>
 .refine ⟨qb,qb,qb,qb,qb,?_⟩
  refine Eq.mp ?_ hK;kernel_rfl
theorem yw{x:Sl}{c:X}{K:Sl->Pw}(h1:1<=c)(h8:c<=8)(hl:x.len=1)(h:Ow B w0 w (af aq x [-1]::R))(hK:∀s w',Ow B w0 w' (af aq s (Ly c (-1))::R)->K s w'):SR x (c:O) K w:=by
 apply Vw;intro k3 hk3;refine aw om (hk3 _ ?_);rw[hl,show qv.wrap ((1:X):O)=1 from IJ om om,IJ (x:=(c:O)) om om];refine Eo h1 h8 ?_;intro k8 hk8;refine aw om (hk8 _ _ ?_);intro k11 hk11;refine aw om (hk11 _ ?_);rw[wr (x:=(c:O)) om om];have hb:qF.bytes=8:=qa
 have hp48:(2:O)^48=281474976710656:=qb
 refine Ow.s6 (E:=aq) (z0:=(0:O)) (zv:= .z 0) qG (show qe.info? 3=S qF from by kernel_rfl) qa qa U (n:=(c:O)) (inf:=qF) h om (by rw[hb,hp48];omega) (by rw[hp48];omega) λt w ht h=>?_;rw[Lw]at ht h;have hx0:([-1]:Y O)[0]?=S (-1):=rfl;obtain⟨bx,ox,hax,hcx⟩:=h.get 1 U hx0;obtain⟨bt,ot,hat,hct⟩:=h.get 0 U (show(Ly c (0:O))[0]?=S 0 from by rw[NP,qd om]);have first:∃n w',ki qe [22,22] 3 t.v x.v w n w'/\(n=1/\Ow B w0 w' (af aq t ([-1]++Ly (c-1) 0)::af aq x [-1]::R)):=by
  have e:min x.len t.len=1:=by rw[hl,ht];omega
  have:=Ow.B4 (P:=qe) (T:=22) (t:=3) (E:=aq) (s:=t) (xs:=Ly c (0:O)) (p:=0) (dl:=t.len) (dc:=t.cap) (sl:=x.len) (sc:=x.cap) (zs:=[-1]) (sa:=⟨bx,ox+(0*aq.z+0),N⟩) (k:=λn w'=>n=1/\Ow B w0 w' (af aq t ([-1]++Ly (c-1) 0)::af aq x [-1]::R))
   qG (show qe.info? 3=S qF from by kernel_rfl) qa h hat (by rw[e];rfl) (by simp;omega) (λj v hv=>by
    cases j with
    |zero=>simp only[MP,OL,LQ]at hv;exact hcx 0 v hv
    |succ j=>simp[aq]at hv) λw' h'=>⟨by rw[e];rfl,by simpa [PJ]using h'⟩
  first
   |(rw[hat,hax];exact this)
   |(show ∃n w',ki qe [22,22] 3 (.slice (t.a) t.len t.cap) (.slice (x.a) x.len x.cap) w n w'/\(n=1/\Ow B w0 w' (af aq t ([-1]++Ly (c-1) 0)::af aq x [-1]::R));rw[hat,hax];exact this)
 obtain⟨n,w',hcp,rfl,h⟩:=first
 refine⟨_,w',(by first|exact hcp|(rw[hl]at hcp;exact hcp)),?_⟩;intro l17 hl17;have loop:∀(k n:X)(w:J),c<=n+k->1<=n->n<=c->Ow B w0 w (af aq t (Ly n (-1)++Ly (c-n) 0)::af aq x [-1]::R)->l17 (n:O) w:=by
  intro k;induction k with
  |zero=>
   intro n w hk hn1 hnc h;obtain rfl:n=c:=om
   apply hl17;refine aw om ?_;rw[MV,PL,LQ]at h;exact hK t w h.uN
  |succ k ih=>
   intro n w hk hn1 hnc h;apply hl17;refine bo (λe=>?_) (λe=>?_)
   .refine h.dr λw h=>?_
    have hcap:=h.lK.gu;have hln:=h.len 0 U;refine⟨om,om,om,om,Go.Vc.a2 ?_⟩;rw[Lw];have e2:min (n-0) (t.len-n)=min n (c-n):=by rw[ht];rfl
    have hd:∃bt' ot',t.a=S ⟨bt',ot',N⟩/\∀j,j<n->w.cell? ⟨bt',ot'+j,N⟩=S (.z (-1)):=by
     obtain⟨b0,o0,ha0,_⟩:=h.get 0 U (show(Ly n (-1:O)++Ly (c-n) 0)[0]?=S (-1)from by rw[LI (by simp;omega),NP,qd om]);refine⟨b0,o0,ha0,λj hj=>?_⟩;obtain⟨b1,o1,ha1,hc1⟩:=h.get 0 U (j:=j) (x:=(-1:O)) (by rw[LI (by simp;omega),NP,qd hj]);rw[ha0]at ha1;cases ha1;have:=hc1 0 _ U
     rwa [show o0+(j*aq.z+0)=o0+j from by show o0+(j*1+0)=_;omega]at this
    obtain⟨b0,o0,ha0,hcells⟩:=hd;have hsl1:eU t.a n t.cap 1=S ⟨b0,o0+n*1,N⟩:=gF ha0 om;have hsl2:eU t.a 0 t.cap 1=S ⟨b0,o0,N⟩:=by rw[gF ha0 om,Of,NB]
    rw[hsl1,hsl2];have hlenz:(Ly (min n (c-n)) (-1:O)).length=min (n-0) (t.len-n):=by rw[List.length_replicate,e2]
    refine Ow.B4 (P:=qe) (T:=22) (t:=3) (E:=aq) (s:=t) (xs:=Ly n (-1)++Ly (c-n) 0) (p:=n) (dl:=t.len-n) (dc:=t.cap-n) (sl:=n-0) (sc:=t.cap-0) (zs:=Ly (min n (c-n)) (-1)) (sa:=⟨b0,o0,N⟩)
     qG (show qe.info? 3=S qF from by kernel_rfl) qa h ha0 hlenz (by simp;omega) (λj v hv=>?_) λw' h'=>?_
    .have hfl:(Ly (min n (c-n)) (-1:O)).flatMap aq.enc=Ly (min n (c-n)) (.z (-1)):=by
      induction (min n (c-n))with
      |zero=>rfl
      |succ q ihq=>rw[N6,MP,ihq,N6];rfl
     rw[hfl,NP]at hv;split at hv
     .cases hv;rw[aI];exact hcells j om
     .cases hv
    .rw[e2]
     have hs:qf.wrap ((n:O)+((min n (c-n):X):O))=((n+min n (c-n):X):O):=by rw[wr om om];omega
     rw[hs];refine ih (n+min n (c-n)) w' om om om ?_;have hx:List.take n (Ly n (-1:O)++Ly (c-n) 0)++Ly (min n (c-n)) (-1)++List.drop (n+(Ly (min n (c-n)) (-1:O)).length) (Ly n (-1:O)++Ly (c-n) 0)=Ly (n+min n (c-n)) (-1)++Ly (c-(n+min n (c-n))) 0:=by rw[List.take_left' qc,List.drop_append,Nz qc,List.nil_append,PJ,List.replicate_append_replicate];congr 2;simp;omega
     rw[hx]at h';exact h'
   .obtain rfl:n=c:=om
    rw[MV,PL,LQ]at h;exact hK t w h.uN
 exact loop c 1 w' om om h1 h
theorem yA{s:Sl}{ys:Y X}{y:X}{c:X}{L:Y aH}{k:Sl->Pw}[abw:cu s L X dO ys][abq:fh (af dO s ys) L R](h:Ow B w0 w (aa c [.q y]::L))(hbig:ys.length<=1000000000)
  (hk:∀s' w',s'.len=ys.length+1->Ow B w0 w' (af dO s' (ys++ [y])::R)->k s' w'):
  ∃s' w',aM qe [245,245] 245 s.v (.slice (S c.p) 1 1) w s' w'/\k s' w':=
 Ow.eL (E:=dO) (y:=y) underlying245 (show qe.info? 248=S aa2 from by kernel_rfl) (zv:= .pointer N) qa qa U qb h (by
  have e:aa2.bytes=8:=qa
  rw[e];omega) hk
def jv(c:X):Mt:=⟨[],Ly c [],Ly c (-1)⟩
theorem G4{c:X}(h8:c<=8):fH (jv c):=by
 refine⟨by simp[jv],by simp[jv],by simpa [jv]using h8,λt h=>?_,λt h=>rfl,λn h=>?_,λaby h x hx=>?_⟩
 .simp[jv]at h
 .simp only[jv,OA]at h;exact .inl h.2
 .simp only[jv,OA]at h;rw[h.2]at hx;simp at hx
theorem yg{n:O}{K:qh qg->O->Pw}(h:Ow B w0 w R)(hK0:¬(1<=n/\n<=8)->∀w',Ow B w0 w' R->K N 1 w')(hK1:∀c:X,n=(c:O)->1<=c->c<=8->∀b w',Ow B w0 w' (bu b (jv c)::R)->K b.o 0 w'):Sm n K w:=by
 apply Yt;intro k2 hk2;refine bo (λe=>hk2 _ _ (bh U (hK0 om w h))) (λe1=>hk2 _ _ ?_);refine bo (λe=>hK0 om w h) (λe2=>?_);obtain⟨c,rfl⟩:=LB (show 0<=n by omega);refine h.a λd w1 h=>?_;have h:Ow B w0 w1 (af aq ⟨S d.p,1,1⟩ [-1]::R):=h.yI [-1] U;refine yw om om U h λr w h=>?_;refine h.a λt w2 h=>?_;have h:Ow B w0 w2 (af dO z0 []::_):=Ow.cZ h;have h:Ow B w0 w2 (af ff z0 []::_):=Ow.cZ h;intro l9 hl9;have loop:∀(k j:X)(q:Sl)(bs:Y X)(w:J),j+k=c->bs.length=j->Ow B w0 w (aa t [bg z0,bg q,bg r]::af ff z0 []::af dO q bs::af aq r (Ly c (-1))::(Lx aD bs (Ly j [])++R))->l9 (j:O) w:=by
  intro k;induction k with
  |zero=>
   intro j q bs w hj hbs h;obtain rfl:j=c:=om
   apply hl9;refine aw om ?_;exact hK1 j U om om t w (Ow.bU (m:=jv j) (l:=z0) (q:=q) (r:=r) (bs:=bs) (by simp[jv];exact hbs) h)
  |succ k ih=>
   intro j q bs w hj hbs h;apply hl9;refine az om ?_;refine h.dr λw h=>?_;refine⟨_,U,q,h.aE U,Go.Vc.a2 (mL h λb1 w h=>?_)⟩;refine⟨h.aE U,Go.Vc.a2 (h.a λd3 w3 h=>?_)⟩;refine Go.Vc.a2 ?_;refine yA (s:=q) (ys:=bs) (y:=b1) h om λq' w hq' h=>?_;refine⟨_,U,Go.Vc.a2 (h.fK U U λw h=>?_)⟩;rw[wI j om];refine ih (j+1) q' (bs++ [b1]) w om (by simp[hbs]) ?_;have ez:Lx aD (bs++ [b1]) (Ly (j+1) [])=Lx aD bs (Ly j [])++ [aD b1 []]:=by rw[PC,O1 (by simp[hbs])];rfl
   rw[ez,LN];have h2:Ow B w0 w (aa t [bg z0,q'.v,bg r]::af ff z0 []::af dO q' (bs++ [b1])::af aq r (Ly c (-1))::aD b1 []::(Lx aD bs (Ly j [])++R)):=h.sub;exact h2.perm ((((Ml.symm.cons _).cons _).cons _).cons _)
 have h3:Ow B w0 w2 (aa t [bg z0,bg z0,bg r]::af ff z0 []::af dO z0 []::af aq r (Ly c (-1))::R):=h.kh;exact loop c 0 z0 [] w2 om U h3
end
section
variable{w0 w:J}{B:X}{R:Y aH}{b:X}{m:Mt}
theorem fH.JG(hm:fH m){c n:O}(h:m.cH n=Z):fH (m.gD c n):=hm.gD (.inr ⟨(bI h).1,(bI h).2.1⟩)
end
section
variable{B:X}{w0 w:J}{R L:Y aH}{b:X}{m:Mt}
theorem mZ{c:X}{a e2:O}{K:O->Pw}(h:Ow B w0 w (aa c [.z a,.z e2]::L))(hK:∀w',Ow B w0 w' (aa c [.z a,.z e2]::L)->K (if a≠0 then a else e2) w'):Qo ⟨S c.p,2,2⟩ K w:=by
 apply YI;have tell:∀(x:O)(w:J)(aby:W->Pw),aby (x !=0) w->Ve x aby w:=λx w aby h=>by apply YL;exact h
 apply VL;intro l3 hl3;refine hl3 _ _ (az (by show(0:O)<2;decide) ?_);refine⟨_,U,qb,by show(0:O)<2;decide,a,h.aE U,bq (tell a w _ ?_)⟩;refine cb (λe=>?_) (λe=>?_)
 .have ea:a≠0:=by simpa using e
  rw[qd ea]at hK;refine aw qb ?_;exact⟨_,U,qb,by show(0:O)<2;decide,a,h.aE U,hK w h⟩
 .have ea:a=0:=by simpa using e
  rw[F (by simpa using ea)]at hK;rw[show qf.wrap ((0:O)+1)=1 from by decide];refine hl3 _ _ (az (by show(1:O)<2;decide) ?_);refine⟨_,U,qb,by show(1:O)<2;decide,e2,h.aE U,bq (tell e2 w _ ?_)⟩;refine cb (λe=>?_) (λe=>?_)
  .refine aw qb ?_
   exact⟨_,U,qb,by show(1:O)<2;decide,e2,h.aE U,hK w h⟩
  .have eb:e2=0:=by simpa using e
   rw[show qf.wrap ((1:O)+1)=2 from by decide];refine hl3 _ _ (aw (by show ¬(2:O)<2;decide) ?_);refine az qb ?_;rw[eb]at hK h;exact hK w h
def Mt.zA(m:Mt)(n:O)(i:X)(v:O):Mt:=m.aJ n { m.th n with rg:=λj=>if j=i then v else(m.th n).rg j}
theorem fH.zA(hm:fH m){n v:O}{i:X}(hn:m.cH n=Z):fH (m.zA n i v):=hm.aJ (t:={ m.th n with rg:=λj=>if j=i then v else(m.th n).rg j}) (hm.th hn).1 U
theorem JD{n v:O}{i:X}{K:O->Pw}(hm:fH m)(hT:m.cH n=Z)(hi:i<8)(h:Ow B w0 w (bu b m::R))(hK:∀w',Ow B w0 w' (bu b (m.zA n i v)::R)->K 0 w'):QG b.o n (i:O) v K w:=by
 apply UR;obtain⟨l,q,r,bs,hbs,h⟩:=h.ym;obtain⟨n0,n1,hx⟩:=bI hT;refine eK h (λe=>by rw[hT]at e;cases e) λa _ ha=>?_;intro k7 hk7;refine ct ?_;refine aw om ?_;refine ct ?_;rw[qm (show ¬(i:O)>=8 by omega)];refine h.a λd w2 h=>?_;refine mZ h λw h=>?_;have h:=h.drop;refine hk7 _ _ (fa U ?_);refine⟨_,U,om,om,?_⟩;have e1:((a.add (n.toNat*12)).add 4).add ((i:O).toNat*1)=(a.add (n.toNat*12)).add (4+i):=by have:=h.uW l ha;rw[this,aI,aI,aI,aI,Lw];congr 1;omega
 rw[e1];refine zQ (c:=4+i) (t':={ m.th n with rg:=λj=>if j=i then v else(m.th n).rg j}) h n0 hx ha ?_ om U λw h=>?_
 .have:i=0\/i=1\/i=2\/i=3\/i=4\/i=5\/i=6\/i=7:=om
  rcases this with rfl|rfl|rfl|rfl|rfl|rfl|rfl|rfl<;>rfl
 .exact hK w (Ow.bU (m:=m.zA n i v) hbs h)
theorem zT{l q r:Sl}{bs:Y X}{n s:O}{K:Pw}(hm:fH m)(hn:m.cH n=Z)(hbs:bs.length=m.qs.length)(h:Ow B w0 w (aa b [bg l,bg q,bg r]::af ff l m.br::af dO q bs::af aq r m.runs::(Lx aD bs m.qs++R)))
  (hK:∀w',Ow B w0 w' (aa b [bg l,bg q,bg r]::af ff l (m.leave n s).br::af dO q bs::af aq r (m.leave n s).runs::(Lx aD bs (m.leave n s).qs++R))->K w'):OY b.o n s K w:=by
 apply Vr;obtain⟨n0,n1,hx⟩:=bI hn;obtain⟨⟨c0,c1⟩,_⟩:=hm.th hn;have hcr:=hm.jk;obtain⟨b1,hb1⟩:∃x,bs[(m.th n).co.toNat]?=S x:=⟨_,gE om⟩
 refine eK h (λe=>by rw[hn]at e;cases e) λa _ ha=>?_;refine⟨_,U,_,rF (c:=0) h n0 hx ha U,?_⟩;intro k hk;have fin:∀w,Ow B w0 w (aa b [bg l,bg q,bg r]::af ff l m.br::af dO q bs::af aq r (m.bz n).runs::(Lx aD bs (m.bz n).qs++R))->k w:=λw h=>by
  apply hk;refine⟨_,U,zQ (c:=0) (t':={ m.th n with st:=s}) h n0 hx ha U qb U λw h=>?_⟩;refine hK w ?_;have e:(m.leave n s).br=m.br.set n.toNat { m.th n with st:=s}:=by unfold Mt.leave Mt.aJ;rw[cX.1]
  rw[e];exact h
 refine dE (λe=>?_) (λe=>?_)
 .have e1:m.bz n=m.ib (m.th n).co (eV (m.q (m.th n).co) n).2:=by unfold Mt.bz;rw[qd e]
  rw[e1]at fin;refine h.dr λw h=>?_;refine⟨_,U,q,h.aE U,_,U,_,rF (c:=2) h n0 hx ha U,h.cz (s:=q) (j:=(m.th n).co.toNat) (by show(m.th n).co=_;omega) hb1 λa2 ha2 h0 hc=>⟨_,h0 _ U,Go.Vc.a2 ?_⟩⟩
  have h:=h.He hb1 (pR c0 c1);refine gK h λw h=>?_;exact fin w (h.JV (qs:=m.qs) hb1 om)
 refine dE (λe2=>?_) (λe2=>?_)
 .have e1:m.bz n=m.gD (m.th n).co (-1):=by unfold Mt.bz;rw[F e,qd e2]
  rw[e1]at fin;refine h.dr λw h=>?_;refine⟨_,U,r,h.aE U,_,U,_,rF (c:=2) h n0 hx ha U,h.cz (s:=r) (j:=(m.th n).co.toNat) (by show(m.th n).co=_;omega) (uI (m:=m) c0 om) λa2 ha2 h0 hc=>Go.Vc.a2 ?_⟩;refine Ow.Iz (s:=r) (E:=aq) (xs:=m.runs) (i:=(m.th n).co) (j:=(m.th n).co.toNat) h (-1) om om ha2 U λw h=>?_;exact fin w h.vd.vd.vd
 .have e1:m.bz n=m:=by unfold Mt.bz;rw[F e,F e2]
  rw[e1]at fin;exact fin w h
theorem dF{n k:O}{t:rj}(hn:m.cH n=Z):(m.aJ n t).th k=if k=n then t else m.th k:=by
 obtain⟨n0,n1,_⟩:=bI hn;unfold Mt.th Mt.aJ;by_cases hk:k<0
 .rw[qd hk,qd hk,F om]
 .rw[F hk,F hk]
  simp only;rw[Mb];by_cases e:k=n
  .subst e;rw[qd U,qd om,qd U];rfl
  .rw[F om,F e]
theorem xM{c k:O}{aby:Qs}(hc:m.fC c=Z):(m.ib c aby).q k=if k=c then aby else m.q k:=by
 obtain⟨n0,n1⟩:=fF.1 hc;unfold Mt.q Mt.ib;by_cases hk:k<0
 .rw[qd hk,qd hk,F om]
 .rw[F hk,F hk]
  simp only;rw[Mb];by_cases e:k=c
  .subst e;rw[qd U,qd om,qd U];rfl
  .rw[F om,F e]
theorem uR{c k v:O}(c0:0<=c)(c1:c<m.runs.length):(m.gD c v).run k=if k=c then v else m.run k:=by
 unfold Mt.run Mt.gD;by_cases hk:k<0
 .rw[qd hk,qd hk,F om]
 .rw[F hk,F hk]
  simp only;rw[Mb];by_cases e:k=c
  .subst e;rw[qd U,qd om,qd U];rfl
  .rw[F om,F e]
theorem tH{n k:O}{t:rj}:(m.aJ n t).q k=m.q k:=rfl
theorem nH{n k:O}{t:rj}:(m.aJ n t).run k=m.run k:=rfl
theorem xX{n k:O}{t:Qs}:(m.ib n t).th k=m.th k:=rfl
theorem F8{n k:O}{t:Qs}:(m.ib n t).run k=m.run k:=rfl
theorem tG{n k t:O}:(m.gD n t).th k=m.th k:=rfl
theorem F9{n k t:O}:(m.gD n t).q k=m.q k:=rfl
theorem F7{n k:O}{t:Qs}:(m.ib n t).cH k=m.cH k:=rfl
theorem zJ{n k:O}{t:Qs}:(m.ib n t).fC k=m.fC k:=by unfold Mt.ib Mt.fC;simp
structure bF(o:O)(m:Mt):Prop where
 ok:fH m
 pr:∀n,m.cH n=Z->0<=(m.th n).pr/\(m.th n).pr<256
 le:∀n,m.cH n=Z->1<=(m.th n).le/\(m.th n).le<=5
 DC:∀c,wV (m.q c)
 AV:∀c,m.fC c=Z->∀(p:X)n,(p,n)∈m.q c↔(m.cH n=Z/\n≠o/\(m.th n).co=c/\(m.th n).st=1/\(m.th n).pr=(p:O))
 inr:∀c,m.fC c=Z->∀n,m.cH n=Z->(m.run c=n↔(n≠o/\(m.th n).co=c/\(m.th n).st=2))
theorem bF.co{o:O}(hi:bF o m){n:O}(hn:m.cH n=Z):m.fC (m.th n).co=true:=fF.2 (hi.ok.th hn).1
theorem Gm{aby:Qs}{n:O}{p:X}{k:O}:(p,k)∈(eV aby n).2↔(p,k)∈aby/\k≠n:=by
 unfold eV;split
 .rw[LP];simp
 .rename_i e
  exact⟨λh=>⟨h,lv.1 e _ h⟩,λh=>h.1⟩
theorem Hq{aby:Qs}{n:O}(h:wV aby):wV (eV aby n).2:=by
 unfold eV;split
 .exact ⟨h.nodup.sublist (List.Sublist.map _ NS),λx hx=>h.prio x (LP.1 hx).1,LY (L6 _ _) h.eC⟩
 .exact h
theorem bF.bz(hi:bF (-1) m){n:O}(hn:m.cH n=Z):bF n (m.bz n):=by
 have hc:=hi.co hn;have hok:=hi.ok;obtain⟨c0,c1⟩:=fF.1 hc;have hcr:=hi.ok.jk;obtain⟨n0,_,_⟩:=bI hn;have neg:∀k,m.cH k=Z->k≠ -1:=λk hk=>by have:=(bI hk).1;omega
 unfold Mt.bz;split
 .rename_i hs
  refine⟨hi.ok.ib (wO hok.uE),hi.pr,hi.le,λc=>?_,λc hc2 p k=>?_,λc hc2 k hk=>?_⟩
  .rw[xM hc];split
   .exact Hq (hi.DC _)
   .exact hi.DC c
  .rw[zJ]at hc2
   rw[xM hc,xX,F7];split
   .rename_i e
    subst e;rw[Gm,hi.AV _ hc];constructor
    .rintro ⟨⟨h1,h2,h3⟩,h4⟩;exact⟨h1,h4,h3⟩
    .rintro ⟨h1,h4,h3⟩;exact⟨⟨h1,neg k h1,h3⟩,h4⟩
   .rename_i e
    rw[hi.AV _ hc2];constructor
    .rintro ⟨h1,h2,h3⟩;exact⟨h1,λe2=>e (by rw[<-h3.1,e2]),h3⟩
    .rintro ⟨h1,h4,h3⟩;exact⟨h1,neg k h1,h3⟩
  .rw[zJ]at hc2
   rw[F8,xX,hi.inr c hc2 k hk];constructor
   .rintro ⟨h1,h2,h3⟩;exact⟨λe=>by rw[e,hs]at h3;omega,h2,h3⟩
   .rintro ⟨h1,h3⟩;exact⟨neg k hk,h3⟩
 .rename_i hs1
  split
  .rename_i hs
   refine⟨hi.ok.gD (.inl U),hi.pr,hi.le,hi.DC,λc hc2 p k=>?_,λc hc2 k hk=>?_⟩
   .rw[jF]at hc2
    rw[F9,tG,pW,hi.AV c hc2];constructor
    .rintro ⟨h1,h2,h3,h4,h5⟩;exact⟨h1,λe=>by rw[e,hs]at h4;omega,h3,h4,h5⟩
    .rintro ⟨h1,h2,h3⟩;exact⟨h1,neg k h1,h3⟩
   .rw[jF]at hc2
    rw[pW]at hk;rw[uR c0 om,tG];split
    .rename_i e
     constructor
     .intro e2;exact qj e2.symm (neg k hk)
     .rintro ⟨h1,h2,h3⟩
      have a1:=(hi.inr c hc2 k hk).2 ⟨neg k hk,h2,h3⟩;have a2:=(hi.inr c hc2 n hn).2 ⟨neg n hn,e.symm,hs⟩;exact qj (a1.symm.trans a2) h1
    .rename_i e
     rw[hi.inr c hc2 k hk];constructor
     .rintro ⟨h1,h2,h3⟩;exact⟨λe2=>e (by rw[<-h2,e2]),h2,h3⟩
     .rintro ⟨h1,h3⟩;exact⟨neg k hk,h3⟩
  .rename_i hs2
   refine⟨hi.ok,hi.pr,hi.le,hi.DC,λc hc2 p k=>?_,λc hc2 k hk=>?_⟩
   .rw[hi.AV c hc2]
    constructor
    .rintro ⟨h1,h2,h3,h4,h5⟩;exact⟨h1,λe=>by rw[e]at h4;exact hs1 h4,h3,h4,h5⟩
    .rintro ⟨h1,h2,h3⟩;exact⟨h1,neg k h1,h3⟩
   .rw[hi.inr c hc2 k hk]
    constructor
    .rintro ⟨h1,h2,h3⟩;exact⟨λe=>by rw[e]at h3;exact hs2 h3,h2,h3⟩
    .rintro ⟨h1,h3⟩;exact⟨neg k hk,h3⟩
theorem bF.set{n:O}(hi:bF n m)(hn:m.cH n=Z){t:rj}(h1:0<=t.co/\t.co<m.qs.length)(h2:0<=t.pr/\t.pr<256)(h3:1<=t.le/\t.le<=5):bF n (m.aJ n t):=by
 refine⟨hi.ok.aJ h1 U,λk hk=>?_,λk hk=>?_,hi.DC,λc hc p k=>?_,λc hc k hk=>?_⟩
 .rw[dF hn];rw[db]at hk;split
  .exact h2
  .exact hi.pr k hk
 .rw[dF hn];rw[db]at hk;split
  .exact h3
  .exact hi.le k hk
 .rw[tH,db,dF hn,hi.AV c hc]
  by_cases e:k=n
  .subst e;exact⟨λh=>qj U h.2.1,λh=>qj U h.2.1⟩
  .rw[F e]
 .rw[db]at hk
  rw[nH,dF hn,hi.inr c hc k hk];by_cases e:k=n
  .subst e;exact⟨λh=>qj U h.1,λh=>qj U h.1⟩
  .rw[F e]
theorem nA{n k:O}:(m.bz n).th k=m.th k:=by unfold Mt.th;rw[cX.1]
theorem jr{n k:O}:(m.bz n).cH k=m.cH k:=by unfold Mt.cH;rw[cX.1]
theorem bF.leave(hi:bF (-1) m){n s:O}(hn:m.cH n=Z):bF n (m.leave n s):=by
 unfold Mt.leave;have h0:=hi.bz hn;have hn0:(m.bz n).cH n=true:=by rw[jr];exact hn
 refine h0.set hn0 ?_ (hi.pr n hn) (hi.le n hn);rw[cX.2];exact(hi.ok.th hn).1
theorem iG{n s k:O}(hn:m.cH n=Z):(m.leave n s).th k=if k=n then { m.th n with st:=s}else m.th k:=by unfold Mt.leave;rw[dF (by rw[jr];exact hn),nA]
theorem jg{n k:O}(hn:m.cH n=Z):(m.cr n).th k=if k=n then { m.th n with st:=1}else m.th k:=by unfold Mt.cr;rw[xX,dF hn]
theorem bF.Lo{n:O}(hi:bF n m){c:O}(hc:m.fC c=Z):wh (m.q c) n=none:=lv.2 λx hx e=>by obtain⟨p,k⟩:=x;exact((hi.AV c hc p k).1 hx).2.1 e
theorem bF.up{n:O}(hi:bF n m)(hn:m.cH n=Z):bF (-1) (m.cr n):=by
 have hc:=hi.co hn;have hw:=hi.Lo hc;have hp:=hi.pr n hn;have hok:=hi.ok.cr hn;have hids:=xt (hi.DC _) (hi.ok.uE (c:=(m.th n).co));have hfew:=hi.ok.eC;have neg:∀k,m.cH k=Z->k≠ -1:=λk hk=>by have:=(bI hk).1;omega
 have hput:(jy (m.q (m.th n).co) (m.th n).pr n).2=m.q (m.th n).co++ [((m.th n).pr.toNat,n)]:=by unfold jy;rw[F om,hw]
 have hpt:((m.th n).pr.toNat:O)=(m.th n).pr:=om
 have hc1:(m.aJ n { m.th n with st:=1}).fC (m.th n).co=true:=hc;refine⟨hok,λk hk=>?_,λk hk=>?_,λc=>?_,λc hc2 p k=>?_,λc hc2 k hk=>?_⟩
 .rw[jg hn];rw[fV]at hk;split
  .exact hp
  .exact hi.pr k hk
 .rw[jg hn];rw[fV]at hk;split
  .exact hi.le n hn
  .exact hi.le k hk
 .unfold Mt.cr
  rw[xM hc1,hput,tH];split
  .exact Bi (hi.DC _) om hw om
  .exact hi.DC c
 .rw[gV]at hc2
  rw[fV,jg hn];have e0:(m.cr n).q c=if c=(m.th n).co then m.q (m.th n).co++ [((m.th n).pr.toNat,n)]else m.q c:=by unfold Mt.cr;rw[xM hc1,hput,tH]
  rw[e0];by_cases e:c=(m.th n).co
  .subst e
   rw[qd U,Mm,List.mem_singleton,hi.AV _ hc2];by_cases ek:k=n
   .subst ek
    rw[qd U];constructor
    .rintro (h|h)
     .exact qj U h.2.1
     .cases h;exact⟨hn,neg k hn,U,U,hpt.symm⟩
    .rintro ⟨_,_,_,_,h5⟩
     refine .inr ?_;have:(m.th k).pr.toNat=p:=by have h5:(m.th k).pr=p:=h5;omega
     rw[this]
   .rw[F ek]
    constructor
    .rintro (⟨h1,h2,h3⟩|h)
     .exact ⟨h1,neg k h1,h3⟩
     .cases h;exact qj U ek
    .rintro ⟨h1,h2,h3⟩;exact .inl ⟨h1,ek,h3⟩
  .rw[F e,hi.AV _ hc2]
   by_cases ek:k=n
   .subst ek
    rw[qd U];exact⟨λh=>qj U h.2.1,λh=>qj h.2.2.1.symm e⟩
   .rw[F ek]
    exact⟨λh=>⟨h.1,neg k h.1,h.2.2⟩,λh=>⟨h.1,ek,h.2.2⟩⟩
 .rw[gV]at hc2
  rw[fV]at hk;rw[jg hn];show m.run c=k↔_;rw[hi.inr c hc2 k hk];by_cases ek:k=n
  .subst ek
   rw[qd U];exact⟨λh=>qj U h.1,λh=>qj (show(1:O)=2 from h.2.2) qb⟩
  .rw[F ek]
   exact⟨λh=>⟨neg k hk,h.2⟩,λh=>⟨ek,h.2⟩⟩
theorem bF.still{n:O}(hi:bF n m)(h1:(m.th n).st≠1)(h2:(m.th n).st≠2):bF (-1) m:=by
 have neg:∀k,m.cH k=Z->k≠ -1:=λk hk=>by have:=(bI hk).1;omega
 refine⟨hi.ok,hi.pr,hi.le,hi.DC,λc hc p k=>?_,λc hc k hk=>?_⟩
 .rw[hi.AV c hc]
  exact⟨λh=>⟨h.1,neg k h.1,h.2.2⟩,λh=>⟨h.1,λe=>h1 (by rw[<-e];exact h.2.2.2.1),h.2.2⟩⟩
 .rw[hi.inr c hc k hk]
  exact⟨λh=>⟨neg k hk,h.2⟩,λh=>⟨λe=>h2 (by rw[<-e];exact h.2.2),h.2⟩⟩
theorem bF.out{n:O}(hi:bF (-1) m)(h1:(m.th n).st≠1)(h2:(m.th n).st≠2):bF n m:=by
 have neg:∀k,m.cH k=Z->k≠ -1:=λk hk=>by have:=(bI hk).1;omega
 refine⟨hi.ok,hi.pr,hi.le,hi.DC,λc hc p k=>?_,λc hc k hk=>?_⟩
 .rw[hi.AV c hc]
  exact⟨λh=>⟨h.1,λe=>h1 (by rw[<-e];exact h.2.2.2.1),h.2.2⟩,λh=>⟨h.1,neg k h.1,h.2.2⟩⟩
 .rw[hi.inr c hc k hk]
  exact⟨λh=>⟨λe=>h2 (by rw[<-e];exact h.2.2),h.2⟩,λh=>⟨neg k hk,h.2⟩⟩
theorem bF.go{n c:O}(hi:bF n m)(hn:m.cH n=Z)(h1:(m.th n).st=2)(h2:(m.th n).co=c)(hc:m.fC c=Z)(hr:m.run c= -1):bF (-1) (m.gD c n):=by
 have neg:∀k,m.cH k=Z->k≠ -1:=λk hk=>by have:=(bI hk).1;omega
 obtain⟨c0,c1⟩:=fF.1 hc;have hcr:=hi.ok.jk;refine⟨hi.ok.JG hn,hi.pr,hi.le,hi.DC,λd hd p k=>?_,λd hd k hk=>?_⟩
 .rw[jF]at hd
  rw[F9,pW,tG,hi.AV d hd];exact⟨λh=>⟨h.1,neg k h.1,h.2.2⟩,λh=>⟨h.1,λe=>by rw[e,h1]at h;exact qj h.2.2.2.1 qb,h.2.2⟩⟩
 .rw[jF]at hd
  rw[pW]at hk;rw[uR c0 om,tG];by_cases e:d=c
  .subst e
   rw[qd U];constructor
   .intro e2;subst e2;exact⟨neg _ hk,h2,h1⟩
   .rintro ⟨h3,h4⟩
    by_cases ek:k=n
    .exact ek.symm
    .have:=(hi.inr d hd k hk).2 ⟨ek,h4⟩
     rw[hr]at this;exact qj this.symm (neg k hk)
  .rw[F e,hi.inr d hd k hk]
   exact⟨λh=>⟨neg k hk,h.2⟩,λh=>⟨λe2=>e (by rw[<-h.2.1,e2,h2]),h.2⟩⟩
theorem bF.E9(hi:bF (-1) m){n:O}(hn:m.cH n=Z){t:rj}(h1:t.co=(m.th n).co)(h2:t.st=(m.th n).st)(h3:(m.th n).st=1->t.pr=(m.th n).pr)(h4:0<=t.pr/\t.pr<256)(h5:1<=t.le/\t.le<=5):bF (-1) (m.aJ n t):=by
 refine⟨hi.ok.aJ (by rw[h1];exact(hi.ok.th hn).1) U,λk hk=>?_,λk hk=>?_,hi.DC,λc hc p k=>?_,λc hc k hk=>?_⟩
 .rw[dF hn];rw[db]at hk;split
  .exact h4
  .exact hi.pr k hk
 .rw[dF hn];rw[db]at hk;split
  .exact h5
  .exact hi.le k hk
 .rw[tH,db,dF hn,hi.AV c hc]
  by_cases e:k=n
  .subst e
   rw[qd U,h1,h2];exact⟨λh=>⟨h.1,h.2.1,h.2.2.1,h.2.2.2.1,by rw[h3 h.2.2.2.1];exact h.2.2.2.2⟩,λh=>⟨h.1,h.2.1,h.2.2.1,h.2.2.2.1,by rw[<-h3 h.2.2.2.1];exact h.2.2.2.2⟩⟩
  .rw[F e]
 .rw[db]at hk
  rw[nH,dF hn,hi.inr c hc k hk];by_cases e:k=n
  .subst e;rw[qd U,h1,h2]
  .rw[F e]
theorem tK{p c k:O}:(m.make p c).th k=if k=(m.br.length:O)then⟨0,p,c,5,λ_=>0⟩else m.th k:=by
 unfold Mt.th Mt.make;by_cases hk:k<0
 .rw[qd hk,F om,qd hk]
 .rw[F hk]
  simp only;by_cases e:k=(m.br.length:O)
  .subst e;rw[qd U,Lw,List.getElem?_append_right (Lv _),MV];rfl
  .rw[F e,F hk]
   by_cases e2:k.toNat<m.br.length
   .rw[LI e2]
   .rw[L0 (by simp;omega),L0 om]
theorem pI{p c k:O}:(m.make p c).cH k=Z↔(m.cH k=Z\/k=(m.br.length:O)):=by unfold Mt.cH Mt.make;simp only[List.length_append,LL,M5,LO,qB];omega
theorem bF.make(hi:bF (-1) m){p c:O}(hl:m.br.length<64)(hc:m.fC c=Z)(hp:0<=p/\p<256):bF (-1) (m.make p c):=by
 have notT:m.cH (m.br.length:O)≠true:=by unfold Mt.cH;simp
 refine⟨hi.ok.make hl hc,λk hk=>?_,λk hk=>?_,hi.DC,λd hd q k=>?_,λd hd k hk=>?_⟩
 .rw[tK]
  rcases pI.1 hk with h|h
  .split
   .exact hp
   .exact hi.pr k h
  .rw[qd h];exact hp
 .rw[tK]
  rcases pI.1 hk with h|h
  .split
   .exact ⟨by show(1:O)<=5;decide,by show(5:O)<=5;decide⟩
   .exact hi.le k h
  .rw[qd h];exact⟨by show(1:O)<=5;decide,by show(5:O)<=5;decide⟩
 .show (q,k)∈m.q d↔_
  rw[hi.AV d hd,pI,tK];by_cases e:k=(m.br.length:O)
  .rw[qd e,e]
   exact⟨λh=>qj h.1 notT,λh=>qj (show(0:O)=1 from h.2.2.2.1) qb⟩
  .rw[F e]
   exact⟨λh=>⟨.inl h.1,h.2⟩,λh=>⟨h.1.resolve_right e,h.2⟩⟩
 .show m.run d=k↔_
  rw[tK];by_cases e:k=(m.br.length:O)
  .rw[qd e,e]
   refine⟨λh=>?_,λh=>qj (show(0:O)=2 from h.2.2) qb⟩;obtain⟨d0,d1⟩:=fF.1 hd;have d1:d<(m.qs.length:O):=d1;have hcr:=hi.ok.jk;have:=hi.ok.run _ (L4 (uI (m:=m) d0 om));omega
  .rw[F e]
   exact hi.inr d hd k ((pI.1 hk).resolve_right e)
theorem Fy{c:X}{d:O}:(jv c).q d= []:=by
 unfold Mt.q jv;split
 .rfl
 .simp only
  cases e:(Ly c ([]:Qs))[d.toNat]? with
  |none=>rfl
  |some aby=>have:=L4 e;rw[OA]at this;rw[this.2];rfl
theorem pN{c:X}{k:O}:(jv c).cH k≠true:=by unfold Mt.cH jv;simp
theorem Fx{c:X}(h8:c<=8):bF (-1) (jv c):=by
 refine⟨G4 h8,λk hk=>qj hk pN,λk hk=>qj hk pN,λd=>?_,λd hd p k=>?_,λd hd k hk=>qj hk pN⟩
 .rw[Fy];exact⟨qc,qc,qc⟩
 .rw[Fy];exact⟨λh=>by simp at h,λh=>qj h.1 pN⟩
def Mt.bJ(m:Mt)(n:O):O × Mt:=if m.cH n=G then(100,m)else if(m.th n).st=1\/(m.th n).st=2 then(101,m)else(0,m.cr n)
def Mt.bV(m:Mt)(n:O):O × Mt:=if m.cH n=G then(100,m)else if(m.th n).st=0 then(101,m)else(0,m.leave n 0)
def Mt.gl(m:Mt)(n:O):O × Mt:=if m.cH n=G then(100,m)else if(m.th n).st≠2 then(101,m)else(0,m.leave n 3)
def Mt.fO(m:Mt)(n p:O):O × Mt:=if m.cH n=G then(100,m)else if ¬(0<=p/\p<256)then(1,m)else
 if(m.th n).st=1 then(0,((m.leave n 1).aJ n {(m.leave n 1).th n with pr:=p}).cr n)else(0,m.aJ n { m.th n with pr:=p})
def Mt.mQ(m:Mt)(n i v:O):O × Mt:=if m.cH n=G then(100,m)else if ¬(0<=i/\i<8)then(1,m)else(0,m.zA n i.toNat v)
def Mt.cw(m:Mt)(p c:O):O × O × Mt:=if ¬(0<=p/\p<256/\m.fC c=Z)then(0,1,m)else if 64<=m.br.length then(0,2,m)else((m.br.length:O),0,m.make p c)
theorem uL{n:O}{K:O->Pw}(hm:fH m)(h:Ow B w0 w (bu b m::R))(hK:∀w',Ow B w0 w' (bu b (m.bJ n).2::R)->K (m.bJ n).1 w'):PZ b.o n K w:=by
 unfold Mt.bJ at hK;refine tt hm h (λe w h=>?_) (λe e1 w h=>?_) (λe e1 e2 w h=>?_)
 .rw[qd e]at hK;exact hK w h
 .rw[F (by rw[e];simp),qd e1]at hK;exact hK w h
 .rw[F (by rw[e];simp),F (λhh=>hh.elim e1 e2)]at hK;exact hK w h
theorem wM{n:O}{K:O->Pw}(hm:fH m)(h:Ow B w0 w (bu b m::R))(hK:∀w',Ow B w0 w' (bu b (m.bV n).2::R)->K (m.bV n).1 w'):QR b.o n K w:=by
 unfold Mt.bV at hK;refine sk hm h (λe w h=>?_) (λe e1 w h=>?_) (λe e1 w h=>?_)
 .rw[qd e]at hK;exact hK w h
 .rw[F (by rw[e];simp),qd e1]at hK;exact hK w h
 .rw[F (by rw[e];simp),F e1]at hK;exact hK w h
theorem GK{n:O}{K:O->Pw}(hm:fH m)(h:Ow B w0 w (bu b m::R))(hK:∀w',Ow B w0 w' (bu b (m.gl n).2::R)->K (m.gl n).1 w'):RY b.o n K w:=by
 unfold Mt.gl at hK;refine uX hm h (λe w h=>?_) (λe e1 w h=>?_) (λe e1 w h=>?_)
 .rw[qd e]at hK;exact hK w h
 .rw[F (by rw[e];simp),qd e1]at hK;exact hK w h
 .rw[F (by rw[e];simp),F (λhh=>hh e1)]at hK;exact hK w h
theorem Il{p c:O}{K:O->O->Pw}(hm:fH m)(h:Ow B w0 w (bu b m::R))(hK:∀w',Ow B w0 w' (bu b (m.cw p c).2.2::R)->K (m.cw p c).1 (m.cw p c).2.1 w'):PY b.o p c K w:=by
 unfold Mt.cw at hK;refine nX hm h (λe w h=>?_) (λe e1 w h=>?_) (λe e1 w h=>?_)
 .rw[qd e]at hK;exact hK w h
 .rw[F (λhh=>hh e),qd e1]at hK;exact hK w h
 .rw[F (λhh=>hh e),F om]at hK;exact hK w h
theorem rB{x y:O}{K:O->Pw}(h:Ow B w0 w L)(hK:∀w',Ow B w0 w' L->K (if x≠0 then x else y) w'):Al w (.cells #[.z x,.z y] 28) λw12=>Qo ⟨S w.heap.size.p,2,2⟩ K w12:=by
 refine h.al λw2 h=>?_;generalize w.heap.size=d at h|-;exact mZ h λw h=>hK w h.drop
theorem HU{n i v:O}{K:O->Pw}(hm:fH m)(h:Ow B w0 w (bu b m::R))(hK:∀w',Ow B w0 w' (bu b (m.mQ n i v).2::R)->K (m.mQ n i v).1 w'):QG b.o n i v K w:=by
 unfold Mt.mQ at hK;by_cases hT:m.cH n=Z
 .rw[F (by rw[hT];simp)]at hK
  by_cases hi:0<=i/\i<8
  .rw[F (λhh=>hh hi)]at hK
   obtain⟨k,rfl⟩:=LB hi.1;exact JD hm hT om h hK
  .rw[qd hi]at hK
   apply UR;obtain⟨l,q,r,bs,hbs,h⟩:=h.ym;refine eK h (λe=>by rw[hT]at e;cases e) λa _ ha=>?_;intro k7 hk7;refine ct ?_;refine bo (λe=>?_) (λe=>?_)
   .refine ct (rB h λw h=>?_)
    exact hk7 _ _ (iv qc (hK w (Ow.bU hbs h)))
   .refine ct ?_
    rw[qu (show i>=8 by omega)];refine rB h λw h=>?_;exact hk7 _ _ (iv qc (hK w (Ow.bU hbs h)))
 .have hF:m.cH n=false:=by simpa using hT
  rw[qd hF]at hK;apply UR;obtain⟨l,q,r,bs,hbs,h⟩:=h.ym;refine eK h (λe=>?_) λa e ha=>by rw[hF]at e;cases e
  intro k7 hk7;refine ct ?_;refine bo (λe=>?_) (λe=>?_)
  .refine ct (rB h λw h=>?_)
   exact hk7 _ _ (iv qc (hK w (Ow.bU hbs h)))
  .refine ct (rB h λw h=>?_)
   exact hk7 _ _ (iv qc (hK w (Ow.bU hbs h)))
theorem It{n p:O}{K:O->Pw}(hm:fH m)(h:Ow B w0 w (bu b m::R))(hK:∀w',Ow B w0 w' (bu b (m.fO n p).2::R)->K (m.fO n p).1 w'):TU b.o n p K w:=by
 unfold Mt.fO at hK;apply YH;obtain⟨l,q,r,bs,hbs,h⟩:=h.ym;refine eK h (λe=>?_) λa hT ha=>?_
 .rw[qd e]at hK
  refine ct (ke (ct (rB h λw h=>?_)));exact iv qc (hK w (Ow.bU hbs h))
 .rw[F (by rw[hT];simp)]at hK
  obtain⟨n0,n1,hx⟩:=bI hT;refine ct (ke (ct (rB h λw h=>?_)));by_cases hp:0<=p/\p<256
  .rw[F (λhh=>hh hp)]at hK
   rw[qu hp.1,qu hp.2];refine fa qc ?_;refine⟨_,U,_,rF (c:=0) h n0 hx ha U,oU (λe=>?_) (λe=>?_)⟩
   .rw[F e]at hK
    refine⟨_,U,zQ (c:=1) (t':={ m.th n with pr:=p}) h n0 hx ha U qb U λw h=>?_⟩;exact hK w (Ow.bU (m:=m.aJ n { m.th n with pr:=p}) hbs h)
   .rw[qd e]at hK
    have hm1:=hm.leave (s:=1) hT;have hT1:(m.leave n 1).cH n=true:=by rw[ed];exact hT
    have hq1:(m.leave n 1).qs.length=m.qs.length:=cX.2;refine zT hm hT hbs h λw h=>?_;obtain⟨_,_,hx1⟩:=bI hT1;generalize m.leave n 1=mb at*
    refine⟨_,U,zQ (c:=1) (t':={ mb.th n with pr:=p}) h n0 hx1 ha U qb U λw h=>?_⟩;have h:Ow B w0 w (bu b (mb.aJ n { mb.th n with pr:=p})::R):=Ow.bU (m:=mb.aJ n { mb.th n with pr:=p}) (by show bs.length=mb.qs.length;omega) h;have hm2:fH (mb.aJ n { mb.th n with pr:=p}):=hm1.aJ (t:={ mb.th n with pr:=p}) (hm1.th hT1).1 U;have hT2:(mb.aJ n { mb.th n with pr:=p}).cH n=true:=by rw[db];exact hT1
    exact fT hm2 hT2 h hK
  .rw[qd hp]at hK
   have e:(!(V (0<=p)&&V (p<256)))=true:=by
    by_cases e1:0<=p
    .rw[qu e1,qm om];rfl
    .rw[qm e1];rfl
   rw[e];exact iv qc (hK w (Ow.bU hbs h))
theorem bF.resume(hi:bF (-1) m)(n:O):bF (-1) (m.bJ n).2:=by
 unfold Mt.bJ;split
 .exact hi
 .rename_i e
  have hT:m.cH n=true:=by simpa using e
  split
  .exact hi
  .rename_i e1
   exact(hi.out (λh=>e1 (.inl h)) (λh=>e1 (.inr h))).up hT
theorem bF.suspend(hi:bF (-1) m)(n:O):bF (-1) (m.bV n).2:=by
 unfold Mt.bV;split
 .exact hi
 .rename_i e
  have hT:m.cH n=true:=by simpa using e
  split
  .exact hi
  .refine (hi.leave hT).still ?_ ?_<;>(rw[iG hT,qd U];show(0:O)≠_;decide)
theorem bF.block(hi:bF (-1) m)(n:O):bF (-1) (m.gl n).2:=by
 unfold Mt.gl;split
 .exact hi
 .rename_i e
  have hT:m.cH n=true:=by simpa using e
  split
  .exact hi
  .refine (hi.leave hT).still ?_ ?_<;>(rw[iG hT,qd U];show(3:O)≠_;decide)
theorem bF.zA(hi:bF (-1) m)(n i v:O):bF (-1) (m.mQ n i v).2:=by
 unfold Mt.mQ;split
 .exact hi
 .rename_i e
  have hT:m.cH n=true:=by simpa using e
  split
  .exact hi
  .exact hi.E9 hT U U (λ_=>rfl) (hi.pr n hT) (hi.le n hT)
theorem bF.prio(hi:bF (-1) m)(n p:O):bF (-1) (m.fO n p).2:=by
 unfold Mt.fO;split
 .exact hi
 .rename_i e
  have hT:m.cH n=true:=by simpa using e
  split
  .exact hi
  .rename_i hp
   have hp:0<=p/\p<256:=OG.1 hp;split
   .have h1:=hi.leave (s:=1) hT
    have hT1:(m.leave n 1).cH n=true:=by rw[ed];exact hT
    exact(h1.set (t:={(m.leave n 1).th n with pr:=p}) hT1 (h1.ok.th hT1).1 hp (h1.le n hT1)).up (by rw[db];exact hT1)
   .rename_i e1
    exact hi.E9 (t:={ m.th n with pr:=p}) hT U U (λh=>qj h e1) hp (hi.le n hT)
theorem bF.cw(hi:bF (-1) m)(p c:O):bF (-1) (m.cw p c).2.2:=by
 unfold Mt.cw;split
 .exact hi
 .rename_i e
  have e:=OG.1 e;split
  .exact hi
  .exact hi.make om e.2.2 ⟨e.1,e.2.1⟩
theorem bF.Fz(hi:bF (-1) m){c n:O}(hc:m.fC c=Z)(h:fZ (m.q c)=S n):m.cH n=Z/\(m.th n).co=c/\(m.th n).st=1:=by obtain⟨⟨p,k⟩,hx,e⟩:=zl h;have e:k=n:=e;subst e;have:=(hi.AV c hc p k).1 hx;exact⟨this.1,this.2.2.1,this.2.2.2.1⟩
theorem bF.runIn(hi:bF (-1) m){c n:O}(h:m.bP c=S n):m.fC c=Z/\m.cH n=Z/\(m.th n).co=c/\(m.th n).st=2:=by obtain⟨hc,h1,h2,hT⟩:=hi.ok.runT h;have:=(hi.inr c hc n hT).1 h1;exact⟨hc,hT,this.2⟩
theorem uk{n s:O}(h:(m.th n).st≠2)(c:O):(m.leave n s).run c=m.run c:=by
 unfold Mt.leave Mt.bz;rw[nH];split
 .rfl
 .rfl
theorem vC(hi:bF (-1) m){n s:O}(hn:m.cH n=Z)(h:(m.th n).st=2):(m.leave n s).run (m.th n).co= -1:=by obtain⟨c0,c1⟩:=(hi.ok.th hn).1;have hcr:=hi.ok.jk;unfold Mt.leave Mt.bz;rw[nH,F om,qd h,uR c0 om,qd U]
theorem bF.aW(hi:bF (-1) m)(c:O):bF (-1) (m.aW c):=by
 unfold Mt.aW;split
 .rename_i hc
  unfold Mt.pick;cases hn:fZ (m.q c)with
  |none=>exact hi
  |some n=>
   obtain⟨hT,hco,hst⟩:=hi.Fz hc hn;simp only;have last:∀m1:Mt,bF (-1) m1->m1.cH n=Z->m1.fC c=Z->(m1.th n).co=c->(m1.th n).st=1->m1.run c= -1->bF (-1) ((m1.leave n 2).gD c n):=λm1 hi hT hc hco hst hr=>by refine(hi.leave hT).go (by rw[ed];exact hT) (by rw[iG hT,qd U]) (by rw[iG hT,qd U];exact hco) (by rw[gU];exact hc) ?_;rw[uk om];exact hr
   split
   .rename_i hr
    exact last m hi hT hc hco hst hr
   .rename_i hr
    split
    .exact hi
    .have hr2:m.bP c=S (m.run c):=by unfold Mt.bP;rw[qd ⟨hc,hr⟩]
     obtain⟨_,hoT,hoc,hos⟩:=hi.runIn hr2;have hoT1:(m.leave (m.run c) 1).cH (m.run c)=true:=by rw[ed];exact hoT
     have hne:n≠m.run c:=λe=>by rw[<-e]at hos;omega
     refine last _ ((hi.leave hoT).up hoT1) (by rw[fV,ed];exact hT) (by rw[gV,gU];exact hc) ?_ ?_ ?_
     .rw[jg hoT1,F hne,iG hoT,F hne];exact hco
     .rw[jg hoT1,F hne,iG hoT,F hne];exact hst
     .show (m.leave (m.run c) 1).run c= -1
      have:=vC (s:=1) hi hoT hos;rw[hoc]at this;exact this
 .exact hi
theorem bF.yield(hi:bF (-1) m)(c:O):bF (-1) (m.yield c):=by
 unfold Mt.yield;cases hr:m.bP c with
 |none=>exact hi
 |some o=>
  obtain⟨_,hT,_,_⟩:=hi.runIn hr;have hT1:(m.aJ o { m.th o with le:=5}).cH o=true:=by rw[db];exact hT
  have h1:=hi.E9 (t:={ m.th o with le:=5}) hT U U (λ_=>rfl) (hi.pr o hT) ⟨by show(1:O)<=5;decide,by show(5:O)<=5;decide⟩;exact((h1.leave hT1).up (by rw[ed];exact hT1)).aW c
theorem BI{n:O}{t t':rj}:(m.aJ n t).aJ n t'=m.aJ n t':=by unfold Mt.aJ;simp
theorem Cx(hi:bF (-1) m){c:O}:m.tick c=match m.bP c with
  |none=>m
  |some o=>if(m.th o).le=1 then m.yield c else m.aJ o { m.th o with le:=(m.th o).le-1}:=by
 unfold Mt.tick;cases hr:m.bP c with
 |none=>rfl
 |some o=>
  obtain⟨_,hT,_,_⟩:=hi.runIn hr;have hl:=hi.le o hT;simp only;rw[wr om om];by_cases e:(m.th o).le=1
  .rw[qd om,qd e]
   unfold Mt.yield;have hr2:(m.aJ o { m.th o with le:=(m.th o).le-1}).bP c=S o:=hr;rw[hr,hr2];simp only;rw[BI,dF hT,qd U]
  .rw[F om,F e]
theorem bF.tick(hi:bF (-1) m)(c:O):bF (-1) (m.tick c):=by
 rw[Cx hi];cases hr:m.bP c with
 |none=>exact hi
 |some o=>
  obtain⟨_,hT,_,_⟩:=hi.runIn hr;have hl:=hi.le o hT;simp only;split
  .exact hi.yield c
  .exact hi.E9 (t:={ m.th o with le:=(m.th o).le-1}) hT U U (λ_=>rfl) (hi.pr o hT) ⟨by show 1<=(m.th o).le-1;omega,by show(m.th o).le-1<=5;omega⟩
end
end Th
namespace Tb
abbrev Pg:=O × O
abbrev fA:=Y (O × Pg)
def kn(P:fA):Prop:=P.Pairwise λx y=>x.1<y.1
def look:fA->O->qh Pg
 | [],_=>N
 |x::P,k=>if x.1=k then S x.2 else look P k
def lP:fA->O->Pg->fA
 | [],k,v=>[(k,v)]
 |x::P,k,v=>if k<x.1 then(k,v)::x::P else if x.1=k then(k,v)::P else x::lP P k v
def mr(P:fA)(k:O):fA:=P.filter λx=>x.1 !=k
theorem gv{P:fA}{k:O}{v:Pg}(h:look P k=S v):(k,v)∈P:=by
 induction P with
 |nil=>simp[look]at h
 |cons x P ih=>
  simp only[look]at h;split at h
  .rename_i e;cases h;rw[<-e];exact List.mem_cons_self
  .exact List.mem_cons_of_mem _ (ih h)
theorem dt{P:fA}{k:O}:look P k=N↔∀x∈P,x.1≠k:=by
 induction P with
 |nil=>simp[look]
 |cons x P ih=>
  simp only[look,LD,forall_eq_or_imp];split
  .rename_i e;simp[e]
  .rename_i e;rw[ih];simp[e]
theorem kn.inj{P:fA}(h:kn P){x y:O × Pg}(hx:x∈P)(hy:y∈P)(e:x.1=y.1):x=y:=by
 induction P with
 |nil=>simp at hx
 |cons a P ih=>
  have h:=My.1 h;rcases LD.1 hx with hx|hx
  .rcases LD.1 hy with hy|hy
   .rw[hx,hy]
   .have:=h.1 y hy;rw[hx]at e;omega
  .rcases LD.1 hy with hy|hy
   .have:=h.1 x hx;rw[hy]at e;omega
   .exact ih h.2 hx hy
theorem kn.look{P:fA}(h:kn P){k:O}{v:Pg}(hm:(k,v)∈P):look P k=S v:=by
 cases e:Go.Vc.Tb.look P k with
 |none=>exact qj U (dt.1 e _ hm)
 |some u=>have:=h.inj (gv e) hm U;cases this;rfl
theorem kn.zh{P:fA}(h:kn P){k:O}{v:Pg}:Go.Vc.Tb.look P k=S v↔(k,v)∈P:=⟨gv,h.look⟩
theorem kn.sub{P aby:fA}(h:kn P)(hs:aby.Sublist P):kn aby:=List.Pairwise.sublist hs h
theorem kn.filter{P:fA}(h:kn P)(f:O × Pg->W):kn (P.filter f):=h.sub NS
theorem kn.nodup{P:fA}(h:kn P):(P.map (·.1)).Nodup:=by unfold List.Nodup;rw[List.pairwise_map];exact h.imp λhab e=>by omega
theorem iX{P:fA}(h:kn P){k:O}{v:Pg}(x:O × Pg):x∈lP P k v↔x=(k,v)\/(x∈P/\x.1≠k):=by
 induction P with
 |nil=>simp[lP]
 |cons a P ih=>
  have h:=My.1 h;simp only[lP];split
  .rename_i e
   rw[LD];constructor
   .rintro (h1|h1)
    .exact .inl h1
    .refine .inr ⟨h1,?_⟩
     rcases LD.1 h1 with h2|h2
     .rw[h2];omega
     .have:=h.1 x h2;omega
   .rintro (h1|h1)
    .exact .inl h1
    .exact .inr h1.1
  .rename_i e
   split
   .rename_i e2
    rw[LD,LD];constructor
    .rintro (h1|h1)
     .exact .inl h1
     .have:=h.1 x h1;exact .inr ⟨.inr h1,om⟩
    .rintro (h1|⟨h1|h1,h2⟩)
     .exact .inl h1
     .rw[h1]at h2;exact qj e2 h2
     .exact .inr h1
   .rename_i e2
    rw[LD,LD,ih h.2];constructor
    .rintro (h1|h1|h1)
     .rw[h1];exact .inr ⟨.inl U,e2⟩
     .exact .inl h1
     .exact .inr ⟨.inr h1.1,h1.2⟩
    .rintro (h1|⟨h1|h1,h2⟩)
     .exact .inr (.inl h1)
     .exact .inl h1
     .exact .inr (.inr ⟨h1,h2⟩)
theorem nw{P:fA}(h:kn P)(k:O)(v:Pg):kn (lP P k v):=by
 induction P with
 |nil=>simp[lP,kn]
 |cons a P ih=>
  have h':=My.1 h;simp only[lP];split
  .rename_i e
   refine My.2 ⟨λx hx=>?_,h⟩;show k<x.1;rcases LD.1 hx with h2|h2
   .rw[h2];exact e
   .have:=h'.1 x h2;omega
  .split
   .rename_i e2
    refine My.2 ⟨λx hx=>?_,h'.2⟩;show k<x.1;rw[<-e2];exact h'.1 x hx
   .rename_i e e2
    refine My.2 ⟨λx hx=>?_,ih h'.2⟩;rcases (iX (k:=k) (v:=v) h'.2 x).1 hx with h1|h1
    .rw[h1];show a.1<k;omega
    .exact h'.1 x h1.1
theorem xl{P:fA}{k:O}(x:O × Pg):x∈mr P k↔x∈P/\x.1≠k:=by unfold mr;rw[LP];simp
theorem p7{P aby:fA}(hP:kn P)(hQ:kn aby)(h:∀x,x∈P↔x∈aby):P=aby:=by
 refine List.Perm.eq_of_pairwise (le:=λx y=>x.1<=y.1/\(x.1=y.1->x=y)) ?_ ?_ ?_ ?_
 .intro a b _ _ h1 h2
  exact h1.2 om
 .exact hP.imp λh=>⟨om,λe=>by omega⟩
 .exact hQ.imp λh=>⟨om,λe=>by omega⟩
 .refine (ND ?_ ?_).2 h
  .exact hP.imp λh e=>by rw[e]at h;omega
  .exact hQ.imp λh e=>by rw[e]at h;omega
theorem Fo{P:fA}(h:kn P)(k:O)(v:Pg)(x:O):look (lP P k v) x=if x=k then S v else look P x:=by
 have hs:=nw h k v;by_cases e:x=k
 .subst e;rw[qd U];exact hs.look ((iX h _).2 (.inl U))
 .rw[F e]
  cases e2:look P x with
  |none=>
   refine dt.2 λy hy=>?_;rcases (iX h y).1 hy with h1|h1
   .rw[h1];exact λe3=>e e3.symm
   .exact dt.1 e2 y h1.1
  |some u=>exact hs.look ((iX h _).2 (.inr ⟨gv e2,e⟩))
theorem Fm{P:fA}(h:kn P)(k x:O):look (mr P k) x=if x=k then N else look P x:=by
 have hs:kn (mr P k):=h.filter _;by_cases e:x=k
 .subst e;rw[qd U];exact dt.2 λy hy=>((xl y).1 hy).2
 .rw[F e]
  cases e2:look P x with
  |none=>exact dt.2 λy hy=>dt.1 e2 y ((xl y).1 hy).1
  |some u=>exact hs.look ((xl _).2 ⟨gv e2,e⟩)
theorem zg{P:fA}(h:kn P)(f:O × Pg->W)(x:O):look (P.filter f) x=(look P x).filter λv=>f (x,v):=by
 have hs:=h.filter f;cases e2:look P x with
 |none=>exact dt.2 λy hy=>dt.1 e2 y (LP.1 hy).1
 |some u=>
  rw[Option.filter_some];by_cases e:f (x,u)=Z
  .rw[qd e];exact hs.look (LP.2 ⟨gv e2,e⟩)
  .rw[F e]
   refine dt.2 λy hy e3=>?_;obtain⟨h1,h2⟩:=LP.1 hy;have:y=(x,u):=h.inj h1 (gv e2) e3;rw[this]at h2;exact e h2
structure dV where
 tb:X->qh O
 pg:fA
structure eZ(m:dV):Prop where
 kg:kn m.pg
 sD:∀x∈m.pg,0<=x.1/\x.1<4096/\(m.tb (x.1.toNat / 64)).isSome=Z
 eC:∀i,(m.tb i).isSome=Z->i<64
def cE(P:fA)(i:X):fA:=P.filter λx=>x.1.toNat / 64==i
def dV.at(m:dV)(i:O):qh O:=if i<0 then N else m.tb i.toNat
def nM(tb:X->qh O)(i:X)(v:qh O):X->qh O:=λj=>if j=i then v else tb j
def dV.iQ(m:dV)(i n:O):O × dV:=if ¬(0<=i/\i<64/\0<=n)then(1,m)else
 if(m.tb i.toNat).isSome=Z\/(LA 64).any (λj=>m.tb j==S n)=Z then(140,m)else(0,{ m with tb:=nM m.tb i.toNat (S n)})
def dV.bw(m:dV)(i:O):fA × O × dV:=if ¬(0<=i/\i<64)then([],1,m)else if m.tb i.toNat=N then([],141,m)else
 (cE m.pg i.toNat,0,⟨nM m.tb i.toNat N,m.pg.filter λx=>x.1.toNat / 64 !=i.toNat⟩)
def dV.pJ(m:dV)(k:O)(p:Pg):O × dV:=if ¬(0<=k/\k<4096/\0<=p.1/\0<=p.2/\p.2<=7)then(1,m)else if m.tb (k.toNat / 64)=N then(141,m)else
 if(look m.pg k).isSome=Z then(140,m)else(0,{ m with pg:=lP m.pg k p})
def dV.cg(m:dV)(k:O):Pg × O × dV:=if ¬(0<=k/\k<4096)then((0,0),1,m)else match look m.pg k with
 |none=>((0,0),141,m)
 |some p=>(p,0,{ m with pg:=mr m.pg k})
def iM:dV:=⟨λ_=>N,[]⟩
section
variable{m:dV}
theorem eZ.new:eZ iM:=⟨List.Pairwise.nil,λx h=>by simp[iM]at h,λi h=>by simp[iM]at h⟩
theorem eZ.out(h:eZ m){k:O}(hk:¬(0<=k/\k<4096)):look m.pg k=none:=dt.2 λx hx e=>by have:=h.sD x hx;rw[e]at this;exact hk ⟨this.1,this.2.1⟩
theorem eZ.Lg(h:eZ m){k:O}{p:Pg}(hl:look m.pg k=S p):0<=k/\k<4096/\(m.tb (k.toNat / 64)).isSome=true:=h.sD _ (gv hl)
theorem eZ.table(h:eZ m)(i n:O):eZ (m.iQ i n).2:=by
 unfold dV.iQ;split
 .exact h
 .rename_i h1
  have h1:=OG.1 h1;split
  .exact h
  .refine ⟨h.kg,λx hx=>?_,λj hj=>?_⟩
   .have:=h.sD x hx
    refine⟨this.1,this.2.1,?_⟩;show(nM m.tb i.toNat (S n) (x.1.toNat / 64)).isSome=Z;unfold nM;split
    .rfl
    .exact this.2.2
   .have hj:(nM m.tb i.toNat (S n) j).isSome=true:=hj
    unfold nM at hj;split at hj
    .omega
    .exact h.eC j hj
theorem eZ.drop(h:eZ m)(i:O):eZ (m.bw i).2.2:=by
 unfold dV.bw;split
 .exact h
 .split
  .exact h
  .refine ⟨h.kg.filter _,λx hx=>?_,λj hj=>?_⟩
   .obtain ⟨h1,h2⟩:=LP.1 hx
    have:=h.sD x h1;refine⟨this.1,this.2.1,?_⟩;show(nM m.tb i.toNat N (x.1.toNat / 64)).isSome=Z;unfold nM;rw[F (by simpa using h2)];exact this.2.2
   .have hj:(nM m.tb i.toNat N j).isSome=true:=hj
    unfold nM at hj;split at hj
    .cases hj
    .exact h.eC j hj
theorem eZ.ins(h:eZ m){k:O}(hk:0<=k/\k<4096)(ht:(m.tb (k.toNat / 64)).isSome=Z)(p:Pg):eZ { m with pg:=lP m.pg k p}:=by
 refine⟨nw h.kg k p,λx hx=>?_,h.eC⟩;rcases (iX h.kg x).1 hx with h1|h1
 .rw[h1];exact⟨hk.1,hk.2,ht⟩
 .exact h.sD x h1.1
theorem eZ.map(h:eZ m)(k:O)(p:Pg):eZ (m.pJ k p).2:=by
 unfold dV.pJ;split
 .exact h
 .rename_i h1
  have h1:=OG.1 h1;split
  .exact h
  .rename_i h2
   split
   .exact h
   .exact h.ins ⟨h1.1,h1.2.1⟩ (Option.isSome_iff_ne_none.2 h2) p
theorem eZ.lL(h:eZ m)(k:O):eZ (m.cg k).2.2:=by
 unfold dV.cg;split
 .exact h
 .cases e:look m.pg k with
  |none=>exact h
  |some p=>exact⟨h.kg.filter _,λx hx=>h.sD x (LP.1 hx).1,h.eC⟩
theorem Hp{P:fA}(h:kn P)(k:O)(p:Pg)(i:X):cE (lP P k p) i=if k.toNat / 64=i then lP (cE P i) k p else cE P i:=by
 have hs:kn (cE (lP P k p) i):=(nw h k p).filter _;have ht:kn (cE P i):=h.filter _;split
 .rename_i e
  refine p7 hs (nw ht k p) λx=>?_;rw[iX ht];unfold cE;rw[LP,LP,iX h];simp only[qH];constructor
  .rintro ⟨h1|h1,h2⟩
   .exact .inl h1
   .exact .inr ⟨⟨h1.1,h2⟩,h1.2⟩
  .rintro (h1|⟨⟨h1,h2⟩,h3⟩)
   .exact ⟨.inl h1,by rw[h1];exact e⟩
   .exact ⟨.inr ⟨h1,h3⟩,h2⟩
 .rename_i e
  refine p7 hs ht λx=>?_;unfold cE;rw[LP,LP,iX h];simp only[qH];constructor
  .rintro ⟨h1|h1,h2⟩
   .rw[h1]at h2;exact qj h2 e
   .exact ⟨h1.1,h2⟩
  .rintro ⟨h1,h2⟩
   exact⟨.inr ⟨h1,λe2=>by rw[e2]at h2;exact e h2⟩,h2⟩
theorem Cw{P:fA}(k:O)(i:X):cE (mr P k) i=mr (cE P i) k:=by unfold cE mr;rw[M7,M7];congr 1;funext x;exact Bool.and_comm _ _
theorem BO{P:fA}{k:O}{i:X}(e:k.toNat / 64≠i):cE (mr P k) i=cE P i:=by rw[Cw];unfold mr;rw[Mv];intro x hx;obtain⟨_,h2⟩:=LP.1 hx;simp only[qH]at h2;simp only[qN,ne_eq];intro e2;rw[e2]at h2;exact e h2
theorem Gi{P:fA}{i j:X}(e:j≠i):cE (P.filter λx=>x.1.toNat / 64 !=i) j=cE P j:=by
 unfold cE;rw[M7];refine Od λx _=>?_;by_cases h:x.1.toNat / 64=j
 .simp[h,e]
 .simp[h]
theorem Gj(h:eZ m):(LA 64).flatMap (cE m.pg)=m.pg:=by
 have key:∀n,(LA n).flatMap (cE m.pg)=m.pg.filter λx=>V (x.1.toNat / 64<n):=λn=>by
  induction n with
  |zero=>simp
  |succ n ih=>
   rw[N1,List.flatMap_append,ih];simp only[MP,OL,LQ];refine p7 ?_ (h.kg.filter _) λx=>?_
   .refine List.pairwise_append.2 ⟨h.kg.filter _,h.kg.filter _,λx hx y hy=>?_⟩
    obtain⟨hx1,hx2⟩:=LP.1 hx;obtain⟨hy1,hy2⟩:=LP.1 hy;simp only[qB]at hx2;simp only[qH]at hy2;have:=h.sD x hx1;have:=h.sD y hy1;omega
   .unfold cE
    rw[Mm,LP,LP,LP];simp only[qB,qH];constructor
    .rintro (h1|h1)
     .exact ⟨h1.1,om⟩
     .exact ⟨h1.1,om⟩
    .rintro ⟨h1,h2⟩
     by_cases e:x.1.toNat / 64=n
     .exact .inr ⟨h1,e⟩
     .exact .inl ⟨h1,om⟩
 rw[key 64,Mv];intro x hx;have:=h.sD x hx;simp only[qB];omega
theorem nB{M abn:fA}(hp:M.Perm abn)(hS:kn abn)(k:O):de M k=look abn k:=by
 have hn:(M.map (·.1)).Nodup:=(hp.map _).nodup_iff.2 hS.nodup;cases e:de M k with
 |some v=>exact(hS.look (hp.mem_iff.1 (pL e))).symm
 |none=>
  refine(dt.2 λx hx e2=>?_).symm;exact eW.1 e (L2.2 ⟨x,hp.mem_iff.2 hx,e2⟩)
theorem pK{M:fA}(hn:(M.map (·.1)).Nodup){k:O}{v:Pg}:(k,v)∈M↔de M k=S v:=by
 refine⟨λh=>?_,pL⟩;cases e:de M k with
 |none=>exact qj (L2.2 ⟨_,h,U⟩) (eW.1 e)
 |some u=>
  have h2:=pL e;have:∀(M:fA),(M.map (·.1)).Nodup->(k,v)∈M->(k,u)∈M->v=u:=λM=>by
   induction M with
   |nil=>intro _ h;simp at h
   |cons a M ih=>
    intro hn h1 h2;rw[L1,Mj]at hn;rcases LD.1 h1 with h1|h1
    .rcases LD.1 h2 with h2|h2
     .have:=h1.trans h2.symm;cases this;rfl
     .exact qj (L2.2 ⟨_,h2,by rw[<-h1]⟩) hn.1
    .rcases LD.1 h2 with h2|h2
     .exact qj (L2.2 ⟨_,h1,by rw[<-h2]⟩) hn.1
     .exact ih hn.2 h1 h2
  rw[this M hn h h2]
theorem eX{M:fA}(h:(M.map (·.1)).Nodup):M.Nodup:=List.Pairwise.of_map _ (λa b h e=>h (by rw[e])) h
theorem CW{M abn:fA}(hp:M.Perm abn)(hS:kn abn)(k:O)(v:Pg):(iW M k v).Perm (lP abn k v):=by
 have hn:(M.map (·.1)).Nodup:=(hp.map _).nodup_iff.2 hS.nodup;have hn2:=oC hn k v;have hS2:=nw hS k v;refine(ND (eX hn2) (eX hS2.nodup)).2 λx=>?_;obtain⟨a,b⟩:=x;rw[pK hn2,nD,<-hS2.zh,Fo hS,nB hp hS];by_cases e:k=a
 .rw[qd e,qd e.symm]
 .rw[F e,F λh=>e h.symm]
theorem vP{M abn:fA}(hp:M.Perm abn)(hS:kn abn)(k:O):(ko M k).Perm (mr abn k):=by
 have hn:(M.map (·.1)).Nodup:=(hp.map _).nodup_iff.2 hS.nodup;have hn2:=oB hn k;have hS2:kn (mr abn k):=hS.filter _;refine(ND (eX hn2) (eX hS2.nodup)).2 λx=>?_;obtain⟨a,b⟩:=x;rw[pK hn2,rJ hn,<-hS2.zh,Fm hS,nB hp hS];by_cases e:k=a
 .rw[qd e,qd e.symm]
 .rw[F e,F λh=>e h.symm]
end
end Tb
namespace Sl
section
variable{B:X}{w0 w:J}{R L:Y aH}
def nN(c:cN):Prop:=1<=c.kind/\c.kind<=9/\0<=c.obj/\c.obj<=2147483647/\0<=c.ar/\c.ar<=7/\(cP c.kind=Z\/c.ar=7)/\(cW c.kind=Z\/c.ay=0)/\(c.kind=2\/(c.guard=0/\c.bits=0))/\dZ c.guard c.bits=Z
theorem AS{g b:O}(h0:0<=g)(hb:b=0):dZ g b=Z↔g=0:=by subst hb;unfold dZ;rw[decide_eq_true_iff];simp;omega
theorem jj{c:cN}(hc:fg c):fU c=G↔nN c:=by have hg:c.bits=0->(dZ c.guard c.bits=Z↔c.guard=0):=AS hc.g0;unfold fU nN;cases hl:cP c.kind<;>cases hb:cW c.kind<;>cases hgd:dZ c.guard c.bits<;>rw[hgd]at hg<;>simp at hg|-<;>omega
theorem vU{c:cN}(hc:fg c):bY c=0/\(c=ak\/nN c)\/bY c=40/\c≠ak/\¬nN c:=by
 unfold bY;by_cases e:c=ak
 .rw[qd e];exact .inl ⟨U,.inl e⟩
 .rw[F e]
  cases hb:fU c with
  |false=>exact .inl ⟨qc,.inr ((jj hc).1 hb)⟩
  |true=>exact .inr ⟨qc,e,λhp=>by rw[(jj hc).2 hp]at hb;cases hb⟩
theorem C2{c:cN}(hc:fg c)(h1:c≠ak)(h2:¬nN c):bY c=40:=by
 rcases vU hc with⟨_,h|h⟩|⟨h,_⟩
 .exact qj h h1
 .exact qj h h2
 .exact h
theorem ED{c:cN}(hc:fg c)(h2:c=ak\/nN c):bY c=0:=by
 rcases vU hc with⟨h,_⟩|⟨_,h1,h3⟩
 .exact h
 .rcases h2 with h|h
  .exact qj h h1
  .exact qj h h3
theorem cJ{n:X}{K:O->Pw}(hn:n<=63)(hK:K ((2^n:X):O) w):ON (n:O) K w:=by
 apply Ym;intro l hl;have loop:∀m i:X,i+m=n->l ((2^i:X):O) (i:O) w:=by
  intro m;induction m with
  |zero=>
   intro i hi;obtain rfl:i=n:=om
   apply hl;exact aw om hK
  |succ m ih=>
   intro i hi;apply hl;refine az om ?_;have h1:(2:X)^(i+1)<=2^63:=Mh om om;have e2:(2:X)^63=9223372036854775808:=qb
   rw[show(2:O)*((2^i:X):O)=((2^(i+1):X):O)from by rw[Nat.pow_succ];omega,IJ (Int.natCast_nonneg _) om,wr om om];exact ih (i+1) om
 exact loop n 0 om
theorem jz{k:O}{K:W->Pw}(h:K (cP k) w):RG k K w:=by apply Yq;unfold cP at h;refine cb (λe=>by rw[e]at h;exact h) (λe=>?_);rw[e]at h;exact cb (λe=>by rw[e]at h;exact h) (λe=>by rw[e]at h;exact h)
theorem gz{k:O}{K:W->Pw}(h:K (cW k) w):QV k K w:=by apply Yp;unfold cW at h;exact cb (λe=>by rw[e]at h;exact h) (λe=>by rw[e]at h;exact h)
theorem kG{g bits:O}{K:W->Pw}(h0:0<=g)(h1:g<18446744073709551616)(h:K (dZ g bits) w):RP g bits K w:=by
 apply Ys;have hf:¬(0<=bits/\bits<=64)->dZ g bits=false:=λhn=>by unfold dZ;rw[qm];rintro⟨a,b,_⟩;exact hn ⟨a,b⟩
 refine bo (λe=>?_) (λe=>by rw[hf om]at h;exact h);refine bo (λe2=>?_) (λe2=>by rw[hf om]at h;exact h);obtain⟨n,rfl⟩:=LB (show 0<=bits by omega);have hg:dZ g (n:O)=V (g<((2^n:X):O)):=by unfold dZ;rw[qV,Lw,show((2:O)^n)=((2^n:X):O)from by simp];omega
 refine dE (λe3=>?_) (λe3=>?_)
 .have:n=64:=om
  subst this;have e64:(2:X)^64=18446744073709551616:=qb
  rw[hg,e64,qu om]at h;exact h
 .refine cJ om ?_
  rw[hg]at h;exact h
theorem kF{c:cN}{K:O->Pw}(h:Ow B w0 w R)(hc:fg c)(hK:∀w',Ow B w0 w' R->K (bY c) w'):Rv c.kind c.obj c.ar c.ay c.guard c.bits K w:=by
 apply Yo;refine h.al λw1 h=>?_;have h:Ow B w0 w1 (aa w.heap.size c.cells::R):=h;have f40:c≠ak->¬nN c->K 40 w1:=λh1 h2=>by rw[<-C2 hc h1 h2];exact hK _ h.drop
 have f0:(c=ak\/nN c)->K 0 w1:=λh1=>by rw[<-ED hc h1];exact hK _ h.drop
 intro k8 hk8;have main:c≠ak->k8 G w1:=λhz=>by
  apply hk8;refine bc U ?_;intro k11 hk11;have t11:¬nN c->k11 Z w1:=λhp=>hk11 _ _ (bh U (f40 hz hp))
  (refine h.l1 U ?_)
  refine bo (λe=>t11 λhp=>by unfold nN at hp;omega) (λe1=>?_)
  (refine h.l1 U ?_)
  refine bo (λe=>t11 λhp=>by unfold nN at hp;omega) (λe2=>?_)
  (refine h.l1 U ?_)
  refine bo (λe=>t11 λhp=>by unfold nN at hp;omega) (λe3=>?_)
  (refine h.l1 U ?_)
  refine bo (λe=>t11 λhp=>by unfold nN at hp;omega) (λe4=>?_)
  (refine h.l1 U ?_)
  refine bo (λe=>t11 λhp=>by unfold nN at hp;omega) (λe5=>?_)
  (refine h.l1 U ?_)
  by_cases e6:c.ar>7
  .rw[qu e6];exact t11 λhp=>by unfold nN at hp;omega
  rw[qm e6];apply hk11;refine bc U ?_;intro k14 hk14;have t14:¬nN c->k14 Z w1:=λhp=>hk14 _ _ (bh U (f40 hz hp));have hg0:=hc.g0;have hb0:=hc.b0;have last:(cP c.kind=Z\/c.ar=7)->(cW c.kind=Z\/c.ay=0)->k14 G w1:=λh7 h8=>by
   apply hk14;refine bc U ?_;have fin:(c.kind=2\/(c.guard=0/\c.bits=0))->bif !dZ c.guard c.bits then K 40 w1 else K 0 w1:=λh9=>by
    refine HH (λe=>f40 hz λhp=>?_) (λe=>f0 (.inr ?_))
    .obtain ⟨_,_,_,_,_,_,_,_,_,hp⟩:=hp
     rw[e]at hp;cases hp
    .exact ⟨om,om,om,om,om,om,h7,h8,h9,e⟩
   (refine h.l1 U ?_)
   refine oU (λe=>?_) (λe=>?_)
   ·(refine h.l1 U ?_)
    refine bo (λe=>f40 hz λhp=>by obtain⟨_,_,_,_,_,_,_,_,hp,_⟩:=hp;omega) (λe7=>?_)
    (refine h.l1 U ?_)
    refine oU (λe=>f40 hz λhp=>by obtain⟨_,_,_,_,_,_,_,_,hp,_⟩:=hp;omega) (λe8=>?_);repeat refine h.l1 U ?_
    exact kG hc.g0 hc.g1 (fin (.inr ⟨om,e8⟩))
   ·(repeat refine h.l1 U ?_)
    exact kG hc.g0 hc.g1 (fin (.inl e))
  have bd:(cP c.kind=Z\/c.ar=7)->(bif !cW c.kind then ∃badge35:O,w1.cell? (w.heap.size.p.add 3)=S (.y badge35)/\k14 (V (badge35>(0:O))) w1 else k14 G w1):=λh7=>by
   refine HH (λe=>?_) (λe=>last h7 (.inl e))
   (refine h.l1 U ?_)
   by_cases e9:c.ay>0
   .rw[qu e9]
    refine t14 λhp=>?_;obtain⟨_,_,_,_,_,_,_,hp,_⟩:=hp;rcases hp with hp|hp
    .rw[e]at hp;cases hp
    .omega
   .rw[qm e9];exact last h7 (.inr om)
  (refine h.l1 U ?_)
  refine jz ?_;refine HH (λe=>?_) (λe=>?_)
  ·(refine h.l1 U ?_)
   refine oU (λe7=>t14 λhp=>?_) (λe7=>?_)
   .obtain ⟨_,_,_,_,_,_,hp,_⟩:=hp
    rcases hp with hp|hp
    .rw[e]at hp;cases hp
    .omega
   ·(refine h.l1 U ?_)
    exact gz (bd (.inr e7))
  ·(refine h.l1 U ?_)
   exact gz (bd (.inl e))
 (refine h.l1 U ?_)
 refine dE (λe=>?_) (λe=>main λhz=>e (by rw[hz];rfl));repeat refine h.aR U ?_
 refine⟨_,HG c ak,?_⟩;by_cases hz:c=ak
 .rw[qu hz]
  exact hk8 _ _ (bh U (f0 (.inl hz)))
 .rw[qm hz];exact main hz
end
end Sl
section
variable{B:X}{w0 w:J}{R L:Y aH}
theorem IG(v n:X):BR v n=if v%2^n=0 then v else v-v%2^n+2^n:=by
 have hp:0<2^n:=MD n;split
 .rename_i e;exact z6 e
 .rename_i e
  unfold BR;have h1:=Nat.div_add_mod v (2^n);have h2:=OC v hp;generalize hq:v / 2^n=q at h1;generalize v%2^n=r at*
  generalize 2^n=p at*
  have h3:(v+(p-1)) / p=q+1:=by rw[show v+(p-1)=(r-1)+p*(q+1)from by rw[Nat.mul_add];omega,Nat.add_mul_div_left _ _ hp,Nat.div_eq_of_lt om,Nat.zero_add]
  rw[h3,MG,Nat.mul_comm q p];omega
theorem xR{u:nP}{K:O->Pw}(hu:wZ u)(h:Ow B w0 w R)(hK:∀w',Ow B w0 w' R->K 0 w'):Uz (u.base:O) (u.bits:O) (u.used:O) K w:=by
 apply YN;have hb:=hu.bits;have ht:=hu.top;have hus:=hu.used;have hp:=MD u.bits;have e20:(2:X)^20=1048576:=qb
 have e40:(2:X)^40=1099511627776:=qb
 refine h.a λc w1 h=>?_;intro k5 hk5;have main:∀w,Ow B w0 w (aa c [.y (u.base:O),.z (u.bits:O),.y (u.used:O)]::R)->k5 G w:=λw h=>by
  apply hk5;refine bc U ?_;refine h.dr λw h=>⟨_,h.aE U,_,h.aF U,?_,trivial⟩
  refine Sl.cJ om ⟨h.aF U,om,?_⟩;have e:((u.base:O).tmod ((2^u.bits:X):O))=0:=by rw[Oq om,<-P7,hu.dvd];rfl
  refine fa e ⟨_,h.aE U,⟨⟨_,h.aE U,?_,trivial⟩,?_,trivial⟩⟩
  .exact Sl.cJ om (aw om (hK _ h.drop))
  .exact Sl.cJ om ⟨_,h.aE U,aw om (hK _ h.drop)⟩
 refine h.dr λw h=>⟨_,h.aE U,aw om ⟨_,h.aE U,aw om ⟨⟨_,h.aF U,?_,trivial⟩,?_,trivial⟩⟩⟩
 .refine Sl.cJ (n:=40) om ?_
  rw[qm om];exact main w h
 .refine Sl.cJ (n:=40) om (h.l1 U ?_)
  rw[qm om];exact main w h
theorem Bu{kind bits:O}{K:O->O->Pw}(hK:K (eP kind bits).1 (eP kind bits).2 w):UA kind bits K w:=by
 apply YO;unfold eP at hK;refine dE (λe=>?_) (λe=>?_)
 .rw[qd e]at hK
  refine bo (λe1=>bo (λe2=>?_) (λe2=>?_)) (λe1=>?_)
  .rw[qd ⟨om,om⟩]at hK;exact hK
  .rw[F om]at hK;exact hK
  .rw[F om]at hK;exact hK
 rw[F e]at hK;refine dE (λe2=>?_) (λe2=>?_)
 .rw[qd e2]at hK
  intro k hk;refine bo (λe3=>?_) (λe3=>?_)
  .apply hk
   refine bo (λe4=>?_) (λe4=>?_)
   .rw[qd ⟨om,om⟩]at hK
    rw[wr om om];exact hK
   .rw[F om]at hK;exact hK
  .apply hk
   rw[F om]at hK;exact bc U hK
 rw[F e2]at hK;refine dE (λe3=>?_) (λe3=>?_)
 .rw[qd e3]at hK;exact hK
 rw[F e3]at hK;intro k hk;have no:¬(kind=4\/kind=5)->k G w:=λe=>by
  rw[F e]at hK;apply hk;refine bc U ?_;refine dE (λe6=>og e6 ?_) (λe6=>dE (λe7=>og e7 ?_) (λe7=>dE (λe8=>?_) (λe8=>?_)))
  .rw[qd om]at hK;exact hK
  .rw[qd om]at hK;exact hK
  .rw[qd om]at hK;exact hK
  .rw[F om]at hK;exact hK
 have yes:(kind=4\/kind=5)->k Z w:=λe=>by rw[qd e]at hK;exact hk _ _ (bh U hK)
 refine dE (λe4=>?_) (λe4=>?_)
 .rw[show(kind==4)=Z from by simpa using e4];exact yes (.inl e4)
 .by_cases e5:kind=5
  .rw[show(kind==5)=Z from by simpa using e5];exact yes (.inr e5)
  .rw[show(kind==5)=G from by simpa using e5];exact no om
theorem sO{u:nP}{kind bits n:O}{K:Sl->O->O->O->O->Pw}(hu:wZ u)(h:Ow B w0 w R)
  (hK:∀s w',Ow B w0 w' (af wE s (bH u kind bits n).1::R)->K s ((bH u kind bits n).2.1.base:O) ((bH u kind bits n).2.1.bits:O) ((bH u kind bits n).2.1.used:O) (bH u kind bits n).2.2 w'):RF (u.base:O) (u.bits:O) (u.used:O) kind bits n K w:=by
 apply YM;have hb:=hu.bits;have ht:=hu.top;have hus:=hu.used;have hp:=MD u.bits;have e20:(2:X)^20=1048576:=qb
 have e64:(2:X)^64=18446744073709551616:=qb
 refine h.a λc w1 h=>?_;refine h.a λd w2 h=>?_;refine h.nS U ?_;refine xR hu h λw h=>fa U ?_;refine Bu ?_;unfold bH at hK;have hs:=uT (kind:=kind) (bits:=bits);generalize eP kind bits=sz at hK hs|-;obtain⟨z,e⟩:=sz;dsimp only at hK hs|-;obtain⟨m,rfl⟩:=LB hs.1;rw[Lw]at hK;have hz2:2^m<=2^20:=Mh om om;have hzp:=MD m;have bad:∀(q:O)(w:J),(∀s w',Ow B w0 w' (af wE s []::R)->K s 0 0 0 q w')->Ow B w0 w (aa d [.y 0,.z 0,.y 0]::aa c [.y (u.base:O),.z (u.bits:O),.y (u.used:O)]::R)->
   aB w d.p 0 [.y (0:O),.z (0:O),.y (0:O)] λw17=>ax w17 d.p 0 [.u,.o,.u] λ(r18:O)(r19:O)(r20:O)=>K z0 r18 r19 r20 q w17:=λq w hK h=>by
  refine h.aA U U λw h=>?_;refine h.nS U ?_;exact hK _ w (Ow.cZ h.drop.drop)
 by_cases he:e≠0
 .rw[qd he]at hK
  refine iv he ?_;exact bad e w hK h
 rw[F he]at hK;refine fa om ?_;intro k hk;by_cases hn:n<1\/64<n
 .rw[qd hn]at hK
  have:k Z w:=by apply hk;refine bh U ?_;exact bad 1 w hK h
  refine bo (λe1=>this) (λe1=>?_);rw[qu om];exact this
 rw[F hn]at hK;obtain⟨n,rfl⟩:=LB (show 0<=n by omega);rw[Lw]at hK;refine aw om ?_;rw[qm om];apply hk;refine bc U ?_;refine h.dr λw h=>⟨_,h.aF U,_,h.aE U,?_,trivial⟩
 refine Sl.cJ (n:=m) om ⟨h.aE U,h.aF U,?_,trivial⟩;refine Sl.cJ (n:=u.bits) om ⟨h.aF U,_,h.aF U,_,h.aE U,om,?_⟩;have hw:qv.wrap ((u.base:O)+(u.used:O))=((u.base+u.used:X):O):=by have:=Sl.wrap_u64 (u.base+u.used);rw[L7 om]at this;rw[<-this];congr 1
 have htop:qv.wrap ((u.base:O)+((2^u.bits:X):O))=((u.base+2^u.bits:X):O):=by rw[<-Oa,Sl.wrap_u64,L7 om]
 rw[hw];have hup:=yi (u.base+u.used) m;have heq:=IG (u.base+u.used) m;have hml:=OC (u.base+u.used) hzp;have hmv:=Nat.mod_le (u.base+u.used) (2^m);have hnm:n*2^m<=64*2^20:=Nat.mul_le_mul om hz2;have etm:(((u.base+u.used:X):O).tmod ((2^m:X):O))=(((u.base+u.used)%2^m:X):O):=by rw[Oq om,<-P7]
 rw[etm];generalize BR (u.base+u.used) m=q at hK hup heq;intro k41 hk41;have main:k41 (q:O) w:=by
  apply hk41;refine h.a λf w3 h=>?_;have h:Ow B w0 w3 (af wE ⟨S f.p,0,0⟩ []::_):=Ow.empty h;intro l hl;have loop:∀(r j:X)(o:Sl)(w:J),j+r=n->(j=0\/q+j*2^m<=u.base+2^u.bits)->Ow B w0 w (af wE o ((LA j).map λi=>q+i*2^m)::aa d [.y 0,.z 0,.y 0]::aa c [.y (u.base:O),.z (u.bits:O),.y (u.used:O)]::R)->l ((q+j*2^m:X):O) o (j:O) w:=by
   intro r;induction r with
   |zero=>
    intro j o w hj hfit h;have hj:j=n:=om
    subst hj;rw[F om]at hK;apply hl;refine aw om ?_;refine h.dr λw h=>⟨_,h.aF U,_,h.aE U,_,h.aF U,?_,trivial⟩
    have e3:qv.wrap (((q+j*2^m:X):O)-(u.base:O))=((q+j*2^m-u.base:X):O):=by rw[show(((q+j*2^m:X):O)-(u.base:O))=((q+j*2^m-u.base:X):O)from by omega,Sl.wrap_u64,L7 om]
    rw[e3];refine h.aA U U λw h=>?_;refine h.nS U ?_;exact hK _ w h.uN.uN
   |succ r ih=>
    intro j o w hj hfit h;have hjm:(j+1)*2^m<=n*2^m:=Nat.mul_le_mul_right _ om;have hj1:(j+1)*2^m=j*2^m+2^m:=by rw[MG,Nat.one_mul]
    have e4:qv.wrap (((q+j*2^m:X):O)+((2^m:X):O))=((q+(j+1)*2^m:X):O):=by rw[<-Oa,Sl.wrap_u64,L7 om,Nat.add_assoc,hj1]
    apply hl;refine az om ?_;rw[e4,htop];refine bo (λe5=>?_) (λe5=>?_)
    .rw[qd om]at hK
     exact bad 81 w hK h.drop
    .refine h.a λg w2 h=>?_;refine Ey (s:=o) (y:=q+j*2^m) h (by simp;omega) λo' w ho' h=>?_
     rw[wI j om];refine ih (j+1) o' w om (.inr om) ?_;rw[N1,LU];exact h
  have:=loop n 0 _ w3 om (.inl U) h;rw[Of,NB]at this;exact this
 refine oU (λe5=>⟨om,?_⟩) (λe5=>?_)
 .rw[F om]at heq
  have e6:qv.wrap (((u.base+u.used:X):O)-(((u.base+u.used)%2^m:X):O))=((u.base+u.used-(u.base+u.used)%2^m:X):O):=by rw[show(((u.base+u.used:X):O)-(((u.base+u.used)%2^m:X):O))=((u.base+u.used-(u.base+u.used)%2^m:X):O)from by omega,Sl.wrap_u64,L7 om]
  rw[e6,<-Oa,Sl.wrap_u64,L7 om,<-heq];exact main
 .rw[qd om]at heq
  rw[<-heq];exact main
theorem Zd{a K w}:Fr (S7 a K w) (∀b:qg->Pw,(∀(c:qg)(d:J),(∃b,d.z c b/\∀c:Pw,(∀b:J,(∃c,a=S c/\∃d,b.z ((c.add 11).add 1) d/\QQ a d (λa b=>K a b) b)->c b)->(bif b==3 then Dr d λb=>∃e,a=S e/\∃f,b.q e f/\∃e,a=S e/\∃a,b.z ((e.add 11).add 1) a/\(QP f a (λa=>c a) b)/\I else c d))->b c d)->(Dr w λc=>∃d,a=S d/\∃e,c.q d e/\∃d,e=S d/\∃e,c.q (d.add 2) e/\∃d,a=S d/\∃a,c.z ((d.add 11).add 1) a/\(QB e a (λa c d e f g h i j k l m _ n=>(A2 n [.z 0,.z 0,.z 0,.z 0,.y 0,.y 0,.y 0,.y 0,.y 0,.y 0,.y 0,.y 0] 139 λn o=>(aB o n.p 0 [.z a,.z c,.z d,.z e,.y f,.y g,.y h,.y i,.y j,.y k,.y l,.y m] λa=>b n.p a)/\I)/\I) c)/\(A2 c [.z 0,.z 0,.z 0,.z 0,.y 0,.y 0,.y 0,.y 0,.y 0,.y 0,.y 0,.y 0] 139 λc d=>(QB e a (λa d e f g h i j k l m n _ o=>(aB o c.p 0 [.z a,.z d,.z e,.z f,.y g,.y h,.y i,.y j,.y k,.y l,.y m,.y n] λa=>b c.p a)/\I) d)/\I)/\I)):=aj func155 (.v (.y (.y (.r (S [(3,.c .q)]) (.o 0 69504 (.o 1 69504 (.o 2 69504 (.o 3 69504 (.o 4 69504 (.o 5 69504 (.o 6 69504 (.o 7 65536 (.o 8 65536 (.o 9 65536 (.o 10 65536 (.o 11 65536 (.f 12 (.o 13 65536 (.o 14 98304 (.o 15 196608 .IU))) (.e 16 (.e 12 (.o 13 0 (.o 14 32768 (.o 15 131072 (.e 17 (.o 18 0 .done))))))))))))))))))))) (.v (.t (S []) .g20 .u))) .w))
theorem Ze{a K w}:Fr (S8 a K w) (Dr w λb=>∃c,a=S c/\∃d,b.q c d/\∃c,a=S c/\∃e,b.z ((c.add 11).add 1) e/\(QP d e (λb=>Dr b λb=>∃c,a=S c/\∃d,b.q c d/\∃c,d=S c/\∃d,b.q (c.add 2) d/\∃c,a=S c/\∃a,b.z ((c.add 11).add 1) a/\(QR d a (λa b=>K a b) b)/\I) b)/\I):=aj func156 (.v (.y .g20 (.x (.z (.o 0 3968 (.o 1 3968 (.o 2 3968 (.o 3 3968 (.o 4 3968 (.o 5 3968 (.o 6 3968 (.o 7 0 .K6))))))))))))
theorem Zf{a K w}:Fr (S9 a K w) (Dr w λb=>∃c,a=S c/\∃d,b.q c d/\∃c,d=S c/\∃d,b.q (c.add 2) d/\∃c,a=S c/\∃e,b.z ((c.add 11).add 1) e/\∃c,a=S c/\∃a,b.z ((c.add 3).add 3) a/\(TU d e a (λa b=>K a b) b)/\I):=aj func157 (.v (.x (.z (.o 0 130944 (.o 1 130944 (.o 2 130944 (.o 3 130944 (.o 4 130944 (.o 5 130944 (.o 6 130944 (.o 7 126976 (.o 8 126976 (.o 9 126976 (.o 10 126976 (.o 11 126976 (.o 12 0 (.o 13 0 (.o 14 0 (.o 15 0 (.o 16 0 (.e 17 (.o 18 0 .done))))))))))))))))))))))
theorem Zg{a K w}:Fr (Ta a K w) (Dr w λb=>∃c,a=S c/\∃d,b.z ((c.add 3).add 3) d/\∃c,a=S c/\∃e,b.z ((c.add 3).add 4) e/\∃c,a=S c/\∃f,b.y ((c.add 11).add 3) f/\(A2 b [.z 0,.y 0,.y 0,.y 0,.y 0,.y 0,.bool G] 274 λb c=>(aB c b.p 0 [.z d,.y (qv.wrap e),.y 0,.y 0,.y 0,.y f,.bool G] λc=>∀d:qg->O->Pw,(∀(b:qg)(c:O)(e:J),(bif c !=0 then K c e else ∃c,e.b b c/\bif !c then QS a (λa=>K 0 a) e else ∃c,e.z (b.add 2) c/\ax e (b.add 3) 0 [.o,.u,.u,.u,.u,.u,.b] λ(d f g h i j:O)(k:W)=>RC a c d f g h i j k (λc=>∃d,c.z (b.add 2) d/\QQ a d (λa b=>K a b) c) e)->d b c e)->(Dr c λc=>∃e,a=S e/\∃f,c.q e f/\∃e,f=S e/\∃f,c.s (e.add 5) f/\∃e,a=S e/\∃g,c.z ((e.add 11).add 1) g/\∃e,f.a=S e/\0<=g/\g<(f.len:O)/\∃f,c.q (e.add (g.toNat*1)) f/\∃e,a=S e/\∃g,c.z (e.add 2) g/\ax c b.p 0 [.o,.u,.u,.u,.u,.u,.b] λ(b e h i j k:O)(l:W)=>∃m,a=S m/\∃a,c.z ((m.add 3).add 5) a/\(RB f g b e h i j k l (a !=0) (λa b c e f g h i j k l m=>(A2 m [.bool G,.z 0,.z 0,.z 0,.y 0,.y 0,.y 0,.y 0,.y 0,.bool G] 303 λm n=>(aB n m.p 0 [.bool a,.z b,.z c,.z e,.y f,.y g,.y h,.y i,.y j,.bool k] λa=>d m.p l a)/\I)/\I) c)/\(A2 c [.bool G,.z 0,.z 0,.z 0,.y 0,.y 0,.y 0,.y 0,.y 0,.bool G] 303 λc m=>(RB f g b e h i j k l (a !=0) (λa b e f g h i j k l m n=>(aB n c.p 0 [.bool a,.z b,.z e,.z f,.y g,.y h,.y i,.y j,.y k,.bool l] λa=>d c.p m a)/\I) m)/\I)/\I))/\I)/\I):=aj func158 (.v (.y (.z (.o 0 393184 (.o 1 393184 (.o 2 393184 (.o 3 393184 (.o 4 393184 (.o 5 389120 (.o 6 389120 (.o 7 389120 (.o 8 389120 (.o 9 389120 (.o 10 389120 (.o 11 389120 (.o 12 262144 (.o 13 262144 (.o 14 262144 (.o 15 262144 (.o 16 262144 (.o 17 262144 (.e 18 (.e 19 .done))))))))))))))))))))) (.y (.r (S [(4,.c .q),(5,.c (.i .i64))]) (.o 0 570412928 (.o 1 570412928 (.o 2 570412928 (.o 3 570412928 (.o 4 570412928 (.o 5 570412928 (.o 6 570412928 (.o 7 570408960 (.o 8 570408960 (.o 9 570408960 (.o 10 570408960 (.o 11 570408960 (.o 12 570408960 (.o 13 570408960 (.o 14 570163200 (.o 15 570163200 (.o 16 570163200 (.o 17 570163200 (.o 18 569901056 (.o 19 536870912 (.o 20 536870912 (.o 21 536870912 (.o 22 536870912 (.o 23 536870912 (.o 24 536870912 (.f 25 (.o 26 536870912 (.o 27 805306368 (.o 28 1610612736 (.e 29 (.e 30 (.o 31 0 .done)))))) (.e 29 (.e 25 (.o 26 0 (.o 27 268435456 (.o 28 1073741824 (.e 30 (.o 31 0 .done)))))))))))))))))))))))))))))))))) (.y (.x (.v (.y .w (.v (.x (.v .w)))))) (.v .w)))))
theorem Zh{a K w}:Fr (Tc a K w) (∀b:qg->O->Pw,(∀(c:qg)(d:O)(e:J),(bif d !=0 then K d e else ∃b,e.b c b/\bif !b then QS a (λa=>K 0 a) e else Dr e λb=>∃d,a=S d/\∃e,b.z (d.add 2) e/\ax b (c.add 3) 0 [.o,.u,.u,.u,.u,.u,.b] λ(d f g h i j:O)(k:W)=>(RC a e d f g h i j k (λb=>∃d,b.z (c.add 1) d/\QQ a d (λa b=>K a b) b) b)/\I)->b c d e)->(Dr w λc=>∃d,a=S d/\∃e,c.q d e/\∃d,e=S d/\∃e,c.s (d.add 5) e/\∃d,a=S d/\∃f,c.z ((d.add 11).add 1) f/\∃d,e.a=S d/\0<=f/\f<(e.len:O)/\∃e,c.q (d.add (f.toNat*1)) e/\∃d,a=S d/\∃f,c.z (d.add 2) f/\∃d,a=S d/\∃a,c.z ((d.add 3).add 5) a/\(RD e f (a !=0) (λa c d e f g h i j k l m=>(A2 m [.bool G,.z 0,.z 0,.z 0,.y 0,.y 0,.y 0,.y 0,.y 0,.bool G] 303 λm n=>(aB n m.p 0 [.bool a,.z c,.z d,.z e,.y f,.y g,.y h,.y i,.y j,.bool k] λa=>b m.p l a)/\I)/\I) c)/\(A2 c [.bool G,.z 0,.z 0,.z 0,.y 0,.y 0,.y 0,.y 0,.y 0,.bool G] 303 λc d=>(RD e f (a !=0) (λa d e f g h i j k l m n=>(aB n c.p 0 [.bool a,.z d,.z e,.z f,.y g,.y h,.y i,.y j,.y k,.bool l] λa=>b c.p m a)/\I) d)/\I)/\I)):=aj func159 (.v (.y (.r (S [(3,.c .q),(4,.c (.i .i64))]) (.o 0 285200256 (.o 1 285200256 (.o 2 285200256 (.o 3 285200256 (.o 4 285200256 (.o 5 285200256 (.o 6 285200256 (.o 7 285196288 (.o 8 285196288 (.o 9 285196288 (.o 10 285196288 (.o 11 285196288 (.o 12 285196288 (.o 13 285196288 (.o 14 284950528 (.o 15 284950528 (.o 16 284950528 (.o 17 284950528 (.o 18 268435456 (.o 19 268435456 (.o 20 268435456 (.o 21 268435456 (.o 22 268435456 (.o 23 268435456 (.f 24 (.o 25 268435456 (.o 26 402653184 (.o 27 805306368 (.e 28 (.e 29 (.o 30 0 .done)))))) (.e 28 (.e 24 (.o 25 0 (.o 26 134217728 (.o 27 536870912 (.e 29 (.o 30 0 .done))))))))))))))))))))))))))))))))) (.y (.x (.v (.y .w (.v (.x (.v .w)))))) (.y (.z (.o 0 126 (.o 1 96 (.o 2 96 (.o 3 96 (.o 4 96 .Ks)))))) .w))))
theorem Zi{a K w}:Fr (Td a K w) (Dr w λb=>∃c,a=S c/\∃d,b.q c d/\∃c,a=S c/\∃e,b.z ((c.add 11).add 1) e/\∃c,a=S c/\∃f,b.y ((c.add 11).add 3) f/\(Qz d e f (λb c=>∃d,a=S d/\(St c ((d.add 17).add 2) (.z b) λa=>K 0 a)/\I) b)/\I):=aj func160 (.v (.y (.z (.o 0 65534 (.o 1 32736 (.o 2 32736 (.o 3 32736 (.o 4 32736 (.o 5 31744 (.o 6 31744 (.o 7 31744 (.o 8 31744 (.o 9 31744 (.o 10 0 (.o 11 0 (.o 12 0 (.o 13 0 (.o 14 0 (.e 15 (.o 16 0 (.o 17 0 (.o 18 0 (.e 19 .done))))))))))))))))))))) .w))
theorem Zj{a K w}:Fr (Te a K w) (Dr w λb=>∃c,a=S c/\∃d,b.q c d/\∃c,d=S c/\∃d,b.s (c.add 6) d/\∃c,a=S c/\∃e,b.z ((c.add 11).add 1) e/\∃c,d.a=S c/\0<=e/\e<(d.len:O)/\∃d,b.q (c.add (e.toNat*1)) d/\∃c,a=S c/\∃e,b.z (c.add 2) e/\∃c,a=S c/\∃f,b.z ((c.add 3).add 5) f/\(TV d e (f !=0) (λb c d e=>bif d !=0 then K d e else ∀d:Pw,(∀c:J,(∃d,a=S d/\St c ((d.add 17).add 1) (.y b) λa=>K 0 a)->d c)->(bif !c then QS a (λa=>d a) e else d e)) b)/\I):=aj func161 (.v (.y (.z (.o 0 16764800 (.o 1 16764800 (.o 2 16764800 (.o 3 16764800 (.o 4 16764800 (.o 5 16764800 (.o 6 16764800 (.o 7 16760832 (.o 8 16760832 (.o 9 16760832 (.o 10 16760832 (.o 11 16760832 (.o 12 16760832 (.o 13 16760832 (.o 14 16515072 (.o 15 16515072 (.o 16 16515072 (.o 17 16515072 (.o 18 0 (.o 19 0 (.o 20 0 (.o 21 0 (.o 22 0 (.o 23 0 (.e 24 (.o 25 0 (.o 26 402653184 (.o 27 805306368 (.o 28 1610612736 (.o 29 0 (.o 30 0 (.o 31 0 .done))))))))))))))))))))))))))))))))) (.y (.x (.v (.y .w .Ji))) (.v .w))))
theorem Zk{a K w}:Fr (Tf a K w) (∀b:qg->W->Pw,(∀(c:qg)(d:W)(e:J),(bif !d then K 181 e else Dr e λb=>∃d,a=S d/\∃e,b.q d e/\∃d,e=S d/\∃e,b.s (d.add 7) e/\∃d,b.z (c.add 1) d/\∃c,e.a=S c/\0<=d/\d<(e.len:O)/\∃e,b.q (c.add (d.toNat*1)) e/\∃c,a=S c/\∃d,b.z ((c.add 3).add 3) d/\∃c,a=S c/\∃a,b.z ((c.add 11).add 1) a/\(TW e d a (λa b=>K a b) b)/\I)->b c d e)->(Dr w λc=>∃d,a=S d/\∃e,c.q d e/\∃d,a=S d/\∃a,c.z ((d.add 3).add 2) a/\(OE e a 8 (λa c d e f g h i j k=>(A2 k [.z 0,.z 0] 155 λk l=>(A2 l [.z 0,.z 0,.z 0,.y 0,.y 0,.z 0] 157 λl m=>(aB m k.p 0 [.z a,.z c] λa=>(aB a l.p 0 [.z d,.z e,.z f,.y g,.y h,.z i] λa=>b l.p j a)/\I)/\I)/\I)/\(A2 k [.z 0,.z 0,.z 0,.y 0,.y 0,.z 0] 157 λk l=>(A2 l [.z 0,.z 0] 155 λl m=>(aB m l.p 0 [.z a,.z c] λa=>(aB a k.p 0 [.z d,.z e,.z f,.y g,.y h,.z i] λa=>b k.p j a)/\I)/\I)/\I)/\I) c)/\(A2 c [.z 0,.z 0] 155 λc d=>(OE e a 8 (λa d e f g h i j k l=>(A2 l [.z 0,.z 0,.z 0,.y 0,.y 0,.z 0] 157 λl m=>(aB m c.p 0 [.z a,.z d] λa=>(aB a l.p 0 [.z e,.z f,.z g,.y h,.y i,.z j] λa=>b l.p k a)/\I)/\I)/\I) d)/\(A2 d [.z 0,.z 0,.z 0,.y 0,.y 0,.z 0] 157 λd f=>(OE e a 8 (λa e f g h i j k l m=>(aB m c.p 0 [.z a,.z e] λa=>(aB a d.p 0 [.z f,.z g,.z h,.y i,.y j,.z k] λa=>b d.p l a)/\I)/\I) f)/\I)/\I)/\(A2 c [.z 0,.z 0,.z 0,.y 0,.y 0,.z 0] 157 λc d=>(OE e a 8 (λa d e f g h i j k l=>(A2 l [.z 0,.z 0] 155 λl m=>(aB m l.p 0 [.z a,.z d] λa=>(aB a c.p 0 [.z e,.z f,.z g,.y h,.y i,.z j] λa=>b c.p k a)/\I)/\I)/\I) d)/\(A2 d [.z 0,.z 0] 155 λd f=>(OE e a 8 (λa e f g h i j k l m=>(aB m d.p 0 [.z a,.z e] λa=>(aB a c.p 0 [.z f,.z g,.z h,.y i,.y j,.z k] λa=>b c.p l a)/\I)/\I) f)/\I)/\I)/\I)):=aj func162 (.v (.y .g0 (.y (.v (.x .w)) (.x (.z (.o 0 2095488 (.o 1 2095488 (.o 2 2095488 (.o 3 2095488 (.o 4 2095488 (.o 5 2095488 (.o 6 2095488 (.o 7 2095104 (.o 8 2095104 (.o 9 2095104 (.o 10 2095104 (.o 11 2031616 (.o 12 2031616 (.o 13 2031616 (.o 14 2031616 (.o 15 2031616 (.o 16 0 (.o 17 0 (.o 18 0 (.o 19 0 (.o 20 0 (.e 21 (.o 22 0 .done))))))))))))))))))))))))))))
theorem Zl{a K w}:Fr (Tg a K w) (∀b:qg->W->Pw,(∀(c:qg)(d:W)(e:J),(bif !d then K 181 e else Dr e λb=>∃d,a=S d/\∃e,b.q d e/\∃d,e=S d/\∃e,b.s (d.add 7) e/\∃d,b.z (c.add 1) d/\∃c,e.a=S c/\0<=d/\d<(e.len:O)/\∃e,b.q (c.add (d.toNat*1)) e/\∃c,a=S c/\∃d,b.z ((c.add 3).add 3) d/\∃c,a=S c/\∃f,b.z ((c.add 11).add 1) f/\∃c,a=S c/\∃g,b.z ((c.add 11).add 2) g/\∃c,a=S c/\∃a,b.z ((c.add 3).add 4) a/\(RE e d f (di .i64 g a) (λa b=>K a b) b)/\I)->b c d e)->(Dr w λc=>∃d,a=S d/\∃e,c.q d e/\∃d,a=S d/\∃a,c.z ((d.add 3).add 2) a/\(OE e a 8 (λa c d e f g h i j k=>(A2 k [.z 0,.z 0] 155 λk l=>(A2 l [.z 0,.z 0,.z 0,.y 0,.y 0,.z 0] 157 λl m=>(aB m k.p 0 [.z a,.z c] λa=>(aB a l.p 0 [.z d,.z e,.z f,.y g,.y h,.z i] λa=>b l.p j a)/\I)/\I)/\I)/\(A2 k [.z 0,.z 0,.z 0,.y 0,.y 0,.z 0] 157 λk l=>(A2 l [.z 0,.z 0] 155 λl m=>(aB m l.p 0 [.z a,.z c] λa=>(aB a k.p 0 [.z d,.z e,.z f,.y g,.y h,.z i] λa=>b k.p j a)/\I)/\I)/\I)/\I) c)/\(A2 c [.z 0,.z 0] 155 λc d=>(OE e a 8 (λa d e f g h i j k l=>(A2 l [.z 0,.z 0,.z 0,.y 0,.y 0,.z 0] 157 λl m=>(aB m c.p 0 [.z a,.z d] λa=>(aB a l.p 0 [.z e,.z f,.z g,.y h,.y i,.z j] λa=>b l.p k a)/\I)/\I)/\I) d)/\(A2 d [.z 0,.z 0,.z 0,.y 0,.y 0,.z 0] 157 λd f=>(OE e a 8 (λa e f g h i j k l m=>(aB m c.p 0 [.z a,.z e] λa=>(aB a d.p 0 [.z f,.z g,.z h,.y i,.y j,.z k] λa=>b d.p l a)/\I)/\I) f)/\I)/\I)/\(A2 c [.z 0,.z 0,.z 0,.y 0,.y 0,.z 0] 157 λc d=>(OE e a 8 (λa d e f g h i j k l=>(A2 l [.z 0,.z 0] 155 λl m=>(aB m l.p 0 [.z a,.z d] λa=>(aB a c.p 0 [.z e,.z f,.z g,.y h,.y i,.z j] λa=>b c.p k a)/\I)/\I)/\I) d)/\(A2 d [.z 0,.z 0] 155 λd f=>(OE e a 8 (λa e f g h i j k l m=>(aB m d.p 0 [.z a,.z e] λa=>(aB a c.p 0 [.z f,.z g,.z h,.y i,.y j,.z k] λa=>b c.p l a)/\I)/\I) f)/\I)/\I)/\I)):=aj func163 (.v (.y .g0 (.y (.v (.x .w)) (.x (.z (.o 0 8589932928 (.o 1 8589932928 (.o 2 8589932928 (.o 3 8589932928 (.o 4 8589932928 (.o 5 8589932928 (.o 6 8589932928 (.o 7 8589932544 (.o 8 8589932544 (.o 9 8589932544 (.o 10 8589932544 (.o 11 8589869056 (.o 12 8589869056 (.o 13 8589869056 (.o 14 8589869056 (.o 15 8589869056 (.o 16 4292870144 (.o 17 4292870144 (.o 18 4292870144 (.o 19 4292870144 (.o 20 4292870144 (.o 21 2080374784 (.o 22 2080374784 (.o 23 2080374784 (.o 24 2080374784 (.o 25 2080374784 (.o 26 0 (.o 27 0 (.o 28 0 (.o 29 0 (.o 30 0 (.o 31 0 (.o 32 0 (.e 33 (.o 34 0 .done))))))))))))))))))))))))))))))))))))))))
theorem Zm{a K w}:Fr (Ti a K w) (∀b:qg->O->Pw,(∀(c:qg)(d:O)(e:J),(bif d==0 then Dr e λb=>∃f,a=S f/\∃g,b.z ((f.add 11).add 1) g/\∃f,a=S f/\∃h,b.z ((f.add 3).add 3) h/\ax b c 0 [.o,.o] λ(c f:O)=>(QU a g h c f (λa=>K d a) b)/\I else K d e)->b c d e)->(Dr w λc=>∃d,a=S d/\∃e,c.q d e/\∃d,e=S d/\∃e,c.s (d.add 7) e/\∃d,a=S d/\∃f,c.z ((d.add 11).add 1) f/\∃d,e.a=S d/\0<=f/\f<(e.len:O)/\∃e,c.q (d.add (f.toNat*1)) e/\∃d,a=S d/\∃a,c.z ((d.add 3).add 3) a/\(QT e a (λa c d e=>(A2 e [.z 0,.z 0] 70 λe f=>(aB f e.p 0 [.z a,.z c] λa=>b e.p d a)/\I)/\I) c)/\(A2 c [.z 0,.z 0] 70 λc d=>(QT e a (λa d e f=>(aB f c.p 0 [.z a,.z d] λa=>b c.p e a)/\I) d)/\I)/\I)):=aj func164 (.v (.y (.r (S [(3,.c .q),(4,.c (.i .i64))]) (.o 0 8900480 (.o 1 8900480 (.o 2 8900480 (.o 3 8900480 (.o 4 8900480 (.o 5 8900480 (.o 6 8900480 (.o 7 8896512 (.o 8 8896512 (.o 9 8896512 (.o 10 8896512 (.o 11 8896512 (.o 12 8896512 (.o 13 8896512 (.o 14 8388608 (.o 15 8388608 (.o 16 8388608 (.o 17 8388608 (.o 18 8388608 (.f 19 (.o 20 8388608 (.o 21 12582912 (.o 22 25165824 (.e 23 (.e 24 (.o 25 0 .done)))))) (.e 23 (.e 19 (.o 20 0 (.o 21 4194304 (.o 22 16777216 (.e 24 (.o 25 0 .done)))))))))))))))))))))))))))) (.y (.v (.x (.z (.o 0 8190 (.o 1 8128 (.o 2 8128 (.o 3 8128 (.o 4 8128 (.o 5 8128 (.o 6 2048 (.o 7 2048 (.o 8 2048 (.o 9 2048 (.o 10 2048 (.o 11 0 (.o 12 0 (.e 13 .done))))))))))))))))) .w)))
theorem Zn{a K w}:Fr (Tj a K w) (∀b:qg->W->Pw,(∀(c:qg)(d:W)(e:J),(bif !d then K 181 e else Dr e λb=>∃d,a=S d/\∃e,b.q d e/\∃d,e=S d/\∃e,b.q (d.add 3) e/\∃d,a=S d/\∃a,b.z ((d.add 11).add 1) a/\∃d,b.z (c.add 1) d/\∃f,b.y (c.add 3) f/\(TX e a d f (λa b=>K a b) b)/\I)->b c d e)->(Dr w λc=>∃d,a=S d/\∃e,c.q d e/\∃d,a=S d/\∃a,c.z ((d.add 3).add 2) a/\(OE e a 5 (λa c d e f g h i j k=>(A2 k [.z 0,.z 0] 155 λk l=>(A2 l [.z 0,.z 0,.z 0,.y 0,.y 0,.z 0] 157 λl m=>(aB m k.p 0 [.z a,.z c] λa=>(aB a l.p 0 [.z d,.z e,.z f,.y g,.y h,.z i] λa=>b l.p j a)/\I)/\I)/\I)/\(A2 k [.z 0,.z 0,.z 0,.y 0,.y 0,.z 0] 157 λk l=>(A2 l [.z 0,.z 0] 155 λl m=>(aB m l.p 0 [.z a,.z c] λa=>(aB a k.p 0 [.z d,.z e,.z f,.y g,.y h,.z i] λa=>b k.p j a)/\I)/\I)/\I)/\I) c)/\(A2 c [.z 0,.z 0] 155 λc d=>(OE e a 5 (λa d e f g h i j k l=>(A2 l [.z 0,.z 0,.z 0,.y 0,.y 0,.z 0] 157 λl m=>(aB m c.p 0 [.z a,.z d] λa=>(aB a l.p 0 [.z e,.z f,.z g,.y h,.y i,.z j] λa=>b l.p k a)/\I)/\I)/\I) d)/\(A2 d [.z 0,.z 0,.z 0,.y 0,.y 0,.z 0] 157 λd f=>(OE e a 5 (λa e f g h i j k l m=>(aB m c.p 0 [.z a,.z e] λa=>(aB a d.p 0 [.z f,.z g,.z h,.y i,.y j,.z k] λa=>b d.p l a)/\I)/\I) f)/\I)/\I)/\(A2 c [.z 0,.z 0,.z 0,.y 0,.y 0,.z 0] 157 λc d=>(OE e a 5 (λa d e f g h i j k l=>(A2 l [.z 0,.z 0] 155 λl m=>(aB m l.p 0 [.z a,.z d] λa=>(aB a c.p 0 [.z e,.z f,.z g,.y h,.y i,.z j] λa=>b c.p k a)/\I)/\I)/\I) d)/\(A2 d [.z 0,.z 0] 155 λd f=>(OE e a 5 (λa e f g h i j k l m=>(aB m d.p 0 [.z a,.z e] λa=>(aB a c.p 0 [.z f,.z g,.z h,.y i,.y j,.z k] λa=>b c.p l a)/\I)/\I) f)/\I)/\I)/\I)):=aj func165 (.v (.y .g0 (.y (.v (.x .w)) (.x (.z (.o 0 65408 (.o 1 65408 (.o 2 65408 (.o 3 65408 (.o 4 65408 (.o 5 65408 (.o 6 65408 (.o 7 61440 (.o 8 61440 (.o 9 61440 (.o 10 61440 (.o 11 61440 (.o 12 49152 (.o 13 49152 (.o 14 0 (.o 15 0 (.e 16 (.o 17 0 .done)))))))))))))))))))))))
theorem Zo{a K w}:Fr (Tk a K w) (Dr w λb=>∃c,a=S c/\∃d,b.q c d/\∃c,d=S c/\∃d,b.q (c.add 3) d/\∃c,a=S c/\∃e,b.z ((c.add 11).add 1) e/\(TY d e (λb c d e f=>bif d then ∃d,a=S d/\∃g,f.q d g/\Qz g b c (λb c=>∃d,a=S d/\St c ((d.add 17).add 2) (.z b) λa=>K e a) f else K e f) b)/\I):=aj func166 (.v (.y (.z (.o 0 3968 (.o 1 3968 (.o 2 3968 (.o 3 3968 (.o 4 3968 (.o 5 3968 (.o 6 3968 (.o 7 0 (.o 8 0 (.o 9 0 (.o 10 0 (.o 11 0 (.e 12 (.o 13 0 (.o 14 229376 (.o 15 458752 (.o 16 917504 (.o 17 1835008 (.o 18 0 (.o 19 0 (.o 20 0 (.o 21 0 .done))))))))))))))))))))))) (.y (.v .w) .w)))
theorem Zp{a b K w}:Fr (QM a b K w) (A2 w [.z 0,.z 0] 155 λc d=>∀e:W->Pw,(∀(d:W)(f:J),(bif d then aB f c.p 0 [.z 0,.z 0] λd=>ax d c.p 0 [.o,.o] λ(e g:O)=>K e g G d else A2 f [.z 0,.z 0,.z 0,.y 0,.y 0,.z 0] 157 λd e=>aB e d.p 0 [.z 2,.z 0,.z 7,.y 0,.y 0,.z 0] λe=>∀f:qg->O->Pw,(∀(a:qg)(b:O)(d:J),(ax d a 0 [.o,.o] λ(a e:O)=>aB d c.p 0 [.z a,.z e] λa=>ax a c.p 0 [.o,.o] λ(c d:O)=>K c d (b==0) a)->f a b d)->(Dr e λc=>∃e,a=S e/\∃a,c.q e a/\ax c d.p 0 [.o,.o,.o,.u,.u,.o] λ(d e g h i j:O)=>(RR a d e g h i j (qv.wrap b) 6 (λa b c d=>(A2 d [.z 0,.z 0] 155 λd e=>(aB e d.p 0 [.z a,.z b] λa=>f d.p c a)/\I)/\I) c)/\(A2 c [.z 0,.z 0] 155 λc k=>(RR a d e g h i j (qv.wrap b) 6 (λa b d e=>(aB e c.p 0 [.z a,.z b] λa=>f c.p d a)/\I) k)/\I)/\I))->e d f)->(bif V (b<0)then e Z d else e (V (b>=64)) d)):=aj func247 (.v (.y .Jg (.v (.y (.r (S [(7,.c .q),(8,.c (.i .i64))]) (.o 0 2160 (.o 1 2160 (.o 2 2160 (.o 3 2160 (.o 4 2144 (.o 5 2048 (.o 6 2048 (.f 7 (.o 8 2048 (.o 9 3072 (.o 10 6144 (.e 11 (.e 12 (.o 13 0 .done)))))) (.e 11 (.e 7 (.o 8 0 (.o 9 1024 (.o 10 4096 (.e 12 (.o 13 0 .done)))))))))))))))) .w))))
theorem Zq{a b K w}:Fr (QN a b K w) (A2 w [.pointer a] 153 λa c=>∀d:Sl->O->Pw,(∀(c:Sl)(e:O)(f:J),(bif V (e<b)then ∀b:qg->W->Pw,(∀(f:qg)(g:W)(h:J),(∀b:W->Pw,(∀(a:W)(g:J),(bif a then K z0 181 g else ax g f 0 [.o,.o] λ(a b:O)=>A2 g [.z a,.z b] 155 λa b=>∃f g,aM qe [124,124] 124 c.v (.slice (S a.p) 1 1) b f g/\d f (qf.wrap (e+1)) g)->b a g)->(bif !g then b Z h else ∃c,h.q a.p c/\∃a,c=S a/\∃c,h.z ((a.add 3).add 2) c/\b (V (c<0)) h))->b f g h)->(Dr f λc=>∃d,c.q a.p d/\∃f,d=S f/\∃d,c.q f d/\∃f,c.q a.p f/\∃a,f=S a/\∃f,c.z ((a.add 3).add 2) f/\(QM d (qf.wrap (f+e)) (λa c d e=>(A2 e [.z 0,.z 0] 155 λe f=>(aB f e.p 0 [.z a,.z c] λa=>b e.p d a)/\I)/\I) c)/\(A2 c [.z 0,.z 0] 155 λa c=>(QM d (qf.wrap (f+e)) (λc d e f=>(aB f a.p 0 [.z c,.z d] λc=>b a.p e c)/\I) c)/\I)/\I)else Uk c (.func (.func 338) #[] #[.pointer (S a.p)]) (λa b=>bif a then K z0 51 b else K c 0 b) f)->d c e f)->d z0 0 c):=aj func250 (.v (.v (.y (.v (.x (.t (S [(6,.c .s),(12,.c (.i .i64))]) (.v (.y .w (.x (.x (.v (.y (.r (S [(8,.c .q),(9,.c .b)]) (.o 0 34800 (.o 1 34800 (.o 2 34800 (.o 3 34800 (.o 4 33280 (.o 5 33280 (.o 6 33280 (.o 7 33280 (.o 8 33280 .g8)))))))))) (.x (.y (.r (S [(39,.c .b)]) .done) (.x .w))))))))) .u))) .AQ)))
theorem Zr{a b c d e f g h i K w}:Fr (Rz a b c d e f g h i K w) (A2 w [.z b,.z c] 155 λb c=>A2 c [.z d,.z e,.z f,.y g,.y h,.z i] 157 λc d=>Dr d λd=>∃e,a=S e/\∃f,d.q e f/\∃e,f=S e/\∃f,d.q e f/\ax d b.p 0 [.o,.o] λ(e g:O)=>ax d c.p 0 [.o,.o,.o,.u,.u,.o] λ(c h i j k l:O)=>(Rj f e g c h i j k l (λ_ c=>Dr c λc=>∃d,a=S d/\∃e,c.q d e/\∃d,e=S d/\∃e,c.q (d.add 1) e/\∃d,a=S d/\ax c (d.add 9) 0 [.o,.o] λ(a d:O)=>ax c b.p 0 [.o,.o] λ(b f:O)=>(Ul e a d b f (λ_ a=>K a) c)/\I) d)/\I):=aj func251 (.v (.y (.z (.o 0 384 (.o 1 384 (.o 2 384 (.o 3 384 (.o 4 384 (.o 5 384 (.o 6 384 (.o 7 256 (.o 8 0 (.e 9 .done))))))))))) (.z (.o 0 3968 (.o 1 3968 (.o 2 3968 (.o 3 3968 (.o 4 3968 (.o 5 3968 (.o 6 3968 (.o 7 2048 (.o 8 2048 (.o 9 2048 (.o 10 2048 (.o 11 0 (.e 12 .done))))))))))))))))
theorem Zs{a b K w}:Fr (TP a b K w) (∃c,a=S c/\∃d,w.z ((c.add 3).add 3) d/\bif d==1 then Dr w λc=>∃e,a=S e/\∃f,a=S f/\∃g,c.q f g/\∃f,g=S f/\∃g,c.s (f.add 4) g/\∃f,a=S f/\∃h,c.z ((f.add 3).add 4) h/\∃f,c.q e f/\(A2 c [.y b,.z h,.y 0] 98 λb c=>(∃d h,aM qe [52,52] 52 g.v (.slice (S b.p) 1 1) c d h/\h.q e f/\∃b,f=S b/\(St h (b.add 4) d.v λb=>∃c,a=S c/\∃a,b.q c a/\∃c,a=S c/\∃a,b.s (c.add 4) a/\K (qf.wrap ((a.len:O)-1)) b)/\I)/\I)/\I else bif d==2 then ∃b,a=S b/\∃c,w.q b c/\∃b,c=S b/\∃e,w.z (b.add 10) e/\∃b,c=S b/\St w (b.add 10) (.z (qf.wrap (e+1))) λb=>Dr b λb=>∃c,a=S c/\∃e,b.q c e/\∃c,e=S c/\∃e,b.q c e/\∃c,a=S c/\∃f,b.z ((c.add 3).add 4) f/\(Q9 e f (λa _ b=>K a b) b)/\I else bif d==3 then ∃b,a=S b/\∃c,w.q b c/\∃b,c=S b/\∃e,w.z (b.add 11) e/\∃b,c=S b/\St w (b.add 11) (.z (qf.wrap (e+1))) λb=>Dr b λb=>∃c,a=S c/\∃e,b.q c e/\∃c,e=S c/\∃e,b.q (c.add 2) e/\∃c,a=S c/\∃f,b.z (c.add 1) f/\(PY e 0 f (λa _ b=>K a b) b)/\I else bif d==4 then Dr w λb=>∃c,a=S c/\∃e,a=S e/\∃f,b.q c f/\∃g,b.q e g/\∃h,g=S h/\∃i,b.s (h.add 5) i/\(Um (λb d=>d.s (h.add 5) i/\d.q e g/\d.q c f/\(A2 d [.pointer b] 173 λb d=>(∃e g,aM qe [104,104] 104 i.v (.slice (S b.p) 1 1) d e g/\g.q c f/\∃b,f=S b/\(St g (b.add 5) e.v λb=>∃c,a=S c/\∃a,b.q c a/\∃c,a=S c/\∃a,b.s (c.add 5) a/\K (qf.wrap ((a.len:O)-1)) b)/\I)/\I)/\I) b)/\I else bif d==5 then Dr w λb=>∃c,a=S c/\∃e,a=S e/\∃f,b.q c f/\∃g,b.q e g/\∃h,g=S h/\∃i,b.s (h.add 6) i/\(Un (λb d=>d.s (h.add 6) i/\d.q e g/\d.q c f/\(A2 d [.pointer b] 177 λb d=>(∃e g,aM qe [105,105] 105 i.v (.slice (S b.p) 1 1) d e g/\g.q c f/\∃b,f=S b/\(St g (b.add 6) e.v λb=>∃c,a=S c/\∃a,b.q c a/\∃c,a=S c/\∃a,b.s (c.add 6) a/\K (qf.wrap ((a.len:O)-1)) b)/\I)/\I)/\I) b)/\I else bif d==8 then Dr w λb=>∃c,a=S c/\∃e,a=S e/\∃f,b.q c f/\∃g,b.q e g/\∃h,g=S h/\∃i,b.s (h.add 7) i/\(Px (λb d=>d.s (h.add 7) i/\d.q e g/\d.q c f/\(A2 d [.pointer b] 99 λb d=>(∃e g,aM qe [101,101] 101 i.v (.slice (S b.p) 1 1) d e g/\g.q c f/\∃b,f=S b/\(St g (b.add 7) e.v λb=>∃c,a=S c/\∃a,b.q c a/\∃c,a=S c/\∃a,b.s (c.add 7) a/\K (qf.wrap ((a.len:O)-1)) b)/\I)/\I)/\I) b)/\I else bif d==6 then ∃b,a=S b/\∃c,w.q b c/\∃b,c=S b/\∃d,w.z (b.add 8) d/\∃b,c=S b/\St w (b.add 8) (.z (qf.wrap (d+1))) λb=>∃c,a=S c/\∃d,b.q c d/\∃c,d=S c/\∃d,b.z (c.add 8) d/\K (qf.wrap (d-1)) b else ∃b,a=S b/\∃c,w.q b c/\∃b,c=S b/\∃d,w.z (b.add 9) d/\∃b,c=S b/\St w (b.add 9) (.z (qf.wrap (d+1))) λb=>∃c,a=S c/\∃a,b.q c a/\∃c,a=S c/\∃a,b.z (c.add 9) a/\K (qf.wrap (a-1)) b):=aj func252 (.v (.y (.v (.x (.v (.y (.y (.z (.o 0 1048560 (.o 1 1048560 (.o 2 1048560 (.o 4 522248 (.o 5 522248 (.o 6 522248 (.o 7 522248 (.o 8 522248 (.o 9 522248 (.o 10 522248 (.o 11 126984 (.o 12 8 (.o 13 8 (.o 14 8 (.o 15 8 (.o 16 8 (.o 17 8 (.hold 3 786432 4194303 (.e 18 (.e 19 (.o 20 0 (.o 21 0 (.e 22 .done)))))))))))))))))))))))) .w) (.v (.y (.v (.y (.z (.o 0 3968 (.o 1 3968 (.o 2 3968 (.o 3 3968 (.o 4 3968 (.o 5 3968 (.o 6 3968 (.o 7 0 (.o 8 0 (.o 9 0 (.o 10 0 (.o 11 0 (.e 12 (.o 13 0 (.o 14 32768 (.o 15 65536 (.o 16 0 (.o 17 0 .done))))))))))))))))))) .w)) (.v (.y (.v (.y (.z (.o 0 1920 (.o 1 1920 (.o 2 1920 (.o 3 1920 (.o 4 1920 (.o 5 1920 (.o 6 1920 (.o 7 0 (.o 8 0 (.o 9 0 (.o 10 0 (.e 11 (.o 12 0 (.o 13 16384 (.o 14 32768 (.o 15 0 (.o 16 0 .done)))))))))))))))))) .w)) (.v (.y .g3 (.v (.y .g3 (.v (.y .g3 (.v (.x (.v .w))))))))))))))))) (.v .w)))
theorem Zt{a b c K w}:Fr (QO a b c K w) (A2 w [.z b,.z c] 155 λb c=>Dr c λc=>∃d,a=S d/\∃e,c.q d e/\∃d,e=S d/\∃e,c.q (d.add 1) e/\ax c b.p 0 [.o,.o] λ(d f:O)=>(Uo e d f (λ_ c=>∀d:qg->Pw,(∀(b:qg)(c:J),(∃d,a=S d/\∃e,c.q d e/\∃d,e=S d/\∃e,c.q d e/\Ro e (λc d=>Up c (.func (.func 346) #[] #[.pointer (S b)]) (λc d=>bif !c then ax d b 0 [.o,.o,.o,.u,.u,.o] λ(b c e f g h:O)=>Us a b c e f g h (λa=>K a) d else K d) d) c)->d b c)->(Dr c λc=>∃e,a=S e/\∃a,c.q e a/\∃e,a=S e/\∃a,c.q e a/\ax c b.p 0 [.o,.o] λ(b e:O)=>(RT a b e (λa b c e f g _ h=>(A2 h [.z 0,.z 0,.z 0,.y 0,.y 0,.z 0] 157 λh i=>(aB i h.p 0 [.z a,.z b,.z c,.y e,.y f,.z g] λa=>d h.p a)/\I)/\I) c)/\(A2 c [.z 0,.z 0,.z 0,.y 0,.y 0,.z 0] 157 λc f=>(RT a b e (λa b e f g h _ i=>(aB i c.p 0 [.z a,.z b,.z e,.y f,.y g,.z h] λa=>d c.p a)/\I) f)/\I)/\I)) c)/\I):=aj func256 (.v (.y (.z (.o 0 128 (.o 1 128 (.o 2 128 (.o 3 128 (.o 4 128 (.o 5 128 (.o 6 128 (.o 7 0 (.e 8 .done)))))))))) (.y .g2 (.v .w))))
theorem Zu{a b K w}:Fr (QP a b K w) (∃c,a=S c/\∃d,w.s (c.add 5) d/\∀c:O->Pw,(∀(e:O)(f:J),(bif V (e<(d.len:O))then ∃g,d.a=S g/\0<=e/\e<(d.len:O)/\∃d,f.q (g.add (e.toNat*1)) d/\Ut d b (λ_ a=>c (qf.wrap (e+1)) a) f else ∃c,a=S c/\∃a,f.s (c.add 6) a/\∀c:O->Pw,(∀(d:O)(e:J),(bif V (d<(a.len:O))then ∃f,a.a=S f/\0<=d/\d<(a.len:O)/\∃a,e.q (f.add (d.toNat*1)) a/\Uu a b (λ_ a=>c (qf.wrap (d+1)) a) e else K e)->c d e)->c 0 f)->c e f)->c 0 w):=aj func260 (.y (.v (.x (.t (S [(13,.c (.i .i64))]) .Ed .u))) (.v (.x (.t (S [(26,.c (.i .i64))]) .Ed .u))))
theorem Zv{a b K w}:Fr (QQ a b K w) (∃c,a=S c/\∃d,w.q c d/\∃c,d=S c/\∃d,w.q (c.add 2) d/\PZ d b (λc d=>bif c==0 then ∃e,a=S e/\St d ((e.add 17).add 2) (.z b) λa=>K c a else K c d) w):=aj func261 (.v (.v (.y (.v .w) .w)))
theorem Zw{a K w}:Fr (QS a K w) (∃b,a=S b/\∃c,w.z ((b.add 3).add 5) c/\bif c !=0 then Dr w λb=>∃c,a=S c/\∃d,b.q c d/\∃c,d=S c/\∃d,b.q (c.add 2) d/\∃c,a=S c/\∃e,b.z (c.add 2) e/\(RY d e (λ_ b=>Dr b λb=>∃c,a=S c/\∃d,b.q c d/\∃c,d=S c/\∃d,b.q (c.add 2) d/\∃c,a=S c/\∃a,b.z (c.add 1) a/\(P2 d a (λ_ _ a=>K a) b)/\I) b)/\I else K w):=aj func265 (.v (.x (.y .g14 .g14)))
theorem Zx{a b c d e f g h i K w}:Fr (RC a b c d e f g h i K w) (A2 w [.z c,.y d,.y e,.y f,.y g,.y h,.bool i] 274 λc d=>∃e,d.y (c.p.add 5) e/\∃f,d.z c.p f/\(0:O)<=0/\(0:O)<4/\∃g,d.y ((c.p.add 1).add ((0:O).toNat*1)) g/\A2 d [.y e,.y (qv.wrap f),.y g] 39 λc d=>∀e:O->Pw,(∀(d:O)(f:J),(bif V (d<3)then ∃g,S c.p=S g/\0<=d/\d<3/\∃c,f.y (g.add (d.toNat*1)) c/\∃g,a=S g/\∃a,f.q g a/\∃g,a=S g/\∃a,f.q (g.add 2) a/\QG a b d c (λ_ a=>e (qf.wrap (d+1)) a) f else K f)->e d f)->e 0 d):=aj func266 (.v (.v (.x (.t (S [(18,.c (.i .i64))]) .Ed .u))))
theorem Zy{a b c d e K w}:Fr (QU a b c d e K w) (A2 w [.z c,.z d,.z e] 204 λc d=>Dr d λd=>∃e,a=S e/\∃f,d.s ((e.add 17).add 3) f/\∃e,d.z c.p e/\ax d (c.p.add 1) 0 [.o,.o] λ(c g:O)=>(A2 d [.z b,.z e,.z c,.z g] 289 λb c=>(∃d e,aM qe [40,40] 40 f.v (.slice (S b.p) 1 1) c d e/\∃b,a=S b/\(St e ((b.add 17).add 3) d.v λa=>K a)/\I)/\I)/\I):=aj func272 (.v (.z (.o 0 16382 (.o 1 8128 (.o 2 8128 (.o 3 8128 (.o 4 8128 (.o 5 8128 (.o 6 1920 (.o 7 1536 (.o 8 1536 (.o 9 0 (.o 10 0 (.o 11 0 (.e 12 (.e 13 (.o 14 0 (.o 15 0 (.o 16 0 (.e 17 .done))))))))))))))))))))
theorem Zz{a b c K w}:Fr (Uj a b c K w) (A2 w [.z a,.z b] 155 λa b=>∀d:qg->Pw,(∀(a:qg)(b:J),(∃c,b.z a c/\K (c !=0) b)->d a b)->(Dr b λb=>∃e,b.q c e/\∃c,e=S c/\∃e,b.q c e/\∃c,e=S c/\∃e,b.q c e/\ax b a.p 0 [.o,.o] λ(a c:O)=>(Pk e a c (λa b c e f g _ h=>(A2 h [.z 0,.z 0,.z 0,.y 0,.y 0,.z 0] 157 λh i=>(aB i h.p 0 [.z a,.z b,.z c,.y e,.y f,.z g] λa=>d h.p a)/\I)/\I) b)/\(A2 b [.z 0,.z 0,.z 0,.y 0,.y 0,.z 0] 157 λb f=>(Pk e a c (λa c e f g h _ i=>(aB i b.p 0 [.z a,.z c,.z e,.y f,.y g,.z h] λa=>d b.p a)/\I) f)/\I)/\I)):=aj func338 (.v (.y .g2 .w))
theorem ZA{a b c d e f g h i K w}:Fr (Uq a b c d e f g h i K w) (A2 w [.z a,.z b,.z c,.z d,.z e,.y f,.y g,.z h] 201 λa b=>ax b (a.p.add 2) 0 [.o,.o,.o,.u,.u,.o] λ(a c d e f g:O)=>ax b i 0 [.o,.o,.o,.u,.u,.o] λ(h i j k l m:O)=>Ur a c d e f g h i j k l m (λa b=>K a b) b):=aj func346 (.v .w)
theorem ZB{a b c d e f g K w}:Fr (Us a b c d e f g K w) (A2 w [.z b,.z c,.z d,.y e,.y f,.z g] 157 λb c=>∃d,c.z b.p d/\bif d==3 then Dr c λe=>∃f,a=S f/\∃g,e.q f g/\∃f,e.z (b.p.add 1) f/\(QP g f (λc=>Dr c λc=>∃d,a=S d/\∃a,c.q d a/\∃d,a=S d/\∃a,c.q (d.add 2) a/\∃d,c.z (b.p.add 1) d/\(QR a d (λ_ a=>K a) c)/\I) e)/\I else bif d==6 then ∃e,a=S e/\∃f,c.q e f/\∃e,f=S e/\∃f,c.s (e.add 7) f/\∀e:O->Pw,(∀(c:O)(d:J),(bif V (c<(f.len:O))then ∃g,f.a=S g/\0<=c/\c<(f.len:O)/\∃f,d.q (g.add (c.toNat*1)) f/\∃g,d.z (b.p.add 1) g/\UG f g (λb d=>∀g:O->Pw,(∀(d:O)(h:J),(bif V (d<(b.len:O))then ∃i,b.a=S i/\0<=d/\d<(b.len:O)/\∃b,h.z (i.add (d.toNat*1)) b/\QT f b (λe f _ h=>A2 h [.z 0,.z 0] 70 λh i=>aB i h.p 0 [.z e,.z f] λe=>ax e h.p 0 [.o,.o] λ(f h:O)=>QU a c b f h (λa=>g (qf.wrap (d+1)) a) e) h else e (qf.wrap (c+1)) h)->g d h)->g 0 d) d else K d)->e c d)->e 0 c else bif d==7 then ∃d,a=S d/\∃e,c.q d e/\∃d,e=S d/\∃e,c.s (d.add 7) e/\∀d:O->Pw,(∀(c:O)(f:J),(bif V (c<(e.len:O))then ∃g,e.a=S g/\0<=c/\c<(e.len:O)/\∃e,f.q (g.add (c.toNat*1)) e/\∀g:O->Pw,(∀(f:O)(h:J),(bif V (f<64)then UH e f (λd h i=>∀j:W->Pw,(∀(b:W)(d:J),(bif b then UI e f (λb _ d=>∀e:O->Pw,(∀(d:O)(h:J),(bif V (d<(b.len:O))then ∃i,b.a=S i/\0<=d/\d<(b.len:O)/\ax h (i.add (d.toNat*3)) 0 [.o,.o,.o] λ(b i j:O)=>A2 h [.z 0,.z 0,.z 0] 204 λk l=>aB l k.p 0 [.z b,.z i,.z j] λb=>ax b k.p 0 [.o,.o,.o] λ(i j k:O)=>QU a c i j k (λa=>e (qf.wrap (d+1)) a) b else g (qf.wrap (f+1)) h)->e d h)->e 0 d) d else g (qf.wrap (f+1)) d)->j b d)->(bif h then ∃a,i.z (b.p.add 1) a/\j (d==a) i else j G i)) h else d (qf.wrap (c+1)) h)->g f h)->g 0 f else K f)->d c f)->d 0 c else K c):=aj func348 (.v (.v (.x (.v (.y (.y .KW (.z (.o 0 384 (.o 1 384 (.o 2 384 (.o 3 384 (.o 4 384 (.o 5 384 (.o 6 384 .Ko))))))))) (.v (.y (.v (.x (.t (S [(50,.c (.i .i64))]) (.v (.y .w (.x (.x (.v (.v (.x (.t (S [(60,.c (.i .i64))]) (.v (.y .w (.x (.x (.v .w))))) .u)))))))) .u))) (.v (.x (.v (.x (.t (S [(88,.c (.i .i64))]) (.v (.y .w (.x (.x (.v (.v (.x (.t (S [(93,.c (.i .i64))]) (.v (.y .w (.x (.x (.v (.v (.y (.r (S [(108,.c .b)]) .done) (.x (.v (.v (.x (.t (S [(117,.c (.i .i64))]) .Ed .u)))))))))))) .u)))))))) .u))))))))))))
def cL:Code->Code| .seq a _=>a|c=>c
def cR:Code->Code| .seq _ b=>b|c=>c
noncomputable def mq:Code:=oe aaI
noncomputable def HI:Code:= .seq (cL mq) (.seq (cL (cR mq)) (cL (cL (cR (cR mq)))))
noncomputable def vV:Code:=cR (cR (cR mq))
noncomputable def EG:Code:=cR (cL (cR (cR mq)))
def US(d1:qh qg)(K:qh qg->qg->O->Sl->Q->Pw)(w:J):Prop:=Al w (.cells #[.pointer d1] 153) λw2=>Dr w2 λw3=>∃t4:qh qg,w3.cell? w.heap.size.p=S (.pointer t4)/\∃a5:qg,t4=S a5/\∃kernel6:qh qg,w3.cell? a5=S (.pointer kernel6)/\∃a7:qg,kernel6=S a7/\∃tr8:qh qg,w3.cell? (a7.add 1)=S (.pointer tr8)/\∃t9:qh qg,w3.cell? w.heap.size.p=S (.pointer t9)/\∃a10:qg,t9=S a10/\ax w3 (a10.add 9) 0 [.o,.o] λ(s11:O)(s12:O)=>(TS tr8 s11 s12 (λIY w14=>U6 IY (λJC w16=>K d1 w.heap.size.p (0:O) IY JC w16) w14) w3)/\I
def tx:An:= .t N (.u) (.t N (.r N (.one 0 1920 (.one 1 1920 (.one 2 1920 (.one 3 1920 (.one 4 1920 (.one 5 1920 (.one 6 1920 (.one 7 0 (.one 8 0 (.one 9 0 (.one 10 0 (.alt 11 (.one 12 0 (.done)) (.none)))))))))))))) (.u))
def B1:Y (X × Sh):=[(0,.c (.p)),(1,.c (.q)),(2,.c (.i .i64)),(3,.c (.s)),(4,.c (.v))]
noncomputable def H4:Func:={ aaI with results:= #[.tmp 0,.tmp 1,.tmp 2,.tmp 3,.tmp 19],body:=S HI}
theorem ZC(d1:qh qg)(K:qh qg->qg->O->Sl->Q->Pw)(w:J):vc qe HI tx (λe w'=>pT qe H4.results.toList e w' [] λvs=>iH B1 K (nth vs) w') (λ_ _ _=>qk) (λ_ _=>qk) (nth [.pointer d1]) w=US d1 K w:=qa
def UT(d1:qh qg)(d2:qg)(t3:O)(l4:Sl)(K:O->Pw)(w:J):Prop:=∃t5:qh qg,w.cell? d2=S (.pointer t5)/\∃a6:qg,t5=S a6/\St w ((a6.add 17).add 1) (.y (qv.wrap (l4.len:O))) λw7=>∃t8:qh qg,w7.cell? d2=S (.pointer t8)/\∃a9:qg,t8=S a9/\∃kind10:O,w7.cell? (a9.add 11)=S (.z kind10)/\bif kind10==(1:O)then(Dr w7 λw11=>∃t12:qh qg,w11.cell? d2=S (.pointer t12)/\∃a13:qg,t12=S a13/\∃kernel14:qh qg,w11.cell? a13=S (.pointer kernel14)/\∃a15:qg,kernel14=S a15/\∃u16:Sl,w11.cell? (a15.add 4)=S u16.v/\∃t17:qh qg,w11.cell? d2=S (.pointer t17)/\∃a18:qg,t17=S a18/\∃obj19:O,w11.cell? ((a18.add 11).add 1)=S (.z obj19)/\∃a20:qg,u16.a=S a20/\0<=obj19/\obj19<(u16.len:O)/\ax w11 (a20.add (obj19.toNat*3)) 0 [.u,.o,.u] λ(t21:O)(t22:O)(t23:O)=>∃t24:qh qg,w11.cell? d2=S (.pointer t24)/\∃a25:qg,t24=S a25/\∃kernel26:qh qg,w11.cell? a25=S (.pointer kernel26)/\∃a27:qg,kernel26=S a27/\∃u28:Sl,w11.cell? (a27.add 4)=S u28.v/\∃t29:qh qg,w11.cell? d2=S (.pointer t29)/\∃a30:qg,t29=S a30/\∃obj31:O,w11.cell? ((a30.add 11).add 1)=S (.z obj31)/\(TT t21 t22 t23 (λr32 r33 r34 w35=>w35.cell? ((a30.add 11).add 1)=S (.z obj31)/\w35.cell? d2=S (.pointer t29)/\w35.cell? (a27.add 4)=S u28.v/\w35.cell? a25=S (.pointer kernel26)/\w35.cell? d2=S (.pointer t24)/\∃a36:qg,u28.a=S a36/\0<=obj31/\obj31<(u28.len:O)/\(aB w35 (a36.add (obj31.toNat*3)) 0 [.y r32,.z r33,.y r34] λw37=>K (0:O) w37)/\I) w11)/\I)else(K (0:O) w7)
def B2:An:= .t N (.u) (.t N (.t N (.u) (.t N (.r N (.one 12 16257023 (.one 13 16257023 (.one 14 16257023 (.one 15 16257023 (.one 16 16257023 (.one 17 16257023 (.one 18 16257023 (.one 19 4095 (.one 20 4095 (.one 21 4095 (.one 22 4095 (.one 23 4095 (.one 24 4095 (.one 25 4095 (.hold 0 67112832 268435455 (.one 1 67112832 (.one 2 67112832 (.hold 3 67112832 268435455 (.one 4 67112832 (.one 5 67112832 (.hold 6 67112832 268435455 (.hold 7 67108864 268435455 (.one 8 67108864 (.one 9 67108864 (.one 10 67108864 (.hold 11 67108864 268435455 (.alt 26 (.one 27 0 (.alt 28 (.done) (.none))) (.none))))))))))))))))))))))))))))) (.u))) (.t N (.u) (.u)))
def B3:Y (X × Sh):=[(0,.c (.i .i64))]
noncomputable def EH:Func:={ aaI with results:= #[.tmp 2],body:=S vV}
theorem ZD(d1:qh qg)(d2:qg)(t3:O)(l4:Sl)(K:O->Pw)(w:J):JN qe EH vV B2 B3 [.pointer d1,.pointer (S d2),.z t3,l4.v] K w=UT d1 d2 t3 l4 K w:=qa
end
namespace Th
section
variable{B:X}{w0 w:J}{R:Y aH}{k:X}{L:Qs}
theorem Gl{L:Qs}(h:(L.map (·.2)).Nodup){p:X}{n:O}(hm:(p,n)∈L):(L.filter λx=>x.2 !=n).length+1=L.length:=by
 induction L with
 |nil=>cases hm
 |cons a L ih=>
  simp only[L1,Mj,L2,not_exists,not_and]at h;rw[Mc];by_cases e:a.2=n
  .have e':(a.2 !=n)=false:=by simpa using e
   rw[e'];have:L.filter (λx=>x.2 !=n)=L:=Mv.2 λx hx=>by simp only[qN,ne_eq];intro e2;exact h.1 x hx (e2.trans e.symm)
   simp[this]
  .have e':(a.2 !=n)=true:=by simpa using e
   rw[e'];have:(p,n)∈L:=by
    rcases LD.1 hm with rfl|hm
    .exact qj U e
    .exact hm
   simp only[qC,LL];rw[ih h.2 this]
theorem Dl(L:Qs){p:X}(hp:p<256):zc L (p:O)=bX L p:=by unfold zc;rw[F om];simp
theorem Dv{L:Qs}(ht:D4 L=N):fZ L=none:=by unfold fZ;rw[ht];rfl
theorem wV.filter{L:Qs}(h:wV L)(n:O):wV (L.filter λx=>x.2 !=n):=
 ⟨List.Nodup.sublist (List.filter_sublist.map _) h.nodup,λy hy=>h.prio y (LP.1 hy).1,LY (L6 _ _) h.eC⟩
theorem Kt{w:J}{a:qg}{x y:O}{f:O->O->Prop}(g1:w.cell? a=S (.z x))(g2:w.cell? (a.add 1)=S (.z y))(hf:f x y):ax w a 0 [.o,.o] f:=⟨_,g1,_,g2,hf⟩
def vo:dT (X × O):=⟨2,λx=>[.z (x.1:O),.z x.2],λ_=>rfl,λx v h=>by simp only[LD,MB,qI]at h;rcases h with rfl|rfl<;>rfl,qb⟩
def cD(k:X)(L:Qs):aH:=sB λs:Sl=>cj [dh (wV L),aa k [bg s],af vo s L]
theorem _root_.Go.Vc.Ow.FR(h:Ow B w0 w (cD k L::R)):∃s:Sl,wV L/\Ow B w0 w (aa k [bg s]::af vo s L::R):=by obtain⟨s,h⟩:=h.ex;obtain⟨h1,h2⟩:=Ow.pure h.star;exact⟨s,h1,h2⟩
theorem _root_.Go.Vc.Ow.pM{s:Sl}(h1:wV L)(h:Ow B w0 w (aa k [bg s]::af vo s L::R)):Ow B w0 w (cD k L::R):=Ow.fk s (Ow.bW (Ow.cT h1 h))
theorem BY{s:Sl}{xs:Qs}{y:X × O}{c:X}{C:Sl->Pw}(h:Ow B w0 w (aa c (vo.enc y)::R))(i:X)(hL:R[i]?=S (af vo s xs))
  (hbig:xs.length<=100000000000) (hk:∀s' w',s'.len=xs.length+1->Ow B w0 w' (R.set i (af vo s' (xs++ [y])))->C s' w'):
  ∃s' w',aM qe [260,260] 260 s.v (.slice (S c.p) 1 1) w s' w'/\C s' w':=
 Ow.GF (E:=vo) (y:=y) underlying260 (show qe.info? 435=S aa3 from by kernel_rfl) (zv:= .agg #[.z 0,.z 0]) qa qa U qb h i hL (by
  have e:aa3.bytes=16:=qa
  rw[e];omega) hk
theorem _root_.Go.Vc.Ow.E1{s:Sl}{xs:Qs}(h:Ow B w0 w R)(i:X)(hi:R[i]?=S (af vo s xs)){j:X}{x:X × O}(hj:xs[j]?=S x):
  ∃a,s.a=S a/\w.cell? (a.add (j*2))=S (.z (x.1:O))/\w.cell? ((a.add (j*2)).add 1)=S (.z x.2):=by
 obtain⟨b,o,ha,hc⟩:=h.get i hi hj;exact⟨_,ha,by rw[aI];exact hc 0 _ U,by rw[aI,aI];exact hc 1 _ U⟩
theorem kY{n:O}{K:O->W->Pw}(h:Ow B w0 w (cD k L::R))
  (hK:K (((wh L n).map λp:X=>(p:O)).getD 0) (wh L n).isSome w):Ue k.o n K w:=by
 apply YU;obtain⟨s,hq,h⟩:=h.FR;have hlen:=h.len 1 U;have hfew:=hq.eC;intro l3 hl3;have loop:∀(m i:X),i+m=L.length->wh (L.drop i) n=wh L n->l3 (i:O) w:=by
  intro m;induction m with
  |zero=>
   intro i him hw;apply hl3;refine⟨_,U,s,h.gr 0 U U,?_⟩;rw[show V ((i:O)<(s.len:O))=G from by simp;omega,qp];rw[Nz om]at hw;rw[<-hw]at hK;exact hK
  |succ m ih=>
   intro i him hw;apply hl3;refine⟨_,U,s,h.gr 0 U U,?_⟩;rw[show V ((i:O)<(s.len:O))=Z from by simp;omega,ql];have hx:L[i]?=S L[i]:=gE om;obtain⟨a,ha,h1,h2⟩:=h.E1 1 U hx;refine⟨_,U,s,h.gr 0 U U,a,ha,om,om,_,h2,?_⟩;rw[List.drop_eq_getElem_cons om]at hw;by_cases e:L[i].2=n
   .rw[show(L[i].2==n)=Z from by simpa using e,ql]
    refine⟨_,U,s,h.gr 0 U U,a,ha,om,om,_,h1,?_⟩;have:wh L n=S L[i].1:=by rw[<-hw];unfold wh;rw[Qf,show(L[i].2==n)=Z from by simpa using e];rfl
    rw[this]at hK;exact hK
   .rw[show(L[i].2==n)=G from by simpa using e,qp,wr om om]
    refine ih (i+1) om ?_;rw[<-hw];unfold wh;rw[Qf,show(L[i].2==n)=G from by simpa using e]
 exact loop L.length 0 om U
theorem xz{L:Qs}(h:wV L)(p:O):zc L p=(L.filter λx=>((x.1:O)==p)).map (·.2):=by
 unfold zc;split
 .rename_i e
  rw[List.filter_eq_nil_iff.2]
  .rfl
  .intro x hx
   have:=h.prio x hx;simp only[qH];omega
 .rename_i e
  unfold bX;congr 1;apply Od;intro x _;by_cases e2:x.1=p.toNat
  .rw[show(x.1==p.toNat)=Z from by simpa using e2];symm;simp;omega
  .rw[show(x.1==p.toNat)=G from by simpa using e2];symm;simp;omega
theorem lT{p:O}{K:Sl->Pw}(h:Ow B w0 w (cD k L::R))
  (hK:∀s w',Ow B w0 w' (af aq s (zc L p)::cD k L::R)->K s w'):TM k.o p K w:=by
 apply YS;refine h.al λw1 h=>?_;obtain⟨s,hq,h⟩:=(h.perm (List.Perm.swap _ _ _)).FR;have hlen:=h.len 1 U;have hfew:=hq.eC;intro l4 hl4;have h:Ow B w0 w1 (af aq ⟨S w.heap.size.p,0,0⟩ []::aa k [bg s]::af vo s L::R):=by have h1:Ow B w0 w1 (aa w.heap.size []::aa k [bg s]::af vo s L::R):=h.take 2 U;exact h1.empty
 have loop:∀(m i:X)(o:Sl)(w:J),i+m=L.length->Ow B w0 w (af aq o (((L.take i).filter λx=>((x.1:O)==p)).map (·.2))::aa k [bg s]::af vo s L::R)->l4 o (i:O) w:=by
  intro m;induction m with
  |zero=>
   intro i o w him h;apply hl4;refine⟨_,U,s,h.gr 1 U U,?_⟩;rw[show V ((i:O)<(s.len:O))=G from by simp;omega,qp];rw[Lz om,<-xz hq]at h;have h1:=Ow.pM hq ((h.perm (List.Perm.swap _ _ _)).perm ((List.Perm.swap _ _ _).cons _));exact hK o w (h1.perm (List.Perm.swap _ _ _))
  |succ m ih=>
   intro i o w him h;apply hl4;refine⟨_,U,s,h.gr 1 U U,?_⟩;rw[show V ((i:O)<(s.len:O))=Z from by simp;omega,ql];have hx:L[i]?=S L[i]:=gE om;obtain⟨a,ha,h1,h2⟩:=h.E1 2 U hx;have ht:L.take (i+1)=L.take i++ [L[i]]:=by rw[LJ,hx];rfl
   refine⟨_,U,s,h.gr 1 U U,a,ha,om,om,_,h1,?_⟩;rw[wr om om];by_cases e:((L[i].1:X):O)=p
   .rw[show(((L[i].1:X):O)==p)=Z from by simpa using e,ql]
    refine⟨_,U,s,h.gr 1 U U,a,ha,om,om,_,h2,h.al λw2 h=>?_⟩;refine vR h 0 U (by rw[List.length_map];exact LY (L6 _ _) (by rw[LX];omega)) λs' w3 hs' h=>?_;refine ih (i+1) s' w3 om ?_;rw[ht,Mi,LU,Mc,show(((L[i].1:X):O)==p)=Z from by simpa using e];exact h
   .rw[show(((L[i].1:X):O)==p)=G from by simpa using e,qp]
    refine ih (i+1) o w om ?_;rw[ht,Mi,LU,Mc,show(((L[i].1:X):O)==p)=G from by simpa using e];simpa using h
 exact loop L.length 0 _ w1 om h
theorem lU{K:O->W->Pw}(h:Ow B w0 w (cD k L::R))
  (hK:∀w',Ow B w0 w' (cD k L::R)->K ((fZ L).getD 0) (fZ L).isSome w'):SX k.o K w:=by
 apply YQ;intro l2 hl2;have loop:∀(m:X)(w:J),m<=256->D4 L=nc (iF L) m->Ow B w0 w (cD k L::R)->l2 ((m:O)-1) w:=by
  intro m;induction m with
  |zero=>
   intro w _ ht h;apply hl2;rw[show V (((0:X):O)-1>=0)=G from U,qp];have:=hK w h;rw[Dv ht]at this;exact this
  |succ m ih=>
   intro w hm ht h;have e:((m+1:X):O)-1=(m:O):=om
   rw[e];apply hl2;rw[show V ((m:O)>=0)=Z from by simp,ql];refine lT h λs w1 h=>?_;rw[Dl L om]at h;have hlen:=h.len 0 U;simp only[nc]at ht;cases hl:bX L m with
   |nil=>
    rw[hl]at hlen;simp only[M5]at hlen;rw[show V ((s.len:O)>0)=G from by simp;omega,qp,wr om om];have hs:iF L m=false:=by unfold iF;rw[hl];rfl
    rw[hs,F qc]at ht;exact ih w1 om ht h.drop
   |cons n l=>
    rw[hl]at hlen h;simp only[LL]at hlen;rw[show V ((s.len:O)>0)=Z from by simp;omega,ql];have hs:iF L m=true:=by unfold iF;rw[hl];rfl
    rw[hs,qd U]at ht;obtain⟨a,ha,hc⟩:=h.E0 0 U (j:=0) U;refine⟨a,ha,om,om,n,hc,?_⟩;have:=hK w1 h.drop;have en:fZ L=S n:=by unfold fZ;rw[ht];simp[hl]
    rw[en]at this;exact this
 exact loop 256 w (Lv _) U h
theorem mO{p n:O}{K:O->Pw}(h:Ow B w0 w (cD k L::R))(hf:L.length<1000000)
  (hK:∀w',Ow B w0 w' (cD k (jy L p n).2::R)->K (jy L p n).1 w'):TL k.o p n K w:=by
 apply YR;intro k4 hk4;by_cases h0:p<0
 .rw[show V (p<0)=Z from by simpa using h0,ql]
  apply hk4;rw[ql];have e:jy L p n=(1,L):=by unfold jy;rw[qd (.inl h0)]
  rw[e]at hK;exact hK w h
 rw[show V (p<0)=G from by simpa using h0,qp];apply hk4;by_cases h1:256<=p
 .rw[show V (p>255)=Z from by simp;omega,ql]
  have e:jy L p n=(1,L):=by unfold jy;rw[qd (.inr h1)]
  rw[e]at hK;exact hK w h
 rw[show V (p>255)=G from by simp;omega,qp];refine kY h ?_;cases hw:wh L n with
 |some q=>
  have e:jy L p n=(90,L):=by unfold jy;rw[F om,hw]
  rw[Option.isSome_some,ql];rw[e]at hK;exact hK w h
 |none=>
  have e:jy L p n=(0,L++ [(p.toNat,n)]):=by unfold jy;rw[F om,hw]
  rw[Option.isSome_none,qp];rw[e]at hK;obtain⟨s,hq,h⟩:=h.FR;refine⟨_,U,s,h.gr 0 U U,h.al λw1 h=>?_⟩;have h:=h.xg (l':=vo.enc (p.toNat,n)) (by show _= [Value.z ((p.toNat:X):O),.z n];rw[Ox om]);refine BY h 1 U om λs' w2 hs' h=>?_;refine⟨_,U,h.st 0 U U U λw3 h=>?_⟩;exact hK w3 (Ow.pM (Bi hq om hw hf) h)
theorem lV{n:O}{K:O->Pw}(h:Ow B w0 w (cD k L::R))
  (hK:∀w',Ow B w0 w' (cD k (eV L n).2::R)->K (eV L n).1 w'):TN k.o n K w:=by
 apply YT;refine h.al λw1 h=>?_;obtain⟨s,hq,h⟩:=(h.perm (List.Perm.swap _ _ _)).FR;have hlen:=h.len 1 U;have hfew:=hq.eC;intro l4 hl4;have h:Ow B w0 w1 (af vo ⟨S w.heap.size.p,0,0⟩ []::aa k [bg s]::af vo s L::R):=by have h1:Ow B w0 w1 (aa w.heap.size []::aa k [bg s]::af vo s L::R):=h.take 2 U;exact h1.empty
 have loop:∀(m i:X)(o:Sl)(w:J),i+m=L.length->Ow B w0 w (af vo o ((L.take i).filter λx=>x.2 !=n)::aa k [bg s]::af vo s L::R)->l4 o (i:O) w:=by
  intro m;induction m with
  |zero=>
   intro i o w him h;apply hl4;refine⟨_,U,s,h.gr 1 U U,?_⟩;rw[show V ((i:O)<(s.len:O))=G from by simp;omega,qp];rw[Lz om]at h;have hol:=h.len 0 U;refine⟨_,U,s,h.gr 1 U U,?_⟩;cases hw:wh L n with
   |none=>
    have e:eV L n=(91,L):=by unfold eV;rw[hw]
    have hs:(L.filter λx=>x.2 !=n)=L:=Mv.2 λx hx=>by have:=lv.1 hw x hx;simpa using this
    rw[hs]at hol;rw[show((o.len:O)==(s.len:O))=Z from by simp;omega,ql];rw[e]at hK;exact hK w (Ow.pM hq h.drop)
   |some p=>
    have e:eV L n=(0,L.filter λx=>x.2 !=n):=by unfold eV;rw[hw]
    have:=Gl hq.nodup (BS hw);rw[show((o.len:O)==(s.len:O))=G from by simp;omega,qp];rw[e]at hK;refine⟨_,U,h.st 1 U U U λw2 h=>?_⟩;have h:Ow B w0 w2 (af vo o (L.filter λx=>x.2 !=n)::aa k [bg o]::af vo s L::R):=h;have h1:Ow B w0 w2 (af vo s L::af vo o (L.filter λx=>x.2 !=n)::aa k [bg o]::R):=h.take 2 U;exact hK w2 (Ow.pM (hq.filter n) (h1.drop.perm (List.Perm.swap _ _ _)))
  |succ m ih=>
   intro i o w him h;apply hl4;refine⟨_,U,s,h.gr 1 U U,?_⟩;rw[show V ((i:O)<(s.len:O))=Z from by simp;omega,ql];have hx:L[i]?=S L[i]:=gE om;obtain⟨a,ha,h1,h2⟩:=h.E1 2 U hx;have ht:L.take (i+1)=L.take i++ [L[i]]:=by rw[LJ,hx];rfl
   refine⟨_,U,s,h.gr 1 U U,a,ha,om,om,_,h2,?_⟩;rw[wr om om];by_cases e:L[i].2=n
   .rw[show(L[i].2 !=n)=G from by simpa using e,qp]
    refine ih (i+1) o w om ?_;rw[ht,Mi,Mc,show(L[i].2 !=n)=G from by simpa using e];simpa using h
   .rw[show(L[i].2 !=n)=Z from by simpa using e,ql]
    refine⟨_,U,s,h.gr 1 U U,a,ha,om,om,Kt h1 h2 (h.al λw2 h=>?_)⟩;refine BY (y:=L[i]) h 0 U (LY (L6 _ _) (by rw[LX];omega)) λs' w3 hs' h=>?_;refine ih (i+1) s' w3 om ?_;rw[ht,Mi,Mc,show(L[i].2 !=n)=Z from by simpa using e];exact h
 exact loop L.length 0 _ w1 om h
def bN(b:X)(m:Mt):aH:=sB λp:(Sl × Sl)× Y X=>cj (dh (p.2.length=m.qs.length)::aa b [bg p.1.1,bg p.1.2]::af ff p.1.1 m.br::af dO p.1.2 p.2::Lx cD p.2 m.qs)
theorem F5{b:X}{L':Qs}:∀(bs:Y X)(qs:Y Qs)(c:X),bs[c]?=S b->(Lx cD bs qs).set c (cD b L')=Lx cD bs (qs.set c L')
 | [],_,_,h=>by simp at h
 |_::_,[],c,_=>by simp
 |b0::bs,q::qs,0,h=>by simp at h;subst h;rfl
 |b0::bs,q::qs,c+1,h=>by simp[F5 bs qs c (by simpa using h)]
end
section
variable{B:X}{w0 w:J}{R L:Y aH}{b:X}{m m1:Mt}
theorem uQ(h1:m1.br=m.br)(h2:m1.qs=m.qs):bN b m1=bN b m:=by unfold bN;rw[h1,h2]
theorem _root_.Go.Vc.Ow.BG(h:Ow B w0 w (bN b m::R)):∃l q bs,bs.length=m.qs.length/\Ow B w0 w (aa b [bg l,bg q]::af ff l m.br::af dO q bs::(Lx cD bs m.qs++R)):=by obtain⟨⟨⟨l,q⟩,bs⟩,h⟩:=h.ex;obtain⟨h1,h⟩:=Ow.pure h.star;exact⟨l,q,bs,h1,h⟩
theorem _root_.Go.Vc.Ow.kV{l q:Sl}{bs:Y X}(h1:bs.length=m.qs.length)(h:Ow B w0 w (aa b [bg l,bg q]::af ff l m.br::af dO q bs::(Lx cD bs m.qs++R))):Ow B w0 w (bN b m::R):=
 Ow.fk ((l,q),bs) (Ow.bW (Ow.cT h1 h))
theorem _root_.Go.Vc.Ow.F3{A1 A2 A3:aH}{bs:Y X}{qs:Y Qs}{c b1:X}{aby:Qs}(hb:bs[c]?=S b1)(hq:qs[c]?=S aby)(h:Ow B w0 w (A1::A2::A3::(Lx cD bs qs++R))):
  Ow B w0 w (cD b1 aby::A1::A2::A3::(Lx cD bs qs++R).eraseIdx c):=by
 have h1:=(Lu.1 hb).1;have h2:=(Lu.1 hq).1;have hz:(Lx cD bs qs++R)[c]?=S (cD b1 aby):=by rw[LI (by simp;omega),N0,hb,hq]
 exact h.take (c+3) (by simpa using hz)
theorem _root_.Go.Vc.Ow.Iv{A1 A2 A3:aH}{bs:Y X}{qs:Y Qs}{c b1:X}{aby:Qs}(hb:bs[c]?=S b1)(hc:c<qs.length)(h:Ow B w0 w (cD b1 aby::A1::A2::A3::(Lx cD bs qs++R).eraseIdx c)):
  Ow B w0 w (A1::A2::A3::(Lx cD bs (qs.set c aby)++R)):=by
 have h1:=(Lu.1 hb).1;have h2:Ow B w0 w (cD b1 aby::(A1::A2::A3::(Lx cD bs qs++R)).eraseIdx (c+3)):=by simpa only[Nk]using h
 have h3:=h2.put (by simp;omega);simp only[LM]at h3;rw[Nw _ _ (by simp;omega),F5 bs qs c hb]at h3;exact h3
theorem zL{c:O}(c0:0<=c)(c1:c<m.qs.length):m.qs.set c.toNat (m.q c)=m.qs:=by
 apply L5;intro t;rw[Mb];by_cases e:c.toNat=t
 .subst e;rw[qd U,qd om,pR c0 c1]
 .rw[F e]
theorem JW{l:Sl}{A1:aH}{br:Y rj}{n:O}{t t':rj}{c:X}{v:Q}{a:qg}{k:Pw}(h:Ow B w0 w (A1::af ff l br::L))(h0:0<=n)(hx:br[n.toNat]?=S t)(ha:l.a=S a)
  (he:ff.enc t'=(ff.enc t).set c v) (hc:c<12) (hv:v.oneCell'=Z) (hk:∀w',Ow B w0 w' (A1::af ff l (br.set n.toNat t')::L)->k w'):St w ((a.add (n.toNat*12)).add c) v k:=
 Ow.zO (s:=l) (E:=ff) (xs:=br) (i:=n) (j:=n.toNat) (c:=c) (x:=t) h t' om hx ha he hc hv λw' h=>hk w' h.cq
theorem eY{n:O}{K:W->Pw}(h:Ow B w0 w (bN b m::R))(hK:K (m.cH n) w):Pq b.o n K w:=by
 apply Y6;obtain⟨l,q,bs,hbs,h⟩:=h.BG;have hl:=h.aL l;unfold Mt.cH at hK;refine bo (λe=>?_) (λe=>?_)
 .refine ⟨_,U,l,h.aF U,?_⟩
  rw[qu (e:0<=n),M6]at hK;rw[hl];exact hK
 .rw[qm (e:¬0<=n),M0]at hK;exact hK
theorem lG{n:O}{K:W->Pw}(h:Ow B w0 w (bN b m::R))(hK:K (m.fC n) w):Rn b.o n K w:=by
 apply Y5;obtain⟨l,q,bs,hbs,h⟩:=h.BG;have hl:=h.aL q;unfold Mt.fC at hK;refine bo (λe=>?_) (λe=>?_)
 .refine ⟨_,U,q,h.aE U,?_⟩
  rw[qu (e:0<=n),M6]at hK;rw[hl,hbs];exact hK
 .rw[qm (e:¬0<=n),M0]at hK;exact hK
theorem lH{n:O}{K:W->Pw}(hK:K (V (0<=n/\n<256)) w):Rm n K w:=by
 apply Y2;refine bo (λe=>?_) (λe=>?_)
 .rw[show V (0<=n/\n<256)=V (n<=255)from decide_eq_decide.2 om]at hK;exact hK
 .rw[qm om]at hK;exact hK
theorem mP{n:O}{K:O->O->O->O->O->O->O->O->O->O->O->O->O->Pw}(h:Ow B w0 w (bN b m::R))
  (hK:∀w' t,t=(if m.cH n then m.th n else GA)->Ow B w0 w' (bN b m::R)->K t.st t.pr t.co t.le (t.rg 0) (t.rg 1) (t.rg 2) (t.rg 3) (t.rg 4) (t.rg 5) (t.rg 6) (t.rg 7) (if m.cH n then 0 else 100) w'):Rc b.o n K w:=by
 apply Y0;refine h.a λc w1 h=>?_;have h:Ow B w0 w1 (bN b m::aa c [.z 0,.z 0,.z 0,.z 0,.y 0,.y 0,.y 0,.y 0,.y 0,.y 0,.y 0,.y 0]::R):=h.cq;refine eY h ?_;cases e:m.cH n with
 |false=>
  have h:Ow B w0 w1 (aa c [.z 0,.z 0,.z 0,.z 0,.y 0,.y 0,.y 0,.y 0,.y 0,.y 0,.y 0,.y 0]::bN b m::R):=h.cq;refine bh U ?_;refine h.aA U U λw h=>?_;refine h.sH U ?_;have:=hK w GA (by rw[e];rfl) h.drop;rw[e]at this;exact this
 |true=>
  refine bc U ?_;obtain⟨n0,n1,hx⟩:=bI e;have h2:Ow B w0 w1 (aa c [.z 0,.z 0,.z 0,.z 0,.y 0,.y 0,.y 0,.y 0,.y 0,.y 0,.y 0,.y 0]::bN b m::R):=h.cq;obtain⟨l,q,bs,hbs,h⟩:=h.BG;refine⟨_,U,l,h.aF U,h.cz (s:=l) (i:=n) (j:=n.toNat) om hx λa ha h0 hc=>?_⟩;refine⟨_,hc 0 _ U,_,hc 1 _ U,_,hc 2 _ U,_,hc 3 _ U,_,hc 4 _ U,_,hc 5 _ U,_,hc 6 _ U,_,hc 7 _ U,_,hc 8 _ U,_,hc 9 _ U,_,hc 10 _ U,_,hc 11 _ U,h2.aA U U λw h=>?_⟩;refine h.sH U ?_;have:=hK w (m.th n) (by rw[e];rfl) h.drop;rw[e]at this;exact this
theorem gA{n i v:O}{K:O->Pw}(h:Ow B w0 w (bN b m::R))(hK:∀w',Ow B w0 w' (bN b (m.mQ n i v).2::R)->K (m.mQ n i v).1 w'):Ql b.o n i v K w:=by
 apply Zb;unfold Mt.mQ at hK;refine eY h ?_;cases hT:m.cH n with
 |false=>
  rw[qd hT]at hK;exact bh U (hK w h)
 |true=>
  rw[F (by rw[hT];simp)]at hK;refine bc U ?_;intro k7 hk7;have bad:¬(0<=i/\i<8)->k7 Z w:=λe=>by rw[qd e]at hK;exact hk7 _ _ (bh U (hK w h))
  refine bo (λe=>bad om) (λe=>?_);by_cases e2:i>7
  .rw[qu e2];exact bad om
  .rw[qm e2]
   have hi:0<=i/\i<8:=om
   rw[F (λhh=>hh hi)]at hK;obtain⟨n0,n1,hx⟩:=bI hT;obtain⟨l,q,bs,hbs,h⟩:=h.BG;refine hk7 _ _ (bc U ⟨_,U,l,h.aF U,?_⟩);refine h.cz (s:=l) (i:=n) (j:=n.toNat) om hx λa ha h0 hc=>?_;refine⟨om,om,?_⟩;obtain⟨j,rfl⟩:=LB hi.1;have e1:((a.add (n.toNat*12)).add 4).add ((j:O).toNat*1)=(a.add (n.toNat*12)).add (4+j):=by have:=h.uW l ha;rw[this,aI,aI,aI,aI,Lw];congr 1;omega
   rw[e1];refine JW (c:=4+j) (t':={ m.th n with rg:=λk=>if k=j then v else(m.th n).rg k}) h n0 hx ha ?_ om U λw h=>?_
   .have:j=0\/j=1\/j=2\/j=3\/j=4\/j=5\/j=6\/j=7:=om
    rcases this with rfl|rfl|rfl|rfl|rfl|rfl|rfl|rfl<;>rfl
   .exact hK w (Ow.kV (m:=m.zA n j v) hbs h)
theorem im{n:O}{K:Pw}(hm:fH m)(hn:m.cH n=Z)(h:Ow B w0 w (bN b m::R))(hK:∀w',Ow B w0 w' (bN b (m.cr n)::R)->K w'):Qh b.o n K w:=by
 apply Y7;obtain⟨l,q,bs,hbs,h⟩:=h.BG;obtain⟨n0,n1,hx⟩:=bI hn;obtain⟨⟨c0,c1⟩,_⟩:=hm.th hn;obtain⟨b1,hb1⟩:∃x,bs[(m.th n).co.toNat]?=S x:=⟨_,gE om⟩
 refine⟨_,U,l,h.aF U,h.cz (s:=l) (i:=n) (j:=n.toNat) om hx λa ha h0 hc=>?_⟩;refine JW (c:=0) (t':={ m.th n with st:=1}) h n0 hx ha U qb U λw h=>?_;have hx2:(m.br.set n.toNat { m.th n with st:=1})[n.toNat]?=S { m.th n with st:=1}:=by rw[Mb,qd U,qd om]
 refine h.dr λw h=>?_;refine⟨_,U,q,h.aE U,_,U,l,h.aF U,h.cz (s:=l) (i:=n) (j:=n.toNat) om hx2 λa2 ha2 h0 hc2=>⟨_,hc2 2 _ U,?_⟩⟩
 refine h.cz (s:=q) (j:=(m.th n).co.toNat) (by show(m.th n).co=_;omega) hb1 λa3 ha3 h03 hc3=>⟨_,h03 _ U,_,U,l,h.aF U,?_⟩
 refine h.cz (s:=l) (i:=n) (j:=n.toNat) om hx2 λa4 ha4 h04 hc4=>⟨_,hc4 1 _ U,Go.Vc.a2 ?_⟩
 have h:=h.F3 hb1 (pR c0 c1);have hqok:wV (m.q (m.th n).co):=by obtain⟨_,e,_⟩:=h.FR;exact e
 have hlen:=xt hqok hm.uE;have hfew:=hm.eC;refine mO h om λw h=>?_;have h:=h.Iv (qs:=m.qs) hb1 om;exact hK w (Ow.kV (m:=m.cr n) (bs:=bs) (by unfold Mt.cr Mt.ib Mt.aJ;simpa using hbs) h)
theorem Ir(hi:bF (-1) m){n:O}(hn:m.cH n=Z):bN b (m.ib (m.th n).co (eV (m.q (m.th n).co) n).2)=bN b (m.bz n):=by
 have hc:=hi.co hn;obtain⟨c0,c1⟩:=fF.1 hc;have same:(m.th n).st≠1->m.qs.set (m.th n).co.toNat (eV (m.q (m.th n).co) n).2=m.qs:=λe=>by
  have:wh (m.q (m.th n).co) n=none:=lv.2 λx hx e2=>by obtain⟨p,k⟩:=x;have e2:k=n:=e2;subst e2;exact e ((hi.AV _ hc p k).1 hx).2.2.2.1
  unfold eV;rw[this];exact zL c0 c1
 unfold Mt.bz;by_cases e:(m.th n).st=1
 .rw[qd e]
 .rw[F e]
  split
  .exact uQ U (same e)
  .exact uQ U (same e)
theorem jB{n:O}{K:Pw}(hi:bF (-1) m)(hn:m.cH n=Z)(h:Ow B w0 w (bN b m::R))(hK:∀w',Ow B w0 w' (bN b (m.bz n)::R)->K w'):Qi b.o n K w:=by
 apply Y8;obtain⟨l,q,bs,hbs,h⟩:=h.BG;obtain⟨n0,n1,hx⟩:=bI hn;obtain⟨⟨c0,c1⟩,_⟩:=hi.ok.th hn;obtain⟨b1,hb1⟩:∃x,bs[(m.th n).co.toNat]?=S x:=⟨_,gE om⟩
 refine h.dr λw h=>?_;refine⟨_,U,q,h.aE U,_,U,l,h.aF U,h.cz (s:=l) (i:=n) (j:=n.toNat) om hx λa2 ha2 h0 hc2=>⟨_,hc2 2 _ U,?_⟩⟩
 refine h.cz (s:=q) (j:=(m.th n).co.toNat) (by show(m.th n).co=_;omega) hb1 λa3 ha3 h03 hc3=>⟨_,h03 _ U,Go.Vc.a2 ?_⟩
 have h:=h.F3 hb1 (pR c0 c1);refine lV h λw h=>?_;have h:=h.Iv (qs:=m.qs) hb1 om;have h2:Ow B w0 w (bN b (m.ib (m.th n).co (eV (m.q (m.th n).co) n).2)::R):=Ow.kV (bs:=bs) (by unfold Mt.ib;simpa using hbs) h;rw[Ir hi hn]at h2;exact hK w h2
def As(m:Mt)(c:O):Prop:=∀i,m.cH i=Z->(m.bP c=S i↔((m.th i).st=2/\(m.th i).co=c))
theorem bF.rY(hi:bF (-1) m)(c:O):As m c:=λi hT=>by
 have i0:=(bI hT).1;constructor
 .intro h;have:=hi.runIn h;exact⟨this.2.2.2,this.2.2.1⟩
 .rintro ⟨h1,h2⟩
  have hc:m.fC c=true:=by rw[<-h2];exact hi.co hT
  have:=(hi.inr c hc i hT).2 ⟨om,h2,h1⟩;unfold Mt.bP;rw[this,qd ⟨hc,om⟩]
theorem eh{c:O}{K:O->W->Pw}(hm:fH m)(hr:As m c)(h:Ow B w0 w (bN b m::R))(hK:K ((m.bP c).getD 0) (m.bP c).isSome w):OZ b.o c K w:=by
 apply Y1;have hfew:=hm.eC;obtain⟨l,q,bs,hbs,h⟩:=h.BG;have hl:=h.aL l;intro l3 hl3;have loop:∀(j i:X),i+j=m.br.length->(∀k:X,k<i->m.bP c≠S (k:O))->l3 (i:O) w:=by
  intro j;induction j with
  |zero=>
   intro i hij hno;apply hl3;refine⟨_,U,l,h.aF U,aw om ?_⟩;cases e:m.bP c with
   |none=>rw[e]at hK;exact hK
   |some o=>
    have hT:=bI (hm.runT e).2.2.2;exact qj (by rw[e,Ox hT.1]) (hno o.toNat om)
  |succ j ih=>
   intro i hij hno;apply hl3;refine⟨_,U,l,h.aF U,az om ?_⟩;have iT:m.cH (i:O)=true:=by unfold Mt.cH;simp;omega
   have hx:=(bI iT).2.2;have hri:=hr (i:O) iT;rw[Lw]at hx;intro k8 hk8;have yes:m.bP c=S (i:O)->k8 Z w:=λe=>by rw[e]at hK;exact hk8 _ _ (bh U hK)
   have no:m.bP c≠S (i:O)->k8 G w:=λe=>by
    refine hk8 _ _ (bc U ?_);rw[wI i om];refine ih (i+1) om λk hk=>?_;by_cases e2:k=i
    .rw[e2];exact e
    .exact hno k om
   refine⟨_,U,l,h.aF U,h.cz (s:=l) (i:=(i:O)) (j:=i) U hx λa2 ha2 h0 hc2=>⟨_,hc2 0 _ U,?_⟩⟩
   refine dE (λe=>?_) (λe=>no λe2=>e (hri.1 e2).1);refine⟨_,U,l,h.aF U,h.cz (s:=l) (i:=(i:O)) (j:=i) U hx λa2 ha2 h0 hc2=>⟨_,hc2 2 _ U,?_⟩⟩
   by_cases e2:(m.th (i:O)).co=c
   .rw[show((m.th (i:O)).co==c)=Z from by simpa using e2]
    exact yes (hri.2 ⟨e,e2⟩)
   .rw[show((m.th (i:O)).co==c)=G from by simpa using e2]
    exact no λe3=>e2 (hri.1 e3).2
 exact loop m.br.length 0 om (λk hk=>by omega)
theorem zP{n:O}{t':rj}{c:X}{v:Q}{k:Pw}(hn:m.cH n=Z)(h:Ow B w0 w (bN b m::R))(he:ff.enc t'=(ff.enc (m.th n)).set c v)(hc:c<12)(hv:v.oneCell'=Z)
  (hk:∀w',Ow B w0 w' (bN b (m.aJ n t')::R)->k w'):∃a:qg,S (b.p:qg)=S a/\∃l:Sl,w.cell? a=S l.v/\∃a2:qg,l.a=S a2/\0<=n/\n<(l.len:O)/\St w ((a2.add (n.toNat*12)).add c) v k:=by
 obtain⟨n0,n1,hx⟩:=bI hn;obtain⟨l,q,bs,hbs,h⟩:=h.BG;refine⟨_,U,l,h.aF U,h.cz (s:=l) (i:=n) (j:=n.toNat) om hx λa ha h0 hcc=>?_⟩;exact JW (c:=c) (t':=t') h n0 hx ha he hc hv λw h=>hk w (Ow.kV (m:=m.aJ n t') hbs h)
theorem sI{n x:O}{c:X}{k:O->Prop}(hn:m.cH n=Z)(h:Ow B w0 w (bN b m::R))(he:(ff.enc (m.th n))[c]?=S (.z x))(hk:k x):
  ∃a:qg,S (b.p:qg)=S a/\∃l:Sl,w.cell? a=S l.v/\∃a2:qg,l.a=S a2/\0<=n/\n<(l.len:O)/\∃y:O,w.cell? ((a2.add (n.toNat*12)).add c)=S (.z y)/\k y:=by
 obtain⟨n0,n1,hx⟩:=bI hn;obtain⟨l,q,bs,hbs,h⟩:=h.BG;exact⟨_,U,l,h.aF U,h.cz (s:=l) (i:=n) (j:=n.toNat) om hx λa ha h0 hcc=>⟨_,hcc c _ he,hk⟩⟩
theorem gB{n:O}{K:O->Pw}(hi:bF (-1) m)(h:Ow B w0 w (bN b m::R))(hK:∀w',Ow B w0 w' (bN b (m.bJ n).2::R)->K (m.bJ n).1 w'):Qu b.o n K w:=by
 apply YY;unfold Mt.bJ at hK;refine eY h ?_;cases hT:m.cH n with
 |false=>rw[qd hT]at hK;exact bh U (hK w h)
 |true=>
  rw[F (by rw[hT];simp)]at hK;refine bc U ?_;intro k5 hk5;have bad:(m.th n).st=1\/(m.th n).st=2->k5 Z w:=λe=>by rw[qd e]at hK;exact hk5 _ _ (bh U (hK w h))
  refine sI (c:=0) hT h U ?_;refine dE (λe=>bad (.inl e)) (λe=>?_);refine sI (c:=0) hT h U ?_;by_cases e2:(m.th n).st=2
  .rw[show((m.th n).st==2)=Z from by simpa using e2];exact bad (.inr e2)
  .rw[show((m.th n).st==2)=G from by simpa using e2]
   rw[F (λhh=>hh.elim e e2)]at hK;exact hk5 _ _ (bc U (im hi.ok hT h hK))
theorem jA{n:O}{K:O->Pw}(hi:bF (-1) m)(h:Ow B w0 w (bN b m::R))(hK:∀w',Ow B w0 w' (bN b (m.bV n).2::R)->K (m.bV n).1 w'):Rs b.o n K w:=by
 apply Y9;unfold Mt.bV at hK;refine eY h ?_;cases hT:m.cH n with
 |false=>rw[qd hT]at hK;exact bh U (hK w h)
 |true=>
  rw[F (by rw[hT];simp)]at hK;refine bc U ?_;refine sI (c:=0) hT h U ?_;refine dE (λe=>?_) (λe=>?_)
  .rw[qd e]at hK;exact hK w h
  .rw[F e]at hK
   refine jB hi hT h λw h=>?_;refine zP (c:=0) (t':={ m.th n with st:=0}) (by rw[jr];exact hT) h (by rw[nA];rfl) qb U λw h=>?_;exact hK w h
theorem rU{n:O}{K:O->Pw}(hi:bF (-1) m)(h:Ow B w0 w (bN b m::R))(hK:∀w',Ow B w0 w' (bN b (m.gl n).2::R)->K (m.gl n).1 w'):T9 b.o n K w:=by
 apply Zc;unfold Mt.gl at hK;refine eY h ?_;cases hT:m.cH n with
 |false=>rw[qd hT]at hK;exact bh U (hK w h)
 |true=>
  rw[F (by rw[hT];simp)]at hK;refine bc U ?_;refine sI (c:=0) hT h U ?_;refine oU (λe=>?_) (λe=>?_)
  .rw[qd e]at hK;exact hK w h
  .rw[F (λhh=>hh e)]at hK
   refine zP (c:=0) (t':={ m.th n with st:=3}) hT h U qb U λw h=>?_;have e1:bN b (m.leave n 3)=bN b (m.aJ n { m.th n with st:=3}):=by unfold Mt.leave Mt.bz;rw[F om,qd e];exact uQ U U
   rw[e1]at hK;exact hK w h
theorem ti{n p:O}{K:O->Pw}(hi:bF (-1) m)(h:Ow B w0 w (bN b m::R))(hK:∀w',Ow B w0 w' (bN b (m.fO n p).2::R)->K (m.fO n p).1 w'):Tq b.o n p K w:=by
 apply Za;unfold Mt.fO at hK;refine eY h ?_;cases hT:m.cH n with
 |false=>rw[qd hT]at hK;exact bh U (hK w h)
 |true=>
  rw[F (by rw[hT];simp)]at hK;refine bc U ?_;refine lH ?_;by_cases hp:0<=p/\p<256
  .rw[F (λhh=>hh hp)]at hK
   rw[qu hp];refine bc U ?_;refine jB hi hT h λw h=>?_;have hT0:(m.bz n).cH n=true:=by rw[jr];exact hT
   refine zP (c:=1) (t':={ m.th n with pr:=p}) hT0 h (by rw[nA];rfl) qb U λw h=>?_;have hT1:((m.bz n).aJ n { m.th n with pr:=p}).cH n=true:=by rw[db];exact hT0
   have e1:((m.bz n).aJ n { m.th n with pr:=p}).th n={ m.th n with pr:=p}:=by rw[dF hT0,qd U]
   refine sI (x:=(m.th n).st) (c:=0) hT1 h (by rw[e1];rfl) ?_;refine dE (λe=>?_) (λe=>?_)
   .rw[qd e]at hK
    have hs:m.th n={ m.th n with st:=1}:=by
     have:(m.th n).st=1:=e;cases hth:m.th n with
     |mk a b c d f=>rw[hth]at this;have this:a=1:=this;subst this;rfl
    have e2:((m.leave n 1).aJ n {(m.leave n 1).th n with pr:=p})=(m.bz n).aJ n { m.th n with pr:=p}:=by rw[iG hT,qd U];unfold Mt.leave;rw[BI,<-hs]
    rw[e2]at hK;have hm2:fH ((m.bz n).aJ n { m.th n with pr:=p}):=hi.ok.bz.aJ (t:={ m.th n with pr:=p}) (by rw[cX.2];exact(hi.ok.th hT).1) U;exact im hm2 hT1 h hK
   .rw[F e]at hK
    have e2:bN b (m.aJ n { m.th n with pr:=p})=bN b ((m.bz n).aJ n { m.th n with pr:=p}):=by unfold Mt.bz;rw[F e];split<;>exact uQ U U
    rw[e2]at hK;exact hK w h
  .rw[qd hp]at hK
   rw[qm hp];exact bh U (hK w h)
theorem lF{p c:O}{K:O->O->Pw}(hm:fH m)(h:Ow B w0 w (bN b m::R))(hK:∀w',Ow B w0 w' (bN b (m.cw p c).2.2::R)->K (m.cw p c).1 (m.cw p c).2.1 w'):Rb b.o p c K w:=by
 apply YX;unfold Mt.cw at hK;have hfew:=hm.eC;intro k4 hk4;have bad:¬(0<=p/\p<256/\m.fC c=Z)->k4 Z w:=λe=>by rw[qd e]at hK;exact hk4 _ _ (bh U (hK w h))
 refine lH ?_;by_cases hp:0<=p/\p<256
 .rw[qu hp]
  refine bc U ?_;refine lG h ?_;cases hc:m.fC c with
  |false=>exact bad λhh=>by rw[hc]at hh;cases hh.2.2
  |true=>
   rw[F (λhh=>hh ⟨hp.1,hp.2,hc⟩)]at hK;refine hk4 _ _ (bc U ?_);obtain⟨l,q,bs,hbs,h⟩:=h.BG;have hl:=h.aL l;refine⟨_,U,l,h.aF U,bo (λe2=>?_) (λe2=>?_)⟩
   .rw[qd om]at hK
    exact hK w (Ow.kV hbs h)
   .rw[F om]at hK
    refine⟨_,U,l,h.aF U,h.a λd w1 h=>?_⟩;refine Ow.eL (s:=l) (E:=ff) (xs:=m.br) (y:=⟨0,p,c,5,λ_=>0⟩) aaO (show qe.info? 139=S qS from by kernel_rfl) (zv:=(qS.zero).get qa) qa qa qa qb h (by
     have e:qS.bytes=96:=qa
     rw[e];omega) λs' w hs' h=>?_
    refine⟨_,U,?_⟩;have h:=h.cq;refine h.jH U U λw h=>?_;refine⟨_,U,s',h.aF U,?_⟩;rw[show qf.wrap ((s'.len:O)-1)=(m.br.length:O)from by rw[hs',wr om om];omega];exact hK w (Ow.kV (m:=m.make p c) (l:=s') (q:=q) (bs:=bs) hbs h)
 .rw[qm hp]
  exact bh U (bad λhh=>hp ⟨hh.1,hh.2.1⟩)
theorem uo(hi:bF (-1) m){o:O}(hT:m.cH o=Z)(hs:(m.th o).st=2):bN b ((m.leave o 1).cr o)=bN b (m.cr o):=by
 have e1:(m.leave o 1).th o={ m.th o with st:=1}:=by rw[iG hT,qd U]
 have e2:∀c,(m.leave o 1).q c=m.q c:=λc=>by unfold Mt.leave Mt.bz;rw[F om,qd hs];rfl
 have e3:(m.leave o 1).br=m.br.set o.toNat { m.th o with st:=1}/\(m.leave o 1).qs=m.qs:=by unfold Mt.leave Mt.bz;rw[F om,qd hs];exact⟨U,U⟩
 unfold Mt.cr;rw[e1,e2];unfold Mt.aJ Mt.ib;refine uQ ?_ ?_
 .simp only;rw[e3.1,List.set_set]
 .simp only;rw[e3.2]
theorem fR{c:O}{K:O->W->Pw}(hi:bF (-1) m)(h:Ow B w0 w (bN b m::R))(hK:∀w',Ow B w0 w' (bN b (m.aW c)::R)->K (((m.aW c).bP c).getD 0) ((m.aW c).bP c).isSome w'):P3 b.o c K w:=by
 apply YZ;have hi2:=hi.aW c;refine lG h ?_;cases hc:m.fC c with
 |false=>
  have e:m.bP c=none:=by unfold Mt.bP;rw[F (by rw[hc];simp)]
  have e2:m.aW c=m:=by unfold Mt.aW;rw[hc];rfl
  rw[e2,e]at hK;exact bh U (hK w h)
 |true=>
  obtain⟨c0,c1⟩:=fF.1 hc;refine bc U ?_;refine eh hi.ok (hi.rY c) h ?_;obtain⟨l,q,bs,hbs,h⟩:=h.BG;obtain⟨b1,hb1⟩:∃x,bs[c.toNat]?=S x:=⟨_,gE om⟩
  refine⟨_,U,q,h.aE U,h.cz (s:=q) (j:=c.toNat) om hb1 λa2 ha2 h0 hcc=>⟨_,h0 _ U,?_⟩⟩
  refine lU (h.F3 hb1 (pR c0 c1)) λw h=>?_;have h:=h.Iv (qs:=m.qs) hb1 om;rw[zL c0 c1]at h;have h:Ow B w0 w (bN b m::R):=Ow.kV hbs h;intro k15 hk15;refine h.dr λw h=>?_;have fin:∀w,Ow B w0 w (bN b (m.aW c)::R)->OZ b.o c (λr20 r21 w22=>K r20 r21 w22) w:=λw h=>eh hi2.ok (hi2.rY c) h (hK w h);have stay:m.aW c=m->k15 G w:=λe=>by refine hk15 _ _ ?_;intro k18 hk18;refine bc U (hk18 _ ?_);rw[e]at fin;exact fin w h
  have pc:m.aW c=m.pick c:=by unfold Mt.aW;rw[hc];rfl
  cases hn:fZ (m.q c)with
  |none=>
   refine bc U (stay ?_);rw[pc];unfold Mt.pick;rw[hn]
  |some n=>
   obtain⟨hT,hco,hst⟩:=hi.Fz hc hn;rw[hn]at hk15;refine bh U ?_;have last:∀(m1:Mt)(w:J)(k:Pw),bF (-1) m1->m1.cH n=Z->m.aW c=(m1.leave n 2).gD c n->(∀w',Ow B w0 w' (bN b (m.aW c)::R)->k w')->Ow B w0 w (bN b m1::R)->Qi b.o n (λw25=>
  ∃a26:qg,S (b.p:qg)=S a26/\
  ∃l27:Sl,w25.cell? a26=S l27.v/\
  ∃a28:qg,l27.a=S a28/\0<=n/\n<(l27.len:O)/\
  St w25 (a28.add (n.toNat*12)) (.z (2:O)) λw29=>k w29) w:=λm1 w k hi1 hT1 hp hk h=>by
    refine jB hi1 hT1 h λw h=>?_;refine zP (c:=0) (t':={ m1.th n with st:=2}) (by rw[jr];exact hT1) h (by rw[nA];rfl) qb U λw h=>?_;rw[hp]at hk;exact hk w h
   cases hr:m.bP c with
   |none=>
    have hr1:m.run c= -1:=by
     unfold Mt.bP at hr;split at hr
     .cases hr
     .rename_i hh
      by_cases e:m.run c= -1
      .exact e
      .exact qj ⟨hc,e⟩ hh
    rw[hr]at hk15;refine bh U (hk15 _ _ ?_);intro k18 hk18;refine bh U ?_;intro k23 hk23;refine bc U (hk23 _ ?_);exact last m w k18 hi hT (by rw[pc];unfold Mt.pick;rw[hn];simp only;rw[qd hr1]) (λw h=>hk18 _ (fin w h)) h
   |some o=>
    obtain⟨_,oT,oco,ost⟩:=hi.runIn hr;have ho:=hi.ok.runT hr;rw[hr]at hk15;refine bc U ?_;refine sI (c:=1) hT h U ?_;refine sI (c:=1) oT h U ?_;show k15 (V ((m.th n).pr>(m.th o).pr)) w;by_cases e:(m.th n).pr>(m.th o).pr
    .rw[qu e]
     refine hk15 _ _ ?_;intro k18 hk18;refine bh U ?_;intro k23 hk23;refine bh U ?_;refine im (n:=o) hi.ok oT h λw h=>hk23 _ ?_;have oT1:(m.leave o 1).cH o=true:=by rw[ed];exact oT
     rw[<-uo hi oT ost]at h;refine last ((m.leave o 1).cr o) w k18 ((hi.leave oT).up oT1) (by rw[fV,ed];exact hT) ?_ (λw h=>hk18 _ (fin w h)) h;rw[pc];unfold Mt.pick;rw[hn];simp only;rw[F (by rw[ho.2.1];exact ho.2.2.1),ho.2.1,F om]
    .rw[qm e]
     refine stay ?_;rw[pc];unfold Mt.pick;rw[hn];simp only;rw[F (by rw[ho.2.1];exact ho.2.2.1),ho.2.1,qd om]
theorem DS{c o v:O}(hi:bF (-1) m)(hT:m.cH o=Z):As (m.aJ o { m.th o with le:=v}) c:=λi hiT=>by
 rw[db]at hiT;rw[dF hT];have:=hi.rY c i hiT;show m.bP c=S i↔_;rw[this];by_cases e:i=o
 .subst e;rw[qd U]
 .rw[F e]
theorem kH{c o v:O}{K:W->Pw}(hi:bF (-1) m)(hr:m.bP c=S o)(h:Ow B w0 w (bN b (m.aJ o { m.th o with le:=v})::R))(hK:∀w',Ow B w0 w' (bN b (m.yield c)::R)->K Z w'):Qy b.o c K w:=by
 apply Vs;obtain⟨hc,oT,oco,ost⟩:=hi.runIn hr;have oT1:∀t,(m.aJ o t).cH o=true:=λt=>by rw[db];exact oT
 refine eh (hi.ok.aJ (t:={ m.th o with le:=v}) (hi.ok.th oT).1 U) (DS hi oT) h ?_;have hr2:(m.aJ o { m.th o with le:=v}).bP c=S o:=hr;rw[hr2];refine bc U ?_;have e1:(m.aJ o { m.th o with le:=v}).th o={ m.th o with le:=v}:=by rw[dF oT,qd U]
 refine zP (n:=o) (c:=3) (t':={ m.th o with le:=5}) (oT1 _) h (show ff.enc { m.th o with le:=5}=(ff.enc ((m.aJ o { m.th o with le:=v}).th o)).set 3 (.z 5)from by rw[e1];rfl) qb U λw h=>?_;rw[BI]at h;have hi1:bF (-1) (m.aJ o { m.th o with le:=5}):=hi.E9 (t:={ m.th o with le:=5}) oT U U (λ_=>rfl) (hi.pr o oT) ⟨by show(1:O)<=5;decide,by show(5:O)<=5;decide⟩;refine im (n:=o) hi1.ok (oT1 _) h λw h=>?_;rw[<-uo hi1 (oT1 _) (by rw[dF oT,qd U];exact ost)]at h;have hy:m.yield c=(((m.aJ o { m.th o with le:=5}).leave o 1).cr o).aW c:=by unfold Mt.yield;rw[hr]
 rw[hy]at hK;exact fR ((hi1.leave (oT1 _)).up (by rw[ed];exact oT1 _)) h λw h=>hK w h
theorem rV{c:O}{K:W->Pw}(hi:bF (-1) m)(h:Ow B w0 w (bN b m::R))(hK:∀w',Ow B w0 w' (bN b (m.yield c)::R)->K (m.bP c).isSome w'):Qy b.o c K w:=by
 cases hr:m.bP c with
 |none=>
  apply Vs;refine eh hi.ok (hi.rY c) h ?_;unfold Mt.yield at hK;rw[hr]at hK|-;exact bh U (hK w h)
 |some o=>
  obtain⟨hc,oT,oco,ost⟩:=hi.runIn hr;rw[hr]at hK;refine kH (o:=o) (v:=(m.th o).le) hi hr ?_ hK;obtain⟨o0,o1,hx⟩:=bI oT;have:m.aJ o { m.th o with le:=(m.th o).le}=m:=by
   unfold Mt.aJ;have e:m.br.set o.toNat (m.th o)=m.br:=by
    apply L5;intro t;rw[Mb];by_cases e:o.toNat=t
    .subst e;rw[qd U,qd om,hx]
    .rw[F e]
   show { m with br:=m.br.set o.toNat (m.th o)}=m;rw[e]
  rw[this];exact h
theorem tj{c:O}{K:W->Pw}(hi:bF (-1) m)(h:Ow B w0 w (bN b m::R))(hK:∀w',Ow B w0 w' (bN b (m.tick c)::R)->K (m.bP c).isSome w'):Q6 b.o c K w:=by
 apply YV;refine eh hi.ok (hi.rY c) h ?_;rw[Cx hi]at hK;cases hr:m.bP c with
 |none=>
  rw[hr]at hK;exact bh U (hK w h)
 |some o=>
  obtain⟨hc,oT,oco,ost⟩:=hi.runIn hr;obtain⟨o0,o1,hx⟩:=bI oT;have hle:=hi.le o oT;rw[hr]at hK;simp only at hK;refine bc U ?_;refine h.dr λw h=>?_;have h2:=h;obtain⟨l,q,bs,hbs,h⟩:=h.BG;refine⟨_,U,l,h.aF U,_,U,l,h.aF U,h.cz (s:=l) (i:=o) (j:=o.toNat) om hx λa ha h0 hcc=>⟨_,hcc 3 _ U,?_⟩⟩
  refine h.cz (s:=l) (i:=o) (j:=o.toNat) om hx λa ha h0 hcc=>Go.Vc.a2 ?_;rw[wr om om];refine JW (c:=3) (t':={ m.th o with le:=(m.th o).le-1}) h o0 hx ha U qb U λw h=>?_;have h:Ow B w0 w (bN b (m.aJ o { m.th o with le:=(m.th o).le-1})::R):=Ow.kV (m:=m.aJ o { m.th o with le:=(m.th o).le-1}) hbs h;refine sI (n:=o) (x:=(m.th o).le-1) (c:=3) (by rw[db];exact oT) h (by rw[dF oT,qd U];rfl) ?_;refine dE (λe=>?_) (λe=>?_)
  .rw[qd om]at hK
   exact kH hi hr h λw h=>hK w h
  .rw[F om]at hK
   exact hK w h
theorem CS{s:Sl}{ys:Y X}{y:X}{c:X}{L:Y aH}{k:Sl->Pw}[abw:cu s L X dO ys][abq:fh (af dO s ys) L R](h:Ow B w0 w (aa c [.q y]::L))(hbig:ys.length<=1000000000)
  (hk:∀s' w',s'.len=ys.length+1->Ow B w0 w' (af dO s' (ys++ [y])::R)->k s' w'):
  ∃s' w',aM qe [134,134] 134 s.v (.slice (S c.p) 1 1) w s' w'/\k s' w':=
 Ow.eL (E:=dO) (y:=y) underlying134 (show qe.info? 259=S aa4 from by kernel_rfl) (zv:= .pointer N) qa qa U qb h (by
  have e:aa4.bytes=8:=qa
  rw[e];omega) hk
theorem uK{c:X}{K:qh qg->O->Pw}(h1:1<=c)(h8:c<=8)(h:Ow B w0 w R)(hK1:∀b w',Ow B w0 w' (bN b (jv c)::R)->K b.o 0 w'):Sp (c:O) K w:=by
 apply YW;intro k2 hk2;refine aw om ?_;rw[qm (show ¬(c:O)>8 by omega)];refine hk2 _ _ (bc U ?_);refine h.a λt w2 h=>?_;have h:Ow B w0 w2 (af dO z0 []::_):=Ow.cZ h;have h:Ow B w0 w2 (af ff z0 []::_):=Ow.cZ h;intro l9 hl9;have loop:∀(k j:X)(q:Sl)(bs:Y X)(w:J),j+k=c->bs.length=j->Ow B w0 w (aa t [bg z0,bg q]::af ff z0 []::af dO q bs::(Lx cD bs (Ly j [])++R))->l9 (j:O) w:=by
  intro k;induction k with
  |zero=>
   intro j q bs w hj hbs h;obtain rfl:j=c:=om
   apply hl9;refine aw om ?_;exact hK1 t w (Ow.kV (m:=jv j) (l:=z0) (q:=q) (bs:=bs) (by simp[jv];exact hbs) h)
  |succ k ih=>
   intro j q bs w hj hbs h;apply hl9;refine az om ?_;refine⟨_,U,q,h.aE U,h.a λd3 w3 h=>?_⟩;have h:Ow B w0 w3 (af vo z0 []::_):=Ow.cZ h;have h:Ow B w0 w3 (cD d3 []::_):=Ow.pM (s:=z0) ⟨qc,qc,qc⟩ h.cq;refine h.a λd4 w4 h=>?_;refine CS (s:=q) (ys:=bs) (y:=d3) h om λq' w hq' h=>?_;refine⟨_,U,h.fK U U λw h=>?_⟩;rw[wI j om];refine ih (j+1) q' (bs++ [d3]) w om (by simp[hbs]) ?_;have ez:Lx cD (bs++ [d3]) (Ly (j+1) [])=Lx cD bs (Ly j [])++ [cD d3 []]:=by rw[PC,O1 (by simp[hbs])];rfl
   rw[ez,LN];have h2:Ow B w0 w (aa t [bg z0,q'.v]::af ff z0 []::af dO q' (bs++ [d3])::cD d3 []::(Lx cD bs (Ly j [])++R)):=h.sub;exact h2.perm (((Ml.symm.cons _).cons _).cons _)
 have h3:Ow B w0 w2 (aa t [bg z0,bg z0]::af ff z0 []::af dO z0 []::R):=h.kh;exact loop c 0 z0 [] w2 om U h3
end
end Th
theorem ZE{a b K w}:Fr (Si a b K w) (bif (a.len:O) !=(b.len:O)then K G w else ∀c:O->Pw,(∀(d:O)(e:J),(bif V (d<(a.len:O))then Dr e λf=>∃g,a.a=S g/\0<=d/\d<(a.len:O)/\ax f (g.add (d.toNat*8)) 0 [.o,.o,.o,.o,.o,.u,.u,.o] λ(a g h i j k l m:O)=>∃n,b.a=S n/\0<=d/\d<(b.len:O)/\ax f (n.add (d.toNat*8)) 0 [.o,.o,.o,.o,.o,.u,.u,.o] λ(b n o p q r s t:O)=>∃u,vl qe .neq 201 (.tmp 20) (.tmp 24) (.agg #[.z a,.z g,.z h,.z i,.z j,.y k,.y l,.z m]) (.agg #[.z b,.z n,.z o,.z p,.z q,.y r,.y s,.z t]) u/\bif u then K G f else c (qf.wrap (d+1)) f else K Z e)->c d e)->c 0 w):=aj func22 .g4
theorem ZF{a K w}:Fr (Q7 a K w) (A2 w [] 201 λb c=>∀d:Sl->O->Pw,(∀(b:Sl)(c:O)(e:J),(∃f,a=S f/\∃g,e.s f g/\bif V (c<(g.len:O))then ∀f:Sl->O->Pw,(∀(b:Sl)(e:O)(g:J),(∃h,a=S h/\∃i,g.s h i/\∃h,i.a=S h/\0<=c/\c<(i.len:O)/\∃i,g.s (h.add (c.toNat*1)) i/\bif V (e<(i.len:O))then ∃h,a=S h/\∃i,g.s h i/\∃h,i.a=S h/\0<=c/\c<(i.len:O)/\∃i,g.s (h.add (c.toNat*1)) i/\∃h,i.a=S h/\0<=e/\e<(i.len:O)/\∃i,g.z (h.add (e.toNat*6)) i/\bif i !=0 then ∃h,a=S h/\∃a,g.s h a/\∃h,a.a=S h/\0<=c/\c<(a.len:O)/\∃a,g.s (h.add (c.toNat*1)) a/\∃h,a.a=S h/\0<=e/\e<(a.len:O)/\ax g (h.add (e.toNat*6)) 0 [.o,.o,.o,.u,.u,.o] λ(a h i j k l:O)=>A2 g [.z c,.z e,.z a,.z h,.z i,.y j,.y k,.z l] 201 λa h=>∃i j,aM qe [78,78] 78 b.v (.slice (S a.p) 1 1) h i j/\f i (qf.wrap (e+1)) j else f b (qf.wrap (e+1)) g else d b (qf.wrap (c+1)) g)->f b e g)->f b 0 e else K b e)->d b c e)->d ⟨S b.p,0,0⟩ 0 c):=aj func24 (.v (.v (.y (.v (.x (.t (S [(3,.c .s),(4,.c (.i .i64))]) (.y (.v .w) .KO) .u))) .w)))
theorem ZG{a b K w}:Fr (Ra a b K w) (∀c:W->Pw,(∀(d:W)(e:J),(bif d then K 0 1 e else ∃c,a=S c/\∃d,e.s c d/\bif V ((d.len:O)>=64)then K 0 2 e else ∀c:Pw,(∀b:J,(∃c,a=S c/\∃a,b.s c a/\K (qf.wrap ((a.len:O)-1)) 0 b)->c b)->(Dr e λd=>∃e,a=S e/\(∃f,d.s e f/\(ON b (λb d=>(∃(e:Sl)(g:J),km qe 202 (.z (qf.wrap b)) (.z (qf.wrap b)) d e g/\(A2 g [e.v] 202 λb d=>(∃e g,aM qe [121,121] 121 f.v (.slice (S b.p) 1 1) d e g/\∃b,a=S b/\(St g b e.v λa=>c a)/\I)/\I)/\I)/\I) d)/\I)/\(ON b (λb d=>(∃f,d.s e f/\(∃(e:Sl)(g:J),km qe 202 (.z (qf.wrap b)) (.z (qf.wrap b)) d e g/\(A2 g [e.v] 202 λb d=>(∃e g,aM qe [121,121] 121 f.v (.slice (S b.p) 1 1) d e g/\∃b,a=S b/\(St g b e.v λa=>c a)/\I)/\I)/\I)/\I)/\(∃(f:Sl)(g:J),km qe 202 (.z (qf.wrap b)) (.z (qf.wrap b)) d f g/\∃b,g.s e b/\(A2 g [f.v] 202 λd e=>(∃f g,aM qe [121,121] 121 b.v (.slice (S d.p) 1 1) e f g/\∃b,a=S b/\(St g b f.v λa=>c a)/\I)/\I)/\I)/\I) d)/\I))->c d e)->(bif V (b<1)then c Z w else c (V (b>8)) w)):=aj func47 (.v (.y (.y (.r (S [(11,.c .b)]) .done) (.x .w)) (.y (.v (.x .w)) (.y (.r (S []) (.o 0 2046 (.o 1 992 (.o 2 992 (.o 3 992 (.o 5 16 (.f 4 (.e 6 (.o 7 0 .La)) (.e 6 (.o 7 16 (.f 4 .La (.e 8 (.o 4 512 .Kb)))))))))))) .w))))
theorem ZH{a b c d e f g h i K w}:Fr (Rl a b c d e f g h i K w) (A2 w [.z b,.z c] 155 λb c=>A2 c [.z d,.z e,.z f,.y g,.y h,.z i] 157 λc d=>ax d b.p 0 [.o,.o] λ(e f:O)=>PS a e f (λd e=>bif !d then K 50 e else ax e c.p 0 [.o,.o,.o,.u,.u,.o] λ(d f g h i j:O)=>Rv d f g h i j (λd e=>bif d !=0 then K d e else ∃d,e.z c.p d/\bif d==0 then K 1 e else Dr e λd=>∃e,a=S e/\∃f,d.s e f/\∃e,d.z b.p e/\∃g,f.a=S g/\0<=e/\e<(f.len:O)/\∃f,d.s (g.add (e.toNat*1)) f/\∃e,d.z (b.p.add 1) e/\∃g,f.a=S g/\0<=e/\e<(f.len:O)/\∃f,d.z (g.add (e.toNat*6)) f/\bif f !=0 then K 51 d else Dr d λd=>∃e,a=S e/\∃a,d.s e a/\∃e,d.z b.p e/\∃f,a.a=S f/\0<=e/\e<(a.len:O)/\∃a,d.s (f.add (e.toNat*1)) a/\∃e,d.z (b.p.add 1) e/\ax d c.p 0 [.o,.o,.o,.u,.u,.o] λ(b c f g h i:O)=>∃j,a.a=S j/\0<=e/\e<(a.len:O)/\(aB d (j.add (e.toNat*6)) 0 [.z b,.z c,.z f,.y g,.y h,.z i] λa=>K 0 a)/\I) e) d):=aj func130 (.v (.y (.v (.x .w)) (.v (.y (.v (.x .w)) (.y (.v (.x .w)) (.y .g9 .g10))))))
theorem ZI{a b c d e K w}:Fr (Tn a b c d e K w) (A2 w [.z b,.z c] 155 λb c=>A2 c [.z d,.z e] 155 λc d=>∀e:W->Pw,(∀(d:W)(f:J),(bif d then K 50 f else Dr f λd=>∃e,a=S e/\∃f,d.s e f/\∃e,d.z b.p e/\∃g,f.a=S g/\0<=e/\e<(f.len:O)/\∃f,d.s (g.add (e.toNat*1)) f/\∃e,d.z (b.p.add 1) e/\∃g,f.a=S g/\0<=e/\e<(f.len:O)/\∃f,d.z (g.add (e.toNat*6)) f/\bif f==0 then K 52 d else Dr d λd=>∃e,a=S e/\∃f,d.s e f/\∃e,d.z c.p e/\∃g,f.a=S g/\0<=e/\e<(f.len:O)/\∃f,d.s (g.add (e.toNat*1)) f/\∃e,d.z (c.p.add 1) e/\∃g,f.a=S g/\0<=e/\e<(f.len:O)/\∃f,d.z (g.add (e.toNat*6)) f/\bif f !=0 then K 51 d else Dr d λd=>∃e,a=S e/\∃f,d.s e f/\∃e,d.z c.p e/\∃g,f.a=S g/\0<=e/\e<(f.len:O)/\∃f,d.s (g.add (e.toNat*1)) f/\∃e,d.z (c.p.add 1) e/\∃c,a=S c/\∃g,d.s c g/\∃c,d.z b.p c/\∃h,g.a=S h/\0<=c/\c<(g.len:O)/\∃g,d.s (h.add (c.toNat*1)) g/\∃c,d.z (b.p.add 1) c/\∃h,g.a=S h/\0<=c/\c<(g.len:O)/\ax d (h.add (c.toNat*6)) 0 [.o,.o,.o,.u,.u,.o] λ(c g h i j k:O)=>∃l,f.a=S l/\0<=e/\e<(f.len:O)/\(aB d (l.add (e.toNat*6)) 0 [.z c,.z g,.z h,.y i,.y j,.z k] λc=>Dr c λc=>∃d,a=S d/\∃a,c.s d a/\∃d,c.z b.p d/\∃e,a.a=S e/\0<=d/\d<(a.len:O)/\∃a,c.s (e.add (d.toNat*1)) a/\∃d,c.z (b.p.add 1) d/\∃b,a.a=S b/\0<=d/\d<(a.len:O)/\(aB c (b.add (d.toNat*6)) 0 [.z 0,.z 0,.z 0,.y 0,.y 0,.z 0] λa=>K 0 a)/\I)/\I)->e d f)->(ax d b.p 0 [.o,.o] λ(b f:O)=>PS a b f (λb d=>bif !b then e Z d else ax d c.p 0 [.o,.o] λ(b c:O)=>PS a b c (λa b=>e (!a) b) d) d)):=aj func173 (.v (.y (.y (.r (S [(16,.c .b)]) .done) (.x .w)) (.y .g9 (.y .g9 (.y (.z (.o 0 4194096 (.o 1 4194096 (.o 2 4194096 (.o 3 4194096 (.o 4 4194048 (.o 5 4194048 (.o 6 4194048 (.o 7 4194048 (.o 8 4193280 (.o 9 4193280 (.o 10 835584 (.o 11 835584 (.o 12 835584 (.o 13 835584 (.o 14 786432 (.o 15 786432 (.o 16 786432 (.o 17 786432 (.o 18 0 (.o 19 0 (.o 20 0 (.o 21 0 (.o 22 0 (.e 23 .done))))))))))))))))))))))))) .g10)))))
theorem ZJ{a b c K w}:Fr (PS a b c K w) (A2 w [.z b,.z c] 155 λb c=>Dr c λc=>∃d,c.z b.p d/\bif V (d>=0)then ∃d,c.z b.p d/\∃e,a=S e/\∃f,c.s e f/\bif V (d<(f.len:O))then ∃d,c.z (b.p.add 1) d/\bif V (d>=0)then ∃d,c.z (b.p.add 1) d/\∃e,a=S e/\∃a,c.s e a/\∃e,c.z b.p e/\∃b,a.a=S b/\0<=e/\e<(a.len:O)/\∃a,c.s (b.add (e.toNat*1)) a/\K (V (d<(a.len:O))) c else K G c else K G c else K G c):=aj func235 (.v (.x (.z (.o 0 0 (.o 1 0 (.o 2 0 (.o 3 0 (.o 4 1984 (.o 5 1984 (.o 6 0 (.o 7 0 (.o 8 0 (.o 9 0 (.o 10 0 (.o 11 0 (.o 12 0 (.o 13 0 (.o 14 0 (.o 15 0 (.o 16 0 (.o 17 0 (.o 18 0 (.o 19 1071644672 (.o 20 1071644672 (.o 21 100663296 (.o 22 100663296 (.o 23 100663296 (.o 24 100663296 (.o 25 0 (.o 26 0 (.o 27 0 (.o 28 0 (.o 29 0 (.o 30 0 (.o 31 0 (.o 32 0 .done))))))))))))))))))))))))))))))))))))
theorem ZK{a b c K w}:Fr (TZ a b c K w) (A2 w [.z b,.z c] 155 λb c=>A2 c [.z 0,.z 0,.z 0,.y 0,.y 0,.z 0] 157 λc d=>ax d b.p 0 [.o,.o] λ(e f:O)=>PS a e f (λd e=>bif !d then aB e c.p 0 [.z 0,.z 0,.z 0,.y 0,.y 0,.z 0] λd=>ax d c.p 0 [.o,.o,.o,.u,.u,.o] λ(f g h i j k:O)=>K f g h i j k 50 d else Dr e λd=>∃e,a=S e/\∃a,d.s e a/\∃e,d.z b.p e/\∃f,a.a=S f/\0<=e/\e<(a.len:O)/\∃a,d.s (f.add (e.toNat*1)) a/\∃e,d.z (b.p.add 1) e/\∃b,a.a=S b/\0<=e/\e<(a.len:O)/\ax d (b.add (e.toNat*6)) 0 [.o,.o,.o,.u,.u,.o] λ(a b e f g h:O)=>(aB d c.p 0 [.z a,.z b,.z e,.y f,.y g,.z h] λa=>ax a c.p 0 [.o,.o,.o,.u,.u,.o] λ(b c d e f g:O)=>K b c d e f g 0 a)/\I) d):=aj func275 (.v (.y (.v (.x .w)) (.x (.z (.o 0 816 (.o 1 816 (.o 2 816 (.o 3 816 (.o 4 768 (.o 5 768 (.o 6 768 (.o 7 768 .K6))))))))))))
theorem ZL{a b c K w}:Fr (RH a b c K w) (A2 w [.z b,.z c] 155 λb c=>A2 c [.z 0,.z 0,.z 0,.y 0,.y 0,.z 0] 157 λc d=>ax d b.p 0 [.o,.o] λ(e f:O)=>PS a e f (λd e=>bif !d then aB e c.p 0 [.z 0,.z 0,.z 0,.y 0,.y 0,.z 0] λd=>ax d c.p 0 [.o,.o,.o,.u,.u,.o] λ(f g h i j k:O)=>K f g h i j k 50 d else Dr e λd=>∃e,a=S e/\∃f,d.s e f/\∃e,d.z b.p e/\∃g,f.a=S g/\0<=e/\e<(f.len:O)/\∃f,d.s (g.add (e.toNat*1)) f/\∃e,d.z (b.p.add 1) e/\∃g,f.a=S g/\0<=e/\e<(f.len:O)/\ax d (g.add (e.toNat*6)) 0 [.o,.o,.o,.u,.u,.o] λ(e f g h i j:O)=>(A2 d [.z 0,.z 0,.z 0,.y 0,.y 0,.z 0] 157 λd k=>(aB k d.p 0 [.z e,.z f,.z g,.y h,.y i,.z j] λe=>∃f,e.z d.p f/\bif f==0 then aB e c.p 0 [.z 0,.z 0,.z 0,.y 0,.y 0,.z 0] λf=>ax f c.p 0 [.o,.o,.o,.u,.u,.o] λ(g h i j k l:O)=>K g h i j k l 52 f else Dr e λe=>∃f,a=S f/\∃a,e.s f a/\∃f,e.z b.p f/\∃g,a.a=S g/\0<=f/\f<(a.len:O)/\∃a,e.s (g.add (f.toNat*1)) a/\∃f,e.z (b.p.add 1) f/\∃b,a.a=S b/\0<=f/\f<(a.len:O)/\(aB e (b.add (f.toNat*6)) 0 [.z 0,.z 0,.z 0,.y 0,.y 0,.z 0] λa=>ax a d.p 0 [.o,.o,.o,.u,.u,.o] λ(b d e f g h:O)=>aB a c.p 0 [.z b,.z d,.z e,.y f,.y g,.z h] λa=>ax a c.p 0 [.o,.o,.o,.u,.u,.o] λ(b c d e f g:O)=>K b c d e f g 0 a)/\I)/\I)/\I) d):=aj func282 (.v (.y (.v (.x .w)) (.y (.z (.o 0 4912 (.o 1 4912 (.o 2 4912 (.o 3 4912 (.o 4 4864 (.o 5 4864 (.o 6 4864 (.o 7 4864 (.o 8 4096 (.o 9 4096 (.o 10 4096 (.o 11 4096 (.e 12 (.e 13 .done))))))))))))))) (.y (.v (.x .w)) .g10))))
theorem ZM{a b K w}:Fr (P5 a b K w) (bif (a.len:O) !=(b.len:O)then K G w else ∀c:O->Pw,(∀(d:O)(e:J),(bif V (d<(a.len:O))then Dr e λf=>∃g,a.a=S g/\0<=d/\d<(a.len:O)/\ax f (g.add (d.toNat*2)) 0 [.o,.o] λ(a g:O)=>∃h,b.a=S h/\0<=d/\d<(b.len:O)/\ax f (h.add (d.toNat*2)) 0 [.o,.o] λ(b h:O)=>∃i,vl qe .neq 155 (.tmp 20) (.tmp 24) (.agg #[.z a,.z g]) (.agg #[.z b,.z h]) i/\bif i then K G f else c (qf.wrap (d+1)) f else K Z e)->c d e)->c 0 w):=aj func53 .g4
theorem ZN{a b c K w}:Fr (SV a b c K w) (A2 w [.z b,.z c] 155 λb c=>ax c b.p 0 [.o,.o] λ(d e:O)=>Pe a d e (λc d=>bif V (c>=0)then K 70 d else Dr d λc=>∃d,a=S d/\∃e,c.s d e/\ax c b.p 0 [.o,.o] λ(b d:O)=>(QL a (e.len:O) b d 0 (λa=>K 0 a) c)/\I) c):=aj func131 (.v (.y (.v (.x .w)) (.y (.z (.o 0 126 (.o 1 64 (.o 2 64 (.o 3 64 .Ke))))) .w)))
theorem ZO{a b c d e K w}:Fr (To a b c d e K w) (A2 w [.z b,.z c] 155 λb c=>A2 c [.z d,.z e] 155 λc d=>ax d b.p 0 [.o,.o] λ(b e:O)=>Pe a b e (λb d=>bif V (b<0)then K 71 d else ax d c.p 0 [.o,.o] λ(e f:O)=>Pe a e f (λd e=>bif V (d>=0)then K 70 e else Dr e λd=>∃e,a=S e/\∃a,d.s e a/\ax d c.p 0 [.o,.o] λ(c e:O)=>∃f,a.a=S f/\0<=b/\b<(a.len:O)/\(aB d (f.add (b.toNat*2)) 0 [.z c,.z e] λa=>K 0 a)/\I) d) d):=aj func174 (.v (.v (.y (.v (.x .w)) (.y (.v (.x .w)) (.y .KT .w)))))
theorem ZP{a b c K w}:Fr (Tp a b c K w) (A2 w [.z b,.z c] 155 λb c=>ax c b.p 0 [.o,.o] λ(b d:O)=>Pe a b d (λb c=>bif V (b<0)then K z0 c else Dr c λc=>∃d,a=S d/\∃e,c.s d e/\(A2 c [] 155 λc f=>(QX a b (λa f=>f.s d e/\0<=a/\a<=(e.cap:O)/\0<=qf.wrap (b+1)/\qf.wrap (b+1)<=(a.toNat:O)/\(∃d g,aM qe [124,124] 124 (.slice (S c.p) 0 0) (.slice (eU e.a ((qf.wrap (b+1)).toNat) e.cap 2) (a.toNat-((qf.wrap (b+1)).toNat)) (e.cap-((qf.wrap (b+1)).toNat))) f d g/\K d g)/\I) f)/\I)/\(QX a b (λa c=>c.s d e/\0<=a/\a<=(e.cap:O)/\0<=qf.wrap (b+1)/\qf.wrap (b+1)<=(a.toNat:O)/\(A2 c [] 155 λc d=>(∃f g,aM qe [124,124] 124 (.slice (S c.p) 0 0) (.slice (eU e.a ((qf.wrap (b+1)).toNat) e.cap 2) (a.toNat-((qf.wrap (b+1)).toNat)) (e.cap-((qf.wrap (b+1)).toNat))) d f g/\K f g)/\I)/\I) c)/\I) c):=aj func176 (.v (.v (.y (.v (.x .w)) (.x (.z (.o 1 993 (.o 2 993 (.o 3 993 (.o 5 913 (.o 6 913 (.o 7 273 (.o 8 17 (.hold 4 513 6143 (.f 0 (.e 9 .Jh) (.e 9 (.o 10 1 (.e 0 (.e 11 (.o 12 0 .done)))))))))))))))))))
theorem ZQ{a b c K w}:Fr (Pe a b c K w) (A2 w [.z b,.z c] 155 λb c=>∀d:O->Pw,(∀(c:O)(e:J),(∃f,a=S f/\∃g,e.s f g/\bif V (c<(g.len:O))then Dr e λf=>∃g,a=S g/\∃a,f.s g a/\∃g,a.a=S g/\0<=c/\c<(a.len:O)/\ax f (g.add (c.toNat*2)) 0 [.o,.o] λ(a g:O)=>ax f b.p 0 [.o,.o] λ(b h:O)=>∃i,vl qe .eql 155 (.tmp 21) (.tmp 22) (.agg #[.z a,.z g]) (.agg #[.z b,.z h]) i/\bif i then K c f else d (qf.wrap (c+1)) f else K (-1) e)->d c e)->d 0 c):=aj func237 (.v (.y (.v (.x (.t (S [(5,.c (.i .i64))]) (.y (.v .w) (.x (.x (.y (.z (.o 0 144 (.o 1 144 (.o 2 144 (.o 3 144 .K8))))) (.x .w))))) .u))) .w))
theorem ZR{a b c d e K w}:Fr (QL a b c d e K w) (A2 w [.z c,.z d] 155 λc d=>A2 d [] 155 λd f=>A2 f [] 3 λf g=>∀h:Sl->Sl->O->Pw,(∀(d f:Sl)(g:O)(i:J),(∃j,a=S j/\∃k,i.s j k/\bif V (g<=(k.len:O))then ∀j:Sl->Sl->Pw,(∀(b c:Sl)(d:J),(∃e,a=S e/\∃f,d.s e f/\bif V (g<(f.len:O))then ∃e,a=S e/\∃f,d.s e f/\∃e,f.a=S e/\0<=g/\g<(f.len:O)/\ax d (e.add (g.toNat*2)) 0 [.o,.o] λ(e f:O)=>A2 d [.z e,.z f] 155 λe f=>∃i j,aM qe [124,124] 124 b.v (.slice (S e.p) 1 1) f i j/\∃e,a=S e/\∃a,j.s (e.add 1) a/\∃e,a.a=S e/\0<=g/\g<(a.len:O)/\∃a,j.z (e.add (g.toNat*1)) a/\A2 j [.z a] 3 λa e=>∃f j,aM qe [22,22] 22 c.v (.slice (S a.p) 1 1) e f j/\h i f (qf.wrap (g+1)) j else h b c (qf.wrap (g+1)) d)->j b c d)->(bif g==b then ax i c.p 0 [.o,.o] λ(a b:O)=>A2 i [.z a,.z b] 155 λa b=>∃c g,aM qe [124,124] 124 d.v (.slice (S a.p) 1 1) b c g/\A2 g [.z e] 3 λa b=>∃e g,aM qe [22,22] 22 f.v (.slice (S a.p) 1 1) b e g/\j c e g else j d f i)else ∃b,a=S b/\St i b d.v λb=>∃c,a=S c/\St b (c.add 1) f.v λa=>K a)->h d f g i)->h ⟨S d.p,0,0⟩ ⟨S f.p,0,0⟩ 0 g):=aj func238 (.v (.v (.y (.v (.x (.t (S [(8,.c .s),(9,.c .s),(10,.c (.i .i64))]) (.y (.v .w) (.x (.x (.y (.v (.t (S [(8,.c .s),(9,.c .s)]) .w .u)) (.v (.x .w)))))) .u))) .w)))
theorem ZS{a b c d e K w}:Fr (T1 a b c d e K w) (A2 w [.z b,.z c] 155 λb c=>A2 c [.z d,.z e] 155 λc d=>ax d b.p 0 [.o,.o] λ(b e:O)=>Pe a b e (λb d=>bif V (b<0)then K 71 d else ax d c.p 0 [.o,.o] λ(e f:O)=>Pe a e f (λd e=>bif V (d>=0)then K 70 e else Dr e λd=>ax d c.p 0 [.o,.o] λ(c e:O)=>∃f,a=S f/\∃g,d.s (f.add 1) g/\∃f,g.a=S f/\0<=b/\b<(g.len:O)/\∃g,d.z (f.add (b.toNat*1)) g/\(QL a (qf.wrap (b+1)) c e (qf.wrap (g+1)) (λa=>K 0 a) d)/\I) d) d):=aj func280 (.v (.v (.y (.v (.x .w)) (.y (.v (.x .w)) (.y (.z (.o 0 4094 (.o 1 4088 (.o 2 4088 (.o 3 4080 (.o 4 256 (.o 5 256 (.o 6 256 .K3)))))))) .w)))))
theorem ZT{a b c K w}:Fr (T2 a b c K w) (A2 w [.z b,.z c] 155 λb c=>ax c b.p 0 [.o,.o] λ(b d:O)=>Pe a b d (λb c=>bif V (b<0)then K 71 c else QX a b (λc d=>A2 d [] 155 λd e=>A2 e [] 3 λe f=>∀g:Sl->Sl->O->Pw,(∀(d e:Sl)(f:O)(h:J),(∃i,a=S i/\∃j,h.s i j/\bif V (f<(j.len:O))then bif f==b then g d e (qf.wrap (f+1)) h else ∃i,a=S i/\∃j,h.s (i.add 1) j/\∃i,j.a=S i/\0<=f/\f<(j.len:O)/\∃j,h.z (i.add (f.toNat*1)) j/\∀i:W->Pw,(∀(b:W)(c:J),(∀h:O->Pw,(∀(b:O)(c:J),(∃h,a=S h/\∃a,c.s h a/\∃h,a.a=S h/\0<=f/\f<(a.len:O)/\ax c (h.add (f.toNat*2)) 0 [.o,.o] λ(a h:O)=>A2 c [.z a,.z h] 155 λa c=>∃h i,aM qe [124,124] 124 d.v (.slice (S a.p) 1 1) c h i/\A2 i [.z b] 3 λa b=>∃c d,aM qe [22,22] 22 e.v (.slice (S a.p) 1 1) b c d/\g h c (qf.wrap (f+1)) d)->h b c)->(bif b then h (qf.wrap (j-1)) c else h j c))->i b c)->(bif V (f>b)then i (V (f<c)) h else i G h)else ∃b,a=S b/\St h b d.v λb=>∃c,a=S c/\St b (c.add 1) e.v λa=>K 0 a)->g d e f h)->g ⟨S d.p,0,0⟩ ⟨S e.p,0,0⟩ 0 f) c) c):=aj func281 (.v (.v (.y (.v (.x .w)) (.v (.y (.v (.x (.t (S [(7,.c .s),(8,.c .s),(9,.c (.i .i64))]) (.y (.v .w) (.x (.x (.y (.v .w) (.v (.y (.y (.r (S [(47,.c .b)]) .done) (.t (S [(10,.c (.i .i64))]) .u .u)) .w)))))) .u))) (.v (.v .w)))))))
theorem ZU{a b K w}:Fr (QX a b K w) (∀c:O->Pw,(∀(d:O)(e:J),(∃f,a=S f/\∃g,e.s f g/\bif V (d<(g.len:O))then Dr e λf=>∃g,a=S g/\∃h,f.s (g.add 1) h/\∃g,h.a=S g/\0<=d/\d<(h.len:O)/\∃h,f.z (g.add (d.toNat*1)) h/\∃g,a=S g/\∃i,f.s (g.add 1) i/\∃g,i.a=S g/\0<=b/\b<(i.len:O)/\∃i,f.z (g.add (b.toNat*1)) i/\bif V (h<=i)then K d f else c (qf.wrap (d+1)) f else ∃b,a=S b/\∃a,e.s b a/\K (a.len:O) e)->c d e)->c (qf.wrap (b+1)) w):=aj func287 (.v (.y (.v (.x (.t (S [(5,.c (.i .i64))]) (.y (.v .w) (.x (.x (.y (.z (.o 0 16272 (.o 1 16272 (.o 2 16272 (.o 3 16272 (.o 4 16256 (.o 5 16256 (.o 6 16256 (.o 7 2048 (.o 8 2048 (.o 9 2048 (.o 10 2048 (.o 11 0 (.o 12 0 .Jj)))))))))))))) (.x .w))))) .u))) .w))
namespace Sl
section
variable{B:X}{w0 w:J}{R L:Y aH}{b:X}{bits:Y O}{H:Hs}
def rowOf(H:Hs)(n:X)(z:O):Y cN:=if z= -1 then []else(LA (2^z.toNat)).map λk:X=>(H ((n:O),(k:O))).getD ak
def rowsOf(bits:Y O)(H:Hs):Y (Y cN):=bits.mapIdx λi z=>rowOf H i z
def bf(b:X)(bits:Y O)(H:Hs):aH:=sB λx:Sl × Y Sl=>cj [dh (rh bits H),aa b [bg x.1],af Ah x.1 x.2,fb mm x.2 (rowsOf bits H)]
theorem Cc{w:J}{a:qg}{x:cN}{f:O->O->O->O->O->O->Prop}(g:∀c v,(mm.enc x)[c]?=S v->w.cell? (a.add c)=S v)(hf:f x.kind x.obj x.ar x.ay x.guard x.bits):
  ax w a 0 [.o,.o,.o,.u,.u,.o] f:=⟨_,g 0 _ U,_,g 1 _ U,_,g 2 _ U,_,g 3 _ U,_,g 4 _ U,_,g 5 _ U,hf⟩
theorem F0(bits:Y O)(H:Hs):(rowsOf bits H).length=bits.length:=by unfold rowsOf;simp
theorem dq{bits:Y O}{H:Hs}{n:X}{z:O}(h:bits[n]?=S z):(rowsOf bits H)[n]?=S (rowOf H n z):=by unfold rowsOf;rw[Oi,h];rfl
theorem gC{H:Hs}{n:X}{z:O}(h:z≠ -1):(rowOf H n z).length=2^z.toNat:=by unfold rowOf;rw[F h];simp
theorem fS{H:Hs}{n k:X}{z:O}(h:z≠ -1)(hk:k<2^z.toNat):(rowOf H n z)[k]?=S ((H ((n:O),(k:O))).getD ak):=by unfold rowOf;rw[F h,LV,ME hk];rfl
theorem fX{bits:Y O}{s:Slot}(h:aQ bits s=Z):∃(n k:X)(z:O),s=((n:O),(k:O))/\bits[n]?=S z/\z≠ -1/\k<2^z.toNat:=by
 unfold aQ at h;cases hz:dX bits s.1 with
 |none=>rw[hz]at h;cases h
 |some z=>
  rw[hz]at h;obtain⟨h1,h2,h3⟩:=jG hz;simp only[qB]at h;rw[show((2:O)^z.toNat)=((2^z.toNat:X):O)from by simp]at h;refine⟨s.1.toNat,s.2.toNat,z,?_,h2,h3,om⟩;rw[Ox h1,Ox h.1]
theorem D2{bits:Y O}{n k:X}{z:O}(h:bits[n]?=S z)(hz:z≠ -1):aQ bits ((n:O),(k:O))=V (k<2^z.toNat):=by unfold aQ dX;simp only[Lw,h,F hz];rw[F om];simp only[qV];rw[show((2:O)^z.toNat)=((2^z.toNat:X):O)from by simp];omega
theorem pV{bits:Y O}{H:Hs}{n k:X}{z:O}(h:bits[n]?=S z)(hz:z≠ -1)(hk:k<2^z.toNat)(o:qh cN):rowsOf bits (cC H ((n:O),(k:O)) o)=(rowsOf bits H).set n ((rowOf H n z).set k (o.getD ak)):=by
 apply L5;intro i;rw[Mb];unfold rowsOf;rw[Oi,Oi];by_cases e:n=i
 .subst e
  have hl:=(Lu.1 h).1;rw[qd U,qd (by simpa using hl),h];simp only[Mx,Option.some.injEq];apply L5;intro j;rw[Mb];unfold rowOf;rw[F hz,F hz,LV,LV];by_cases e2:k=j
  .subst e2
   rw[qd U,qd (by simpa using hk),ME hk];simp[cC]
  .rw[F e2]
   have h0:cC H ((n:O),(k:O)) o ((n:O),((j:X):O))=H ((n:O),((j:X):O)):=by unfold cC;rw[F];intro hc;simp only[Prod.mk.injEq]at hc;omega
   rcases Nat.lt_or_ge j (2^z.toNat)with hj|hj
   .rw[ME hj];simp only[Mx];rw[h0]
   .rw[L0 (by simpa using hj)];rfl
 .rw[F e]
  cases hb:bits[i]? with
  |none=>rfl
  |some y=>
   simp only[Mx,Option.some.injEq];unfold rowOf;split
   .rfl
   .apply List.map_congr_left
    intro j _;unfold cC;rw[F];intro hc;simp only[Prod.mk.injEq]at hc;omega
theorem _root_.Go.Vc.Ow.lg(h:Ow B w0 w (bf b bits H::R)):∃s ss,rh bits H/\ss.length=bits.length/\Ow B w0 w (fb mm ss (rowsOf bits H)::aa b [bg s]::af Ah s ss::R):=by obtain⟨x,h⟩:=h.ex;obtain⟨h1,h⟩:=Ow.pure h.star;have h2:Ow B w0 w (fb mm x.2 (rowsOf bits H)::aa b [bg x.1]::af Ah x.1 x.2::R):=h.kh;exact⟨x.1,x.2,h1,by rw[h2.Cs.1,F0],h2⟩
theorem _root_.Go.Vc.Ow.dL{s:Sl}{ss:Y Sl}(h1:rh bits H)(h:Ow B w0 w (fb mm ss (rowsOf bits H)::aa b [bg s]::af Ah s ss::R)):Ow B w0 w (bf b bits H::R):=
 Ow.fk (s,ss) (Ow.bW (Ow.cT h1 (h.sub:Ow B w0 w (aa b [bg s]::af Ah s ss::fb mm ss (rowsOf bits H)::R))))
theorem _root_.Go.Vc.Ow.JE(h:Ow B w0 w (bf b bits H::R)):rh bits H:=by obtain⟨_,_,h,_⟩:=h.lg;exact h
theorem fP{s:Slot}{K:W->Pw}(h:Ow B w0 w (bf b bits H::R))(hK:∀w',Ow B w0 w' (bf b bits H::R)->K (aQ bits s) w'):PS b.o s.1 s.2 K w:=by
 apply ZJ;obtain⟨sl,ss,hk,hsl,h⟩:=h.lg;refine h.al λw1 h=>?_;refine h.dr λw h=>?_;have hlen:=h.aL sl;have fin:Ow B w0 w (bf b bits H::R):=Ow.dL (s:=sl) (ss:=ss) hk h.sub;have hF:aQ bits s=G->K G w:=λe=>by rw[<-e];exact hK _ fin
 (refine h.l1 U ?_)
 refine bo (λe1=>?_) (λe1=>hF (by unfold aQ dX;rw[qd om]));repeat first|refine h.l1 U ?_|refine eE ?_
 refine bo (λe2=>?_) (λe2=>hF (by unfold aQ dX;rw[F om,L0 om]));obtain⟨n,hn⟩:=LB (show 0<=s.1 by omega);have hnl:n<bits.length:=om
 have hb:bits[n]?=S bits[n]:=gE hnl;obtain⟨sn,hss⟩:∃sn,ss[n]?=S sn:=⟨_,gE om⟩
 generalize bits[n]=z at hb;have hrl:=(h.drop.sub:Ow B w0 w (fb mm ss (rowsOf bits H)::aa b [bg sl]::af Ah sl ss::R)).gC hss (dq hb)
 (refine h.l1 U ?_)
 refine bo (λe3=>?_) (λe3=>?_)
 ·(repeat first|refine h.l1 U ?_|refine eE ?_)
  refine h.cz hn hss λa ha hc0 hc=>?_;refine⟨_,hc0 _ U,?_⟩;obtain⟨k,hk2⟩:=LB (show 0<=s.2 by omega);have hs:s=((n:O),(k:O)):=by rw[<-hn,<-hk2]
  have ht:aQ bits s=V (s.2<(sn.len:O)):=by
   rw[hs,hrl];by_cases hz:z= -1
   .have hg:aQ bits ((n:O),(k:O))=false:=by unfold aQ dX;simp only[Lw,hb,qd hz];rw[F om]
    rw[hg];unfold rowOf;rw[qd hz];simp
   .rw[D2 hb hz,gC hz,qV];exact Int.ofNat_lt.symm
  rw[<-ht];exact hK _ fin
 .exact hF (by
   have hs2:s.2<0:=om
   unfold aQ;split
   .rw[qm];omega
   .rfl)
theorem uJ{s:Slot}{K:O->O->O->O->O->O->O->Pw}(h:Ow B w0 w (bf b bits H::R))
  (hK:∀w' c e,(c,e)=xq bits H s->fg c->Ow B w0 w' (bf b bits H::R)->K c.kind c.obj c.ar c.ay c.guard c.bits e w'):TZ b.o s.1 s.2 K w:=by
 apply ZK;have hk:=h.JE;repeat first|refine h.al λw h=>?_|refine h.aR U ?_
 refine fP (s:=s) h.kh λw h=>?_;unfold xq at hK;refine HH (λe=>?_) (λe=>?_)
 ·(repeat first|refine h.aR U ?_|refine h.aA U U λw h=>?_)
  exact hK _ ak 50 (by rw[qd e]) ⟨qb,qb,qb,qb⟩ h.sub
 .rw[F (by rw[e];decide)]at hK
  obtain⟨n,k,z,rfl,hb,hz,hkl⟩:=fX e;obtain⟨sl,ss,_,hsl,h⟩:=h.lg;obtain⟨sn,hss⟩:∃sn,ss[n]?=S sn:=⟨_,gE (by have:=(Lu.1 hb).1;omega)⟩
  repeat first|refine h.dr λw h=>?_|refine h.l1 U ?_|refine eE ?_
  refine h.cz U hss λa ha hc0 hc=>?_;refine⟨_,hc0 _ U,?_⟩
  (refine h.l1 U ?_)
  refine h.tp hss (dq hb) U (fS hz hkl) λa2 ha2 hd0 hd=>?_;have hcR:=hk.H2 ((n:O),(k:O));generalize hcc:(H ((n:O),(k:O))).getD ak=c at hd hd0 hcR hK;refine Cc hd ?_;refine _root_.Go.Vc.a2 ?_;repeat first|refine h.aR U ?_|refine h.aA U U λw h=>?_
  exact hK _ c 0 U hcR (Ow.dL (s:=sl) (ss:=ss) hk h.sub)
end
end Sl
end Go.Vc
