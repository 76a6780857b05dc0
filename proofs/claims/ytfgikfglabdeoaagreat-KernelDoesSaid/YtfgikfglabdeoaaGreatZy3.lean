/- What the row rests on: the declarations that it needs, out of my texts (part 3). -/
import Derived.Test.YtfgikfglabdeoaaGreatZy2
open Bool renaming false->G,true->Z
open Decidable renaming decide->V
open Go renaming Addr->qg,Operand->qD,Value->Q,World->J,zeroValue->qK
open Go.IntKind renaming i64->qf,u64->qv
open Go.Proofs.Tryz renaming prog->qe,t155->qW,t3->qF,t316->aaH,t325->aa1,t39->aaG,underlying124->aaz,underlying22->qG,underlying232->qO,underlying235->qQ,underlying250->aa0,underlying278->aaX,underlying3->qA,underlying370->qT,zeroValue3->qR
open Option renaming none->N,some->S
open _root_ renaming Array->qo,Bool->W,Int->O,List->Y,Nat->X,Option->qh,True->I,absurd->qj,beq_iff_eq->qH,bne_iff_ne->qN,cond_false->qp,cond_true->ql,congrArg->qz,decide_eq_decide->qV,decide_eq_false->qm,decide_eq_true->qu,decide_eq_true_eq->qB,if_false->qy,if_neg->F,if_pos->qd,if_true->qC,or_false->qI,rfl->U
open Go.Proofs.Tryz
open Bool renaming and_eq_true->LO,and_true->NO,eq_iff_iff->Nh,false_and->M0,false_or->N8,not_false->MK,not_true->MM,true_and->M6
open Int renaming eq_ofNat_of_zero_le->LB,le_refl->Po,natCast_add->Oa,natCast_nonneg->Nr,one_mul->Pp,toNat_natCast->Lw
open List renaming append_assoc->LN,append_nil->LQ,cons_append->MO,drop_drop->ML,drop_eq_getElem_cons->Mr,drop_left'->Qd,eraseIdx_cons_succ->Nk,eraseIdx_cons_zero->OD,ext_getElem?->L5,filter_congr->Od,filter_eq_self->Mv,filter_filter->M7,findIdx?_eq_none_iff->Mu,findIdx?_eq_some_iff_getElem->L9,flatMap_append->Me,getElem?_append_left->LI,getElem?_append_right->LH,getElem?_cons_succ->LG,getElem?_cons_zero->Mn,getElem?_drop->LR,getElem?_eq_none->L0,getElem?_eq_some_iff->Lu,getElem?_map->LV,getElem?_range->ME,getElem?_set->Mb,getElem?_set_self->Nb,length->Nc,length_append->LC,length_drop->Ns,length_filter_le->L6,length_map->L3,length_range->NM,map_append->LU,map_cons->L1,map_nil->M9,map_set->Pc,mem_append->Mm,mem_cons->LD,mem_filter->LP,mem_map->L2,mem_of_getElem?->L4,mem_or_eq_of_mem_set->Mz,mem_singleton->Mk,nil_append->Mw,nodup_append->Np,nodup_cons->Mj,not_mem_nil->MB,perm_middle->Ml,range->LA,range_succ->N1,replicate->Ly,set_append_left->Nw,set_append_right->Ng,set_cons_succ->LM,set_cons_zero->Mf,singleton_append->OP,take->O5,takeWhile_append_dropWhile->NJ,takeWhile_cons_of_neg->Ou,takeWhile_cons_of_pos->Ov,take_add_one->LJ,take_append_drop->Ma,take_append_of_le_length->MW,take_of_length_le->Lz,take_take->NU
open Nat renaming add_assoc->Nv,add_comm->OB,add_mul->MG,add_sub_cancel_left->NQ,dvd_of_mod_eq_zero->Pr,eq_of_testBit_eq->OU,le_trans->LY,lt_of_le_of_lt->NX,lt_of_lt_of_le->MR,min_eq_left->Ms,mod_eq_of_lt->L7,mod_le->PE,mod_lt->OC,mul_le_mul_right->LZ,mul_mod_left->P9,mul_one->NW,one_mul->OI,pow_le_pow_right->Mh,succ_mul->Nu,testBit_lt_two_pow->NC,testBit_two_pow_sub_one->O6,two_pow_pos->MD,zero_add->LF,zero_testBit->Qa
open Option renaming isSome_none->NY,isSome_some->Oc,map_eq_none_iff->Ps,map_some->Mx
set_option maxRecDepth 100000
set_option maxHeartbeats 4000000
set_option linter.all false
namespace Go.Vc
open Go.Proofs
section
variable{B:X}{w0 w:J}{L:Y aH}{α:Type}{E:dT α}
theorem WV{a K w}:Fr (Sn a K w) (∀b:W->Pw,(∀(c:W)(d:J),(bif c then K N 1 d else ∃(b:Sl)(c:J),km qe 250 (.z a) (.z a) d b c/\A2 c [b.v] 252 λa b=>K (S a.p) 0 b)->b c d)->(bif V (a<1)then b Z w else b (V (a>64)) w)):=aj func39 .Ka
theorem WW{a b K w}:Fr (SF a b K w) (QF a b (λa b=>bif a.isNone then K 0 0 G 130 b else ∃c,a=S c/\∃d,b.z c d/\∀c:Pw,(∀b:J,(∃c,a=S c/\St b c (.z 3) λa=>K 0 0 G 0 a)->c b)->(bif d==1 then ∃e,a=S e/\St b e (.z 2) λe=>Dr e λe=>∃f,a=S f/\∃g,e.z (f.add 1) g/\∃f,a=S f/\∃a,e.y (f.add 2) a/\K g a Z 0 e else bif d==2 then c b else bif d==3 then c b else K 0 0 G 0 b)) w):=aj func75 (.v (.v (.y (.v (.x .w)) (.y (.v (.x (.y (.t (S []) (.x (.y (.x (.x (.y (.v .w) (.y (.v .w) (.v .w))))) (.x .g11))) .u) .w))) .w))))
theorem WX{a K w}:Fr (SM a K w) (∃b,a=S b/\∃a,w.s b a/\TF a (λa b=>A2 b [a.v] 252 λa b=>K (S a.p) b) w):=aj func83 (.v .w)
theorem WY{a b K w}:Fr (QF a b K w) (∀c:W->Pw,(∀(d:W)(e:J),(bif d then K N e else ∃c,a=S c/\∃a,e.s c a/\∃c,a.a=S c/\0<=b/\b<(a.len:O)/\K (S (c.add (b.toNat*3))) e)->c d e)->(bif V (b<0)then c Z w else ∃d,a=S d/\∃a,w.s d a/\c (V (b>=(a.len:O))) w)):=aj func192 .K9
theorem WZ{a b c d K w}:Fr (TX a b c d K w) (QF a b (λa b=>bif a.isNone then K 130 b else bif V (c<0)then K 1 b else ∃e,a=S e/\∃f,b.z e f/\bif f !=0 then K 131 b else ∃e,a=S e/\aB b e 0 [.z 1,.z c,.y d] λa=>K 0 a) w):=aj func273 (.v (.v (.y (.x (.v .Kj)) (.v .w))))
theorem W0{a b K w}:Fr (TY a b K w) (QF a b (λa b=>bif a.isNone then K 0 0 G 130 b else ∃c,a=S c/\∃d,b.z c d/\bif d==3 then ∃c,a=S c/\St b c (.z 2) λc=>Dr c λc=>∃e,a=S e/\∃f,c.z (e.add 1) f/\∃e,a=S e/\∃g,c.y (e.add 2) g/\K f g Z 0 c else bif d==2 then ∃c,a=S c/\St b c (.z 1) λa=>K 0 0 G 0 a else K 0 0 G 0 b) w):=aj func274 (.v (.v (.y (.v (.x .w)) (.y (.v (.x (.v (.y .g11 (.v .w))))) .w))))
theorem W4{a b c d K w}:Fr (Qq a b c d K w) (A2 w [.z a,.z b,.z c,d.v] 24 λa b=>ax b a.p 0 [.o,.o,.o,.s] λ(c d e:O)(f:Sl)=>Sk c d e f (λb c=>bif !b then K N 1 c else ∀b:qh qg->Pw,(∀(c:qh qg)(d:J),(∃b,d.z a.p b/\Sm b (λb _ d=>∃e,c=S e/\St d (e.add 2) (.pointer b) λb=>Sn 8 (λb _ d=>∃e,c=S e/\St d (e.add 3) (.pointer b) λb=>∃d,c=S d/\∃e,b.q d e/\Q9 e 6 (λ_ _ b=>PB c 0 2 0 (λb d=>PB c b 1 0 (λb d=>∃e,d.s (a.p.add 3) e/\∀f:O->O->Pw,(∀(b d:O)(g:J),(bif V (d<(e.len:O))then ∃h,e.a=S h/\0<=d/\d<(e.len:O)/\∃e,g.z (h.add (d.toNat*1)) e/\∃h,c=S h/\∃i,g.q (h.add 2) i/\PY i e d (λa _ e=>∃g,c=S g/\∃h,e.q (g.add 2) h/\PZ h a (λ_ e=>∃g,c=S g/\∃h,e.q (g.add 2) h/\P2 h d (λ_ _ e=>PB c b 3 a (λa b=>f a (qf.wrap (d+1)) b) e) e) e) g else PB c b 8 0 (λb d=>∃e,d.z (a.p.add 2) e/\∀a:O->O->Pw,(∀(b d:O)(f:J),(bif V (d<e)then PB c b 9 d (λb c=>a b (qf.wrap (d+1)) c) f else K c 0 f)->a b d f)->a b 0 d) g)->f b d g)->f b 0 d) d) b) b) b) d)->b c d)->(Dr c λc=>∃d,c.z (a.p.add 1) d/\∃e,c.z a.p e/\(Q8 (λc f=>f.z a.p e/\f.z (a.p.add 1) d/\(Qt (λf g=>g.z a.p e/\g.z (a.p.add 1) d/\(A2 g [.y 0,.z d,.y 0] 98 λd g=>(Px (λg h=>h.z a.p e/\(A2 h [.pointer g] 99 λa g=>(A2 g [.pointer c,.pointer f,.pointer N,.pointer N,.slice (S d.p) 1 1,.slice N 0 0,.slice N 0 0,.slice (S a.p) 1 1,.z 0,.z 0,.z 1,.z e] 107 λa c=>b (S a.p) c)/\I)/\I) g)/\I)/\(Px (λg h=>h.z a.p e/\h.z (a.p.add 1) d/\(A2 h [.y 0,.z d,.y 0] 98 λa d=>(A2 d [.pointer g] 99 λd g=>(A2 g [.pointer c,.pointer f,.pointer N,.pointer N,.slice (S a.p) 1 1,.slice N 0 0,.slice N 0 0,.slice (S d.p) 1 1,.z 0,.z 0,.z 1,.z e] 107 λa c=>b (S a.p) c)/\I)/\I)/\(A2 h [.pointer g] 99 λa g=>(A2 g [.y 0,.z d,.y 0] 98 λd g=>(A2 g [.pointer c,.pointer f,.pointer N,.pointer N,.slice (S d.p) 1 1,.slice N 0 0,.slice N 0 0,.slice (S a.p) 1 1,.z 0,.z 0,.z 1,.z e] 107 λa c=>b (S a.p) c)/\I)/\I)/\I) g)/\I) f)/\(A2 f [.y 0,.z d,.y 0] 98 λd f=>(Qt (λf g=>g.z a.p e/\(Px (λg h=>h.z a.p e/\(A2 h [.pointer g] 99 λa g=>(A2 g [.pointer c,.pointer f,.pointer N,.pointer N,.slice (S d.p) 1 1,.slice N 0 0,.slice N 0 0,.slice (S a.p) 1 1,.z 0,.z 0,.z 1,.z e] 107 λa c=>b (S a.p) c)/\I)/\I) g)/\I) f)/\I)/\I) c)/\(A2 c [.y 0,.z d,.y 0] 98 λc d=>(Q8 (λd f=>f.z a.p e/\(Qt (λf g=>g.z a.p e/\(Px (λg h=>h.z a.p e/\(A2 h [.pointer g] 99 λa g=>(A2 g [.pointer d,.pointer f,.pointer N,.pointer N,.slice (S c.p) 1 1,.slice N 0 0,.slice N 0 0,.slice (S a.p) 1 1,.z 0,.z 0,.z 1,.z e] 107 λa c=>b (S a.p) c)/\I)/\I) g)/\I) f)/\I) d)/\I)/\I)) b):=aj func7 (.v (.y (.v (.x .w)) (.y (.r (S [(4,.c .p)]) (.o 2 963 (.o 8 251 (.hold 3 707 6111 (.o 4 707 (.hold 9 227 6143 (.f 0 (.f 1 (.f 5 (.e 6 .Kf) (.e 6 (.f 5 .Kf (.e 7 (.e 5 .Jh))))) (.e 5 .Lb)) (.e 5 (.e 0 .Lb))))))))) (.v (.v (.v (.v (.v (.y (.v (.x (.t (S [(5,.c (.i .i64)),(55,.c (.i .i64))]) (.v (.y .w (.x (.x (.v (.v (.v .w))))))) .u))) (.v (.y (.v (.x (.t (S [(5,.c (.i .i64)),(92,.c (.i .i64))]) .Ed .u))) .w)))))))))))
theorem W5{a b c d e f g h K w}:Fr (OF a b c d e f g h K w) (A2 w [.z c,.z d,.z e,.z f,.z g,.z h] 36 λc d=>A2 d [.z 0,.y 0,.z 0,.slice N 0 0] 42 λd e=>ax e c.p 0 [.o,.o,.o,.o,.o,.o] λ(f g h i j k:O)=>A2 e [.pointer a,.z b,.z 0,.z f,.z g,.z h,.z i,.z j,.z k,.z 0,.z 0,.z 0,.z 0,.z 0,.y 0,.y 0,.z 0,.z 0,.y 0,.z (-1),.slice N 0 0] 159 λe f=>∃g,a=S g/\∃h,f.q (g.add 2) h/\P2 h b (λf g h=>∃i,S e.p=S i/\St h (i.add 2) (.z f) λf=>∀h:Pw,(∀a:J,(∃b,S e.p=S b/\ax a (b.add 17) 0 [.o,.u,.o,.s] λ(b c e:O)(f:Sl)=>aB a d.p 0 [.z b,.y c,.z e,f.v] λa=>ax a d.p 0 [.o,.u,.o,.s] λ(b c d:O)(e:Sl)=>K b c d e a)->h a)->(bif !g then ∃d,S e.p=S d/\St f (d.add 17) (.z 182) λd=>h d else ∀d:W->Pw,(∀(f:W)(g:J),(bif f then ∃d,S e.p=S d/\St g (d.add 17) (.z 180) λd=>h d else ∃d,g.z c.p d/\bif d==17 then ∃c,a=S c/\∃a,g.q (c.add 2) a/\Rh a b (λ_ a=>h a) g else Sy (S e.p) (λa b=>∃c,S e.p=S c/\St b (c.add 17) (.z a) λa=>h a) g)->d f g)->(∃a,f.z c.p a/\bif V (a<0)then d Z f else ∃a,f.z c.p a/\d (V (a>=18)) f))) f):=aj func10 (.v (.v (.v (.v (.y (.x (.v (.t (S []) .u (.y .Kq (.v (.v .w)))))) .w)))))
theorem W6{a b K w}:Fr (Sb a b K w) (∃c,a=S c/\∃d,w.q (c.add 3) d/\SF d b (λb c d e f=>bif !d then K (-1) e f else Qz a b c (λa b=>K a e b) f) w):=aj func13 .IW
theorem W7{a b K w}:Fr (Se a b K w) (∃c,a=S c/\∃a,w.q (c.add 2) a/\SH a b (λa b=>K a b) w):=aj func15 (.v .w)
theorem W8{a K w}:Fr (Sf a K w) (∃b,a=S b/\ax w b 0 [.p,.p,.p,.p,.s,.s,.s,.s,.o,.o,.o,.o] λ(b c d e:qh qg)(f g h i:Sl)(j k l m:O)=>A2 w [.pointer N,.pointer N,.pointer N,.pointer N,.slice N 0 0,.slice N 0 0,.slice N 0 0,.slice N 0 0,.z 0,.z 0,.z 0,.z 0] 107 λn o=>aB o n.p 0 [.pointer b,.pointer c,.pointer d,.pointer e,f.v,g.v,h.v,i.v,.z j,.z k,.z l,.z m] λb=>Dr b λb=>∃c,a=S c/\∃d,b.q c d/\∃c,a=S c/\∃e,a=S e/\∃f,a=S f/\∃g,a=S g/\∃h,b.q (c.add 1) h/\∃i,b.q (e.add 2) i/\∃j,b.q (f.add 3) j/\∃k,b.s (g.add 4) k/\(SI d (λb d=>d.s (g.add 4) k/\d.q (f.add 3) j/\d.q (e.add 2) i/\d.q (c.add 1) h/\(SJ h (λc d=>d.s (g.add 4) k/\d.q (f.add 3) j/\d.q (e.add 2) i/\(SL i (λd e=>e.s (g.add 4) k/\e.q (f.add 3) j/\(SM j (λe f=>f.s (g.add 4) k/\(SN k (λf g=>(St g n.p (.pointer b) λb=>(St b (n.p.add 1) (.pointer c) λb=>(St b (n.p.add 2) (.pointer d) λb=>(St b (n.p.add 3) (.pointer e) λb=>(St b (n.p.add 4) f.v λb=>∃c,a=S c/\∃d,b.s (c.add 5) d/\UU d (.func (.func 86) #[] #[]) (λb c=>St c (n.p.add 5) b.v λb=>∃c,a=S c/\∃d,b.s (c.add 6) d/\UW d (.func (.func 88) #[] #[]) (λb c=>St c (n.p.add 6) b.v λb=>∃c,a=S c/\∃a,b.s (c.add 7) a/\UX a (.func (.func 90) #[] #[]) (λa b=>St b (n.p.add 7) a.v λa=>K (S n.p) a) b) b) b)/\I)/\I)/\I)/\I)/\I) f)/\I) e)/\I) d)/\I) d)/\I) b)/\I):=aj func17 (.v (.v (.y (.z (.o 0 16236000 (.o 1 16236000 (.o 2 16236000 (.o 3 16236000 (.o 5 16235536 (.o 6 16235536 (.o 7 16235536 (.o 10 16220944 (.o 11 16220944 (.o 12 16220944 (.o 15 15754000 (.o 16 15754000 (.o 17 15754000 (.o 20 811792 (.o 21 811792 (.o 22 811792 (.hold 8 8658960 11458297343 (.hold 13 8651280 11458297855 (.hold 18 8405520 11458314239 (.hold 23 541200 11458838527 (.e 4 (.e 9 (.e 14 (.e 19 (.e 24 (.o 25 0 (.e 26 (.o 27 0 (.e 28 (.o 29 0 (.e 30 (.o 31 0 (.e 32 (.o 33 0 (.e 34 .done)))))))))))))))))))))))))))))))))))) (.v (.v (.v .w))))))
theorem W9{a b c d K w}:Fr (Sk a b c d K w) (A2 w [.z a,.z b,.z c,d.v] 24 λa b=>∀c:W->Pw,(∀(b:W)(d:J),(bif b then ∃b,d.s (a.p.add 3) b/\∃c,d.z a.p c/\bif (b.len:O)==c then ∃b,d.s (a.p.add 3) b/\U0 b (.func (.func 116) #[] #[]) (λa b=>K (!a) b) d else K G d else K G d)->c b d)->(∃d,b.z a.p d/\bif V (d>=1)then ∃d,b.z a.p d/\bif V (d<=8)then ∃d,b.z (a.p.add 1) d/\bif V (d>=4)then ∃d,b.z (a.p.add 1) d/\bif V (d<=20)then ∃d,b.z (a.p.add 2) d/\bif V (d>=0)then ∃d,b.z (a.p.add 2) d/\c (V (d<=8)) b else c G b else c G b else c G b else c G b else c G b)):=aj func34 (.v (.v (.y (.r (S [(4,.c .b)]) .done) .w)))
theorem Xa{a b c d K w}:Fr (PB a b c d K w) (A2 w [.z 0,.z 0] 155 λe f=>aB f e.p 0 [.z 0,.z b] λf=>Dr f λf=>∃g,a=S g/\∃h,f.q g h/\ax f e.p 0 [.o,.o] λ(g i:O)=>(Rj h g i c d 7 0 0 0 (λ_ c=>Dr c λc=>∃d,a=S d/\∃a,c.q (d.add 1) a/\ax c e.p 0 [.o,.o] λ(d e:O)=>(SS a d e (λ_ a=>K (qf.wrap (b+1)) a) c)/\I) f)/\I):=aj func41 (.v (.v (.y .g22 .KX)))
theorem Xb{a K w}:Fr (Qv a K w) (∃b,a=S b/\∃a,w.q b a/\Ro a (λa b=>K a b) w):=aj func52 (.v .w)
theorem Xc{a K w}:Fr (Qw a K w) (∃b,a=S b/\∃a,w.q (b.add 1) a/\SY a (λa b=>K a b) w):=aj func54 (.v .w)
theorem Xd{a b K w}:Fr (Sr a b K w) (A2 w [.z 0,.z 0,.z 0,.z 0,.y 0,.y 0,.y 0,.y 0,.y 0,.y 0,.y 0,.y 0] 139 λc d=>∃e,a=S e/\∃a,d.q (e.add 2) a/\QB a b (λa b d e f g h i j k l m n o=>aB o c.p 0 [.z a,.z b,.z d,.z e,.y f,.y g,.y h,.y i,.y j,.y k,.y l,.y m] λa=>ax a c.p 0 [.o,.o,.o,.o,.u,.u,.u,.u,.u,.u,.u,.u] λ(b c d e f g h i j k l m:O)=>K b c d e f g h i j k l m n a) d):=aj func55 (.v .w)
def UQ(k1:qh qg)(n2:O)(K:O->O->O->W->Pw)(w:J):Prop:=Al w (.cells #[.y 0,.z 0,.y 0] 98) λw3=>∃a4,k1=S a4/\∃u5:Sl,w3.cell? (a4.add 4)=S u5.v/\U1 u5 n2 (λr6 w7=>bif !r6 then(aB w7 w.heap.size.p 0 [.y 0,.z 0,.y 0] λw8=>ax w8 w.heap.size.p 0 [.u,.o,.u] λ(r9:O)(HS:O)(HT:O)=>K r9 HS HT G w8)else(∃a12,k1=S a12/\∃u13:Sl,w7.cell? (a12.add 4)=S u13.v/\∃a14,u13.a=S a14/\0<=n2/\n2<(u13.len:O)/\ax w7 (a14.add (n2.toNat*3)) 0 [.u,.o,.u] λ(t15:O)(t16:O)(t17:O)=>aB w7 w.heap.size.p 0 [.y t15,.z t16,.y t17] λw18=>ax w18 w.heap.size.p 0 [.u,.o,.u] λ(r19:O)(r20:O)(r21:O)=>K r19 r20 r21 Z w18)) w3
theorem Xe(k1:qh qg)(n2:O)(K:O->O->O->W->Pw)(w:J)(h:UQ k1 n2 K w):Re k1 n2 K w:=
 KD func57 (.t N (.u) (.t N (.t N (.u) (.t N (.t N (.u) (.u)) (.u))) (.t N (.u) (.u)))) [(0,.a [.u,.o,.u]),(1,.c (.b))] [.pointer k1,.z n2] K U qa qa h
theorem Xf{a b K w}:Fr (Ss a b K w) (∃c,a=S c/\∃d,w.s (c.add 5) d/\U2 d b (λc d=>bif !c then K z0 G d else ∃c,a=S c/\∃a,d.s (c.add 5) a/\∃c,a.a=S c/\0<=b/\b<(a.len:O)/\∃a,d.q (c.add (b.toNat*1)) a/\SZ a (λa b c=>K a b c) d) w):=aj func58 .AQ
theorem Xg{a b K w}:Fr (Sw a b K w) (∃c,a=S c/\∃d,w.s (c.add 6) d/\U3 d b (λc d=>bif !c then K 0 G d else ∃c,a=S c/\∃a,d.s (c.add 6) a/\∃c,a.a=S c/\0<=b/\b<(a.len:O)/\∃a,d.q (c.add (b.toNat*1)) a/\S0 a (λa b c=>K a b c) d) w):=aj func61 .AQ
theorem Xh{a b K w}:Fr (Sx a b K w) (∃c,a=S c/\∃d,w.s (c.add 7) d/\U4 d b (λc d=>bif !c then K z0 d else ∃c,a=S c/\∃a,d.s (c.add 7) a/\∃c,a.a=S c/\0<=b/\b<(a.len:O)/\∃a,d.q (c.add (b.toNat*1)) a/\Rp a (λa b=>K a b) d) w):=aj func63 .AQ
theorem Xi{a b K w}:Fr (Rg a b K w) (∃c,a=S c/\∃a,w.q (c.add 2) a/\Qe a b (λa b c=>K a b c) w):=aj func64 (.v .w)
theorem Xj{a K w}:Fr (Sy a K w) (∃b,a=S b/\∃c,w.z (b.add 3) c/\S1 c (λb c d=>A2 d [.z 0,.z 0] 283 λd e=>aB e d.p 0 [.z b,.z c] λb=>∀c:qg->qg->W->Pw,(∀(b e:qg)(f:W)(g:J),(∀c:W->Pw,(∀(d:W)(f:J),(bif d then K 181 f else Dr f λc=>ax c b 0 [.o,.o] λ(b d:O)=>∃f,a=S f/\ax c e 0 [.o,.o,.o,.u,.u,.o] λ(g h i j k l:O)=>(aB c (f.add 9) 0 [.z b,.z d] λb=>yr b e 0 [.z g,.z h,.z i,.y j,.y k,.z l] (∃c,a=S c/\(aB b (c.add 11) 0 [.z g,.z h,.z i,.y j,.y k,.z l] λb=>Al b (.map #[] 0) λc=>∃d:J,gh qe 287 (.map (S b.heap.size)) (.z 0) (.func (.func 150) #[.pointer a] #[]) c d/\∃c:J,gh qe 287 (.map (S b.heap.size)) (.z 1) (.func (.func 151) #[.pointer a] #[]) d c/\∃d:J,gh qe 287 (.map (S b.heap.size)) (.z 2) (.func (.func 152) #[.pointer a] #[]) c d/\∃c:J,gh qe 287 (.map (S b.heap.size)) (.z 3) (.func (.func 153) #[.pointer a] #[]) d c/\∃d:J,gh qe 287 (.map (S b.heap.size)) (.z 4) (.func (.func 154) #[.pointer a] #[]) c d/\∃c:J,gh qe 287 (.map (S b.heap.size)) (.z 5) (.func (.func 155) #[.pointer a] #[]) d c/\∃d:J,gh qe 287 (.map (S b.heap.size)) (.z 6) (.func (.func 156) #[.pointer a] #[]) c d/\∃c:J,gh qe 287 (.map (S b.heap.size)) (.z 7) (.func (.func 157) #[.pointer a] #[]) d c/\∃d:J,gh qe 287 (.map (S b.heap.size)) (.z 8) (.func (.func 158) #[.pointer a] #[]) c d/\∃c:J,gh qe 287 (.map (S b.heap.size)) (.z 9) (.func (.func 159) #[.pointer a] #[]) d c/\∃d:J,gh qe 287 (.map (S b.heap.size)) (.z 10) (.func (.func 160) #[.pointer a] #[]) c d/\∃c:J,gh qe 287 (.map (S b.heap.size)) (.z 11) (.func (.func 161) #[.pointer a] #[]) d c/\∃d:J,gh qe 287 (.map (S b.heap.size)) (.z 12) (.func (.func 162) #[.pointer a] #[]) c d/\∃c:J,gh qe 287 (.map (S b.heap.size)) (.z 13) (.func (.func 163) #[.pointer a] #[]) d c/\∃d:J,gh qe 287 (.map (S b.heap.size)) (.z 14) (.func (.func 164) #[.pointer a] #[]) c d/\∃c:J,gh qe 287 (.map (S b.heap.size)) (.z 15) (.func (.func 165) #[.pointer a] #[]) d c/\∃d:J,gh qe 287 (.map (S b.heap.size)) (.z 16) (.func (.func 166) #[.pointer a] #[]) c d/\∃c,a=S c/\∃a,d.z (c.add 3) a/\∃c:Q,yv qe 287 (.map (S b.heap.size)) (.z a) (c) d/\dU qe (c) [] d λa b=>∃c,a= .returned (.z c)/\K c b)/\I))/\I)->c d f)->(bif !f then c Z g else ∃a,g.z (e.add 2) a/\∃b,g.z (d.p.add 1) b/\∃e,g.z (d.p.add 1) e/\c ((di .i64 a b) !=e) g))->c b e f g)->(Dr b λb=>∃e,a=S e/\∃f,b.q e f/\∃e,a=S e/\∃a,b.z ((e.add 3).add 1) a/\∃e,b.z d.p e/\(OE f a e (λa b d e f g h i j k=>(A2 k [.z 0,.z 0] 155 λk l=>(A2 l [.z 0,.z 0,.z 0,.y 0,.y 0,.z 0] 157 λl m=>(aB m k.p 0 [.z a,.z b] λa=>(aB a l.p 0 [.z d,.z e,.z f,.y g,.y h,.z i] λa=>c k.p l.p j a)/\I)/\I)/\I)/\(A2 k [.z 0,.z 0,.z 0,.y 0,.y 0,.z 0] 157 λk l=>(A2 l [.z 0,.z 0] 155 λl m=>(aB m l.p 0 [.z a,.z b] λa=>(aB a k.p 0 [.z d,.z e,.z f,.y g,.y h,.z i] λa=>c l.p k.p j a)/\I)/\I)/\I)/\I) b)/\(A2 b [.z 0,.z 0] 155 λb d=>(OE f a e (λa d e f g h i j k l=>(A2 l [.z 0,.z 0,.z 0,.y 0,.y 0,.z 0] 157 λl m=>(aB m b.p 0 [.z a,.z d] λa=>(aB a l.p 0 [.z e,.z f,.z g,.y h,.y i,.z j] λa=>c b.p l.p k a)/\I)/\I)/\I) d)/\(A2 d [.z 0,.z 0,.z 0,.y 0,.y 0,.z 0] 157 λd g=>(OE f a e (λa e f g h i j k l m=>(aB m b.p 0 [.z a,.z e] λa=>(aB a d.p 0 [.z f,.z g,.z h,.y i,.y j,.z k] λa=>c b.p d.p l a)/\I)/\I) g)/\I)/\I)/\(A2 b [.z 0,.z 0,.z 0,.y 0,.y 0,.z 0] 157 λb d=>(OE f a e (λa d e f g h i j k l=>(A2 l [.z 0,.z 0] 155 λl m=>(aB m l.p 0 [.z a,.z d] λa=>(aB a b.p 0 [.z e,.z f,.z g,.y h,.y i,.z j] λa=>c l.p b.p k a)/\I)/\I)/\I) d)/\(A2 d [.z 0,.z 0] 155 λd g=>(OE f a e (λa e f g h i j k l m=>(aB m d.p 0 [.z a,.z e] λa=>(aB a b.p 0 [.z f,.z g,.z h,.y i,.y j,.z k] λa=>c d.p b.p l a)/\I)/\I) g)/\I)/\I)/\I)) w):=aj func67 (.v (.v (.y (.r (S [(4,.c .q),(5,.c .q),(6,.c .b)]) (.o 0 198640 (.o 1 198640 (.o 2 198640 (.o 3 198640 (.o 4 198144 (.o 5 198144 (.o 6 198144 (.o 7 198144 (.o 8 198144 (.o 9 196608 (.o 10 196608 (.f 11 (.o 12 196608 (.o 13 245760 (.o 14 491520 (.o 15 983040 (.f 16 (.e 17 .IT) (.e 17 (.e 16 .IT))))))) (.f 16 (.f 11 (.o 12 131072 (.o 13 180224 (.o 14 425984 (.o 15 917504 (.e 17 .IT))))) (.e 17 .KP)) (.e 17 (.f 11 (.o 12 65536 (.o 13 114688 (.o 14 360448 (.o 15 851968 (.e 16 .IT))))) (.e 16 .KP))))))))))))))))) (.y (.y (.r (S [(41,.c .b)]) .done) (.x .w)) (.y (.z (.o 0 14 (.o 1 124 (.o 2 8 (.o 4 8 (.o 5 8 (.hold 3 64 511 (.e 6 .Ko)))))))) (.v .w))))))
theorem Xk{a b c K w}:Fr (Qz a b c K w) (∃d,a=S d/\∃e,w.s (d.add 6) e/\∃d,e.a=S d/\0<=b/\b<(e.len:O)/\∃e,w.q (d.add (b.toNat*1)) e/\TA e c (λb c d e=>bif !d then K (-1) e else ∃d,a=S d/\∃f,e.q (d.add 2) f/\QG f b 0 c (λ_ c=>∃d,a=S d/\∃a,c.q (d.add 2) a/\PZ a b (λ_ a=>K b a) c) e) w):=aj func76 (.v .JR)
theorem Xl{a b K w}:Fr (UU a b K w) (∀c:Sl->O->Pw,(∀(d:Sl)(e:O)(f:J),(bif V (e<(a.len:O))then ∃g,a.a=S g/\0<=e/\e<(a.len:O)/\∃a,f.q (g.add (e.toNat*1)) a/\dU qe (b) [.pointer a] f λa b=>∃g,a= .returned (.pointer g)/\A2 b [.pointer g] 173 λa b=>∃g h,aM qe [104,104] 104 d.v (.slice (S a.p) 1 1) b g h/\c g (qf.wrap (e+1)) h else K d f)->c d e f)->c z0 0 w):=aj func85 .g24
theorem Xm{a b K w}:Fr (UW a b K w) (∀c:Sl->O->Pw,(∀(d:Sl)(e:O)(f:J),(bif V (e<(a.len:O))then ∃g,a.a=S g/\0<=e/\e<(a.len:O)/\∃a,f.q (g.add (e.toNat*1)) a/\dU qe (b) [.pointer a] f λa b=>∃g,a= .returned (.pointer g)/\A2 b [.pointer g] 177 λa b=>∃g h,aM qe [105,105] 105 d.v (.slice (S a.p) 1 1) b g h/\c g (qf.wrap (e+1)) h else K d f)->c d e f)->c z0 0 w):=aj func87 .g24
theorem Xn{a b K w}:Fr (UX a b K w) (∀c:Sl->O->Pw,(∀(d:Sl)(e:O)(f:J),(bif V (e<(a.len:O))then ∃g,a.a=S g/\0<=e/\e<(a.len:O)/\∃a,f.q (g.add (e.toNat*1)) a/\dU qe (b) [.pointer a] f λa b=>∃g,a= .returned (.pointer g)/\A2 b [.pointer g] 99 λa b=>∃g h,aM qe [101,101] 101 d.v (.slice (S a.p) 1 1) b g h/\c g (qf.wrap (e+1)) h else K d f)->c d e f)->c z0 0 w):=aj func89 .g24
theorem Xo{a K w}:Fr (UZ a K w) (bif V (a<0)then K Z w else K (V (a>=256)) w):=aj func116 (.v .w)
theorem Xp{a b K w}:Fr (U1 a b K w) (bif V (b>=0)then K (V (b<(a.len:O))) w else K G w):=aj func141 (.v .w)
theorem Xq{a b K w}:Fr (U2 a b K w) (bif V (b>=0)then K (V (b<(a.len:O))) w else K G w):=aj func142 (.v .w)
theorem Xr{a b K w}:Fr (U3 a b K w) (bif V (b>=0)then K (V (b<(a.len:O))) w else K G w):=aj func144 (.v .w)
theorem Xs{a b K w}:Fr (U4 a b K w) (bif V (b>=0)then K (V (b<(a.len:O))) w else K G w):=aj func146 (.v .w)
theorem Xt{a K w}:Fr (S1 a K w) (A2 w [.z 0,.z 0] 283 λb c=>A2 c [.z 0,.z 0,.z 0,.z 0,.z 0,.z 0,.z 0,.z 0,.z 0,.z 0,.z 0,.z 0,.z 0,.z 0,.z 0,.z 0,.z 0,.z 0,.z 0,.z 0,.z 0,.z 0,.z 0,.z 0,.z 0,.z 0,.z 0,.z 0,.z 0,.z 0,.z 0,.z 0,.z 0,.z 0,.z 0,.z 0] 390 λc d=>aB d c.p 0 [.z 1,.z 0,.z 0,.z 0,.z 0,.z 0,.z 0,.z 0,.z 0,.z 0,.z 3,.z 0,.z 3,.z 0,.z 3,.z 0,.z 4,.z 2,.z 4,.z 1,.z 5,.z 2,.z 5,.z 1,.z 7,.z 0,.z 6,.z 0,.z 8,.z 0,.z 9,.z 0,.z 9,.z 0,.z 0,.z 0] λd=>0<=a/\a<18/\ax d (c.p.add (a.toNat*2)) 0 [.o,.o] λ(a c:O)=>aB d b.p 0 [.z a,.z c] λa=>ax a b.p 0 [.o,.o] λ(b c:O)=>K b c a):=aj func148 (.v (.v .w))
theorem Xu{a b c K w}:Fr (OE a b c K w) (A2 w [.z 0,.z 0] 155 λd e=>A2 e [.z 0,.z 0,.z 0,.y 0,.y 0,.z 0] 157 λe f=>QM a b (λb f g h=>A2 h [.z 0,.z 0] 155 λh i=>aB i h.p 0 [.z b,.z f] λb=>∀f:qg->Pw,(∀(a:qg)(b:J),(Dr b λb=>ax b h.p 0 [.o,.o] λ(f h:O)=>bif g then ∃g,b.z a g/\bif g !=0 then bif c==0 then ax b a 0 [.o,.o,.o,.u,.u,.o] λ(g i j k l m:O)=>((aB b d.p 0 [.z f,.z h] λb=>yr b a 0 [.z g,.z i,.z j,.y k,.y l,.z m] ((aB b e.p 0 [.z g,.z i,.z j,.y k,.y l,.z m] λa=>ax a d.p 0 [.o,.o] λ(b c:O)=>ax a e.p 0 [.o,.o,.o,.u,.u,.o] λ(d e f g h i:O)=>K b c d e f g h i Z a)/\I))/\I)/\(aB b d.p 0 [.z f,.z h] λb=>yr b a 0 [.z g,.z i,.z j,.y k,.y l,.z m] (((aB b e.p 0 [.z g,.z i,.z j,.y k,.y l,.z m] λa=>ax a d.p 0 [.o,.o] λ(b c:O)=>ax a e.p 0 [.o,.o,.o,.u,.u,.o] λ(d e f g h i:O)=>K b c d e f g h i Z a)/\I)/\(aB b e.p 0 [.z g,.z i,.z j,.y k,.y l,.z m] λa=>ax a d.p 0 [.o,.o] λ(b c:O)=>ax a e.p 0 [.o,.o,.o,.u,.u,.o] λ(d e f g h i:O)=>K b c d e f g h i Z a)/\I))/\I else ax b a 0 [.o,.o,.o,.u,.u,.o] λ(g i j k l m:O)=>(∃n,b.z a n/\(aB b d.p 0 [.z f,.z h] λb=>yr b a 0 [.z g,.z i,.z j,.y k,.y l,.z m] ((aB b e.p 0 [.z g,.z i,.z j,.y k,.y l,.z m] λa=>ax a d.p 0 [.o,.o] λ(b d:O)=>ax a e.p 0 [.o,.o,.o,.u,.u,.o] λ(e f g h i j:O)=>K b d e f g h i j (n==c) a)/\I))/\I)/\(aB b d.p 0 [.z f,.z h] λb=>yr b a 0 [.z g,.z i,.z j,.y k,.y l,.z m] ((∃f,b.z a f/\(aB b e.p 0 [.z g,.z i,.z j,.y k,.y l,.z m] λa=>ax a d.p 0 [.o,.o] λ(b d:O)=>ax a e.p 0 [.o,.o,.o,.u,.u,.o] λ(e g h i j k:O)=>K b d e g h i j k (f==c) a)/\I)/\(aB b e.p 0 [.z g,.z i,.z j,.y k,.y l,.z m] λb=>∃f,b.z a f/\ax b d.p 0 [.o,.o] λ(a d:O)=>ax b e.p 0 [.o,.o,.o,.u,.u,.o] λ(e g h i j k:O)=>K a d e g h i j k (f==c) b)/\I))/\I else ax b a 0 [.o,.o,.o,.u,.u,.o] λ(c g i j k l:O)=>((aB b d.p 0 [.z f,.z h] λb=>yr b a 0 [.z c,.z g,.z i,.y j,.y k,.z l] ((aB b e.p 0 [.z c,.z g,.z i,.y j,.y k,.z l] λa=>ax a d.p 0 [.o,.o] λ(b c:O)=>ax a e.p 0 [.o,.o,.o,.u,.u,.o] λ(d e f g h i:O)=>K b c d e f g h i G a)/\I))/\I)/\(aB b d.p 0 [.z f,.z h] λb=>yr b a 0 [.z c,.z g,.z i,.y j,.y k,.z l] (((aB b e.p 0 [.z c,.z g,.z i,.y j,.y k,.z l] λa=>ax a d.p 0 [.o,.o] λ(b c:O)=>ax a e.p 0 [.o,.o,.o,.u,.u,.o] λ(d e f g h i:O)=>K b c d e f g h i G a)/\I)/\(aB b e.p 0 [.z c,.z g,.z i,.y j,.y k,.z l] λa=>ax a d.p 0 [.o,.o] λ(b c:O)=>ax a e.p 0 [.o,.o,.o,.u,.u,.o] λ(d e f g h i:O)=>K b c d e f g h i G a)/\I))/\I else ax b a 0 [.o,.o,.o,.u,.u,.o] λ(c g i j k l:O)=>((aB b d.p 0 [.z f,.z h] λb=>yr b a 0 [.z c,.z g,.z i,.y j,.y k,.z l] ((aB b e.p 0 [.z c,.z g,.z i,.y j,.y k,.z l] λa=>ax a d.p 0 [.o,.o] λ(b c:O)=>ax a e.p 0 [.o,.o,.o,.u,.u,.o] λ(d e f g h i:O)=>K b c d e f g h i G a)/\I))/\I)/\(aB b d.p 0 [.z f,.z h] λb=>yr b a 0 [.z c,.z g,.z i,.y j,.y k,.z l] (((aB b e.p 0 [.z c,.z g,.z i,.y j,.y k,.z l] λa=>ax a d.p 0 [.o,.o] λ(b c:O)=>ax a e.p 0 [.o,.o,.o,.u,.u,.o] λ(d e f g h i:O)=>K b c d e f g h i G a)/\I)/\(aB b e.p 0 [.z c,.z g,.z i,.y j,.y k,.z l] λa=>ax a d.p 0 [.o,.o] λ(b c:O)=>ax a e.p 0 [.o,.o,.o,.u,.u,.o] λ(d e f g h i:O)=>K b c d e f g h i G a)/\I))/\I)->f a b)->(Dr b λb=>∃c,a=S c/\∃a,b.q c a/\ax b h.p 0 [.o,.o] λ(c d:O)=>(Pk a c d (λa b c d e g _ h=>(A2 h [.z 0,.z 0,.z 0,.y 0,.y 0,.z 0] 157 λh i=>(aB i h.p 0 [.z a,.z b,.z c,.y d,.y e,.z g] λa=>f h.p a)/\I)/\I) b)/\(A2 b [.z 0,.z 0,.z 0,.y 0,.y 0,.z 0] 157 λb e=>(Pk a c d (λa c d e g h _ i=>(aB i b.p 0 [.z a,.z c,.z d,.y e,.y g,.z h] λa=>f b.p a)/\I) e)/\I)/\I)) f):=aj func149 (.v (.v (.y (.r (S [(11,.c .q)]) .g6) (.x (.z (.o 0 262142 (.o 2 2 (.o 3 2 (.o 4 2 (.o 5 2 (.o 6 2 (.o 7 2 (.o 8 2 (.o 9 2 (.o 10 2 (.o 11 2 (.o 12 802818 (.o 14 794626 (.hold 1 499712 1572863 (.f 13 (.o 15 786432 (.o 16 786432 (.o 17 786432 .IT))) (.e 18 (.f 13 (.o 15 524288 (.o 16 524288 (.o 17 524288 (.e 19 (.o 20 0 .done))))) (.e 19 (.o 13 0 (.o 15 0 (.o 16 0 (.o 17 0 (.o 20 0 .done))))))))))))))))))))))))))))
theorem Xv{a K w}:Fr (S2 a K w) (∃b,a=S b/\ax w (b.add 3) 0 [.o,.o,.o,.o,.o,.o] λ(b c d e f g:O)=>A2 w [.z 0,.z 0,.z 0,.z 0,.z 0,.z 0] 36 λh i=>aB i h.p 0 [.z b,.z c,.z d,.z e,.z f,.z g] λb=>∀c:Sl->qg->O->Pw,(∀(b:Sl)(d:qg)(e:O)(f:J),(bif e !=0 then K e f else ∃c,f.z (h.p.add 5) c/\QN a c (λc e f=>bif e !=0 then K e f else ∀e:W->Pw,(∀(f:W)(g:J),(bif f then K 2 g else Dr g λe=>∃f,a=S f/\∃g,e.q f g/\∃f,g=S f/\∃g,e.s (f.add 4) g/\∃f,a=S f/\∃i,e.z ((f.add 11).add 1) i/\ax e d 0 [.u,.o,.u] λ(d f j:O)=>∃k,g.a=S k/\0<=i/\i<(g.len:O)/\(aB e (k.add (i.toNat*3)) 0 [.y d,.z f,.y j] λd=>∀e:O->Pw,(∀(d:O)(f:J),(bif V (d<(c.len:O))then ∃g,c.a=S g/\0<=d/\d<(c.len:O)/\ax f (g.add (d.toNat*2)) 0 [.o,.o] λ(c g:O)=>A2 f [.z 0,.z 0] 155 λi j=>aB j i.p 0 [.z c,.z g] λc=>Dr c λc=>∃g,b.a=S g/\0<=d/\d<(b.len:O)/\∃b,c.y (g.add (d.toNat*1)) b/\ax c i.p 0 [.o,.o] λ(g j:O)=>∃k,c.z (h.p.add 3) k/\(TP a b (λb c=>c.z (h.p.add 3) k/\yr c i.p 0 [.z g,.z j] ((Rz a g j k b 7 0 0 0 (λa=>e (qf.wrap (d+1)) a) c)/\I)) c)/\I else K 0 f)->e d f)->e 0 d)/\I)->e f g)->(Dr f λb=>∃c,b.z (h.p.add 3) c/\bif c==2 then ∃c,a=S c/\∃d,b.q c d/\∃c,d=S c/\∃d,b.z (c.add 10) d/\∃c,b.z (h.p.add 5) c/\bif V ((qf.wrap (d+c))>64)then e Z b else ∃c,b.z (h.p.add 3) c/\bif c==3 then ∃c,a=S c/\∃d,b.q c d/\∃c,d=S c/\∃d,b.z (c.add 11) d/\∃c,b.z (h.p.add 5) c/\e (V ((qf.wrap (d+c))>64)) b else e G b else ∃c,b.z (h.p.add 3) c/\bif c==3 then ∃c,a=S c/\∃a,b.q c a/\∃c,a=S c/\∃a,b.z (c.add 11) a/\∃c,b.z (h.p.add 5) c/\e (V ((qf.wrap (a+c))>64)) b else e G b)) f)->c b d e f)->(Dr b λb=>∃d,a=S d/\∃e,b.q d e/\∃d,e=S d/\∃e,b.s (d.add 4) e/\∃d,a=S d/\∃a,b.z ((d.add 11).add 1) a/\∃d,e.a=S d/\0<=a/\a<(e.len:O)/\ax b (d.add (a.toNat*3)) 0 [.u,.o,.u] λ(a d e:O)=>∃f,b.z (h.p.add 3) f/\∃g,b.z (h.p.add 4) g/\∃i,b.z (h.p.add 5) i/\(Ry a d e f g i (λa b d e f g=>(A2 g [.y 0,.z 0,.y 0] 98 λg h=>(aB h g.p 0 [.y b,.z d,.y e] λb=>c a g.p f b)/\I)/\I) b)/\(A2 b [.y 0,.z 0,.y 0] 98 λb h=>(Ry a d e f g i (λa d e f g h=>(aB h b.p 0 [.y d,.z e,.y f] λd=>c a b.p g d)/\I) h)/\I)/\I)):=aj func150 (.v (.v (.y (.r (S [(4,.c .s),(5,.c .q),(6,.c (.i .i64))]) (.o 0 34590592 (.o 1 34590592 (.o 2 34590592 (.o 3 34590592 (.o 4 34590592 (.o 5 34590592 (.o 6 34590592 (.o 7 34586624 (.o 8 34586624 (.o 9 34586624 (.o 10 34586624 (.o 11 34586624 (.o 12 34586624 (.o 13 34586624 (.o 14 34537472 (.o 15 34537472 (.o 16 34340864 (.o 17 34340864 (.o 18 33554432 (.o 19 33554432 (.f 20 (.o 21 33554432 (.o 22 58720256 (.o 23 117440512 (.o 24 234881024 (.e 25 (.o 26 0 (.e 27 (.o 28 0 .done)))))))) (.e 25 (.e 20 (.o 21 0 (.o 22 25165824 (.o 23 83886080 (.o 24 201326592 (.o 26 0 (.e 27 (.o 28 0 .done))))))))))))))))))))))))))))))) (.y (.v (.x .w)) (.v (.y (.v (.x .w)) (.y (.y (.r (S [(85,.c .b)]) (.o 0 0 (.o 1 0 (.o 2 0 (.o 3 0 (.o 4 6144 (.o 5 6144 (.o 6 6144 (.o 7 6144 (.o 8 6144 (.o 9 6144 (.o 10 6144 (.o 11 0 (.o 12 0 (.o 13 0 (.o 14 0 (.o 15 0 (.o 16 0 (.o 17 0 (.o 18 0 (.o 19 0 (.o 20 0 (.o 21 805306368 (.o 22 805306368 (.o 23 805306368 (.o 24 805306368 (.o 25 805306368 (.o 26 805306368 (.o 27 805306368 (.o 28 0 (.o 29 0 (.o 30 0 (.o 31 0 (.o 32 0 (.o 33 0 .done))))))))))))))))))))))))))))))))))) (.x .w)) (.y (.z (.o 0 8064 (.o 1 8064 (.o 2 8064 (.o 3 8064 (.o 4 8064 (.o 5 8064 (.o 6 8064 (.o 7 4096 (.o 8 4096 (.o 9 4096 (.o 10 4096 (.o 11 4096 (.o 12 0 (.o 13 0 (.e 14 .done)))))))))))))))) (.y (.v (.x (.t (S [(102,.c (.i .i64))]) (.v (.y .w (.x (.x (.v (.z (.o 0 2046 (.o 2 1010 (.o 4 490 (.o 5 74 (.o 6 10 (.o 7 10 (.o 8 10 (.hold 1 1544 2047 (.hold 3 512 2047 (.e 9 (.o 10 0 (.e 11 .done)))))))))))))))))) .u))) .w)))))))))
theorem Xw{a K w}:Fr (S3 a K w) (∃b,a=S b/\∃c,w.z (b.add 11) c/\bif c==1 then K 181 w else QN a 1 (λb c d=>bif c !=0 then K c d else ∀c:O->qg->Pw,(∀(d:O)(e:qg)(f:J),(bif d !=0 then K d f else Dr f λc=>∃d,b.a=S d/\(0:O)<=0/\0<(b.len:O)/\ax c (d.add ((0:O).toNat*2)) 0 [.o,.o] λ(b d:O)=>ax c e 0 [.o,.o,.o,.u,.u,.o] λ(e f g h i j:O)=>(Rz a b d e f g h i j (λa=>K 0 a) c)/\I)->c d e f)->(Dr d λb=>∃d,a=S d/\ax b (d.add 11) 0 [.o,.o,.o,.u,.u,.o] λ(d e f g h i:O)=>∃j,a=S j/\∃k,b.z ((j.add 3).add 3) k/\∃j,a=S j/\∃a,b.z ((j.add 3).add 4) a/\(RA d e f g h i k (qv.wrap a) (λa b d e f g h i=>(A2 i [.z 0,.z 0,.z 0,.y 0,.y 0,.z 0] 157 λi j=>(aB j i.p 0 [.z a,.z b,.z d,.y e,.y f,.z g] λa=>c h i.p a)/\I)/\I) b)/\(A2 b [.z 0,.z 0,.z 0,.y 0,.y 0,.z 0] 157 λb j=>(RA d e f g h i k (qv.wrap a) (λa d e f g h i j=>(aB j b.p 0 [.z a,.z d,.z e,.y f,.y g,.z h] λa=>c i b.p a)/\I) j)/\I)/\I)) w):=aj func151 (.v (.y (.v (.x .w)) (.v (.y (.v (.x .w)) (.y (.r (S [(4,.c (.i .i64)),(5,.c .q)]) (.o 0 557040 (.o 1 557040 (.o 2 557040 (.o 3 557040 (.o 4 556544 (.o 5 556544 (.o 6 556544 (.o 7 556544 (.o 8 556544 (.o 9 524288 (.o 10 524288 (.o 11 524288 (.o 12 524288 (.o 13 524288 (.o 14 524288 (.f 15 (.o 16 524288 (.o 17 786432 (.o 18 1572864 (.e 19 (.e 20 (.o 21 0 .done)))))) (.e 19 (.e 15 (.o 16 0 (.o 17 262144 (.o 18 1048576 (.e 20 (.o 21 0 .done)))))))))))))))))))))))) (.y (.v (.x .w)) (.y (.z (.o 0 30 (.o 1 16 (.o 2 16 (.o 3 16 (.o 4 0 (.e 5 .done))))))) .w)))))))
theorem Xx{a K w}:Fr (S4 a K w) (QN a 1 (λb c d=>bif c !=0 then K c d else Dr d λc=>∃d,a=S d/\∃e,c.q d e/\∃d,e=S d/\∃e,c.q d e/\∃d,a=S d/\ax c (d.add 9) 0 [.o,.o] λ(d f:O)=>∃g,b.a=S g/\(0:O)<=0/\0<(b.len:O)/\ax c (g.add ((0:O).toNat*2)) 0 [.o,.o] λ(g h:O)=>(TQ e d f g h (λ_ c=>Dr c λc=>∃d,a=S d/\∃e,c.q d e/\∃d,e=S d/\∃e,c.q (d.add 1) e/\∃d,a=S d/\ax c (d.add 9) 0 [.o,.o] λ(a d:O)=>∃f,b.a=S f/\(0:O)<=0/\0<(b.len:O)/\ax c (f.add ((0:O).toNat*2)) 0 [.o,.o] λ(b f:O)=>(TR e a d b f (λ_ a=>K 0 a) c)/\I) c)/\I) w):=aj func152 (.v (.v (.y (.v (.x .w)) (.y .g7 (.y .g7 .w)))))
theorem Xy{a K w}:Fr (S5 a K w) (∃b,a=S b/\∃c,w.z ((b.add 3).add 1) c/\bif c==0 then K 181 w else ∃b,a=S b/\ax w (b.add 9) 0 [.o,.o] λ(b c:O)=>QO a b c (λa=>K 0 a) w):=aj func153 (.v .H9)
structure Ln where
 is:O
 note:O
 ay:O
deriving DecidableEq
def A6:dT Ln:=⟨3,λo=>[.z o.is,.z o.note,.y o.ay],λ_=>rfl,λx v h=>by simp only[LD,MB,qI]at h;rcases h with rfl|rfl|rfl<;>rfl,qb⟩
abbrev wU:=Y Ln
def jK(l:wU)(n:O):qh Ln:=if n<0 then N else l[n.toNat]?
def mc(l:wU)(n note ay:O):O × wU:=match jK l n with
 |none=>(130,l)
 |some x=>if note<0 then(1,l)else if x.is≠0 then(131,l)else(0,l.set n.toNat ⟨1,note,ay⟩)
def eI(l:wU)(n:O):(qh (O × O)× O)× wU:=match jK l n with
 |none=>((N,130),l)
 |some x=>if x.is=1 then((S (x.note,x.ay),0),l.set n.toNat { x with is:=2})
  else if x.is=2\/x.is=3 then((N,0),l.set n.toNat { x with is:=3})else((N,0),l)
def iu(l:wU)(n:O):(qh (O × O)× O)× wU:=match jK l n with
 |none=>((N,130),l)
 |some x=>if x.is=3 then((S (x.note,x.ay),0),l.set n.toNat { x with is:=2})
  else if x.is=2 then((N,0),l.set n.toNat { x with is:=1})else((N,0),l)
def bG(b:X)(l:wU):aH:=sB λs:Sl=>cj [aa b [s.v],af A6 s l]
theorem Ow.H5{s:Sl}{xs:Y α}[abw:cu s L α E xs]{i:O}{j:X}{x:α}{a:qg}(h:Ow B w0 w L)(hij:i=(j:O))(hj:xs[j]?=S x)(ha:s.a=S a):
  ∀v,(E.enc x)[0]?=S v->w.cell? (a.add (i.toNat*E.z))=S v:=by
 obtain⟨a',ha',_,_,g⟩:=h.cz (s:=s) (abx:=λa=>∀v,(E.enc x)[0]?=S v->w.cell? (a.add (i.toNat*E.z))=S v) hij hj (λa _ h1 h2=>h1);rw[ha]at ha';cases ha';exact g
theorem Ow.Ja{s:Sl}{xs:Y α}[abw:cu s L α E xs]{i:O}{j:X}{x:α}{a:qg}(h:Ow B w0 w L)(hij:i=(j:O))(hj:xs[j]?=S x)(ha:s.a=S a):
  ∀c v,(E.enc x)[c]?=S v->w.cell? ((a.add (i.toNat*E.z)).add c)=S v:=by
 obtain⟨a',ha',_,_,g⟩:=h.cz (s:=s) (abx:=λa=>∀c v,(E.enc x)[c]?=S v->w.cell? ((a.add (i.toNat*E.z)).add c)=S v) hij hj (λa _ h1 h2=>h2);rw[ha]at ha';cases ha';exact g
end
section
variable{B:X}{w0 w:J}{R L:Y aH}{b:X}{l:wU}{s:Sl}
theorem Ow.lines(h:Ow B w0 w (bG b l::R)):∃s:Sl,Ow B w0 w (aa b [s.v]::af A6 s l::R):=by obtain⟨s,h⟩:=h.ex;exact⟨s,h.star⟩
theorem Ow.dM{s:Sl}(h:Ow B w0 w (aa b [s.v]::af A6 s l::R)):Ow B w0 w (bG b l::R):=Ow.fk s (Ow.bW h)
theorem Io{L:Y aH}{n:O}{k:Sl->Pw}(h:Ow B w0 w L)(h0:0<=n)(hn:n<=1000000)(hk:∀s' w',s'.len=n.toNat->Ow B w0 w' (af A6 s' (Ly n.toNat ⟨0,0,0⟩)::L)->k s' w'):
  ∃s' w',km qe 250 (.z n) (.z n) w s' w'/\k s' w':=
 Ow.s6 (E:=A6) (z0:=⟨0,0,0⟩) aa0 (show qe.info? 316=S aaH from by kernel_rfl) (zv:= .agg ⟨A6.enc ⟨0,0,0⟩⟩) qa qa U h h0 (by
  have e:aaH.bytes=24:=qa
  rw[e];omega) om hk
theorem xv{K:qh qg->O->Pw}(h:Ow B w0 w R)(hK:∀b w',Ow B w0 w' (bG b (Ly 8 ⟨0,0,0⟩)::R)->K b.o 0 w'):Sn 8 K w:=by
 apply WV;intro k2 hk2;refine aw qb ?_;rw[show V ((8:O)>64)=G from by decide];apply hk2;refine bc U ?_;refine Io h qb qb λs w hl h=>?_;refine h.al λw1 h=>?_;exact hK _ w1 (Ow.dM (s:=s) h)
theorem kT{n:O}{K:qh qg->Pw}{s:Sl}(h:Ow B w0 w (aa b [s.v]::af A6 s l::R))(h1:jK l n=N->K N w)
  (h2:∀x a,jK l n=S x->s.a=S a->0<=n->n<(l.length:O)->l[n.toNat]?=S x->K (S (a.add (n.toNat*3))) w):QF b.o n K w:=by
 apply WY;have hlen:=h.aL s;intro k3 hk3;refine bo (λe=>?_) (λe=>?_)
 .apply hk3
  refine bh U (h1 ?_);unfold jK;rw[qd e]
 refine⟨_,U,s,h.aF U,?_⟩;apply hk3;by_cases e2:(l.length:O)<=n
 .rw[qu om]
  refine bh U (h1 ?_);unfold jK;rw[F e,L0 om]
 .rw[qm om]
  refine bc U ?_;have hx:l[n.toNat]?=S l[n.toNat]:=gE om;refine⟨_,U,s,h.aF U,h.cz (s:=s) (i:=n) (j:=n.toNat) om hx λa ha hc0 hc=>?_⟩;exact h2 _ a (by unfold jK;rw[F e];exact hx) ha om om hx
theorem vA{n note g:O}{K:O->Pw}(h:Ow B w0 w (bG b l::R))(hK:∀w',Ow B w0 w' (bG b (mc l n note g).2::R)->K (mc l n note g).1 w'):TX b.o n note g K w:=by
 apply WZ;obtain⟨s,h⟩:=h.lines;unfold mc at hK;refine kT h (λe=>?_) (λx a e ha h0 hlt hx=>?_)
 .rw[e]at hK
  exact bh U (hK _ (Ow.dM (s:=s) h))
 .rw[e]at hK
  dsimp only at hK;refine bc U ?_;refine bo (λe1=>?_) (λe1=>?_)
  .rw[qd e1]at hK
   exact hK _ (Ow.dM (s:=s) h)
  rw[F e1]at hK;have hc:=h.cq.H5 (s:=s) (i:=n) (j:=n.toNat) om hx ha;refine⟨_,U,x.is,hc _ U,oU (λe2=>?_) (λe2=>?_)⟩
  .rw[qd e2]at hK
   exact hK _ (Ow.dM (s:=s) h)
  .rw[F om]at hK
   refine⟨_,U,h.sU (s:=s) (xs:=l) (i:=n) (j:=n.toNat) ⟨1,note,g⟩ om om ha λw h=>?_⟩;exact hK _ (Ow.dM (s:=s) h.cq)
theorem pH{n:O}{x:Ln}(h:jK l n=S x):0<=n/\l[n.toNat]?=S x:=by
 unfold jK at h;split at h
 .cases h
 .exact ⟨om,h⟩
theorem Hm{s:Sl}{n:O}{x:Ln}{a:qg}{v:O}{k:Pw}(h:Ow B w0 w (aa b [s.v]::af A6 s l::R))(h0:0<=n)(hx:l[n.toNat]?=S x)(ha:s.a=S a)
  (hk:∀w',Ow B w0 w' (aa b [s.v]::af A6 s (l.set n.toNat { x with is:=v})::R)->k w'):St w (a.add (n.toNat*3)) (.z v) k:=by
 have e:(a.add (n.toNat*3))=(a.add (n.toNat*3)).add 0:=by rw[Addr.add_add];rfl
 rw[e];exact h.zO (s:=s) (i:=n) (j:=n.toNat) (c:=0) { x with is:=v} om hx ha U qb U λw h=>hk w h.cq
theorem uh{n:O}{K:O->O->W->O->Pw}(h:Ow B w0 w (bG b l::R))
  (hK:∀w',Ow B w0 w' (bG b (eI l n).2::R)->K ((eI l n).1.1.getD (0,0)).1 ((eI l n).1.1.getD (0,0)).2 (eI l n).1.1.isSome (eI l n).1.2 w'):SF b.o n K w:=by
 apply WW;obtain⟨s,h⟩:=h.lines;unfold eI at hK;refine kT h (λe=>?_) (λx a e ha h0 hlt hx=>?_)
 .rw[e]at hK
  exact bh U (hK _ (Ow.dM (s:=s) h))
 .rw[e]at hK
  dsimp only at hK;refine bc U ?_;have hc:=h.cq.H5 (s:=s) (i:=n) (j:=n.toNat) om hx ha;refine⟨_,U,x.is,hc _ U,?_⟩;intro k7 hk7;have again:x.is=2\/x.is=3->∀w,Ow B w0 w (aa b [s.v]::af A6 s l::R)->k7 w:=λe2 w h=>by
   apply hk7;refine⟨_,U,Hm h h0 hx ha λw h=>?_⟩;rw[F om,qd e2]at hK;exact hK w (Ow.dM (s:=s) h)
  refine dE (λe1=>?_) (λe1=>?_)
  .rw[qd e1]at hK
   refine⟨_,U,Hm h h0 hx ha λw h=>?_⟩;refine h.dr λw h=>?_;have hc:=h.cq.Ja (s:=s) (i:=n) (j:=n.toNat) (x:={ x with is:=2}) om (by rw[Nb om]) ha;exact⟨_,U,_,hc 1 _ U,_,U,_,hc 2 _ U,hK w (Ow.dM (s:=s) h)⟩
  refine dE (λe2=>?_) (λe2=>?_)
  .exact again (.inl e2) _ h
  refine dE (λe3=>?_) (λe3=>?_)
  .exact again (.inr e3) _ h
  .rw[F e1,F om]at hK
   exact hK _ (Ow.dM (s:=s) h)
theorem xu{n:O}{K:O->O->W->O->Pw}(h:Ow B w0 w (bG b l::R))
  (hK:∀w',Ow B w0 w' (bG b (iu l n).2::R)->K ((iu l n).1.1.getD (0,0)).1 ((iu l n).1.1.getD (0,0)).2 (iu l n).1.1.isSome (iu l n).1.2 w'):TY b.o n K w:=by
 apply W0;obtain⟨s,h⟩:=h.lines;unfold iu at hK;refine kT h (λe=>?_) (λx a e ha h0 hlt hx=>?_)
 .rw[e]at hK
  exact bh U (hK _ (Ow.dM (s:=s) h))
 .rw[e]at hK
  dsimp only at hK;refine bc U ?_;have hc:=h.cq.H5 (s:=s) (i:=n) (j:=n.toNat) om hx ha;refine⟨_,U,x.is,hc _ U,dE (λe1=>?_) (λe1=>?_)⟩
  .rw[qd e1]at hK
   refine⟨_,U,Hm h h0 hx ha λw h=>?_⟩;refine h.dr λw h=>?_;have hc:=h.cq.Ja (s:=s) (i:=n) (j:=n.toNat) (x:={ x with is:=2}) om (by rw[Nb om]) ha;exact⟨_,U,_,hc 1 _ U,_,U,_,hc 2 _ U,hK w (Ow.dM (s:=s) h)⟩
  refine dE (λe2=>?_) (λe2=>?_)
  .rw[F e1,qd e2]at hK
   refine⟨_,U,Hm h h0 hx ha λw h=>?_⟩;exact hK w (Ow.dM (s:=s) h)
  .rw[F e1,F e2]at hK
   exact hK _ (Ow.dM (s:=s) h)
theorem Ei{s:Sl}{xs:Y Ln}{K:Sl->Pw}[abw:cu s L Ln A6 xs](h:Ow B w0 w L)(hbig:xs.length<=1000000)(hK:∀s' w',Ow B w0 w' (af A6 s' xs::L)->K s' w'):TF s K w:=by
 apply Vz;exact tw (s:=s) (E:=A6) (xs:=xs) (zv:= .agg ⟨A6.enc ⟨0,0,0⟩⟩) aa0 (show qe.info? 316=S aaH from by kernel_rfl) qa qa U qb h (by
  have e:aaH.bytes=24:=qa
  rw[e];omega) hK
theorem vB{K:qh qg->Pw}(hl:l.length<=1000)(h:Ow B w0 w (bG b l::R))(hK:∀b' w',Ow B w0 w' (bG b' l::bG b l::R)->K b'.o w'):SM b.o K w:=by
 apply WX;obtain⟨s,h⟩:=h.lines;refine⟨_,U,s,h.aF U,Ei (s:=s) h om λs' w h=>?_⟩;refine h.a λd w2 h=>?_;refine hK d _ (Ow.dM (s:=s') (Ow.sub (L:=bG b l::aa d [s'.v]::af A6 s' l::R) ?_));exact Ow.dM (s:=s) h.sub
def yl:dT Ln:=⟨5,λo=>[.bool (V (o.is≠0)),.z o.note,.y o.ay,.bool (V (o.is=1)),.bool (V (o.is=3))],λ_=>rfl,λx v h=>by simp only[LD,MB,qI]at h;rcases h with rfl|rfl|rfl|rfl|rfl<;>rfl,qb⟩
def CK(l:wU):Prop:=∀x∈l,0<=x.is/\x.is<=3
def cV(b:X)(l:wU):aH:=sB λs:Sl=>cj [dh (CK l),aa b [s.v],af yl s l]
theorem CK.set{l:wU}{i:X}{x:Ln}(h:CK l)(hx:0<=x.is/\x.is<=3):CK (l.set i x):=λy hy=>by
 rcases Mz hy with hy|rfl
 .exact h y hy
 .exact hx
theorem Jq{w:J}{a:qg}{x:Ln}{f:W->O->O->W->W->Prop}(g:∀c v,(yl.enc x)[c]?=S v->w.cell? (a.add c)=S v)(hf:f (V (x.is≠0)) x.note x.ay (V (x.is=1)) (V (x.is=3))):
  ax w a 0 [.b,.o,.u,.b,.b] f:=⟨_,g 0 _ U,_,g 1 _ U,_,g 2 _ U,_,g 3 _ U,_,g 4 _ U,hf⟩
theorem xV(h:Ow B w0 w (cV b l::R)):∃s:Sl,CK l/\Ow B w0 w (aa b [s.v]::af yl s l::R):=by obtain⟨s,h⟩:=h.ex;obtain⟨h1,h⟩:=Ow.pure h.star;exact⟨s,h1,h⟩
theorem dK(h1:CK l)(h:Ow B w0 w (aa b [s.v]::af yl s l::R)):Ow B w0 w (cV b l::R):=Ow.fk s (Ow.bW (Ow.cT h1 h))
theorem BF{n:O}{K:W->Pw}(h:Ow B w0 w (aa b [s.v]::af yl s l::R))(hK:K (jK l n).isSome w):QH b.o n K w:=by
 apply Wx;have hl:=h.aL s;unfold jK at hK;refine bo (λe=>?_) (λe=>?_)
 .refine ⟨_,U,s,h.aF U,?_⟩
  rw[F om]at hK;cases hx:l[n.toNat]? with
  |none=>
   rw[hx]at hK;have:=List.getElem?_eq_none_iff.1 hx;rw[qm om];exact hK
  |some x=>
   rw[hx]at hK;have:=(Lu.1 hx).1;rw[qu om];exact hK
 .rw[qd om]at hK
  exact hK
theorem Hn{n:O}{x x':Ln}{a:qg}{c:X}{v:Q}{k:Pw}(h:Ow B w0 w (aa b [s.v]::af yl s l::R))(h0:0<=n)(hx:l[n.toNat]?=S x)(ha:s.a=S a)
  (he:yl.enc x'=(yl.enc x).set c v) (hc:c<5) (hv:v.oneCell'=Z) (hk:∀w',Ow B w0 w' (aa b [s.v]::af yl s (l.set n.toNat x')::R)->k w'):St w ((a.add (n.toNat*5)).add c) v k:=
 h.zO (s:=s) (i:=n) (j:=n.toNat) (c:=c) x' om hx ha he hc hv λw h=>hk w h.cq
theorem zu{n:O}{K:O->O->W->O->Pw}(h:Ow B w0 w (cV b l::R))
  (hK:∀w',Ow B w0 w' (cV b (eI l n).2::R)->K ((eI l n).1.1.getD (0,0)).1 ((eI l n).1.1.getD (0,0)).2 (eI l n).1.1.isSome (eI l n).1.2 w'):SG b.o n K w:=by
 apply Wu;obtain⟨s,hok,h⟩:=xV h;refine BF h ?_;unfold eI at hK;cases e:jK l n with
 |none=>rw[e]at hK;exact bh U (hK _ (dK hok h))
 |some x=>
  rw[e]at hK;dsimp only at hK;refine bc U ?_;obtain⟨h0,hx⟩:=pH e;have hlt:=(Lu.1 hx).1;have hx3:=hok x (L4 hx);have hl:=h.aL s;refine⟨_,U,s,h.aF U,h.cz (s:=s) (j:=n.toNat) om hx λa ha hc0 hc=>?_⟩;refine Jq hc ?_;refine h.a λc w1 h=>?_;refine h.aA U U λw h=>?_;refine h.l1 U ?_;by_cases e0:x.is=0
  .refine bh (by rw[e0];rfl) ?_
   rw[F om,F om]at hK
   try dsimp only at hK
   exact hK w (dK (s:=s) hok h.drop)
  refine bc (by rw[qu e0];rfl) ?_;refine h.l2 U ?_;have h:Ow B w0 w (aa b [s.v]::af yl s l::aa c [.bool (V (x.is≠0)),.z x.note,.y x.ay,.bool (V (x.is=1)),.bool (V (x.is=3))]::R):=h.sub;refine bo (λe1=>?_) (λe1=>?_)
  .rw[qd e1]at hK
   refine⟨_,U,s,h.aF U,a,ha,om,om,Hn (x':={ x with is:=2}) h h0 hx ha (by simp[yl,e1]) qb U λw h=>?_⟩;refine h.dr λw h=>?_;refine⟨_,h.aE U,h.l2 U ?_⟩
   try dsimp only at hK
   exact hK w (dK (s:=s) (hok.set ⟨qc,qc⟩) h.sub)
  .rw[F e1,qd om]at hK
   refine⟨_,U,s,h.aF U,a,ha,om,om,Hn (x':={ x with is:=3}) h h0 hx ha (by simp[yl,e0,e1]) qb U λw h=>?_⟩
   try dsimp only at hK
   exact hK w (dK (s:=s) (hok.set ⟨qc,qc⟩) h.sub)
theorem DD{n:O}{K:O->O->W->O->Pw}(h:Ow B w0 w (cV b l::R))
  (hK:∀w',Ow B w0 w' (cV b (iu l n).2::R)->K ((iu l n).1.1.getD (0,0)).1 ((iu l n).1.1.getD (0,0)).2 (iu l n).1.1.isSome (iu l n).1.2 w'):Tz b.o n K w:=by
 apply Ww;obtain⟨s,hok,h⟩:=xV h;refine BF h ?_;unfold iu at hK;cases e:jK l n with
 |none=>rw[e]at hK;exact bh U (hK _ (dK hok h))
 |some x=>
  rw[e]at hK;dsimp only at hK;refine bc U ?_;obtain⟨h0,hx⟩:=pH e;have hlt:=(Lu.1 hx).1;have hx3:=hok x (L4 hx);have hl:=h.aL s;refine⟨_,U,s,h.aF U,h.cz (s:=s) (j:=n.toNat) om hx λa ha hc0 hc=>?_⟩;refine Jq hc ?_;refine h.a λc w1 h=>?_;refine h.aA U U λw h=>?_;have h:Ow B w0 w (aa b [s.v]::af yl s l::aa c [.bool (V (x.is≠0)),.z x.note,.y x.ay,.bool (V (x.is=1)),.bool (V (x.is=3))]::R):=h.sub;intro k15 hk15;have out:x.is=0\/x.is=1->k15 Z w:=λe2=>by
   apply hk15;refine bh U ?_;rw[F om,F om]at hK
   try dsimp only at hK
   exact hK w (dK (s:=s) hok h.sub)
  refine h.l1 U ?_;by_cases e0:x.is=0
  .exact bh (by rw[e0];rfl) (out (.inl e0))
  refine bc (by rw[qu e0];rfl) ?_;refine h.l2 U ?_;by_cases e1:x.is=1
  .rw[qu e1];exact out (.inr e1)
  rw[qm e1];apply hk15;refine bc U ?_;refine h.l2 U ?_;refine bo (λe3=>?_) (λe3=>?_)
  .rw[qd e3]at hK
   refine⟨_,U,s,h.aF U,a,ha,om,om,Hn (x':={ x with is:=2}) h h0 hx ha (by simp[yl,e3]) qb U λw h=>?_⟩;refine h.dr λw h=>?_;refine⟨_,h.aE U,h.l2 U ?_⟩
   try dsimp only at hK
   exact hK w (dK (s:=s) (hok.set ⟨qc,qc⟩) h.sub)
  .have e2:x.is=2:=om
   rw[F e3,qd e2]at hK;refine⟨_,U,s,h.aF U,a,ha,om,om,Hn (x':={ x with is:=1}) h h0 hx ha (by simp[yl,e2]) qb U λw h=>?_⟩
   try dsimp only at hK
   exact hK w (dK (s:=s) (hok.set ⟨qc,qc⟩) h.sub)
theorem Bj{n note g:O}{K:O->Pw}(h:Ow B w0 w (cV b l::R))
  (hK:∀w',Ow B w0 w' (cV b (mc l n note g).2::R)->K (mc l n note g).1 w'):Ty b.o n note g K w:=by
 apply Wv;obtain⟨s,hok,h⟩:=xV h;refine BF h ?_;unfold mc at hK;cases e:jK l n with
 |none=>rw[e]at hK;exact bh U (hK _ (dK hok h))
 |some x=>
  rw[e]at hK;dsimp only at hK;refine bc U ?_;obtain⟨h0,hx⟩:=pH e;have hlt:=(Lu.1 hx).1;have hl:=h.aL s;refine bo (λe1=>?_) (λe1=>?_)
  .rw[qd e1]at hK;exact hK w (dK (s:=s) hok h)
  rw[F e1]at hK;refine⟨_,U,s,h.aF U,h.cz (s:=s) (j:=n.toNat) om hx λa ha hc0 hc=>⟨_,hc0 _ U,?_⟩⟩
  refine bo (λe2=>?_) (λe2=>?_)
  .rw[qd e2]at hK;exact hK w (dK (s:=s) hok h)
  rw[F e2]at hK;refine⟨_,U,s,h.aF U,a,ha,om,om,?_⟩;have ev:([.bool Z,.z note,.y g,.bool Z,.bool G]:Y Q)=yl.enc ⟨1,note,g⟩:=rfl;rw[ev];refine h.sU (s:=s) (i:=n) (j:=n.toNat) (⟨1,note,g⟩:Ln) om hlt ha λw h=>?_
  try dsimp only at hK
  exact hK w (dK (s:=s) (hok.set ⟨by show(0:O)<=1;decide,by show(1:O)<=3;decide⟩) h.cq)
end
namespace Sl
section
variable{B:X}{w0 w:J}{R:Y aH}
structure cN where
 kind:O
 obj:O
 ar:O
 ay:O
 guard:O
 bits:O
deriving DecidableEq
abbrev cN.cells(c:cN):Y Q:=[.z c.kind,.z c.obj,.z c.ar,.y c.ay,.y c.guard,.z c.bits]
def iL(c:cN):Q:= .agg ⟨c.cells⟩
def ak:cN:=⟨0,0,0,0,0,0⟩
def mm:dT cN:=⟨6,cN.cells,λ_=>rfl,λx v h=>by simp only[cN.cells,LD,MB,qI]at h;rcases h with rfl|rfl|rfl|rfl|rfl|rfl<;>rfl,qb⟩
structure fg(c:cN):Prop where
 b0:0<=c.ay
 b1:c.ay<18446744073709551616
 g0:0<=c.guard
 g1:c.guard<18446744073709551616
def dZ(g bits:O):W:=V (0<=bits/\bits<=64/\g<2^bits.toNat)
def cP(k:O):W:=k==4||k==5||k==6
def cW(k:O):W:=k==4||k==5
def fU(c:cN):W:=
 !(V (0<c.kind)&&V (c.kind<10)&&V (0<=c.obj)&&V (c.obj<2147483648)&&(V (0<=c.ar)&&V (c.ar<=7))&&dZ c.guard c.bits)
  ||(!cP c.kind&&c.ar !=7)||(c.ay !=0&& !cW c.kind)||(c.bits !=0&&c.kind !=2)
def bY(c:cN):O:=if c=ak then 0 else if fU c then 40 else 0
theorem wrap_u64(z:X):qv.wrap (z:O)=((z%2^64:X):O):=by
 have e1:(2:O)^64=18446744073709551616:=qb
 have e2:(2:X)^64=18446744073709551616:=qb
 simp only[IntKind.wrap,IntKind.bits,IntKind.signed,e1,e2,M0,Bool.false_eq_true,qy];omega
theorem xA(n:X)(hn:n<=64):qv.wrap (ic .u64 1 (n:O)-1)=((2^n-1:X):O):=by
 have e2:(2:X)^64=18446744073709551616:=qb
 have hp:0<2^n:=MD n;unfold ic;rw[Lw,show qv.bits=64 from U,Ms hn,Pp,show((2:O)^n)=((2^n:X):O)from by simp,wrap_u64];by_cases e:n=64
 .subst e
  rw[e2];rfl
 .have hlt:2^n<2^64:=Nat.pow_lt_pow_right om om
  rw[L7 hlt,show(((2^n:X):O)-1)=((2^n-1:X):O)from by omega,wrap_u64,L7 om]
theorem pk(z:X):BitVec.ofInt qv.bits (z:O)=BitVec.ofNat 64 z:=by apply BitVec.eq_of_toNat_eq;simp[IntKind.bits,BitVec.toNat_ofInt]
theorem xf(v n:X)(hv:v<2^64)(hn:n<=64):di .u64 (v:O) ((2^n-1:X):O)=((v%2^n:X):O):=by
 have hp:0<2^n:=MD n;have hle:2^n<=2^64:=Mh om hn;unfold di;rw[pk,pk];have h1:(BitVec.ofNat 64 v &&& BitVec.ofNat 64 (2^n-1)).toNat=v%2^n:=by rw[BitVec.toNat_and,BitVec.toNat_ofNat,BitVec.toNat_ofNat,L7 hv,L7 om,Nat.and_two_pow_sub_one_eq_mod]
 show qv.wrap (((BitVec.ofNat 64 v &&& BitVec.ofNat 64 (2^n-1)).toNat:X):O)=_;rw[h1,wrap_u64,L7 (NX (PE _ _) hv)]
theorem Ay(v n:X)(hv:v<2^64)(hn:n<=64):(fE .u64 (v:O) ((2^n-1:X):O)==0)=V (v<2^n):=by
 have hp:0<2^n:=MD n;have hle:2^n<=2^64:=Mh om hn;unfold fE;rw[pk,pk];have hgl:∀(z j:X),j<64->(BitVec.ofNat 64 z).getLsbD j=z.testBit j:=λz j hj=>by rw[BitVec.getLsbD_ofNat];simp[hj]
 have hbit:∀j,j<64->(BitVec.ofNat 64 v &&& ~~~ BitVec.ofNat 64 (2^n-1)).toNat.testBit j=(v.testBit j&& !decide (j<n)):=λj hj=>by rw[BitVec.testBit_toNat,BitVec.getLsbD_and,BitVec.getLsbD_not,hgl _ _ hj,hgl _ _ hj,O6];simp[hj]
 have hlt:=(BitVec.ofNat 64 v &&& ~~~ BitVec.ofNat 64 (2^n-1)).isLt;show(qv.wrap (((BitVec.ofNat 64 v &&& ~~~ BitVec.ofNat 64 (2^n-1)).toNat:X):O)==0)=_;generalize hz:(BitVec.ofNat 64 v &&& ~~~ BitVec.ofNat 64 (2^n-1)).toNat=z at hbit hlt;rw[wrap_u64,L7 hlt];rw[Nh];simp only[qH,qB];constructor
 .intro h0
  have h0:z=0:=om
  subst h0;refine Nat.lt_pow_two_of_testBit v λi hi=>?_;by_cases h64:i<64
  .have:=hbit i h64
   rw[Qa]at this;simp only[show ¬i<n from by omega,decide_false,MK,NO]at this;exact this.symm
  .exact NC (MR hv (Mh om om))
 .intro hvn
  have:z=0:=by
   apply OU;intro i;rw[Qa];by_cases h64:i<64
   .rw[hbit i h64]
    by_cases hin:i<n
    .simp[hin]
    .rw[NC (MR hvn (Mh om om))];rfl
   .exact NC (MR hlt (Mh om om))
  omega
theorem lh(x k:X)(hk:k<=64):kd .u64 (x:O) (k:O)=((x / 2^k:X):O):=by unfold kd;rw[Lw,show qv.bits=64 from U,Ms hk];rw[show((2:O)^k)=((2^k:X):O)from by simp];rw[Int.fdiv_eq_ediv_of_nonneg _ (Nr _)];simp
theorem fz{n:X}{K:O->Pw}(hn:n<=64)(h:K ((2^n-1:X):O) w):Qp (n:O) K w:=by apply Vm;rw[xA n hn];exact⟨om,h⟩
theorem tv{n:O}{K:O->O->Pw}(h1:¬(0<=n/\n<=64)->K 0 1 w)(h2:∀k:X,n=(k:O)->k<=64->K ((2^k-1:X):O) 0 w):UB n K w:=by
 apply Wg;intro k2 hk2;by_cases e:n<0
 .rw[show V (n<0)=Z from by simpa using e,ql]
  apply hk2;rw[ql];exact h1 om
 .rw[show V (n<0)=G from by simpa using e,qp]
  apply hk2;by_cases e2:n>64
  .rw[show V (n>64)=Z from by simpa using e2,ql];exact h1 om
  .rw[show V (n>64)=G from by simpa using e2,qp]
   obtain⟨k,rfl⟩:=LB (by omega:0<=n);exact fz om (h2 k U om)
theorem sY{g bits:O}{K:W->Pw}(h0:0<=g)(h1:g<18446744073709551616)(h:K (dZ g bits) w):Ub g bits K w:=by
 apply WB;have e2:(2:X)^64=18446744073709551616:=qb
 refine tv (λhn=>?_) (λk hk hk2=>?_)
 .rw[show((1:O)==0)=G from U,qp]
  have:dZ g bits=false:=by unfold dZ;rw[qm];rintro⟨h1,h2,_⟩;exact hn ⟨h1,h2⟩
  rw[this]at h;exact h
 .subst hk
  rw[show((0:O)==0)=Z from U,ql];obtain⟨v,rfl⟩:=LB h0;rw[Ay v k om hk2];have:dZ (v:O) (k:O)=V (v<2^k):=by unfold dZ;rw[qV,Lw,show((2:O)^k)=((2^k:X):O)from by simp];omega
  rw[this]at h;exact h
theorem ky{n:O}{K:W->Pw}(h:K (V (0<=n)&&V (n<=7)) w):RJ n K w:=by
 apply WA;by_cases e:0<=n
 .rw[show V (n>=0)=Z from by simpa using e,ql]
  rw[show V (0<=n)=Z from by simpa using e,M6]at h;exact h
 .rw[show V (n>=0)=G from by simpa using e,qp]
  rw[show V (0<=n)=G from by simpa using e,M0]at h;exact h
theorem jO{k:O}{K:W->Pw}(h:K (cP k) w):RK k K w:=by
 apply WC;unfold cP at h;cases h4:k==4 with
 |true=>rw[ql];rw[h4]at h;exact h
 |false=>
  rw[qp];cases h5:k==5 with
  |true=>rw[ql];rw[h4,h5]at h;exact h
  |false=>rw[qp];rw[h4,h5]at h;exact h
theorem kv{k:O}{K:W->Pw}(h:K (cW k) w):RL k K w:=by
 apply WD;unfold cW at h;cases h4:k==4 with
 |true=>rw[ql];rw[h4]at h;exact h
 |false=>rw[qp];rw[h4]at h;exact h
theorem J3(a b:cN):lO qe 9 157 a.cells b.cells=S (V (a=b)):=by
 have h:lO qe 9 157 a.cells b.cells=S (a.kind==b.kind&&(a.obj==b.obj&&(a.ar==b.ar&&(a.ay==b.ay&&(a.guard==b.guard&&(a.bits==b.bits&&Z)))))):=qa
 rw[h];congr 1;rw[Nh];simp only[NO,LO,qH,qB];cases a;cases b;simp only[cN.mk.injEq]
theorem HG{x y:qD}(a b:cN):vl qe .eql 157 x y (.agg ⟨a.cells⟩) (.agg ⟨b.cells⟩) (V (a=b)):=EJ qa qa qa (J3 a b)
theorem iI{c:cN}{K:O->Pw}(h:Ow B w0 w R)(hc:fg c)(hK:∀w',Ow B w0 w' R->K (bY c) w'):QK c.kind c.obj c.ar c.ay c.guard c.bits K w:=by
 apply Wy;refine h.al λw1 h=>?_;have hcell:∀w',Ow B w0 w' (aa w.heap.size c.cells::R)->Ow B w0 w' (aa w.heap.size c.cells::R):=λ_ h=>h;have h:Ow B w0 w1 (aa w.heap.size c.cells::R):=h;simp only[aI,LF];intro k8 hk8;have fin:k8 (V (0<c.kind)&&V (c.kind<10)&&V (0<=c.obj)&&V (c.obj<2147483648)&&(V (0<=c.ar)&&V (c.ar<=7))&&dZ c.guard c.bits) w1:=by
  generalize hr:(V (0<c.kind)&&V (c.kind<10)&&V (0<=c.obj)&&V (c.obj<2147483648)&&(V (0<=c.ar)&&V (c.ar<=7))&&dZ c.guard c.bits)=right;apply hk8;refine h.s0 0 U U ?_;refine⟨_,HG c ak,?_⟩;have hb:fU c=(!right||(!cP c.kind&&c.ar !=7)||(c.ay !=0&& !cW c.kind)||(c.bits !=0&&c.kind !=2)):=by unfold fU;rw[hr]
  have hE:=hK w1 h.drop;unfold bY at hE;by_cases e:c=ak
  .rw[qu e,ql];rw[qd e]at hE;exact hE
  rw[qm e,qp];rw[F e,hb]at hE;intro k18 hk18;have rest:(!right||(!cP c.kind&&c.ar !=7))=G->k18 G w1:=by
   intro h0;rw[h0,N8]at hE;apply hk18;rw[qp];intro k21 hk21;refine⟨c.ay,h.gr 0 U U,?_⟩;have last:(c.ay !=0&& !cW c.kind)=G->k21 G w1:=by
    intro h1;rw[h1,N8]at hE;apply hk21;rw[qp];refine⟨c.bits,h.gr 0 U U,?_⟩;cases hbits:c.bits !=0 with
    |false=>rw[qp];rw[hbits,M0,F qc]at hE;exact hE
    |true=>
     rw[ql];rw[hbits,M6]at hE;refine⟨c.kind,h.gr 0 U U,?_⟩;cases hk:c.kind !=2 with
     |true=>rw[ql];rw[hk,qd U]at hE;exact hE
     |false=>rw[qp];rw[hk,F qc]at hE;exact hE
   cases hbad:c.ay !=0 with
   |false=>rw[qp];exact last (by rw[hbad];rfl)
   |true=>
    rw[ql];refine⟨c.kind,h.gr 0 U U,kv ?_⟩;cases hbg:cW c.kind with
    |true=>exact last (by rw[hbg];simp)
    |false=>
     apply hk21;rw[MK,ql,ql];rw[hbad,hbg]at hE;simpa using hE
  cases hright:right with
  |false=>
   rw[MK,ql];apply hk18;rw[ql];rw[hright]at hE;simpa using hE
  |true=>
   rw[MM,qp];refine⟨c.kind,h.gr 0 U U,jO ?_⟩;cases hlim:cP c.kind with
   |true=>rw[MM,qp];exact rest (by rw[hright,hlim];simp)
   |false=>
    rw[MK,ql];refine⟨c.ar,h.gr 0 U U,?_⟩;cases hr7:c.ar !=7 with
    |false=>exact rest (by rw[hright,hr7];simp)
    |true=>
     apply hk18;rw[ql];rw[hright,hlim,hr7]at hE;simpa using hE
 refine⟨c.kind,h.gr 0 U U,?_⟩;by_cases e1:0<c.kind
 .rw[show V (c.kind>0)=Z from by simpa using e1,ql]
  refine⟨c.kind,h.gr 0 U U,?_⟩;by_cases e2:c.kind<10
  .rw[show V (c.kind<10)=Z from by simpa using e2,ql]
   refine⟨c.obj,h.gr 0 U U,?_⟩;by_cases e3:0<=c.obj
   .rw[show V (c.obj>=0)=Z from by simpa using e3,ql]
    refine⟨c.obj,h.gr 0 U U,?_⟩;by_cases e4:c.obj<2147483648
    .rw[show V (c.obj<2147483648)=Z from by simpa using e4,ql]
     refine⟨c.ar,h.gr 0 U U,ky ?_⟩;cases e5:(V (0<=c.ar)&&V (c.ar<=7))with
     |false=>
      rw[qp];simpa [e5]using fin
     |true=>
      rw[ql];refine⟨c.guard,h.gr 0 U U,c.bits,h.gr 0 U U,sY hc.g0 hc.g1 ?_⟩;rw[show V (0<c.kind)=Z from by simpa using e1,show V (c.kind<10)=Z from by simpa using e2,show V (0<=c.obj)=Z from by simpa using e3,show V (c.obj<2147483648)=Z from by simpa using e4,e5]at fin;simpa using fin
    .rw[show V (c.obj<2147483648)=G from by simpa using e4,qp]
     rw[show V (c.obj<2147483648)=G from by simpa using e4]at fin;simpa using fin
   .rw[show V (c.obj>=0)=G from by simpa using e3,qp]
    rw[show V (0<=c.obj)=G from by simpa using e3]at fin;simpa using fin
  .rw[show V (c.kind<10)=G from by simpa using e2,qp]
   rw[show V (c.kind<10)=G from by simpa using e2]at fin;simpa using fin
 .rw[show V (c.kind>0)=G from by simpa using e1,qp]
  rw[show V (0<c.kind)=G from by simpa using e1]at fin;simpa using fin
end
end Sl
theorem Xz{K w}:Fr (Q8 K w) (Al w (.map #[] 0) λa=>A2 a [.slice N 0 0,.map (S w.heap.size)] 234 λa b=>K (S a.p) b):=aj func35 (.v .w)
theorem XA{a b K w}:Fr (Q9 a b K w) (∀c:W->Pw,(∀(d:W)(e:J),(bif d then K 0 1 e else ∃c,a=S c/\∃d,e.s c d/\bif V ((d.len:O)>=64)then K 0 2 e else ∃c,a=S c/\∃d,e.s c d/\A2 e [.z b] 3 λb c=>∃e f,aM qe [22,22] 22 d.v (.slice (S b.p) 1 1) c e f/\∃b,a=S b/\St f b e.v λb=>∃c,a=S c/\∃a,b.s c a/\K (qf.wrap ((a.len:O)-1)) 0 b)->c d e)->(bif V (b<1)then c Z w else c (V (b>8)) w)):=aj func40 (.v (.y (.x (.y (.r (S [(6,.c .b)]) .done) (.y .w (.v (.x .w))))) (.v .w)))
theorem XB{a K w}:Fr (SI a K w) (Dr w λb=>∃c,a=S c/\∃d,b.s c d/\∃c,a=S c/\∃a,b.m (c.add 1) a/\(Pv d (λb d=>d.m (c.add 1) a/\(TC a (λa c=>(A2 c [b.v,.map a] 234 λa b=>K (S a.p) b)/\I) d)/\I) b)/\I):=aj func80 (.v (.x .g12))
theorem XC{a b c d e f g h i K w}:Fr (Rj a b c d e f g h i K w) (A2 w [.z b,.z c] 155 λb c=>A2 c [.z d,.z e,.z f,.y g,.y h,.z i] 157 λc d=>ax d c.p 0 [.o,.o,.o,.u,.u,.o] λ(e f g h i j:O)=>QK e f g h i j (λd e=>∀f:W->Pw,(∀(e:W)(g:J),(ax g b.p 0 [.o,.o] λ(f h:O)=>PO a f h (λf g=>bif !f then K 50 g else bif d !=0 then K d g else ∃d,g.z c.p d/\bif d==0 then K 1 g else bif e then K 51 g else Dr g λd=>∃e,a=S e/\∃a,d.m (e.add 1) a/\ax d b.p 0 [.o,.o] λ(b e:O)=>ax d c.p 0 [.o,.o,.o,.u,.u,.o] λ(c f g h i j:O)=>(∃k:J,gh qe 232 (.map a) (.agg #[.z b,.z e]) (.agg #[.z c,.z f,.z g,.y h,.y i,.z j]) d k/\K 0 k)/\I) g)->f e g)->(Dr e λc=>∃d,a=S d/\∃a,c.m (d.add 1) a/\ax c b.p 0 [.o,.o] λ(b d:O)=>(∃e,∃g,∃h,∃i,∃j,∃k,∃l,sC qe 232 (.map a) (.agg #[.z b,.z d]) (.agg #[.z e,.z g,.z h,.y i,.y j,.z k]) l c/\(A2 c [.z 0,.z 0,.z 0,.y 0,.y 0,.z 0] 157 λa b=>(aB b a.p 0 [.z e,.z g,.z h,.y i,.y j,.z k] λa=>f l a)/\I)/\I)/\(A2 c [.z 0,.z 0,.z 0,.y 0,.y 0,.z 0] 157 λc e=>(∃g,∃h,∃i,∃j,∃k,∃l,∃m,sC qe 232 (.map a) (.agg #[.z b,.z d]) (.agg #[.z g,.z h,.z i,.y j,.y k,.z l]) m e/\(aB e c.p 0 [.z g,.z h,.z i,.y j,.y k,.z l] λa=>f m a)/\I)/\I)/\I)) d):=aj func120 (.v (.v (.y (.r (S [(9,.c .b)]) .g6) (.y (.x (.v (.y .w (.v .Kj)))) .J7))))
theorem XD{a K w}:Fr (Ro a K w) (∃b,a=S b/\∃c,w.m (b.add 1) c/\TO c (λb c=>Rw b (.func (.func 244) #[] #[]) (λb c=>∀d:Sl->O->Pw,(∀(c:Sl)(e:O)(f:J),(bif V (e<(b.len:O))then ∃g,b.a=S g/\0<=e/\e<(b.len:O)/\ax f (g.add (e.toNat*2)) 0 [.o,.o] λ(b g:O)=>A2 f [.z 0,.z 0] 155 λh i=>aB i h.p 0 [.z b,.z g] λb=>Dr b λb=>∃g,a=S g/\∃a,b.m (g.add 1) a/\ax b h.p 0 [.o,.o] λ(g i:O)=>ax b h.p 0 [.o,.o] λ(j k:O)=>(∃f,∃l,∃m,∃n,∃o,∃p,yv qe 232 (.map a) (.agg #[.z g,.z i]) (.agg #[.z f,.z l,.z m,.y n,.y o,.z p]) b/\yr b h.p 0 [.z j,.z k] ((A2 b [.z j,.z k,.z f,.z l,.z m,.y n,.y o,.z p] 201 λa b=>(∃f g,aM qe [78,78] 78 c.v (.slice (S a.p) 1 1) b f g/\d f (qf.wrap (e+1)) g)/\I)/\I))/\I else K c f)->d c e f)->d z0 0 c) c) w):=aj func138 (.v (.v (.y (.v (.x (.t (S [(3,.c .s),(13,.c (.i .i64))]) (.v (.y .w (.x (.x (.v (.z (.o 0 1022 (.o 2 66 (.o 3 66 (.o 4 66 (.o 5 66 (.o 6 2 (.hold 1 128 2559 (.e 7 (.o 8 0 (.e 9 (.e 10 (.o 11 0 .done)))))))))))))))))) .u))) .w)))
theorem XE{a b c K w}:Fr (PO a b c K w) (A2 w [.z b,.z c] 155 λb c=>∃d,c.z b.p d/\RM a d (λa c d=>Dr d λd=>bif c then ∃c,d.z (b.p.add 1) c/\bif V (c>=0)then ∃c,d.z (b.p.add 1) c/\0<=a/\K (V (c<(ic .i64 1 a))) d else K G d else K G d) c):=aj func230 (.v (.v (.x (.z (.o 0 0 (.o 1 0 (.o 2 0 (.o 3 0 (.o 4 0 (.o 5 0 (.o 6 0 (.o 7 1536 (.o 8 1536 .Lc)))))))))))))
def Vp(a1:O)(a2:O)(b3:O)(b4:O)(K:O->Pw)(w:J):Prop:=Al w (.cells #[.z a1,.z a2] 155) λw5=>Al w5 (.cells #[.z b3,.z b4] 155) λw6=>Dr w6 λw7=>∃node8,w7.cell? w.heap.size.p=S (.z node8)/\∃node9,w7.cell? w5.heap.size.p=S (.z node9)/\∃i10,w7.cell? (w.heap.size.p.add 1)=S (.z i10)/\∃i11,w7.cell? (w5.heap.size.p.add 1)=S (.z i11)/\(RQ node8 node9 (λIX w13=>w13.cell? (w5.heap.size.p.add 1)=S (.z i11)/\w13.cell? (w.heap.size.p.add 1)=S (.z i10)/\(RQ i10 i11 (λJB w15=>(Al w15 (.cells #[.z IX,.z JB] 3) λw16=>(Ug ⟨S w15.heap.size.p,2,2⟩ (λr17 w18=>K r17 w18) w16)/\I)/\I) w13)/\I) w7)/\I
theorem XF(a1:O)(a2:O)(b3:O)(b4:O)(K:O->Pw)(w:J)(h:Vp a1 a2 b3 b4 K w):U5 a1 a2 b3 b4 K w:=
 KD func244 (.t N (.u) (.t N (.r N (.one 0 492 (.one 1 492 (.one 2 480 (.one 3 480 (.one 5 400 (.one 7 80 (.hold 6 272 4607 (.hold 8 16 4607 (.alt 4 (.alt 9 (.alt 10 (.alt 11 (.one 12 0 (.done)) (.none)) (.none)) (.none)) (.none))))))))))) (.u))) [(0,.c (.i .i64))] [.agg #[.z a1,.z a2],.agg #[.z b3,.z b4]] K U qa qa h
theorem XG{a b c K w}:Fr (Pk a b c K w) (A2 w [.z b,.z c] 155 λb c=>A2 c [.z 0,.z 0,.z 0,.y 0,.y 0,.z 0] 157 λc d=>ax d b.p 0 [.o,.o] λ(e f:O)=>PO a e f (λd e=>bif !d then aB e c.p 0 [.z 0,.z 0,.z 0,.y 0,.y 0,.z 0] λd=>ax d c.p 0 [.o,.o,.o,.u,.u,.o] λ(f g h i j k:O)=>K f g h i j k 50 d else Dr e λd=>∃e,a=S e/\∃a,d.m (e.add 1) a/\ax d b.p 0 [.o,.o] λ(b e:O)=>(∃f,∃g,∃h,∃i,∃j,∃k,yv qe 232 (.map a) (.agg #[.z b,.z e]) (.agg #[.z f,.z g,.z h,.y i,.y j,.z k]) d/\(aB d c.p 0 [.z f,.z g,.z h,.y i,.y j,.z k] λa=>ax a c.p 0 [.o,.o,.o,.u,.u,.o] λ(b c d e f g:O)=>K b c d e f g 0 a)/\I)/\I) d):=aj func248 (.v (.y (.v (.x .w)) (.x (.z (.o 0 16 (.o 1 16 (.o 2 16 (.o 3 16 (.o 4 0 (.e 5 (.e 6 (.o 7 0 .done))))))))))))
theorem XH{a b c d e K w}:Fr (TQ a b c d e K w) (A2 w [.z b,.z c] 155 λb c=>A2 c [.z d,.z e] 155 λc d=>∀e:qg->W->Pw,(∀(d:qg)(f:W)(g:J),(∀e:W->Pw,(∀(g:W)(h:J),(∀e:W->Pw,(∀(h:W)(i:J),(bif h then K 50 i else bif !f then K 52 i else bif g then K 51 i else Dr i λe=>∃f,a=S f/\∃g,e.m (f.add 1) g/\ax e b.p 0 [.o,.o] λ(b f:O)=>(∃h:J,wS qe [232,155] 0 (.map g) (.agg #[.z b,.z f]) e h/\Dr h λb=>∃e,a=S e/\∃a,b.m (e.add 1) a/\ax b c.p 0 [.o,.o] λ(c e:O)=>ax b d 0 [.o,.o,.o,.u,.u,.o] λ(d f g h i j:O)=>(∃k:J,gh qe 232 (.map a) (.agg #[.z c,.z e]) (.agg #[.z d,.z f,.z g,.y h,.y i,.z j]) b k/\K 0 k)/\I)/\I)->e h i)->(ax h b.p 0 [.o,.o] λ(b d:O)=>PO a b d (λb d=>bif !b then e Z d else ax d c.p 0 [.o,.o] λ(b c:O)=>PO a b c (λa b=>e (!a) b) d) h))->e g h)->(Dr g λb=>∃d,a=S d/\∃a,b.m (d.add 1) a/\ax b c.p 0 [.o,.o] λ(c d:O)=>(∃f,∃g,∃h,∃i,∃j,∃k,∃l,sC qe 232 (.map a) (.agg #[.z c,.z d]) (.agg #[.z f,.z g,.z h,.y i,.y j,.z k]) l b/\(A2 b [.z 0,.z 0,.z 0,.y 0,.y 0,.z 0] 157 λa b=>(aB b a.p 0 [.z f,.z g,.z h,.y i,.y j,.z k] λa=>e l a)/\I)/\I)/\(A2 b [.z 0,.z 0,.z 0,.y 0,.y 0,.z 0] 157 λb f=>(∃g,∃h,∃i,∃j,∃k,∃l,∃m,sC qe 232 (.map a) (.agg #[.z c,.z d]) (.agg #[.z g,.z h,.z i,.y j,.y k,.z l]) m f/\(aB f b.p 0 [.z g,.z h,.z i,.y j,.y k,.z l] λa=>e m a)/\I)/\I)/\I))->e d f g)->(Dr d λc=>∃d,a=S d/\∃a,c.m (d.add 1) a/\ax c b.p 0 [.o,.o] λ(b d:O)=>(∃f,∃g,∃h,∃i,∃j,∃k,∃l,sC qe 232 (.map a) (.agg #[.z b,.z d]) (.agg #[.z f,.z g,.z h,.y i,.y j,.z k]) l c/\(A2 c [.z 0,.z 0,.z 0,.y 0,.y 0,.z 0] 157 λa b=>(aB b a.p 0 [.z f,.z g,.z h,.y i,.y j,.z k] λb=>e a.p l b)/\I)/\I)/\(A2 c [.z 0,.z 0,.z 0,.y 0,.y 0,.z 0] 157 λc f=>(∃g,∃h,∃i,∃j,∃k,∃l,∃m,sC qe 232 (.map a) (.agg #[.z b,.z d]) (.agg #[.z g,.z h,.z i,.y j,.y k,.z l]) m f/\(aB f c.p 0 [.z g,.z h,.z i,.y j,.y k,.z l] λa=>e c.p m a)/\I)/\I)/\I)):=aj func254 (.v (.y (.r (S [(7,.c .q),(8,.c .b)]) .g6) (.y (.r (S [(10,.c .b)]) .g6) (.y (.x (.y (.r (S [(29,.c .b)]) .done) .Kj)) (.y .JO .J7)))))
theorem XI{a b K w}:Fr (RM a b K w) (∀c:W->Pw,(∀(d:W)(e:J),(bif d then K 0 G e else ∃c,a=S c/\∃a,e.s c a/\∃c,a.a=S c/\0<=b/\b<(a.len:O)/\∃a,e.z (c.add (b.toNat*1)) a/\K a Z e)->c d e)->(bif V (b<0)then c Z w else ∃d,a=S d/\∃e,w.s d e/\bif V (b>=(e.len:O))then c Z w else ∃d,a=S d/\∃a,w.s d a/\∃d,a.a=S d/\0<=b/\b<(a.len:O)/\∃a,w.z (d.add (b.toNat*1)) a/\c (a==(-1)) w)):=aj func318 (.v (.y .Kd .w))
theorem XJ{a b c K w}:Fr (RT a b c K w) (A2 w [.z b,.z c] 155 λb c=>A2 c [.z 0,.z 0,.z 0,.y 0,.y 0,.z 0] 157 λc d=>∀e:qg->W->Pw,(∀(d:qg)(f:W)(g:J),(ax g b.p 0 [.o,.o] λ(e h:O)=>PO a e h (λe g=>bif !e then aB g c.p 0 [.z 0,.z 0,.z 0,.y 0,.y 0,.z 0] λe=>ax e c.p 0 [.o,.o,.o,.u,.u,.o] λ(h i j k l m:O)=>K h i j k l m 50 e else bif !f then aB g c.p 0 [.z 0,.z 0,.z 0,.y 0,.y 0,.z 0] λe=>ax e c.p 0 [.o,.o,.o,.u,.u,.o] λ(f h i j k l:O)=>K f h i j k l 52 e else Dr g λe=>∃f,a=S f/\∃a,e.m (f.add 1) a/\ax e b.p 0 [.o,.o] λ(b f:O)=>(∃g:J,wS qe [232,155] 0 (.map a) (.agg #[.z b,.z f]) e g/\ax g d 0 [.o,.o,.o,.u,.u,.o] λ(a b d e f h:O)=>aB g c.p 0 [.z a,.z b,.z d,.y e,.y f,.z h] λa=>ax a c.p 0 [.o,.o,.o,.u,.u,.o] λ(b c d e f g:O)=>K b c d e f g 0 a)/\I) g)->e d f g)->(Dr d λc=>∃d,a=S d/\∃a,c.m (d.add 1) a/\ax c b.p 0 [.o,.o] λ(b d:O)=>(∃f,∃g,∃h,∃i,∃j,∃k,∃l,sC qe 232 (.map a) (.agg #[.z b,.z d]) (.agg #[.z f,.z g,.z h,.y i,.y j,.z k]) l c/\(A2 c [.z 0,.z 0,.z 0,.y 0,.y 0,.z 0] 157 λa b=>(aB b a.p 0 [.z f,.z g,.z h,.y i,.y j,.z k] λb=>e a.p l b)/\I)/\I)/\(A2 c [.z 0,.z 0,.z 0,.y 0,.y 0,.z 0] 157 λc f=>(∃g,∃h,∃i,∃j,∃k,∃l,∃m,sC qe 232 (.map a) (.agg #[.z b,.z d]) (.agg #[.z g,.z h,.z i,.y j,.y k,.z l]) m f/\(aB f c.p 0 [.z g,.z h,.z i,.y j,.y k,.z l] λa=>e c.p m a)/\I)/\I)/\I)):=aj func344 (.v (.y (.r (S [(6,.c .q),(7,.c .b)]) .g6) (.y .IV .KX)))
theorem XK{K w}:Fr (Px K w) (A2 w (Ly 64 [.z 0,.map N]).flatten 243 λa b=>K (S a.p) b):=aj func37 (.v .w)
theorem XL{a K w}:Fr (SQ a K w) (A2 w (Ly 64 [.z 0,.map N]).flatten 243 λb c=>∃d,a=S d/\∃a:qo Q,a.size=128/\(∀b,b<128->c.cell? (d.add b)=a[b]?)/\∀d:O->Pw,(∀(c:O)(e:J),(bif V (c<64)then 0<=c/\c<64/\∃f,(a:qo Q)[c.toNat*2+0]?=S (.z f)/\∃g,(a:qo Q)[c.toNat*2+1]?=S (.map g)/\A2 e [.z 0,.map N] 240 λa h=>aB h a.p 0 [.z f,.map g] λf=>Dr f λf=>∃g,f.m (a.p.add 1) g/\∃h,S b.p=S h/\∃i,f.z a.p i/\(QI g (λb e=>e.z a.p i/\0<=c/\c<64/\(aB e (h.add (c.toNat*2)) 0 [.z i,.map b] λa=>d (qf.wrap (c+1)) a)/\I) f)/\I else K (S b.p) e)->d c e)->d 0 c):=aj func90 (.v (.v (.y (.v (.x (.t (S [(12,.c (.i .i64))]) (.v (.y .w (.x (.x (.v (.z (.o 0 254 (.o 1 1020 (.o 2 880 (.o 4 776 (.o 5 776 (.o 8 200 (.o 9 200 (.hold 3 64 2047 (.e 6 (.o 7 0 (.o 10 0 (.e 11 .done)))))))))))))))))) .u))) .w)))
theorem XM{a K w}:Fr (Rp a K w) (∃b,a=S b/\∃a:qo Q,a.size=128/\(∀c,c<128->w.cell? (b.add c)=a[c]?)/\∀b:Sl->O->Pw,(∀(c:Sl)(d:O)(e:J),(bif V (d<64)then 0<=d/\d<64/\∃f,(a:qo Q)[d.toNat*2+0]?=S (.z f)/\∃g,(a:qo Q)[d.toNat*2+1]?=S (.map g)/\A2 e [.z 0,.map N] 240 λa h=>aB h a.p 0 [.z f,.map g] λf=>ax f a.p 0 [.o,.m] λ(a:O)(g:qh X)=>Qn a g (λa e=>∃f g,aM qe [81,81] 81 c.v a.v e f g/\b f (qf.wrap (d+1)) g) f else K c e)->b c d e)->b z0 0 w):=aj func147 (.v (.v (.y (.v (.x (.t (S [(3,.c .s),(10,.c (.i .i64))]) .Ed .u))) .w)))
theorem Vq{a b K w}:Fr (Qn a b K w) (A2 w [.z a,.map b] 240 λa b=>∃c,b.m (a.p.add 1) c/\Q0 c (λb c=>QZ b (λb c=>∀d:Sl->O->Pw,(∀(c:Sl)(e:O)(f:J),(bif V (e<(b.len:O))then ∃g,b.a=S g/\0<=e/\e<(b.len:O)/\∃b,f.z (g.add (e.toNat*1)) b/\∃g,f.m (a.p.add 1) g/\∃a,∃h,yv qe 238 (.map g) (.z b) (.agg #[.z a,.z h]) f/\A2 f [.z b,.z a,.z h] 204 λa b=>∃g h,aM qe [81,81] 81 c.v (.slice (S a.p) 1 1) b g h/\d g (qf.wrap (e+1)) h else K c f)->d c e f)->d z0 0 c) c) b):=aj func246 (.v (.v (.y (.v (.x (.t (S [(3,.c .s),(11,.c (.i .i64))]) .Ed .u))) .w)))
theorem XN{a b c K w}:Fr (TW a b c K w) (A2 w [.z c] 3 λc d=>∀e:W->Pw,(∀(d:W)(f:J),(bif d then K 1 f else ∀d:W->Pw,(∀(e:W)(f:J),(bif e then K 140 f else Dr f λd=>∃e,d.z c.p e/\∃c,a=S c/\(Al d (.map #[] 0) λa=>0<=b/\b<64/\(aB a (c.add (b.toNat*2)) 0 [.z e,.map (S d.heap.size)] λa=>K 0 a)/\I)/\I)->d e f)->(∃e,a=S e/\0<=b/\b<64/\∃g,f.m ((e.add (b.toNat*2)).add 1) g/\bif !g.isNone then d Z f else ∃b,a=S b/\Uw ⟨eU (S b) 0 64 2,64-0,64-0⟩ (.func (.func 359) #[] #[.pointer (S c.p)]) (λa b=>d a b) f))->e d f)->(Q1 b (λa b=>bif !a then e Z b else ∃a,b.z c.p a/\e (V (a<0)) b) d)):=aj func269 (.v (.y .Jg (.v (.y (.y (.r (S [(31,.c .b)]) .done) (.x .w)) (.y (.z (.o 0 30 (.o 1 124 (.o 2 104 (.o 5 24 (.o 6 24 (.e 3 (.o 4 0 (.o 7 0 (.e 8 .done)))))))))) .w)))))
theorem XO{a b c d K w}:Fr (RE a b c d K w) (A2 w [.z c,.z d] 70 λc d=>∀e:W->Pw,(∀(d:W)(f:J),(bif d then K 1 f else Q3 a b (λa d e=>bif !d then K 141 e else ∃d,a=S d/\∃f,e.m (d.add 1) f/\∃d,∃g,∃h,sC qe 238 (.map f) (.z b) (.agg #[.z d,.z g]) h e/\A2 e [.z 0,.z 0] 70 λe f=>aB f e.p 0 [.z d,.z g] λd=>bif h then K 140 d else Dr d λd=>∃e,a=S e/\∃a,d.m (e.add 1) a/\ax d c.p 0 [.o,.o] λ(c e:O)=>(∃f:J,gh qe 238 (.map a) (.z b) (.agg #[.z c,.z e]) d f/\K 0 f)/\I) f)->e d f)->(Q2 b (λa b=>bif !a then e Z b else ∃a,b.z c.p a/\bif V (a<0)then e Z b else ∃a,b.z (c.p.add 1) a/\Ux a (λa b=>e (!a) b) b) d)):=aj func270 (.v (.y (.y (.r (S [(24,.c .b)]) .done) (.x .w)) (.v (.y (.v (.x .w)) (.y (.v (.v (.x .w))) .J7)))))
theorem XP{a b K w}:Fr (QT a b K w) (A2 w [.z 0,.z 0] 70 λc d=>Q2 b (λd e=>bif !d then aB e c.p 0 [.z 0,.z 0] λd=>ax d c.p 0 [.o,.o] λ(f g:O)=>K f g 1 d else Uy a b (λd e f g=>A2 g [.z 0,.z 0] 70 λg h=>aB h g.p 0 [.z d,.z e] λd=>bif !f then aB d c.p 0 [.z 0,.z 0] λe=>ax e c.p 0 [.o,.o] λ(f h:O)=>K f h 141 e else Q3 a b (λa _ d=>∃e,a=S e/\∃a,d.m (e.add 1) a/\∃e:J,wS qe [238,3] 0 (.map a) (.z b) d e/\ax e g.p 0 [.o,.o] λ(a b:O)=>aB e c.p 0 [.z a,.z b] λa=>ax a c.p 0 [.o,.o] λ(b c:O)=>K b c 0 a) d) e) d):=aj func271 (.v (.y (.v (.x .w)) .JR))
theorem XQ{a K w}:Fr (Q1 a K w) (bif V (a>=0)then K (V (a<64)) w else K G w):=aj func358 (.v .w)
theorem XR{a b c K w}:Fr (Vb a b c K w) (A2 w [.z a,.map b] 240 λa b=>∃d,b.m (a.p.add 1) d/\bif !d.isNone then ∃d,b.z a.p d/\∃a,b.z c a/\K (d==a) b else K G b):=aj func359 (.v .w)
theorem XS{a K w}:Fr (Q2 a K w) (bif V (a>=0)then K (V (a<4096)) w else K G w):=aj func361 (.v .w)
theorem XT{a K w}:Fr (Ux a K w) (bif V (a>=0)then K (V (a<=7)) w else K G w):=aj func362 (.v .w)
theorem XU{a b K w}:Fr (Q3 a b K w) (Q4 (qv.wrap b) 6 6 (λb _ c=>Dr c λc=>∃d,a=S d/\0<=b/\b<64/\∃e,a=S e/\0<=b/\b<64/\∃a,c.m ((e.add (b.toNat*2)).add 1) a/\K (S (d.add (b.toNat*2))) (!a.isNone) c) w):=aj func363 (.v (.v (.x (.z (.o 0 8162 (.o 1 8172 (.o 2 8160 (.o 3 8160 (.o 4 8160 (.o 5 8256 (.o 6 8576 (.o 7 8192 (.o 8 8192 (.o 9 8192 (.o 10 8192 (.o 11 8192 (.o 12 8192 .Jj)))))))))))))))))
theorem XV{a b K w}:Fr (Uy a b K w) (A2 w [.z 0,.z 0] 70 λc d=>Q2 b (λd e=>bif !d then aB e c.p 0 [.z 0,.z 0] λd=>ax d c.p 0 [.o,.o] λ(f g:O)=>K f g G d else Q3 a b (λa _ d=>∃e,a=S e/\∃a,d.m (e.add 1) a/\∃e,∃f,∃g,sC qe 238 (.map a) (.z b) (.agg #[.z e,.z f]) g d/\A2 d [.z 0,.z 0] 70 λa b=>aB b a.p 0 [.z e,.z f] λb=>ax b a.p 0 [.o,.o] λ(a d:O)=>aB b c.p 0 [.z a,.z d] λa=>ax a c.p 0 [.o,.o] λ(b c:O)=>K b c g a) e) d):=aj func364 .JR
theorem XW{a b K w}:Fr (UG a b K w) (Rp a (λa c=>∀d:Sl->O->Pw,(∀(c:Sl)(e:O)(f:J),(bif V (e<(a.len:O))then ∃g,a.a=S g/\0<=e/\e<(a.len:O)/\ax f (g.add (e.toNat*3)) 0 [.o,.o,.o] λ(a g h:O)=>A2 f [.z 0,.z 0,.z 0] 204 λi j=>aB j i.p 0 [.z a,.z g,.z h] λa=>∃g,a.z (i.p.add 1) g/\bif g==b then ∃b,a.z i.p b/\A2 a [.z b] 3 λb g=>∃h i,aM qe [22,22] 22 c.v (.slice (S b.p) 1 1) g h i/\d h (qf.wrap (e+1)) i else d c (qf.wrap (e+1)) a else K c f)->d c e f)->d z0 0 c) w):=aj func401 (.v (.v (.y (.v (.x (.t (S [(5,.c .s),(11,.c (.i .i64))]) (.v (.y .w (.x (.x (.v (.v .w)))))) .u))) .w)))
theorem XX{a b K w}:Fr (UH a b K w) (∀c:W->Pw,(∀(d:W)(e:J),(bif d then K 0 G e else ∃c,a=S c/\0<=b/\b<64/\∃a,e.z (c.add (b.toNat*2)) a/\K a Z e)->c d e)->(Q1 b (λd e=>bif !d then c Z e else ∃d,a=S d/\0<=b/\b<64/\∃a,e.m ((d.add (b.toNat*2)).add 1) a/\c a.isNone e) w)):=aj func402 (.v (.y (.y .Kr (.x .w)) .w))
theorem XY{a b K w}:Fr (UI a b K w) (Q1 b (λc d=>bif !c then K z0 1 d else ∃c,a=S c/\0<=b/\b<64/\∃e,d.m ((c.add (b.toNat*2)).add 1) e/\bif e.isNone then K z0 141 d else ∃c,a=S c/\0<=b/\b<64/\ax d (c.add (b.toNat*2)) 0 [.o,.m] λ(c:O)(e:qh X)=>Qn c e (λc d=>∃e,a=S e/\0<=b/\b<64/\aB d (e.add (b.toNat*2)) 0 [.z 0,.map N] λa=>K c 0 a) d) w):=aj func403 (.v (.y .IV (.v (.v .w))))
namespace Sl
abbrev Slot:=O × O
abbrev Hs:=Slot->qh cN
abbrev bg(s:Sl):Q:= s.v
def dX(bits:Y O)(n:O):qh O:=if n<0 then N else match bits[n.toNat]? with|some z=>if z= -1 then N else S z|none=>N
def aQ(bits:Y O)(s:Slot):W:=match dX bits s.1 with|some z=>V (0<=s.2/\s.2<2^z.toNat)|none=>G
structure rh(bits:Y O)(H:Hs):Prop where
 eC:bits.length<=64
 Eg:∀z∈bits,z= -1\/(1<=z/\z<=8)
 held:∀s c,H s=S c->aQ bits s=Z/\bY c=0/\c.kind≠0/\fg c
def cC(H:Hs)(s:Slot)(o:qh cN):Hs:=λk=>if k=s then o else H k
structure Nx where
 s:Sl
 m:X
 M:Y (Slot × cN)
abbrev gG(m:X)(M:Y (Slot × cN)):aH:=kl dy iL m M
def av(b:X)(bits:Y O)(H:Hs):aH:=sB λx:Nx=>cj [dh (rh bits H/\∀k,de x.M k=H k),aa b [bg x.s,.map (S x.m)],af aq x.s bits,gG x.m x.M]
theorem jG{bits:Y O}{n z:O}(h:dX bits n=S z):0<=n/\bits[n.toNat]?=S z/\z≠ -1:=by
 unfold dX at h;split at h
 .cases h
 .split at h
  .split at h
   .cases h
   .cases h;exact⟨om,by assumption,by assumption⟩
  .cases h
theorem sh{bits:Y O}{H:Hs}(hk:rh bits H){n z:O}(h:dX bits n=S z):1<=z/\z<=8:=by
 obtain⟨_,h2,h3⟩:=jG h;rcases hk.Eg z (L4 h2)with e|e
 .exact qj e h3
 .exact e
theorem iY:jM qe 155 dy:=
 AX underlying155 qA qA qb qb U U (λa b c d=>by kernel_rfl)
theorem Ae(w:J):(qK 157).run qe w= .ok (iL ak) w:=zeroValue157 w
section
variable{B:X}{w0 w:J}{R L:Y aH}{b:X}{bits:Y O}{H:Hs}
theorem _root_.Go.Vc.Ow.nodes(h:Ow B w0 w (av b bits H::R)):∃x:Nx,rh bits H/\(∀k,de x.M k=H k)/\Ow B w0 w (aa b [bg x.s,.map (S x.m)]::af aq x.s bits::gG x.m x.M::R):=by obtain⟨x,h⟩:=h.ex;obtain⟨⟨h1,h2⟩,h⟩:=Ow.pure h.star;exact⟨x,h1,h2,h⟩
theorem _root_.Go.Vc.Ow.eu{s:Sl}{m:X}{M:Y (Slot × cN)}(h1:rh bits H)(h2:∀k,de M k=H k)(h:Ow B w0 w (aa b [bg s,.map (S m)]::af aq s bits::gG m M::R)):Ow B w0 w (av b bits H::R):=
 Ow.fk ⟨s,m,M⟩ (Ow.bW (Ow.cT ⟨h1,h2⟩ h))
theorem _root_.Go.Vc.Ow.rk(h:Ow B w0 w (av b bits H::R)):rh bits H:=by obtain⟨_,h,_⟩:=h.nodes;exact h
theorem mV{K:qh qg->Pw}(h:Ow B w0 w R)(hK:∀b w',Ow B w0 w' (av b [] (λ_=>N)::R)->K b.o w'):Q8 K w:=by
 apply Xz;refine h.BX dy iL λw1 h=>?_;refine h.al λw2 h=>?_;refine hK _ w2 (Ow.eu (s:=z0) (m:=w.heap.size) (M:=[]) ⟨qc,qc,λs c h=>by cases h⟩ (λk=>rfl) ?_);exact(Ow.cZ h).perm (List.Perm.swap _ _ _)
theorem gO{n:O}{K:O->W->Pw}(h:Ow B w0 w L)(i:X)(hi:L[i]?=S (av b bits H))(hK:K ((dX bits n).getD 0) (dX bits n).isSome w):RM b.o n K w:=by
 apply XI;obtain⟨x,hk,hM,h⟩:=(h.take i hi).nodes;have hlen:=h.len 1 U;intro k3 hk3;by_cases h0:n<0
 .rw[show V (n<0)=Z from by simpa using h0,ql]
  apply hk3;rw[ql];have:dX bits n=none:=by unfold dX;rw[qd h0]
  rw[this]at hK;exact hK
 rw[show V (n<0)=G from by simpa using h0,qp];refine⟨_,U,x.s,h.gr 0 U U,?_⟩;by_cases h1:(x.s.len:O)<=n
 .rw[show V (n>=(x.s.len:O))=Z from by simpa using h1,ql]
  apply hk3;rw[ql];have:dX bits n=none:=by unfold dX;rw[F h0,L0 om]
  rw[this]at hK;exact hK
 rw[show V (n>=(x.s.len:O))=G from by simpa using h1,qp];have hz:bits[n.toNat]?=S bits[n.toNat]:=gE om;obtain⟨a,ha,hc⟩:=h.E0 1 U hz;refine⟨_,U,x.s,h.gr 0 U U,a,ha,om,om,_,hc,?_⟩;apply hk3;by_cases e:bits[n.toNat]= -1
 .rw[show(bits[n.toNat]== -1)=Z from by simpa using e,ql]
  have:dX bits n=none:=by unfold dX;rw[F h0,hz];simp[e]
  rw[this]at hK;exact hK
 .rw[show(bits[n.toNat]== -1)=G from by simpa using e,qp]
  have:dX bits n=S bits[n.toNat]:=by unfold dX;rw[F h0,hz];simp[e]
  rw[this]at hK;exact⟨_,U,x.s,h.gr 0 U U,a,ha,om,om,_,hc,hK⟩
theorem Hj(z:X)(hz:z<=62):ic .i64 1 (z:O)=((2^z:X):O):=by
 unfold ic;rw[Lw,show qf.bits=64 from U,Ms om,Pp,show((2:O)^z)=((2^z:X):O)from by simp];have hp:(2:X)^62=4611686018427387904:=qb
 have:2^z<=2^62:=Mh om hz;rw[hp]at this;generalize 2^z=y at*
 exact wr om om
theorem da{s:Slot}{K:W->Pw}(h:Ow B w0 w L)(i:X)(hi:L[i]?=S (av b bits H))(hK:∀w',Ow B w0 w' L->K (aQ bits s) w'):PO b.o s.1 s.2 K w:=by
 apply XE;have hk:=(h.take i hi).rk;refine h.al λw1 h=>?_;refine⟨s.1,h.gr 0 U U,gO h (i+1) (by simpa using hi) ?_⟩;refine h.dr λw2 h=>?_;cases hz:dX bits s.1 with
 |none=>
  rw[NY,qp];have:aQ bits s=false:=by unfold aQ;rw[hz]
  rw[<-this];exact hK w2 h.drop
 |some z=>
  have hr:=sh hk hz;rw[Oc,ql,Option.getD_some];refine⟨s.2,h.ld 0 U U,?_⟩;have hth:aQ bits s=V (0<=s.2/\s.2<2^z.toNat):=by unfold aQ;rw[hz]
  by_cases e:0<=s.2
  .rw[show V (s.2>=0)=Z from by simpa using e,ql]
   refine⟨s.2,h.ld 0 U U,om,?_⟩;obtain⟨y,rfl⟩:=LB (by omega:0<=z);rw[Hj y om];have:V (s.2<((2^y:X):O))=aQ bits s:=by rw[hth,qV,Lw,show((2:O)^y)=((2^y:X):O)from by simp];exact⟨λh=>⟨e,h⟩,λh=>h.2⟩
   rw[this];exact hK w2 h.drop
  .rw[show V (s.2>=0)=G from by simpa using e,qp]
   have:aQ bits s=false:=by rw[hth,qm];rintro⟨h1,_⟩;exact e h1
   rw[<-this];exact hK w2 h.drop
theorem AA{B:X}{w0 w:J}{L:Y aH}{s:Sl}{xs:Y O}{y:O}{c:X}{k:Sl->Pw}(h:Ow B w0 w (aa c [.z y]::L))(i:X)(hL:L[i]?=S (af aq s xs))
  (hbig:xs.length<=1000000000000) (hk:∀s' w',s'.len=xs.length+1->Ow B w0 w' (L.set i (af aq s' (xs++ [y])))->k s' w'):
  ∃s' w',aM qe [22,22] 22 s.v (.slice (S c.p) 1 1) w s' w'/\k s' w':=
 Ow.GF (E:=aq) (y:=y) qG (show qe.info? 3=S qF from by kernel_rfl) (zv:= .z 0) qa qa U qb h i hL (by
  have e:qF.bytes=8:=qa
  rw[e];omega) hk
def eD(bits:Y O)(z:O):O × O × Y O:=if z<1\/8<z then(0,1,bits)else if 64<=bits.length then(0,2,bits)else((bits.length:O),0,bits++ [z])
theorem xY{bits:Y O}{n z y:O}(h:dX bits n=S z):dX (bits++ [y]) n=S z:=by obtain⟨h1,h2,h3⟩:=jG h;unfold dX;rw[F om,LI (Lu.1 h2).1,h2];simp[h3]
theorem yf{bits:Y O}{s:Slot}{y:O}(h:aQ bits s=Z):aQ (bits++ [y]) s=true:=by
 unfold aQ at h|-;cases hz:dX bits s.1 with
 |none=>rw[hz]at h;cases h
 |some z=>rw[hz]at h;rw[xY hz];exact h
theorem rh.make{bits:Y O}{H:Hs}(h:rh bits H){z:O}(h1:1<=z)(h2:z<=8)(hf:bits.length<64):rh (bits++ [z]) H:=by
 refine⟨by simp;omega,λy hy=>?_,λs c hs=>?_⟩
 .rcases Mm.1 hy with hy|hy
  .exact h.Eg y hy
  .simp only[Mk]at hy;subst hy;exact .inr ⟨h1,h2⟩
 .obtain ⟨g1,g2⟩:=h.held s c hs
  exact⟨yf g1,g2⟩
theorem gN{z:O}{K:O->O->Pw}(h:Ow B w0 w (av b bits H::R))(hK:∀w',Ow B w0 w' (av b (eD bits z).2.2 H::R)->K (eD bits z).1 (eD bits z).2.1 w'):Q9 b.o z K w:=by
 apply XA;intro k3 hk3;by_cases h0:z<1
 .rw[show V (z<1)=Z from by simpa using h0,ql]
  apply hk3;rw[ql];have e:eD bits z=(0,1,bits):=by unfold eD;rw[qd (.inl h0)]
  rw[e]at hK;exact hK w h
 rw[show V (z<1)=G from by simpa using h0,qp];apply hk3;by_cases h1:8<z
 .rw[show V (z>8)=Z from by simpa using h1,ql]
  have e:eD bits z=(0,1,bits):=by unfold eD;rw[qd (.inr h1)]
  rw[e]at hK;exact hK w h
 rw[show V (z>8)=G from by simpa using h1,qp];obtain⟨x,hk,hM,h⟩:=h.nodes;have hlen:=h.len 1 U;have hfew:=hk.eC;refine⟨_,U,x.s,h.gr 0 U U,?_⟩;by_cases h2:64<=bits.length
 .rw[show V ((x.s.len:O)>=64)=Z from by simp;omega,ql]
  have e:eD bits z=(0,2,bits):=by unfold eD;rw[F om,qd h2]
  rw[e]at hK;exact hK w (Ow.eu hk hM h)
 .rw[show V ((x.s.len:O)>=64)=G from by simp;omega,qp]
  have e:eD bits z=((bits.length:O),0,bits++ [z]):=by unfold eD;rw[F om,F h2]
  rw[e]at hK;refine⟨_,U,x.s,h.gr 0 U U,h.al λw1 h=>?_⟩;refine AA h 1 U om λs' w2 hs' h=>?_;refine⟨_,U,h.st 0 U U U λw3 h=>?_⟩;refine⟨_,U,s',h.gr 0 U U,?_⟩;have e2:qf.wrap ((s'.len:O)-1)=(bits.length:O):=by rw[wr om om];omega
  rw[e2];exact hK w3 (Ow.eu (s:=s') (hk.make om om om) hM h)
theorem iD{s:Slot}{K:O->O->O->O->O->O->O->Pw}(h:Ow B w0 w L)(i:X)(hi:L[i]?=S (av b bits H))
  (h1:aQ bits s=G->∀w',Ow B w0 w' L->K 0 0 0 0 0 0 50 w')
  (h2:aQ bits s=Z->∀w' c,c=(H s).getD ak->Ow B w0 w' L->K c.kind c.obj c.ar c.ay c.guard c.bits 0 w'):Pk b.o s.1 s.2 K w:=by
 apply XG;refine h.al λw1 h=>?_;refine h.al λw2 h=>?_;refine h.oy 1 U U ?_;refine da h (i+2) (by simpa using hi) λw3 h=>?_;cases ht:aQ bits s with
 |false=>
  rw[MK,ql];refine h.Eh 0 U U U λw4 h=>?_;refine h.s0 0 U U ?_;exact h1 ht w4 h.drop.drop
 |true=>
  rw[MM,qp];refine h.dr λw4 h=>?_;have hn:Ow B w0 w4 (av b bits H::(aa w1.heap.size [.z 0,.z 0,.z 0,.y 0,.y 0,.z 0]::aa w.heap.size [.z s.1,.z s.2]::L).eraseIdx (i+2)):=h.take (i+2) (by simpa using hi);obtain⟨x,hk,hM,hn⟩:=hn.nodes;refine⟨_,U,S x.m,hn.ld 0 U U,h.oy 1 U U ?_⟩;have hl:yv qe 232 (.map (S x.m)) (dy s) (iL ((H s).getD ak)) w4:=by
   cases hs:H s with
   |none=>exact(hn.uv qO iY Ae 2 U (by rw[hM,hs])).2
   |some c=>exact(hn.sL qO iY 2 U (by rw[hM,hs];rfl)).2
  generalize hc:(H s).getD ak=c at hl;refine⟨⟨c.kind,c.obj,c.ar,c.ay,c.guard,c.bits,hl,h.Eh 0 U U U λw5 h=>?_,trivial⟩,trivial⟩;refine h.s0 0 U U ?_;exact h2 ht w5 c hc.symm h.drop.drop
theorem Cg{s:Slot}{m:X}{M:Y (Slot × cN)}{k:qg->W->Pw}(h:Ow B w0 w L)(i:X)(hi:L[i]?=S (gG m M))(o:qh cN)(ho:de M s=o)
  (hk:∀w',Ow B w0 w' (aa w.heap.size (o.getD ak).cells::L)->k w.heap.size.p o.isSome w'):
  (∃t52:O,∃t53:O,∃t54:O,∃t55:O,∃t56:O,∃t57:O,∃is58:W,sC qe 232 (.map (S m)) (.agg #[.z s.1,.z s.2]) (.agg #[.z t52,.z t53,.z t54,.y t55,.y t56,.z t57]) is58 w/\
  (Al w (.cells #[.z (0:O),.z (0:O),.z (0:O),.y (0:O),.y (0:O),.z (0:O)] 157) λw59=>
  (aB w59 w.heap.size.p 0 [.z t52,.z t53,.z t54,.y t55,.y t56,.z t57] λw60=>
  k w.heap.size.p is58 w60)/\
  I)/\
  I)/\
  (Al w (.cells #[.z (0:O),.z (0:O),.z (0:O),.y (0:O),.y (0:O),.z (0:O)] 157) λw61=>
  (∃t62:O,∃t63:O,∃t64:O,∃t65:O,∃t66:O,∃t67:O,∃is68:W,sC qe 232 (.map (S m)) (.agg #[.z s.1,.z s.2]) (.agg #[.z t62,.z t63,.z t64,.y t65,.y t66,.z t67]) is68 w61/\
  (aB w61 w.heap.size.p 0 [.z t62,.z t63,.z t64,.y t65,.y t66,.z t67] λw69=>
  k w.heap.size.p is68 w69)/\
  I)/\
  I)/\
  I:=by
 have hl:∀(w':J)(L':Y aH)(j:X),Ow B w0 w' L'->L'[j]?=S (gG m M)->sC qe 232 (.map (S m)) (dy s) (iL (o.getD ak)) o.isSome w':=by
  intro w' L' j h hj;cases o with
  |none=>exact(h.uv qO iY Ae j hj ho).1
  |some c=>exact(h.sL qO iY j hj ho).1
 generalize hc:o.getD ak=c at hl hk;refine⟨⟨c.kind,c.obj,c.ar,c.ay,c.guard,c.bits,o.isSome,hl w L i h hi,?_,trivial⟩,?_,trivial⟩
 .refine h.al λw2 h=>⟨?_,trivial⟩
  refine h.Eh 0 U U U λw3 h=>?_;exact hk w3 h
 .refine h.al λw2 h=>⟨⟨c.kind,c.obj,c.ar,c.ay,c.guard,c.bits,o.isSome,hl w2 _ (i+1) h (by simpa using hi),?_,trivial⟩,trivial⟩
  refine h.Eh 0 U U U λw3 h=>?_;exact hk w3 h
theorem rh.put{bits:Y O}{H:Hs}(h:rh bits H){s:Slot}{c:cN}(h1:aQ bits s=Z)(h2:bY c=0)(h3:c.kind≠0)(h4:fg c):rh bits (cC H s (S c)):=by
 refine⟨h.eC,h.Eg,λs' c' hs=>?_⟩;unfold cC at hs;split at hs
 .rename_i e;subst e;cases hs;exact⟨h1,h2,h3,h4⟩
 .exact h.held s' c' hs
theorem rh.del{bits:Y O}{H:Hs}(h:rh bits H)(s:Slot):rh bits (cC H s N):=by
 refine⟨h.eC,h.Eg,λs' c' hs=>?_⟩;unfold cC at hs;split at hs
 .cases hs
 .exact h.held s' c' hs
theorem wy{M:Y (Slot × cN)}{H:Hs}(h:∀k,de M k=H k)(s:Slot)(c:cN):∀k,de (iW M s c) k=cC H s (S c) k:=λk=>by
 rw[nD,h k];unfold cC;by_cases e:s=k
 .subst e;simp
 .have:¬k=s:=λh=>e h.symm
  rw[F e,F this]
theorem wx{M:Y (Slot × cN)}{H:Hs}(hn:(M.map (·.1)).Nodup)(h:∀k,de M k=H k)(s:Slot):∀k,de (ko M s) k=cC H s N k:=λk=>by
 rw[rJ hn,h k];unfold cC;by_cases e:s=k
 .subst e;simp
 .have:¬k=s:=λh=>e h.symm
  rw[F e,F this]
theorem _root_.Go.Vc.Ow.Ba{B:X}{w0 w:J}{L:Y aH}{m:X}{M:Y (Slot × cN)}(h:Ow B w0 w L)(i:X)(hi:L[i]?=S (gG m M)):(M.map (·.1)).Nodup:=(h.take i hi).head λ_ h=>h.2.nodup
def iN(bits:Y O)(H:Hs)(s:Slot)(c:cN):O × Hs:=
 if aQ bits s=G then(50,H)else if bY c≠0 then(bY c,H)else if c.kind=0 then(1,H)else if(H s).isSome then(51,H)else(0,cC H s (S c))
theorem iE{s:Slot}{c:cN}{K:O->Pw}(hc:fg c)(h:Ow B w0 w (av b bits H::R))(hK:∀w',Ow B w0 w' (av b bits (iN bits H s c).2::R)->K (iN bits H s c).1 w'):
  Rj b.o s.1 s.2 c.kind c.obj c.ar c.ay c.guard c.bits K w:=by
 apply XC;refine h.al λw1 h=>?_;refine h.al λw2 h=>?_;have h:Ow B w0 w2 (aa w1.heap.size c.cells::aa w.heap.size [.z s.1,.z s.2]::av b bits H::R):=h;refine h.s0 0 U U ?_;refine iI h hc λw3 h=>?_;intro k20 hk20;refine h.dr λw4 h=>?_;have h:Ow B w0 w4 (av b bits H::aa w1.heap.size c.cells::aa w.heap.size [.z s.1,.z s.2]::R):=h.take 2 U;have hn:=h;obtain⟨x,hk,hM,h⟩:=h.nodes;refine⟨_,U,S x.m,h.ld 0 U U,h.oy 4 U U (Cg (k:=λ_ b w=>k20 b w) h 2 U (H s) (hM s) λw5 h=>?_)⟩;apply hk20;have h:Ow B w0 w5 (av b bits H::aa w1.heap.size c.cells::aa w.heap.size [.z s.1,.z s.2]::R):=Ow.eu hk hM h.drop;refine h.oy 2 U U ?_;refine da h 0 U λw6 h=>?_;have fail:∀e:O,iN bits H s c=(e,H)->K e w6:=λe he=>by rw[he]at hK;have h1:Ow B w0 w6 (aa w.heap.size [.z s.1,.z s.2]::av b bits H::aa w1.heap.size c.cells::R):=h.take 2 U;exact hK w6 ((h1.drop.perm (List.Perm.swap _ _ _)).drop)
 cases ht:aQ bits s with
 |false=>
  rw[MK,ql];exact fail 50 (by unfold iN;rw[qd ht])
 |true=>
  have ht':¬aQ bits s=false:=by rw[ht];decide
  rw[MM,qp];by_cases e1:bY c=0
  .rw[show(bY c !=0)=G from by simpa using e1,qp]
   refine⟨c.kind,h.gr 1 U U,?_⟩;by_cases e2:c.kind=0
   .rw[show(c.kind==0)=Z from by simpa using e2,ql]
    exact fail 1 (by unfold iN;rw[F ht',F (by simpa using e1),qd e2])
   .rw[show(c.kind==0)=G from by simpa using e2,qp]
    cases e3:(H s).isSome with
    |true=>
     rw[ql];exact fail 51 (by unfold iN;rw[F ht',F (by simpa using e1),F e2,qd e3])
    |false=>
     rw[qp];have ep:iN bits H s c=(0,cC H s (S c)):=by unfold iN;rw[F ht',F (by simpa using e1),F e2,F (by rw[e3];decide)]
     rw[ep]at hK;refine h.dr λw7 h=>?_;obtain⟨x,hk,hM,h⟩:=h.nodes;refine⟨_,U,S x.m,h.ld 0 U U,h.oy 4 U U (h.s0 3 U U ⟨h.jL (enc:=dy) (encV:=iL) (k:=s) (v:=c) qO iY 2 U λw8 h=>?_,trivial⟩)⟩;have h1:=Ow.eu (hk.put ht e1 e2 hc) (wy hM s c) h;have h2:Ow B w0 w8 (aa w.heap.size [.z s.1,.z s.2]::av b bits (cC H s (S c))::aa w1.heap.size c.cells::R):=h1.take 2 U;exact hK w8 ((h2.drop.perm (List.Perm.swap _ _ _)).drop)
  .rw[show(bY c !=0)=Z from by simpa using e1,ql]
   exact fail (bY c) (by unfold iN;rw[F ht',qd e1])
theorem gP{s:Slot}{K:O->O->O->O->O->O->O->Pw}(h:Ow B w0 w (av b bits H::R))
  (h1:aQ bits s=G->∀w',Ow B w0 w' (av b bits H::R)->K 0 0 0 0 0 0 50 w')
  (h2:aQ bits s=Z->H s=N->∀w',Ow B w0 w' (av b bits H::R)->K 0 0 0 0 0 0 52 w')
  (h3:aQ bits s=Z->∀c,H s=S c->∀w',Ow B w0 w' (av b bits (cC H s N)::R)->K c.kind c.obj c.ar c.ay c.guard c.bits 0 w'):RT b.o s.1 s.2 K w:=by
 apply XJ;refine h.al λw1 h=>?_;refine h.al λw2 h=>?_;have h:Ow B w0 w2 (aa w1.heap.size ak.cells::aa w.heap.size [.z s.1,.z s.2]::av b bits H::R):=h;intro k6 hk6;refine h.dr λw3 h=>?_;have h:Ow B w0 w3 (av b bits H::aa w1.heap.size ak.cells::aa w.heap.size [.z s.1,.z s.2]::R):=h.take 2 U;obtain⟨x,hk,hM,h⟩:=h.nodes;refine⟨_,U,S x.m,h.ld 0 U U,h.oy 4 U U (Cg (k:=λa b w=>k6 a b w) h 2 U (H s) (hM s) λw4 h=>?_)⟩;apply hk6;have h:Ow B w0 w4 (av b bits H::aa w1.heap.size ak.cells::aa w.heap.size [.z s.1,.z s.2]::aa w3.heap.size ((H s).getD ak).cells::R):=by
  have h5:=Ow.eu hk hM h.drop;have h6:Ow B w0 w4 (aa w3.heap.size ((H s).getD ak).cells::aa b [bg x.s,.map (S x.m)]::af aq x.s bits::gG x.m x.M::(aa w1.heap.size ak.cells::aa w.heap.size [.z s.1,.z s.2]::R)):=h;have h7:Ow B w0 w4 (aa b [bg x.s,.map (S x.m)]::af aq x.s bits::gG x.m x.M::(aa w1.heap.size ak.cells::aa w.heap.size [.z s.1,.z s.2]::aa w3.heap.size ((H s).getD ak).cells::R)):=by
   refine h6.perm ?_;have p:∀(a b c d e f:aH)(R:Y aH),(a::b::c::d::e::f::R).Perm (b::c::d::e::f::a::R):=λa b c d e f R=>by refine(List.Perm.swap _ _ _).trans (List.Perm.cons _ ?_);refine(List.Perm.swap _ _ _).trans (List.Perm.cons _ ?_);refine(List.Perm.swap _ _ _).trans (List.Perm.cons _ ?_);refine(List.Perm.swap _ _ _).trans (List.Perm.cons _ ?_);exact List.Perm.swap _ _ _
   exact p _ _ _ _ _ _ _
  exact Ow.eu hk hM h7
 have fin:∀w' H',Ow B w0 w' (av b bits H'::aa w1.heap.size ak.cells::aa w.heap.size [.z s.1,.z s.2]::aa w3.heap.size ((H s).getD ak).cells::R)->Ow B w0 w' (av b bits H'::R):=λw' H' h=>by have g1:Ow B w0 w' (aa w1.heap.size ak.cells::av b bits H'::aa w.heap.size [.z s.1,.z s.2]::aa w3.heap.size ((H s).getD ak).cells::R):=h.perm (List.Perm.swap _ _ _);exact((g1.drop.perm (List.Perm.swap _ _ _)).drop.perm (List.Perm.swap _ _ _)).drop
 refine h.oy 2 U U ?_;refine da h 0 U λw5 h=>?_;cases ht:aQ bits s with
 |false=>
  rw[MK,ql];refine h.Eh 1 U U U λw6 h=>?_;refine h.s0 1 U U ?_;exact h1 ht w6 (fin _ _ h)
 |true=>
  rw[MM,qp];cases hs:H s with
  |none=>
   rw[NY,MK,ql];refine h.Eh 1 U U U λw6 h=>?_;refine h.s0 1 U U ?_;exact h2 ht hs w6 (fin _ _ h)
  |some c=>
   rw[Oc,MM,qp];refine h.dr λw6 h=>?_;obtain⟨x,hk,hM,h⟩:=h.nodes;have hnd:=h.Ba 2 U;refine⟨_,U,S x.m,h.ld 0 U U,h.oy 4 U U ⟨h.G1 (enc:=dy) (encV:=iL) (k:=s) qO iY 2 U λw7 h=>?_,trivial⟩⟩;have h:=Ow.eu (hk.del s) (wx hnd hM s) h;have hcell:((H s).getD ak).cells=c.cells:=by rw[hs];rfl
   rw[hcell]at h fin;refine h.s0 3 U U ?_;refine h.Eh 1 U U U λw8 h=>?_;refine h.s0 1 U U ?_;have h:Ow B w0 w8 (av b bits (cC H s N)::aa w1.heap.size c.cells::aa w.heap.size [.z s.1,.z s.2]::aa w3.heap.size c.cells::R):=h;have g1:Ow B w0 w8 (aa w1.heap.size c.cells::av b bits (cC H s N)::aa w.heap.size [.z s.1,.z s.2]::aa w3.heap.size c.cells::R):=h.perm (List.Perm.swap _ _ _);exact h3 ht c hs w8 (((g1.drop.perm (List.Perm.swap _ _ _)).drop.perm (List.Perm.swap _ _ _)).drop)
def dI(bits:Y O)(H:Hs)(f t:Slot):O × Hs:=
 if aQ bits f=G\/aQ bits t=G then(50,H)else match H f with|none=>(52,H)|some c=>if(H t).isSome then(51,H)else(0,cC (cC H f N) t (S c))
theorem lX{f t:Slot}{K:O->Pw}(h:Ow B w0 w (av b bits H::R))(hK:∀w',Ow B w0 w' (av b bits (dI bits H f t).2::R)->K (dI bits H f t).1 w'):
  TQ b.o f.1 f.2 t.1 t.2 K w:=by
 apply XH;refine h.al λw1 h=>?_;refine h.al λw2 h=>?_;have h:Ow B w0 w2 (av b bits H::aa w1.heap.size [.z t.1,.z t.2]::aa w.heap.size [.z f.1,.z f.2]::R):=h.take 2 U;intro k8 hk8;refine h.dr λw3 h=>?_;obtain⟨x,hk,hM,h⟩:=h.nodes;refine⟨_,U,S x.m,h.ld 0 U U,h.oy 4 U U (Cg (k:=λa b w=>k8 a b w) h 2 U (H f) (hM f) λw4 h=>?_)⟩;apply hk8;intro k12 hk12;have h:Ow B w0 w4 (aa w3.heap.size ((H f).getD ak).cells::av b bits H::aa w1.heap.size [.z t.1,.z t.2]::aa w.heap.size [.z f.1,.z f.2]::R):=by
  have p:∀(a b c d:aH)(R:Y aH),(a::b::c::d::R).Perm (b::c::d::a::R):=λa b c d R=>by refine(List.Perm.swap _ _ _).trans (List.Perm.cons _ ?_);refine(List.Perm.swap _ _ _).trans (List.Perm.cons _ ?_);exact List.Perm.swap _ _ _
  have q:∀(a b c d:aH)(R:Y aH),(a::b::c::d::R).Perm (a::d::b::c::R):=λa b c d R=>by refine List.Perm.cons _ ?_;refine(List.Perm.cons _ (List.Perm.swap _ _ _)).trans ?_;exact List.Perm.swap _ _ _
  have h5:=Ow.eu hk hM (h.perm (p _ _ _ _ _));exact h5.perm (List.Perm.swap _ _ _)
 refine h.dr λw5 h=>?_;have h:=h.perm (List.Perm.swap _ _ _);obtain⟨x,hk,hM,h⟩:=h.nodes;refine⟨_,U,S x.m,h.ld 0 U U,h.oy 4 U U (Cg (k:=λa b w=>k12 b w) h 2 U (H t) (hM t) λw6 h=>?_)⟩;apply hk12;have h:Ow B w0 w6 (av b bits H::aa w3.heap.size ((H f).getD ak).cells::aa w1.heap.size [.z t.1,.z t.2]::aa w.heap.size [.z f.1,.z f.2]::R):=Ow.eu hk hM h.drop;have fin:∀w' H',Ow B w0 w' (av b bits H'::aa w3.heap.size ((H f).getD ak).cells::aa w1.heap.size [.z t.1,.z t.2]::aa w.heap.size [.z f.1,.z f.2]::R)->Ow B w0 w' (av b bits H'::R):=λw' H' h=>by have g1:Ow B w0 w' (aa w3.heap.size ((H f).getD ak).cells::av b bits H'::aa w1.heap.size [.z t.1,.z t.2]::aa w.heap.size [.z f.1,.z f.2]::R):=h.perm (List.Perm.swap _ _ _);exact((g1.drop.perm (List.Perm.swap _ _ _)).drop.perm (List.Perm.swap _ _ _)).drop
 intro k15 hk15;have none':∀w',(aQ bits f=G\/aQ bits t=G)->Ow B w0 w' (av b bits H::aa w3.heap.size ((H f).getD ak).cells::aa w1.heap.size [.z t.1,.z t.2]::aa w.heap.size [.z f.1,.z f.2]::R)->k15 Z w':=λw' hn h=>by
  apply hk15;rw[ql];have e:dI bits H f t=(50,H):=by unfold dI;rw[qd hn]
  rw[e]at hK;exact hK w' (fin _ _ h)
 refine h.oy 3 U U ?_;refine da h 0 U λw7 h=>?_;cases hf:aQ bits f with
 |false=>rw[MK,ql];exact none' w7 (.inl hf) h
 |true=>
  rw[MM,qp];refine h.oy 2 U U ?_;refine da h 0 U λw8 h=>?_;cases ht:aQ bits t with
  |false=>exact none' w8 (.inr ht) h
  |true=>
   rw[MM];apply hk15;rw[qp];have hn:¬(aQ bits f=G\/aQ bits t=G):=by rw[hf,ht];decide
   cases hs:H f with
   |none=>
    rw[NY,MK,ql];have e:dI bits H f t=(52,H):=by unfold dI;rw[F hn,hs]
    rw[e]at hK;exact hK w8 (fin _ _ h)
   |some c=>
    rw[Oc,MM,qp];cases hto:(H t).isSome with
    |true=>
     rw[ql];have e:dI bits H f t=(51,H):=by unfold dI;rw[F hn,hs];simp only[hto,qC]
     rw[e]at hK;exact hK w8 (fin _ _ h)
    |false=>
     rw[qp];have e:dI bits H f t=(0,cC (cC H f N) t (S c)):=by unfold dI;rw[F hn,hs];simp[hto]
     rw[e]at hK;have hcell:((H f).getD ak).cells=c.cells:=by rw[hs];rfl
     rw[hcell]at h fin;refine h.dr λw9 h=>?_;obtain⟨x,hk,hM,h⟩:=h.nodes;have hnd:=h.Ba 2 U;obtain⟨g1,g2,g3,g4⟩:=hk.held f c hs;refine⟨_,U,S x.m,h.ld 0 U U,h.oy 5 U U ⟨h.G1 (enc:=dy) (encV:=iL) (k:=f) qO iY 2 U λw10 h=>?_,trivial⟩⟩;refine h.dr λw11 h=>?_;refine⟨_,U,S x.m,h.ld 0 U U,h.oy 4 U U (h.s0 3 U U ⟨h.jL (enc:=dy) (encV:=iL) (k:=t) (v:=c) qO iY 2 U λw12 h=>?_,trivial⟩)⟩;exact hK w12 (fin _ _ (Ow.eu ((hk.del f).put ht g2 g3 g4) (wy (wx hnd hM f) t c) h))
theorem oA{α:Type}:∀{l:Y α}{j:X}{k q:α},l.Nodup->l[j]?=S k->(q∈l.eraseIdx j↔q∈l/\q≠k)
 | [],j,k,q,_,h=>by simp at h
 |a::l,0,k,q,hn,h=>by
  simp only[Mn,Option.some.injEq]at h;subst h;rw[Mj]at hn;rw[OD,LD];constructor
  .intro hq;exact⟨.inr hq,λe=>hn.1 (e▸hq)⟩
  .rintro ⟨hq|hq,hne⟩
   .exact qj hq hne
   .exact hq
 |a::l,j+1,k,q,hn,h=>by
  rw[Mj]at hn;rw[LG]at h;have hak:a≠k:=λe=>hn.1 (e▸L4 h);rw[Nk,LD,LD,oA hn.2 h];constructor
  .rintro (rfl|⟨h1,h2⟩)
   .exact ⟨.inl U,hak⟩
   .exact ⟨.inr h1,h2⟩
  .rintro ⟨rfl|h1,h2⟩
   .exact .inl U
   .exact .inr ⟨h1,h2⟩
end
end Sl
theorem XZ{a b c d e f g h i K w}:Fr (RR a b c d e f g h i K w) (A2 w [.z b,.z c,.z d,.y e,.y f,.z g] 157 λb c=>A2 c [.z 0,.z 0] 155 λc d=>∀e:W->Pw,(∀(d:W)(f:J),(bif d then aB f c.p 0 [.z 0,.z 0] λd=>ax d c.p 0 [.o,.o] λ(e g:O)=>K e g 1 d else A2 f [.y h,.z i] 487 λd e=>ax e b.p 0 [.o,.o,.o,.u,.u,.o] λ(b f g h i j:O)=>A2 e [.z 0,.z 0,.z 0,.y 0,.y 0,.z 0] 157 λe k=>aB k e.p 0 [.z b,.z f,.z g,.y h,.y i,.z j] λb=>∀f:qg->Pw,(∀(b:qg)(e:J),(ax e b 0 [.o,.o,.o,.u,.u,.o] λ(g h i j k l:O)=>UD a g h i j k l (.func (.func 392) #[.pointer (S d.p)] #[]) (λe g h i=>A2 i [.z 0,.z 0] 155 λi j=>aB j i.p 0 [.z e,.z g] λe=>∀g:W->Pw,(∀(d:W)(e:J),(bif d then ax e i.p 0 [.o,.o] λ(d g:O)=>aB e c.p 0 [.z d,.z g] λd=>ax d c.p 0 [.o,.o] λ(g j:O)=>K g j h d else ax e i.p 0 [.o,.o] λ(d g:O)=>Pk a d g (λa d e g h i _ j=>aB j b 0 [.z a,.z d,.z e,.y g,.y h,.z i] λa=>∃d,a.z b d/\bif d !=2 then aB a c.p 0 [.z 0,.z 0] λd=>ax d c.p 0 [.o,.o] λ(c e:O)=>K c e 62 d else ax a b 0 [.o,.o,.o,.u,.u,.o] λ(b c d e g h:O)=>A2 a [.z 0,.z 0,.z 0,.y 0,.y 0,.z 0] 157 λa i=>aB i a.p 0 [.z b,.z c,.z d,.y e,.y g,.z h] λb=>f a.p b) e)->g d e)->(bif h !=0 then g Z e else ∃a,S d.p=S a/\∃b,e.z (a.add 1) b/\g (b==0) e)) e)->f b e)->f e.p b)->e d f)->(bif V (i<1)then e Z d else e (V (i>64)) d)):=aj func334 (.v (.y .JP (.v (.v (.x (.t (S [(11,.c .q)]) (.y (.x (.v (.y (.y .Kq (.x .w)) (.v (.v (.x .w)))))) .w) .u))))))
theorem X0{a b c d e f g h K w}:Fr (UD a b c d e f g h K w) (A2 w [.z b,.z c,.z d,.y e,.y f,.z g] 157 λb c=>A2 c [.z 0,.z 0] 155 λc d=>ax d b.p 0 [.o,.o,.o,.u,.u,.o] λ(e f g i j k:O)=>UO a e f g i j k (λa d e=>bif !d then aB e c.p 0 [.z 0,.z 0] λd=>ax d c.p 0 [.o,.o] λ(f g:O)=>K f g 60 d else ∃d,e.z (b.p.add 5) d/\dU qe (h) [.z d] e λd e=>∃f,∃g,d= .returned (.tuple #[.y f,.bool g])/\∀d:W->Pw,(∀(e:W)(f:J),(bif e then aB f c.p 0 [.z 0,.z 0] λd=>ax d c.p 0 [.o,.o] λ(e g:O)=>K e g 61 d else dU qe (h) [.z a] f λa d=>∃e,∃f,a= .returned (.tuple #[.y e,.bool f])/\bif !f then aB d c.p 0 [.z 0,.z 0] λa=>ax a c.p 0 [.o,.o] λ(f g:O)=>K f g 62 a else ∃a,d.z (b.p.add 1) a/\aB d c.p 0 [.z a,.z (qf.wrap e)] λa=>ax a c.p 0 [.o,.o] λ(b c:O)=>K b c 0 a)->d e f)->(bif !g then d Z e else ∃a,e.y (b.p.add 4) a/\d (f !=a) e)) d):=aj func391 (.v (.v (.y (.v (.x .w)) (.y (.v (.y (.r (S [(37,.c .b)]) .done) (.x .w))) .AQ))))
theorem X1{a b K w}:Fr (Vg a b K w) (∃c,a=S c/\∃d,w.z (c.add 1) d/\bif V (b>d)then K 0 G w else ∃c,a=S c/\∃d,w.z (c.add 1) d/\∃c,a=S c/\St w (c.add 1) (.z (qf.wrap (d-b))) λc=>Dr c λc=>∃d,a=S d/\∃e,c.y d e/\∃d,a=S d/\∃a,c.z (d.add 1) a/\(Q4 e a b (λa _ b=>K a Z b) c)/\I):=aj func392 (.v (.y (.v (.x .w)) (.v (.y (.z (.o 0 496 (.o 1 496 (.o 2 496 (.o 3 496 (.o 4 256 (.o 5 256 (.o 6 256 (.o 7 256 (.o 8 0 (.e 9 (.o 10 0 (.o 11 4096 (.o 12 8192 .Jj)))))))))))))) .w))))
theorem X2{a b c d e f g K w}:Fr (UO a b c d e f g K w) (A2 w [.z b,.z c,.z d,.y e,.y f,.z g] 157 λb c=>∀d:W->Pw,(∀(c:W)(e:J),(bif c then K 0 G e else ∃c,e.z (b.p.add 1) c/\RM a c (λa b c=>K a b c) e)->d c e)->(∃a,c.z b.p a/\bif a !=2 then d Z c else ax c b.p 0 [.o,.o,.o,.u,.u,.o] λ(a b e f g h:O)=>QK a b e f g h (λa b=>d (a !=0) b) c)):=aj func432 (.v (.y (.y (.r (S [(13,.c .b)]) .done) (.x .w)) .w))
namespace Sl
section
variable{B:X}{w0 w:J}{R L:Y aH}{b rb:X}{bits:Y O}{H:Hs}
def nW(bits:Y O)(c:cN):qh O:=if c.kind≠2 then N else if bY c≠0 then N else dX bits c.obj
def dP(bits:Y O)(addr:X)(c:cN)(left:X):O × Slot × X:=
 match nW bits c with
 |none=>(60,(0,0),left)
 |some z=>
  if left<c.bits.toNat then(61,(0,0),left)
  else if((addr / 2^(left-c.bits.toNat)%2^c.bits.toNat:X):O)≠c.guard then(61,(0,0),left)
  else if left-c.bits.toNat<z.toNat then(62,(0,0),left)
  else(0,(c.obj,((addr / 2^(left-c.bits.toNat-z.toNat)%2^z.toNat:X):O)),left-c.bits.toNat-z.toNat)
def jU(bits:Y O)(H:Hs)(addr:X):X->cN->X->Slot × O
 |0,_,_=>((0,0),62)
 |f+1,c,left=>
  if(dP bits addr c left).1≠0 then((0,0),(dP bits addr c left).1)
  else if(dP bits addr c left).2.2=0 then((dP bits addr c left).2.1,0)
  else if((H (dP bits addr c left).2.1).getD ak).kind≠2 then((0,0),62)
  else jU bits H addr f ((H (dP bits addr c left).2.1).getD ak) (dP bits addr c left).2.2
def pY(bits:Y O)(H:Hs)(root:cN)(addr:X)(depth:O):Slot × O:=
 if depth<1\/64<depth then((0,0),1)else jU bits H addr depth.toNat root depth.toNat
theorem uy{bits:Y O}{c:cN}{z:O}(h:nW bits c=S z):c.kind=2/\bY c=0/\dX bits c.obj=S z:=by
 unfold nW at h;split at h
 .cases h
 .split at h
  .cases h
  .exact ⟨om,om,h⟩
theorem Bd{c:cN}(h1:c.kind=2)(h2:bY c=0):0<=c.bits/\c.bits<=64/\c.guard<2^c.bits.toNat:=by
 unfold bY at h2;split at h2
 .rename_i e;rw[e]at h1;cases h1
 .split at h2
  .cases h2
  .rename_i e
   unfold fU at e;simp only[Bool.or_eq_true,not_or,Bool.not_eq_true,Bool.not_eq_false',LO]at e;have:=e.1.1.1.2;unfold dZ at this;simpa using this
theorem il{a n:X}{K:W->Pw}(ha:a+n<=64)(h:K Z w):R5 (a:O) (n:O) K w:=by apply Vo;refine az om (az om (az om ?_));rw[wr om om,qu om];exact h
theorem ik{v a n:X}{K:O->O->Pw}(hv:v<2^64)(hn:a+n<=64)(h:Ow B w0 w L)(hK:∀w',Ow B w0 w' L->K ((v / 2^a%2^n:X):O) 0 w'):Q4 (v:O) (a:O) (n:O) K w:=by
 apply Vn;refine il hn ?_;refine bc U ?_;repeat refine h.dr λw h=>?_
 refine⟨om,a2 (fz om ?_)⟩;rw[lh v a om,xf _ n (NX (Nat.div_le_self _ _) hv) om];exact hK _ h
theorem kE{addr left n:X}{K:O->W->Pw}(ha:addr<2^64)(hl:left<=64)(h:Ow B w0 w (aa rb [.y (addr:O),.z (left:O)]::R))(hn:n<=64)
  (h1:left<n->∀w',Ow B w0 w' (aa rb [.y (addr:O),.z (left:O)]::R)->K 0 G w')
  (h2:n<=left->∀w',Ow B w0 w' (aa rb [.y (addr:O),.z ((left-n:X):O)]::R)->K ((addr / 2^(left-n)%2^n:X):O) Z w'):
  Vg rb.o (n:O) K w:=by
 apply X1;repeat first|refine h.l1 U ?_|refine eE ?_
 refine bo (λe=>h1 om _ h) (λe=>?_);have e2:qf.wrap ((left:O)-(n:O))=((left-n:X):O):=by rw[wr om om];omega
 repeat first|refine h.dr λw h=>?_|refine h.l1 U ?_|refine eE ?_|refine _root_.Go.Vc.a2 ?_|refine h.jH U U λw h=>?_
 rw[e2]at h|-;refine ik ha om h λw h=>?_;exact h2 om _ h
theorem rH{c:cN}{K:O->W->Pw}(hc:fg c)(h:Ow B w0 w L)(i:X)(hi:L[i]?=S (av b bits H))(hK:∀w',Ow B w0 w' L->K ((nW bits c).getD 0) (nW bits c).isSome w'):UO b.o c.kind c.obj c.ar c.ay c.guard c.bits K w:=by
 apply X2;unfold nW at hK;refine h.al λw1 h=>?_;have h:Ow B w0 w1 (aa w.heap.size c.cells::L):=h;intro k hk
 (refine h.l1 U ?_)
 refine oU (λe=>?_) (λe=>?_)
 .apply hk
  rw[qd e]at hK;exact hK _ h.drop
 .rw[F om]at hK
  repeat refine h.aR U ?_
  refine iI h hc λw h=>?_;apply hk;refine oU (λe=>?_) (λe=>?_)
  .rw[qd e]at hK
   exact hK _ h.drop
  .rw[F om]at hK
   (refine h.l1 U ?_)
   exact gO h (i+1) (by simpa using hi) (hK _ h.drop)
theorem Dt(x n:X)(hn:n<=8):x%2^n<256:=by have h1:0<2^n:=MD n;have h2:2^n<=2^8:=Mh om hn;have:=OC x h1;omega
theorem rI{addr left:X}{c:cN}{K:O->O->O->Pw}(hc:fg c)(ha:addr<2^64)(hl:left<=64)
  (h:Ow B w0 w (av b bits H::aa rb [.y (addr:O),.z (left:O)]::R))
  (h1:(dP bits addr c left).1≠0->∀w' l',Ow B w0 w' (av b bits H::aa rb [.y (addr:O),.z l']::R)->K 0 0 (dP bits addr c left).1 w')
  (h2:(dP bits addr c left).1=0->∀w',Ow B w0 w' (av b bits H::aa rb [.y (addr:O),.z ((dP bits addr c left).2.2:O)]::R)->K (dP bits addr c left).2.1.1 (dP bits addr c left).2.1.2 0 w'):
  UD b.o c.kind c.obj c.ar c.ay c.guard c.bits (.func (.func 392) #[.q rb] #[]) K w:=by
 apply X0;have hk:=h.rk;repeat first|refine h.al λw h=>?_|refine h.aR U ?_
 refine rH hc h 2 U λw h=>?_;cases hn:nW bits c with
 |none=>
  have hs:dP bits addr c left=(60,(0,0),left):=by unfold dP;rw[hn]
  rw[hs]at h1;refine bh U ?_;repeat first|refine h.aR U ?_|refine h.aA U U λw h=>?_
  exact h1 qc _ (left:O) h.sub
 |some z=>
  obtain⟨hk2,he,hz⟩:=uy hn;obtain⟨g1,g2,g3⟩:=Bd hk2 he;obtain⟨z1,z2⟩:=sh hk hz;obtain⟨cb,hcb⟩:=LB g1;obtain⟨zz,rfl⟩:=LB (show 0<=z by omega);refine bc U ?_
  (refine h.l1 U ?_)
  refine bq ?_;have hgoN:c.bits.toNat=cb:=om
  rw[hcb];refine kE ha hl h.vd om (λe w h=>?_) (λe w h=>?_)
  .have hs:dP bits addr c left=(61,(0,0),left):=by unfold dP;rw[hn];simp only[hgoN];rw[qd e]
   rw[hs]at h1;intro k hk';refine bh U ?_;apply hk';refine bh U ?_;repeat first|refine h.aR U ?_|refine h.aA U U λw h=>?_
   exact h1 qc _ (left:O) h.sub
  .intro k hk'
   refine bc U ?_
   (refine h.l1 U ?_)
   apply hk';refine oU (λe2=>?_) (λe2=>?_)
   .have hs:dP bits addr c left=(61,(0,0),left):=by unfold dP;rw[hn];simp only[hgoN];rw[F om,qd e2]
    rw[hs]at h1;repeat first|refine h.aR U ?_|refine h.aA U U λw h=>?_
    exact h1 qc _ ((left-cb:X):O) h.sub
   .refine bq ?_
    refine kE ha om h om (λe3 w h=>?_) (λe3 w h=>?_)
    .have hs:dP bits addr c left=(62,(0,0),left):=by unfold dP;rw[hn];simp only[hgoN];rw[F om,F om,qd om]
     rw[hs]at h1;refine bh U ?_;repeat first|refine h.aR U ?_|refine h.aA U U λw h=>?_
     exact h1 qc _ ((left-cb:X):O) h.sub
    .have hs:dP bits addr c left=(0,(c.obj,((addr / 2^(left-cb-zz)%2^zz:X):O)),left-cb-zz):=by unfold dP;rw[hn];simp only[hgoN,Lw];rw[F om,F om,F om]
     rw[hs]at h2;refine bc U ?_;have:=Dt (addr / 2^(left-cb-zz)) zz om;rw[wr om om];repeat first|refine h.aR U ?_|refine h.l1 U ?_|refine h.aA U U λw h=>?_
     exact h2 U _ h.sub
theorem vH{bits:Y O}{addr left:X}{c:cN}(hb:∀z∈bits,z= -1\/(1<=z/\z<=8))(h:(dP bits addr c left).1=0):
  aQ bits (dP bits addr c left).2.1=Z/\(dP bits addr c left).2.2<left:=by
 unfold dP at h|-;cases hn:nW bits c with
 |none=>rw[hn]at h;simp at h
 |some z=>
  rw[hn]at h;obtain⟨hk2,he,hz⟩:=uy hn;simp only at h|-;obtain⟨_,hz2,hz3⟩:=jG hz;have hzr:1<=z/\z<=8:=by
   rcases hb z (L4 hz2)with e|e
   .exact qj e hz3
   .exact e
  by_cases e1:left<c.bits.toNat
  .rw[qd e1]at h;simp at h
  rw[F e1]at h|-;by_cases e2:((addr / 2^(left-c.bits.toNat)%2^c.bits.toNat:X):O)≠c.guard
  .rw[qd e2]at h;simp at h
  rw[F e2]at h|-;by_cases e3:left-c.bits.toNat<z.toNat
  .rw[qd e3]at h;simp at h
  rw[F e3];refine⟨?_,by show left-c.bits.toNat-z.toNat<left;omega⟩;unfold aQ;simp only[hz];rw[decide_eq_true_iff];have hm:addr / 2^(left-c.bits.toNat-z.toNat)%2^z.toNat<2^z.toNat:=OC _ (MD _);refine⟨Nr _,?_⟩;rw[show((2:O)^z.toNat)=((2^z.toNat:X):O)from by simp];exact Int.ofNat_lt.2 hm
theorem rh.H2{bits:Y O}{H:Hs}(h:rh bits H)(s:Slot):fg ((H s).getD ak):=by
 cases hs:H s with
 |none=>exact⟨qb,qb,qb,qb⟩
 |some c=>exact(h.held s c hs).2.2.2
theorem kD{addr:X}{depth:O}{root:cN}{K:O->O->O->Pw}(hc:fg root)(ha:addr<2^64)(h:Ow B w0 w (av b bits H::R))
  (hK:∀w',Ow B w0 w' (av b bits H::R)->K (pY bits H root addr depth).1.1 (pY bits H root addr depth).1.2 (pY bits H root addr depth).2 w'):
  RR b.o root.kind root.obj root.ar root.ay root.guard root.bits (addr:O) depth K w:=by
 apply XZ;have hk:=h.rk;refine h.al λw1 h=>?_;refine h.al λw2 h=>?_;intro k hk12;have hT:(depth<1\/64<depth)->k Z w2:=λe=>by
  have hs:pY bits H root addr depth=((0,0),1):=by unfold pY;rw[qd e]
  rw[hs]at hK;apply hk12;refine bh U ?_;repeat first|refine h.aR U ?_|refine h.aA U U λw h=>?_
  exact hK _ h.sub
 refine bo (λe=>hT (.inl e)) (λe=>?_);by_cases e2:64<depth
 .rw[qu om];exact hT (.inr e2)
 rw[qm om];have hs:pY bits H root addr depth=jU bits H addr depth.toNat root depth.toNat:=by unfold pY;rw[F om]
 rw[hs]at hK;obtain⟨d,rfl⟩:=LB (show 0<=depth by omega);rw[Lw]at hK;apply hk12;refine bc U ?_;refine h.al λw3 h=>?_;repeat first|refine h.al λw h=>?_|refine h.aR U ?_|refine h.aA U U λw h=>?_
 intro l hl;have loop:∀(f left:X)(c:cN)(cb:X)(w':J),1<=left->left<=f->left<=64->fg c->
   Ow B w0 w' (av b bits H::aa w2.heap.size [.y (addr:O),.z (left:O)]::aa cb c.cells::aa w1.heap.size [.z 0,.z 0]::R)->
   jU bits H addr f c left=jU bits H addr d root d->l cb.p w':=by
  intro f;induction f with
  |zero=>intro left c cb w' h1 h2;omega
  |succ f ih=>
   intro left c cb w' h1 h2 h64 hc h heq;apply hl;repeat refine h.aR U ?_
   refine rI hc ha h64 h (λhe w l' h=>?_) (λhe w h=>?_)
   ·(repeat first|refine h.al λw h=>?_|refine h.aA U U λw h=>?_)
    intro k hk;refine iv he ?_;apply hk;refine bh U ?_;repeat first|refine h.aR U ?_|refine h.aA U U λw h=>?_
    have hs:jU bits H addr (f+1) c left=((0,0),(dP bits addr c left).1):=by rw[jU,qd he]
    rw[<-heq,hs]at hK;exact hK _ h.sub
   .obtain ⟨ht,hlt⟩:=vH hk.Eg he
    generalize hst:dP bits addr c left=st at he ht hlt h|-;obtain⟨er,s,left'⟩:=st;simp only at he ht hlt h|-;subst he;repeat first|refine h.al λw h=>?_|refine h.aA U U λw h=>?_
    intro k hk2;refine fa U ?_;repeat first|refine h.l1 U ?_|refine eE ?_
    by_cases hz:left'=0
    .rw[show((left':O)==0)=Z from by simpa using hz]
     apply hk2;refine bh U ?_;repeat first|refine h.aR U ?_|refine h.aA U U λw h=>?_
     have hs:jU bits H addr (f+1) c left=(s,0):=by rw[jU,hst,F qc,qd hz]
     rw[<-heq,hs]at hK;exact hK _ h.sub
    .rw[show((left':O)==0)=G from by simpa using hz]
     apply hk2;refine bc U ?_
     (refine h.aR U ?_)
     refine iD (s:=s) h 1 U (λhn=>by rw[ht]at hn;cases hn) λ_ w c' hc' h=>?_;have hcR:fg c':=by rw[hc'];exact hk.H2 s
     repeat first|refine h.l1 U ?_|refine h.aA U U λw h=>?_
     refine oU (λe3=>?_) (λe3=>?_)
     ·(repeat first|refine h.aR U ?_|refine h.aA U U λw h=>?_)
      have hs:jU bits H addr (f+1) c left=((0,0),62):=by rw[jU,hst,F qc,F hz,qd (by simpa [hc']using e3)]
      rw[<-heq,hs]at hK;exact hK _ h.sub
     ·(repeat first|refine h.al λw h=>?_|refine h.aR U ?_|refine h.aA U U λw h=>?_)
      refine ih left' c' _ _ om om om hcR h.sub ?_;rw[<-heq];rw[jU,hst,F qc,F hz,F (by simpa [hc']using e3),hc']
 exact loop d d root _ _ om om om hc h.sub U
def xq(bits:Y O)(H:Hs)(s:Slot):cN × O:=if aQ bits s=G then(ak,50)else((H s).getD ak,0)
theorem A8{a d k g m:X}(ha:a<2^d)(hg:g<2^k):a*2^k+g<2^(d+k):=by rw[Nat.pow_add];have:(a+1)*2^k<=2^d*2^k:=LZ _ ha;rw[Nu]at this;omega
theorem HV{a k d:X}(ha:a<2^d)(hd:d+k<=64):ic .u64 (a:O) (k:O)=((a*2^k:X):O):=by unfold ic;rw[Lw,show qv.bits=64 from U,Ms om,show((2:O)^k)=((2^k:X):O)from by simp,<-Int.natCast_mul,wrap_u64,L7];have:=A8 (m:=0) ha (MD k);have h2:2^(d+k)<=2^64:=Mh om hd;omega
theorem zM{s:Slot}{K:O->O->O->O->O->O->O->Pw}(h:Ow B w0 w L)(i:X)(hi:L[i]?=S (av b bits H))
  (hK:∀w' c e,(c,e)=xq bits H s->fg c->Ow B w0 w' L->K c.kind c.obj c.ar c.ay c.guard c.bits e w'):Pk b.o s.1 s.2 K w:=by
 have hk:=(h.take i hi).rk;refine iD h i hi (λhn w h=>?_) (λht w c hc h=>?_)
 .exact hK w ak 50 (by unfold xq;rw[qd hn]) ⟨qb,qb,qb,qb⟩ h
 .exact hK w c 0 (by unfold xq;rw[F (by rw[ht];decide),hc]) (by rw[hc];exact hk.H2 s) h
end
end Sl
section
variable{B:X}{w0 w:J}{R L:Y aH}
structure nP where
 base:X
 bits:X
 used:X
deriving DecidableEq
def zU:nP:=⟨0,0,0⟩
def df:dT nP:=⟨3,λu=>[.y (u.base:O),.z (u.bits:O),.y (u.used:O)],λ_=>rfl,λx v h=>by simp only[LD,MB,qI]at h;rcases h with rfl|rfl|rfl<;>rfl,qb⟩
def wE:dT X:=⟨1,λx=>[.y (x:O)],λ_=>rfl,λx v h=>by simp only[LD,MB,qI]at h;subst h;rfl,qb⟩
structure wZ(u:nP):Prop where
 bits:u.bits<=20
 top:u.base+2^u.bits<=2^20
 dvd:u.base%2^u.bits=0
 used:u.used<=2^u.bits
def BR(v n:X):X:=(v+(2^n-1)) / 2^n*2^n
def eP(kind bits:O):O × O:=
 if kind=1 then(if 4<=bits/\bits<=20 then(bits,0)else(0,1))
 else if kind=2 then(if 1<=bits/\bits<=8 then(bits+2,0)else(0,1))
 else if kind=3 then(5,0)else if kind=4\/kind=5 then(2,0)else if kind=6\/kind=7\/kind=8 then(6,0)else(0,80)
def bH(u:nP)(kind bits n:O):Y X × nP × O:=
 if(eP kind bits).2≠0 then([],zU,(eP kind bits).2)else if n<1\/64<n then([],zU,1)
 else if u.base+2^u.bits<BR (u.base+u.used) (eP kind bits).1.toNat+n.toNat*2^(eP kind bits).1.toNat then([],zU,81)
 else((LA n.toNat).map λi=>BR (u.base+u.used) (eP kind bits).1.toNat+i*2^(eP kind bits).1.toNat,
  { u with used:=BR (u.base+u.used) (eP kind bits).1.toNat+n.toNat*2^(eP kind bits).1.toNat-u.base},0)
theorem uT{kind bits:O}:0<=(eP kind bits).1/\(eP kind bits).1<=20:=by
 unfold eP;repeat' split
 all_goals (dsimp only;omega)
theorem yi(v n:X):v<=BR v n/\BR v n<v+2^n:=by unfold BR;have hp:0<2^n:=MD n;have h1:=Nat.div_add_mod (v+(2^n-1)) (2^n);have h2:=OC (v+(2^n-1)) hp;rw[Nat.mul_comm]at h1;omega
theorem z6{v n:X}(h:v%2^n=0):BR v n=v:=by
 have hp:0<2^n:=MD n;have h1:=yi v n;have h2:BR v n%2^n=0:=by unfold BR;exact P9 _ _
 obtain⟨a,ha⟩:=Pr h;obtain⟨c,hc⟩:=Pr h2;rw[hc,ha]at h1;have h3:a<=c:=Nat.le_of_mul_le_mul_left h1.1 hp;have h4:c<a+1:=Nat.lt_of_mul_lt_mul_left (a:=2^n) (by rw[Nat.mul_add];omega);rw[hc,ha,show c=a from by omega]
theorem Az(v n:X)(hv:v<2^64)(hn:n<=64):fE .u64 (v:O) ((2^n-1:X):O)=((v / 2^n*2^n:X):O):=by
 have hp:0<2^n:=MD n;have hle:2^n<=2^64:=Mh om hn;unfold fE;rw[Sl.pk,Sl.pk];have hgl:∀(z j:X),j<64->(BitVec.ofNat 64 z).getLsbD j=z.testBit j:=λz j hj=>by rw[BitVec.getLsbD_ofNat];simp[hj]
 have hbit:∀j,j<64->(BitVec.ofNat 64 v &&& ~~~ BitVec.ofNat 64 (2^n-1)).toNat.testBit j=(v.testBit j&& !decide (j<n)):=λj hj=>by rw[BitVec.testBit_toNat,BitVec.getLsbD_and,BitVec.getLsbD_not,hgl _ _ hj,hgl _ _ hj,O6];simp[hj]
 have hlt:=(BitVec.ofNat 64 v &&& ~~~ BitVec.ofNat 64 (2^n-1)).isLt;show qv.wrap (((BitVec.ofNat 64 v &&& ~~~ BitVec.ofNat 64 (2^n-1)).toNat:X):O)=_;generalize hz:(BitVec.ofNat 64 v &&& ~~~ BitVec.ofNat 64 (2^n-1)).toNat=z at hbit hlt;rw[Sl.wrap_u64,L7 hlt];congr 1;have hdm:v / 2^n*2^n<=v:=Nat.div_mul_le_self _ _;apply OU;intro i;by_cases h64:i<64
 .rw[hbit i h64,Nat.testBit_mul_two_pow,Nat.testBit_div_two_pow]
  by_cases hin:i<n
  .simp[hin];omega
  .simp[hin,Nat.sub_add_cancel (Nat.le_of_not_lt hin)];intro _;omega
 .rw[NC (MR hlt (Mh om om)),NC (MR (NX hdm hv) (Mh om om))]
theorem CQ(x y:X)(w:J):yp qe 396 #[.y (x:O),.y (y:O),.y (0:O)] w (.tuple #[.y (((x+y)%18446744073709551616:X):O),.y (((x+y) / 18446744073709551616:X):O)]) w:=by unfold yp;rw[run_callFunc_extern func396 qa qa qa (e:=add64Entry) qa,run_add64 (x:O) (y:O) 0 om om om om];simp only[Result.andThen,Int.add_zero];congr 5
theorem nY{v n:X}{K:O->O->Pw}(hv:v<2^62)(hn:n<=60)(h:K ((BR v n:X):O) 0 w):RS (v:O) (n:O) K w:=by
 apply Wf;have e62:(2:X)^62=4611686018427387904:=qb
 have hle:2^n<=2^60:=Mh om hn;have e60:(2:X)^60=1152921504606846976:=qb
 intro k hk;refine aw om ?_;apply hk;rw[qm om];refine bc U ?_;refine Sl.fz om ?_;refine⟨_,_,w,CQ v (2^n-1) w,?_⟩;rw[Nat.div_eq_of_lt om,L7 om];refine fa U ?_;have h64:(2:X)^64=18446744073709551616:=qb
 rw[Az _ _ om om];exact h
theorem ph{n a c d:O}{K:O->O->Pw}(hb:a<=n/\n<=c->0<=n+d/\n+d<=1000)(h:K (if a<=n/\n<=c then n+d else 0) (if a<=n/\n<=c then 0 else 1) w):R0 n a c d K w:=by
 apply Wc;intro k hk;refine bo (λe=>?_) (λe=>?_)
 .apply hk
  rw[F om,F om]at h;exact bh U h
 .apply hk
  by_cases e2:n>c
  .rw[qu e2]
   rw[F om,F om]at h;exact bh U h
  .rw[qm e2]
   have:=hb om;rw[qd om,qd om]at h;rw[wr om om];exact bc U h
theorem uU{K:O->O->O->O->O->O->O->O->O->O->Pw}(h:Ow B w0 w R)(hK:∀w',Ow B w0 w' R->K 0 0 0 5 2 2 6 6 6 0 w'):R1 K w:=by
 apply Wd;refine h.a λc w1 h=>?_;refine h.aA U U λw h=>?_;refine h.kC U ?_;exact hK w h.drop
theorem CM{kind bits:O}{K:O->O->Pw}(h:Ow B w0 w R)(hK:∀w',Ow B w0 w' R->K (eP kind bits).1 (eP kind bits).2 w'):Ui kind bits K w:=by
 apply Wb;unfold eP at hK;refine dE (λe=>?_) (λe=>?_)
 .rw[qd e]at hK
  refine ph om ?_;have:=hK w h;split at this
  .rename_i hb
   rw[qd hb,qd hb,Int.add_zero];exact this
  .rename_i hb
   rw[F hb,F hb];exact this
 rw[F e]at hK;refine dE (λe2=>?_) (λe2=>?_)
 .rw[qd e2]at hK
  refine ph om ?_;have:=hK w h;split at this
  .rename_i hb
   rw[qd hb,qd hb];exact this
  .rename_i hb
   rw[F hb,F hb];exact this
 rw[F e2]at hK;intro k hk;refine bo (λe3=>?_) (λe3=>?_)
 .rw[F om,F om,F om]at hK
  apply hk;exact bh U (hK w h)
 refine bo (λe4=>?_) (λe4=>?_)
 .rw[F om,F om,F om]at hK
  apply hk;exact bh U (hK w h)
 refine uU h λw h=>?_;refine⟨om,om,?_⟩;have hk2:kind=0\/kind=3\/kind=4\/kind=5\/kind=6\/kind=7\/kind=8\/kind=9:=om
 have fin:∀z:O,(#[.z 0,.z 0,.z 0,.z 5,.z 2,.z 2,.z 6,.z 6,.z 6,.z 0]:qo Q)[kind.toNat*1]?=S (.z z)->z≠0->
   (∀w',Ow B w0 w' R->K z 0 w')->k (z==0) w:=λz hz z0 hK=>by
  rw[show(z==0)=G from by simpa using z0];apply hk;refine bc U ?_;refine uU h λw h=>?_;exact⟨om,om,z,hz,hK w h⟩
 have fin0:(∀w',Ow B w0 w' R->K 0 80 w')->k ((0:O)==0) w:=λhK=>by apply hk;exact bh U (hK w h)
 rcases hk2 with rfl|rfl|rfl|rfl|rfl|rfl|rfl|rfl
 .exact ⟨0,U,fin0 hK⟩
 .exact ⟨5,U,fin 5 U qb hK⟩
 .exact ⟨2,U,fin 2 U qb hK⟩
 .exact ⟨2,U,fin 2 U qb hK⟩
 .exact ⟨6,U,fin 6 U qb hK⟩
 .exact ⟨6,U,fin 6 U qb hK⟩
 .exact ⟨6,U,fin 6 U qb hK⟩
 .exact ⟨0,U,fin0 hK⟩
theorem Iy{n:X}(hn:n<=62):ic .u64 1 (n:O)=((2^n:X):O):=by have:=Sl.HV (a:=1) (k:=n) (d:=1) qb om;rw[OI]at this;exact this
theorem wZ.room{u:nP}(hu:wZ u):2^u.bits<=2^20/\u.base<=2^20/\u.used<=2^20:=by have h1:=hu.top;have h2:=hu.used;have h3:0<2^u.bits:=MD _;omega
theorem Ai{u:nP}{K:O->Pw}(hu:wZ u)(h:Ow B w0 w R)(hK:∀w',Ow B w0 w' R->K 0 w'):Uh (u.base:O) (u.bits:O) (u.used:O) K w:=by
 apply Wa;obtain⟨r1,r2,r3⟩:=hu.room;have e20:(2:X)^20=1048576:=qb
 have hb:=hu.bits;have e62:(2:X)^62=4611686018427387904:=qb
 refine h.a λc w1 h=>?_;intro k hk;refine⟨_,h.aE U,aw om ⟨_,h.aE U,aw om (h.l1 U ?_)⟩⟩;apply hk;rw[qm om];refine bc U ?_;refine⟨_,h.aF U,h.l2 U (nY om om (h.dr λw h=>?_))⟩;refine fa U ?_;refine h.l1 U ?_;rw[z6 hu.dvd];refine fa U ?_;refine⟨_,h.aE U,_,h.aE U,om,?_⟩;rw[Iy om];have:=hu.used;refine aw om ?_;exact hK _ h.drop
theorem Ey{s:Sl}{ys:Y X}{y:X}{c:X}{L:Y aH}{k:Sl->Pw}[abw:cu s L X wE ys][abq:fh (af wE s ys) L R](h:Ow B w0 w (aa c [.y (y:O)]::L))(hbig:ys.length<=1000000000)
  (hk:∀s' w',s'.len=ys.length+1->Ow B w0 w' (af wE s' (ys++ [y])::R)->k s' w'):
  ∃s' w',aM qe [278,278] 278 s.v (.slice (S c.p) 1 1) w s' w'/\k s' w':=
 Ow.eL (E:=wE) (y:=y) aaX (show qe.info? 39=S aaG from by kernel_rfl) (zv:= .y 0) qa qa U qb h (by
  have e:aaG.bytes=8:=qa
  rw[e];omega) hk
theorem tP{u:nP}{kind bits n:O}{K:Sl->O->O->O->O->Pw}(hu:wZ u)(h:Ow B w0 w R)
  (hK:∀s w',Ow B w0 w' (af wE s (bH u kind bits n).1::R)->K s ((bH u kind bits n).2.1.base:O) ((bH u kind bits n).2.1.bits:O) ((bH u kind bits n).2.1.used:O) (bH u kind bits n).2.2 w'):Ry (u.base:O) (u.bits:O) (u.used:O) kind bits n K w:=by
 apply V8;obtain⟨r1,r2,r3⟩:=hu.room;have e20:(2:X)^20=1048576:=qb
 have hb:=hu.bits;have e62:(2:X)^62=4611686018427387904:=qb
 refine h.a λc w1 h=>?_;refine h.a λd w2 h=>?_;refine h.nS U ?_;refine Ai hu h λw h=>?_;refine CM h λw h=>?_;refine fa U ?_;unfold bH at hK;have hs:=uT (kind:=kind) (bits:=bits);generalize eP kind bits=sz at hK hs|-;obtain⟨z,e⟩:=sz;dsimp only at hK hs|-;obtain⟨m,rfl⟩:=LB hs.1;rw[Lw]at hK;have hz2:2^m<=2^20:=Mh om om;have bad:∀(q:O)(w:J),(∀s w',Ow B w0 w' (af wE s []::R)->K s 0 0 0 q w')->Ow B w0 w (aa d [.y 0,.z 0,.y 0]::aa c [.y (u.base:O),.z (u.bits:O),.y (u.used:O)]::R)->
   aB w d.p 0 [.y (0:O),.z (0:O),.y (0:O)] λw17=>ax w17 d.p 0 [.u,.o,.u] λ(r18:O)(r19:O)(r20:O)=>K z0 r18 r19 r20 q w17:=λq w hK h=>by
  refine h.aA U U λw h=>?_;refine h.nS U ?_;exact hK _ w (Ow.cZ h.drop.drop)
 by_cases he:e≠0
 .rw[qd he]at hK
  refine iv he ?_;exact bad e w hK h
 rw[F he]at hK;refine fa om ?_;intro k hk;by_cases hn:n<1\/64<n
 .rw[qd hn]at hK
  have:k Z w:=by apply hk;refine bh U ?_;exact bad 1 w hK h
  refine bo (λe1=>this) (λe1=>?_);rw[qu om];exact this
 rw[F hn]at hK;obtain⟨n,rfl⟩:=LB (show 0<=n by omega);rw[Lw]at hK;refine aw om ?_;rw[qm om];apply hk;refine bc U ?_;refine⟨_,h.aF U,h.l2 U ?_⟩;have hw:qv.wrap ((u.base:O)+(u.used:O))=((u.base+u.used:X):O):=by have:=Sl.wrap_u64 (u.base+u.used);rw[L7 om]at this;rw[<-this];congr 1
 rw[hw];have hup:=yi (u.base+u.used) m;refine nY om om ?_;refine h.dr λw h=>?_;refine⟨_,h.aF U,_,h.aE U,om,om,?_⟩;generalize BR (u.base+u.used) m=q at hK hup|-;have hnw:qv.wrap (n:O)=(n:O):=by rw[Sl.wrap_u64,L7 om]
 have hnm:n*2^m<=64*2^20:=Nat.mul_le_mul om hz2;have w1:qv.wrap ((q:O)+ic .u64 (qv.wrap (n:O)) (m:O))=((q+n*2^m:X):O):=by rw[hnw,Sl.HV (a:=n) (k:=m) (d:=7) om om,<-Oa,Sl.wrap_u64,L7 om]
 have w2:qv.wrap ((u.base:O)+ic .u64 1 (u.bits:O))=((u.base+2^u.bits:X):O):=by rw[Iy om,<-Oa,Sl.wrap_u64,L7 om]
 rw[w1,w2];by_cases hfit:u.base+2^u.bits<q+n*2^m
 .rw[qd hfit]at hK
  refine az om ?_;exact bad 81 w hK h
 rw[F hfit]at hK;refine aw om ?_;intro l hl;have loop:∀(r j:X)(o:Sl)(w:J),j+r=n->Ow B w0 w (af wE o ((LA j).map λi=>q+i*2^m)::aa d [.y 0,.z 0,.y 0]::aa c [.y (u.base:O),.z (u.bits:O),.y (u.used:O)]::R)->l ((q+j*2^m:X):O) o (j:O) w:=by
  intro r;induction r with
  |zero=>
   intro j o w hj h;have hj:j=n:=om
   subst hj;apply hl;refine aw om ?_;refine h.l1 U ?_;have e3:qv.wrap (((q+j*2^m:X):O)-(u.base:O))=((q+j*2^m-u.base:X):O):=by rw[show(((q+j*2^m:X):O)-(u.base:O))=((q+j*2^m-u.base:X):O)from by omega,Sl.wrap_u64,L7 om]
   rw[e3];refine h.fK U U λw h=>?_;refine h.dr λw h=>?_;refine h.nS U ⟨?_,trivial⟩;refine h.aA U U λw h=>?_;refine h.nS U ?_;exact hK _ w h.uN.uN
  |succ r ih=>
   intro j o w hj h;have hjm:(j+1)*2^m<=n*2^m:=LZ _ om;apply hl;refine az om ?_;refine h.a λg w2 h=>?_;refine Ey (s:=o) (y:=q+j*2^m) h (by simp;omega) λo' w ho' h=>⟨om,?_⟩
   have e4:qv.wrap (((q+j*2^m:X):O)+ic .u64 1 (m:O))=((q+(j+1)*2^m:X):O):=by rw[Iy om,<-Oa,Sl.wrap_u64,L7 (by rw[MG]at hjm;omega)];rw[MG,OI,Nv]
   rw[e4,show qf.wrap ((j:O)+1)=((j+1:X):O)from by rw[wr om om];omega];refine ih (j+1) o' w om ?_;rw[N1,LU];exact h
 have:=loop n 0 z0 w om (Ow.cZ h);rw[Nat.zero_mul,Nat.add_zero]at this;exact this
theorem Aq{u:nP}{K:O->O->O->Pw}(h:Ow B w0 w R)(hK:∀w',Ow B w0 w' R->K (u.base:O) (u.bits:O) 0 w'):TT (u.base:O) (u.bits:O) (u.used:O) K w:=by
 apply V9;refine h.a λc w1 h=>?_;refine h.a λd w2 h=>?_;refine h.fK U U λw h=>?_;refine h.nS U ?_;refine h.aA U U λw h=>?_;refine h.nS U ?_;exact hK w h.drop.drop
theorem wZ.place{u:nP}(hu:wZ u){kind bits n:O}(h:(bH u kind bits n).2.2=0):1<=n/\n<=64/\wZ (bH u kind bits n).2.1/\(bH u kind bits n).1.length=n.toNat/\(eP kind bits).2=0/\
  ∀a∈(bH u kind bits n).1,a%2^(eP kind bits).1.toNat=0/\a+2^(eP kind bits).1.toNat<=2^20:=by
 unfold bH at*
 have hs:=uT (kind:=kind) (bits:=bits);generalize eP kind bits=sz at*
 split at h
 .rename_i h0;exact qj h h0
 rename_i h0;rw[F h0];split at h
 .cases h
 rename_i h1;rw[F h1];split at h
 .cases h
 rename_i h2;rw[F h2];have hup:=yi (u.base+u.used) sz.1.toNat;have ht:=hu.top;refine⟨om,om,⟨hu.bits,hu.top,hu.dvd,?_⟩,qc,om,λa ha=>?_⟩
 .dsimp only;omega
 .obtain ⟨i,hi,rfl⟩:=L2.1 ha
  rw[List.mem_range]at hi;have hm:(i+1)*2^sz.1.toNat<=n.toNat*2^sz.1.toNat:=LZ _ om;rw[MG,OI]at hm;refine⟨?_,om⟩;rw[Nat.add_mul_mod_self_right];unfold BR;exact P9 _ _
end
namespace Sl
def dW:dT (Slot × cN):=⟨8,λp=>[.z p.1.1,.z p.1.2,.z p.2.kind,.z p.2.obj,.z p.2.ar,.y p.2.ay,.y p.2.guard,.z p.2.bits],λ_=>rfl,λx v h=>by simp only[LD,MB,qI]at h;rcases h with rfl|rfl|rfl|rfl|rfl|rfl|rfl|rfl<;>rfl,qb⟩
theorem yy(x:O)(m:X)(hm:m<2^62):∃p:X,p<=m/\di .i64 x (m:O)=(p:O):=by
 unfold di;have e2:(2:X)^62=4611686018427387904:=qb
 have hle:(BitVec.ofInt qf.bits x &&& BitVec.ofInt qf.bits (m:O)).toNat<=m:=by
  rw[BitVec.toNat_and];refine LY Nat.and_le_right ?_;have:(BitVec.ofInt qf.bits (m:O)).toNat=m%2^64:=by simp[IntKind.bits,BitVec.toNat_ofInt]
  rw[this];exact PE _ _
 exact⟨_,hle,wr om om⟩
end Sl
namespace Tr
abbrev Slot:=O × O
abbrev eG:=Slot × O
abbrev bg(s:Sl):Q:= s.v
def aO:dT eG:=⟨3,λp=>[.z p.1.1,.z p.1.2,.z p.2],λ_=>rfl,λx v h=>by simp only[LD,MB,qI]at h;rcases h with rfl|rfl|rfl<;>rfl,qb⟩
def aC:dT Slot:=⟨2,λp=>[.z p.1,.z p.2],λ_=>rfl,λx v h=>by simp only[LD,MB,qI]at h;rcases h with rfl|rfl<;>rfl,qb⟩
theorem Ff{w:J}{a:qg}{x:eG}{f:O->O->O->Prop}(g:∀c v,(aO.enc x)[c]?=S v->w.cell? (a.add c)=S v)(hf:f x.1.1 x.1.2 x.2):ax w a 0 [.o,.o,.o] f:=⟨_,g 0 _ U,_,g 1 _ U,_,g 2 _ U,hf⟩
theorem jW{w:J}{a:qg}{x:Slot}{f:O->O->Prop}(g:∀c v,[Value.z x.1,Value.z x.2][c]?=S v->w.cell? (a.add c)=S v)(hf:f x.1 x.2):ax w a 0 [.o,.o] f:=⟨_,g 0 _ U,_,g 1 _ U,hf⟩
theorem JI(a c:Slot):lO qe 9 155 [.z a.1,.z a.2] [.z c.1,.z c.2]=S (V (a=c)):=by
 have h:lO qe 9 155 [.z a.1,.z a.2] [.z c.1,.z c.2]=S (a.1==c.1&&(a.2==c.2&&Z)):=qa
 rw[h];congr 1;rw[Nh];simp only[NO,LO,qH,qB];cases a;cases c;simp only[Prod.mk.injEq]
theorem Gf{x y:qD}(a c:Slot):vl qe .eql 155 x y (.agg #[.z a.1,.z a.2]) (.agg #[.z c.1,.z c.2]) (V (a=c)):=EJ qa qa qa (JI a c)
theorem gq:qe.info? 325=S aa1:=qa
theorem rr:aa1.bytes=24:=qa
def vh:eG:=((0,0),0)
theorem Gt(w:J):(qK 325).run qe w= .ok (.agg ⟨aO.enc vh⟩) w:=zeroValue325 w
def fj{α:Type}(p:α->W)(xs:Y α):O:=match xs.findIdx? p with|some i=>(i:O)|none=> -1
section
variable{B:X}{w0 w:J}{R L:Y aH}{s:Sl}{xs:Y eG}
theorem tM{p:eG->W}{f:Q}{K:O->Pw}[abw:cu s L eG aO xs](h:Ow B w0 w L)(hbig:xs.length<=1000000000)
  (hf:∀(y:eG)(w:J)(aby:W->Pw),Ow B w0 w L->(∀w',Ow B w0 w' L->aby (p y) w')->dU qe f [.agg #[.z y.1.1,.z y.1.2,.z y.2]] w λen w'=>∃r:W,en= .returned (.bool r)/\aby r w')
  (hK:∀w',Ow B w0 w' L->K (fj p xs) w'):Uc s f K w:=by
 apply VE;have hlen:=h.aL s;intro l hl;have loop:∀(rest:Y eG)(j:X)(w:J),xs.drop j=rest->j<=xs.length->(∀i,i<j->∀y,xs[i]?=S y->p y=G)->Ow B w0 w L->l (j:O) w:=by
  intro rest;induction rest with
  |nil=>
   intro j w hj hjl hno h;have:xs.length<=j:=by have:=qz Nc hj;simp at this;omega
   apply hl;refine aw om ?_;have hn:xs.findIdx? p=none:=by rw[Mu];intro y hy;obtain⟨i,hi⟩:=List.mem_iff_getElem?.1 hy;exact hno i (by have:=(Lu.1 hi).1;omega) y hi
   have e:fj p xs= -1:=by unfold fj;rw[hn]
   rw[<-e];exact hK _ h
  |cons y rest ih=>
   intro j w hj hjl hno h;have hjl2:j<xs.length:=by have:=qz Nc hj;simp at this;omega
   have hx:xs[j]?=S y:=by have:=qz (λl=>l[0]?) hj;simpa using this
   apply hl;refine az om ?_;refine h.cz U hx λa ha h0 hc=>?_;refine Ff hc ?_;refine hf y w _ h λw h=>?_;cases hp:p y with
   |true=>
    refine bh U ?_;have hn:xs.findIdx? p=S j:=by
     rw[L9];refine⟨hjl2,?_,λi hi=>?_⟩
     .rw[gE hjl2]at hx;cases hx;exact hp
     .have:=hno i hi xs[i] (gE om)
      simp[this]
    have e:fj p xs=(j:O):=by unfold fj;rw[hn]
    rw[<-e];exact hK _ h
   |false=>
    refine bc U ?_;rw[wr om om];refine ih (j+1) w (by rw[<-ML,hj];rfl) om (λi hi z hz=>?_) h;by_cases e:i=j
    .subst e;rw[hx]at hz;cases hz;exact hp
    .exact hno i om z hz
 exact loop xs 0 w U om (λi hi=>by omega) h
theorem vS{y:eG}{c:X}{k:Sl->Pw}[abw:cu s L eG aO xs][abq:fh (af aO s xs) L R](h:Ow B w0 w (aa c (aO.enc y)::L))(hbig:xs.length<=1000000000)
  (hk:∀s' w',s'.len=xs.length+1->Ow B w0 w' (af aO s' (xs++ [y])::R)->k s' w'):
  ∃s' w',aM qe [235,235] 235 s.v (.slice (S c.p) 1 1) w s' w'/\k s' w':=
 Ow.eL (E:=aO) (y:=y) qQ gq (zv:= .agg ⟨aO.enc vh⟩) qa qa U qb h (by rw[rr];omega) hk
theorem jc{ys:Y Slot}{y:Slot}{c:X}{k:Sl->Pw}[abw:cu s L Slot aC ys][abq:fh (af aC s ys) L R](h:Ow B w0 w (aa c (aC.enc y)::L))(hbig:ys.length<=1000000000)
  (hk:∀s' w',s'.len=ys.length+1->Ow B w0 w' (af aC s' (ys++ [y])::R)->k s' w'):
  ∃s' w',aM qe [124,124] 124 s.v (.slice (S c.p) 1 1) w s' w'/\k s' w':=
 Ow.eL (E:=aC) (y:=y) aaz (show qe.info? 155=S qW from by kernel_rfl) (zv:= .agg ⟨aC.enc (0,0)⟩) qa qa U qb h (by
  have e:qW.bytes=16:=qa
  rw[e];omega) hk
theorem po{α:Type}{xs:Y α}{i j:X}{z:α}(hij:i<j)(hj:j<=xs.length):
  O5 (i+(xs.length-j)) (O5 (i+(xs.length-j)) (xs.take i++xs.drop j++xs.drop (i+(xs.length-j)))++Ly ((xs.take i++xs.drop j++xs.drop (i+(xs.length-j))).length-(i+(xs.length-j))) z)=xs.take i++xs.drop j:=by
 have hl2:(xs.take i++xs.drop j).length=i+(xs.length-j):=by simp;omega
 rw[MW (by simp;omega),NU,Nat.min_self,<-hl2,List.take_left]
theorem yo{i j:X}{K:Sl->Pw}(h:Ow B w0 w (af aO s xs::R))(hij:i<j)(hj:j<=xs.length)(hbig:xs.length<=1000000000)
  (hK:∀s' w',Ow B w0 w' (af aO s' (xs.take i++xs.drop j)::R)->K s' w'):R3 s (i:O) (j:O) K w:=by
 apply VO;have hlen:=h.aL s;have hcap:=h.lK.gu;refine⟨om,om,om,om,om,om,nQ om (h.dr λw h=>?_)⟩;refine⟨om,om,om,om,a2 ?_⟩;simp only[Lw];refine h.AE (E:=aO) qQ gq qa om hj om λw h=>?_;dsimp only;refine⟨om,om,om,om,Ow.clear (E:=aO) (z0:=vh) (n:=i+(xs.length-j)) qQ Gt U h 0 U (by simp;omega) λw h=>?_⟩;have hp:=h.pre 0 U (n:=i+(xs.length-j)) (by simp;omega);refine hK _ w ?_;rw[po hij hj]at hp;exact hp
theorem CU{b:X}{ys:Y eG}{x:Sl}{k:Sl->Pw}(h:Ow B w0 w (af aO ⟨S b.p,0,0⟩ []::L))(hx:jN aO.z w x (ys.flatMap aO.enc))(hxl:x.len=ys.length)(hbig:ys.length<=1000000000)
  (hk:∀s' w',Ow B w0 w' (af aO s' ys::L)->k s' w'):
  ∃s' w',aM qe [235,235] 235 (.slice (S b.p) 0 0) x.v w s' w'/\k s' w':=
 Ow.app (s:=⟨S b.p,0,0⟩) (xs:=[]) (ys:=ys) qQ gq (zv:= .agg ⟨aO.enc vh⟩) qa qa U qb h 0 U hx hxl (by rw[rr,List.length_nil];omega) λs' w' _ h=>hk s' w' h
theorem Ak{K:Sl->Pw}[abw:cu s L eG aO xs](h:Ow B w0 w L)(hbig:xs.length<=1000000000)(hK:∀s' w',Ow B w0 w' (af aO s' xs::L)->K s' w'):TD s K w:=by
 apply Vx;have hlen:=h.aL s;cases hn:s.a with
 |none=>
  refine bh U ?_;have hx:xs= []:=by
   cases xs with
   |nil=>rfl
   |cons x xs=>obtain⟨_,_,ha,_⟩:=h.get abw.i abw.at_ (j:=0) (x:=x) U;rw[hn]at ha;cases ha
  subst hx;exact hK _ w (Ow.cZ h)
 |some a=>
  refine bc U ?_;refine h.a λb w' h=>?_;have h2:Ow B w0 w' (af aO ⟨S b.p,0,0⟩ []::L):=Ow.empty h;have hx2:=h2.sR (abw.i+1) (by simpa using abw.at_)
  (try rw[<-hn])
  exact CU h2 hx2 hlen hbig λs' w h=>hK _ w h
theorem E5{α:Type}{xs:Y α}{i:X}{y z:α}(hi:i<xs.length):
  (((xs.take i++Ly (xs.length+1-i) z).take i++ [y]++(xs.take i++Ly (xs.length+1-i) z).drop (i+ [y].length)).take (i+1)++xs.drop i++((xs.take i++Ly (xs.length+1-i) z).take i++ [y]++(xs.take i++Ly (xs.length+1-i) z).drop (i+ [y].length)).drop (i+1+(xs.drop i).length))=xs.take i++ [y]++xs.drop i:=by
 have h1:(xs.take i).length=i:=by simp;omega
 have h2:(xs.take i++Ly (xs.length+1-i) z).take i=xs.take i:=by rw[MW om,Lz om]
 have h3:(xs.take i++ [y]:Y α).length=i+1:=by simp;omega
 rw[h2];generalize hX:(xs.take i++Ly (xs.length+1-i) z).drop (i+ [y].length)=abo;have hXl:abo.length=xs.length-i:=by rw[<-hX];simp;omega
 have h4:(xs.take i++ [y]++abo).drop (i+1+(xs.drop i).length)= []:=List.drop_eq_nil_of_le (by rw[LC,h3,hXl];simp);rw[h4,LQ,MW om,Lz om]
theorem Dc{α:Type}(E:dT α){xs:Y α}{i:X}{y:α}(hi:i<xs.length){junk:Y Q}(hj:junk.length=1*E.z):
  putAt (putAt (xs.flatMap E.enc++junk) ((i+1)*E.z) ((xs.drop i).flatMap E.enc)) (i*E.z) (E.enc y)=(xs.take i++ [y]++xs.drop i).flatMap E.enc:=by
 have hF:=aN E xs;have hD:((xs.drop i).flatMap E.enc).length=(xs.length-i)*E.z:=by rw[aN,Ns]
 have hT:((xs.take i).flatMap E.enc).length=i*E.z:=by rw[aN,List.length_take,Ms om]
 have hsplit:xs.flatMap E.enc=(xs.take i).flatMap E.enc++(xs.drop i).flatMap E.enc:=by rw[<-Me,Ma]
 have hEy:=E.len y;have e1:xs.length*E.z=i*E.z+(xs.length-i)*E.z:=by rw[<-MG];congr 1;omega
 have hl1:(putAt (xs.flatMap E.enc++junk) ((i+1)*E.z) ((xs.drop i).flatMap E.enc)).length=xs.length*E.z+E.z:=by rw[nF (by rw[LC,hF,hj,hD,Nu];omega),LC,hF,hj];omega
 rw[Me,Me,List.flatMap_cons,List.flatMap_nil,LQ];generalize hA:(xs.take i).flatMap E.enc=A at*
 generalize hB:(xs.drop i).flatMap E.enc=D at*
 generalize E.enc y=abp at*
 rw[hsplit]at hl1|-;apply L5;intro t;rw[cQ _ _ _ _ om];rw[cQ _ _ _ _ (by rw[LC,LC,hj,hD,hT,Nu];omega)];rw[Nu];by_cases c1:i*E.z<=t/\t<i*E.z+abp.length
 .rw[qd c1,LN,LH om,LI om,hT]
 .rw[F c1]
  by_cases c2:i*E.z+E.z<=t/\t<i*E.z+E.z+D.length
  .rw[qd c2,LH (by rw[LC];omega),LC,hT,hEy]
  .rw[F c2]
   by_cases c3:t<i*E.z
   .rw[LN,LI om,LN,LI om]
   .rw[L0 (by rw[LC,LC];omega),L0 (by rw[LC,LC];omega)]
theorem yu{i c:X}{y:eG}{K:Sl->Pw}(h:Ow B w0 w (af aO s xs::aa c (aO.enc y)::R))(hi:i<=xs.length)(hbig:xs.length<=1000000000)
  (hK:∀s' w',Ow B w0 w' (af aO s' (xs.take i++ [y]++xs.drop i)::R)->K s' w'):R2 s (i:O) ⟨S c.p,1,1⟩ K w:=by
 apply VN;have hlen:=h.aL s;have hcap:=h.lK.gu;refine⟨om,om,bc U (dE (λe=>?_) (λe=>?_))⟩
 .obtain rfl:i=xs.length:=om
  refine vS h.cq hbig λs' w hs' h=>?_;rw[List.take_length,List.drop_length,LQ]at hK;exact hK s' w h
 have hil:i<xs.length:=om
 dsimp only;have hspot:=h.lK.spot;have hdl:(xs.drop i).length=xs.length-i:=by simp
 rw[show qf.wrap ((s.len:O)+((1:X):O))=((xs.length+1:X):O)from by rw[wr om om];omega,
  show qf.wrap ((i:O)+((1:X):O))=((i+1:X):O)from by rw[wr om om];omega]
 obtain⟨b,o,ha,hcells⟩:=h.get 0 U (gE hil);have hsrc:∀w,Ow B w0 w (af aO s xs::aa c (aO.enc y)::R)->∀j v,((xs.drop i).flatMap aO.enc)[j]?=S v->w.cell? ((Addr.mk b (o+i*3) N).add j)=S v:=λw h j v hv=>by
  have hs:=h.lK;have hj:(xs.flatMap aO.enc)[i*3+j]?=S v:=by
   have e1:xs.flatMap aO.enc=(xs.take i).flatMap aO.enc++(xs.drop i).flatMap aO.enc:=by rw[<-Me,Ma]
   have e2:((xs.take i).flatMap aO.enc).length=i*3:=by rw[aN];show(xs.take i).length*3=_;simp;omega
   rw[e1,LH om,e2,NQ];exact hv
  obtain⟨b',o',ha',hc'⟩:=hs.cell hj;rw[ha]at ha';simp only[Option.some.injEq,Addr.mk.injEq,and_true]at ha';rw[aI,ha'.1,ha'.2,Nv];exact hc'
 have hsrcY:∀w L,Ow B w0 w (aa c (aO.enc y)::L)->∀j v,(([y]:Y eG).flatMap aO.enc)[j]?=S v->w.cell? (c.p.add j)=S v:=λw L h j v hv=>by
  have:([y]:Y eG).flatMap aO.enc=aO.enc y:=by simp
  rw[this]at hv;rw[aI,LF,(h.vn 0 U).cell];exact hv
 refine bo (λe2=>?_) (λe2=>?_)
 .refine ⟨om,om,?_⟩
  rw[show qf.wrap (((xs.length+1:X):O)-(i:O))=((xs.length+1-i:X):O)from by rw[wr om om];omega,Lw];refine Ow.J2 (E:=aO) (z0:=vh) (i:=i) (m:=xs.length+1-i) qQ qA gq (zv:= .agg ⟨aO.enc vh⟩) qa qa U qb h om om om (by rw[rr];omega) λt w ht htc h=>?_;obtain⟨b2,o2,ha2,_⟩:=h.get 0 U (gE (show i<(xs.take i++Ly (xs.length+1-i) vh).length by simp;omega));refine⟨om,om,?_⟩;rw[gF (z:=3) ha2 (show t.cap≠i by omega)];refine Ow.B4 (E:=aO) (p:=i) (zs:=[y]) qQ gq qa h ha2 (by simp;omega) (by simp;omega) (hsrcY w _ h.kh) λw h=>?_;refine h.dr λw h=>?_;refine⟨om,om,om,om,Go.Vc.a2 ?_⟩;rw[Lw,gF (z:=3) ha2 (show t.cap≠i+1 by omega),gF (z:=3) ha (show s.cap≠i by omega)];refine Ow.B4 (E:=aO) (p:=i+1) (zs:=xs.drop i) qQ gq qa h ha2 (by simp;omega) (by simp;omega) (hsrc w h.drop) λw h=>?_;rw[E5 hil]at h;exact hK _ w h.uN.uN
 .obtain ⟨junk,hj,h⟩:=h.grow (m:=1) om ha
  have h:Ow B w0 w (Ec 3 ⟨s.a,xs.length+1,s.cap⟩ (xs.flatMap aO.enc++junk)::aa c (aO.enc y)::R):=h;have e0:Vc.eU s.a 0 s.cap 3=s.a:=Ge _ _ _ hspot;have hF:(xs.flatMap aO.enc).length=xs.length*3:=aN aO xs;simp only[e0,Nat.sub_zero,Lw];rw[gF (z:=3) ha (show s.cap≠i+1 by omega),gF (z:=3) ha (show s.cap≠i by omega)];refine⟨om,om,om,om,G,w,?_,?_⟩
  .exact h.cq.overlaps func433 qa qa qa (tS:=235) (tR:=4) qa qQ (size:=3) (λw=>by rw[fu gq w];rfl) ha (by intro hn;have:=qz Nc hn;rw[LC,hF,hj]at this;simp at this;omega)
  refine bh U ?_;refine h.dr λw h=>?_;refine⟨om,om,om,om,Go.Vc.a2 ?_⟩;refine h.EI (z:=3) (p:=i+1) (ds:=(xs.drop i).flatMap aO.enc) qQ gq qa ha (by
   have:=aN aO (xs.drop i);have hz:aO.z=3:=rfl;rw[this,hz,hdl];congr 1;omega) (λv hv=>by
   obtain⟨x,_,hx⟩:=List.mem_flatMap.1 hv;exact aO.one x v hx) (by rw[LC,hF,hj];show _<=xs.length*3+1*3;omega) (λj v hv=>by
   have hs:jN 3 w ⟨s.a,xs.length+1,s.cap⟩ (xs.flatMap aO.enc++junk):=h.head λ_ h=>h.2;have hjj:(xs.flatMap aO.enc++junk)[i*3+j]?=S v:=by
    have e1:xs.flatMap aO.enc=(xs.take i).flatMap aO.enc++(xs.drop i).flatMap aO.enc:=by rw[<-Me,Ma]
    have e2:((xs.take i).flatMap aO.enc).length=i*3:=by rw[aN];show(xs.take i).length*3=_;simp;omega
    have hjl:=(Lu.1 hv).1;rw[e1,LN,LH om,e2,NQ,LI hjl];exact hv
   obtain⟨b',o',ha',hc'⟩:=hs.cell hjj;have ha':s.a=S ⟨b',o',N⟩:=ha';rw[ha]at ha';simp only[Option.some.injEq,Addr.mk.injEq,and_true]at ha';rw[aI,ha'.1,ha'.2,Nv];exact hc') λw h=>?_
  refine⟨om,om,?_⟩;refine h.EI (z:=3) (p:=i) (ds:=aO.enc y) qQ gq qa ha (by
   rw[aO.len];show 3=_;rw[Ms (by show 1<=_;omega)]<;>rfl) (λv hv=>aO.one y v hv) (by
   have hD:((xs.drop i).flatMap aO.enc).length=(xs.length-i)*3:=by rw[<-hdl];exact aN aO _
   rw[nF (by rw[LC,hF,hj,hD];show _<=xs.length*3+1*3;omega),LC,hF,hj];show _<=xs.length*3+1*3;omega) (λj v hv=>by
   rw[aI,LF,(h.vn 1 U).cell];exact hv) λw h=>?_
  have h2:Ow B w0 w (af aO ⟨s.a,xs.length+1,s.cap⟩ (xs.take i++ [y]++xs.drop i)::aa c (aO.enc y)::R):=Ow.KB (by simp;omega) (Dc aO hil hj) h;exact hK _ w h2.uN
end
end Tr
theorem X3{K w}:Fr (Qt K w) (A2 w [.slice N 0 0] 237 λa b=>K (S a.p) b):=aj func36 (.v .w)
theorem X4{a K w}:Fr (SJ a K w) (∃b,a=S b/\∃a,w.s b a/\TD a (λa b=>A2 b [a.v] 237 λa b=>K (S a.p) b) w):=aj func81 (.v .w)
theorem X5{a b c K w}:Fr (SS a b c K w) (A2 w [.z b,.z c] 155 λb c=>ax c b.p 0 [.o,.o] λ(d e:O)=>Pb a d e (λc d=>bif V (c>=0)then K 70 d else Dr d λc=>∃d,a=S d/\∃e,c.s d e/\ax c b.p 0 [.o,.o] λ(b d:O)=>(A2 c [.z b,.z d,.z 0] 325 λb c=>(∃d f,aM qe [235,235] 235 e.v (.slice (S b.p) 1 1) c d f/\∃b,a=S b/\(St f b d.v λa=>K 0 a)/\I)/\I)/\I) c):=aj func121 (.v (.y (.v (.x .w)) (.y (.z (.o 0 510 (.o 1 224 (.o 2 224 (.o 3 224 (.o 4 224 (.o 5 0 (.o 6 0 (.e 7 (.e 8 .Km)))))))))) .w)))
theorem X6{a K w}:Fr (SY a K w) (∃b,a=S b/\∃a,w.s b a/\Qm a (λa b=>K a b) w):=aj func139 (.v .w)
theorem X7{a b c K w}:Fr (Pb a b c K w) (A2 w [.z b,.z c] 155 λb c=>∃d,a=S d/\∃a,c.s d a/\Uc a (.func (.func 320) #[] #[.pointer (S b.p)]) (λa b=>K a b) c):=aj func231 (.v .w)
theorem X8{a K w}:Fr (Qm a K w) (∀b:Sl->O->Pw,(∀(c:Sl)(d:O)(e:J),(bif V (d<(a.len:O))then ∃f,a.a=S f/\0<=d/\d<(a.len:O)/\ax e (f.add (d.toNat*3)) 0 [.o,.o,.o] λ(a f g:O)=>A2 e [.z 0,.z 0,.z 0] 325 λh i=>aB i h.p 0 [.z a,.z f,.z g] λa=>ax a h.p 0 [.o,.o] λ(f g:O)=>A2 a [.z f,.z g] 155 λa f=>∃g h,aM qe [124,124] 124 c.v (.slice (S a.p) 1 1) f g h/\b g (qf.wrap (d+1)) h else K c e)->b c d e)->b z0 0 w):=aj func245 (.v (.v (.y (.v (.x (.t (S [(3,.c .s),(8,.c (.i .i64))]) .Ed .u))) .w)))
theorem X9{a b c d e K w}:Fr (TR a b c d e K w) (A2 w [.z b,.z c] 155 λb c=>A2 c [.z d,.z e] 155 λc d=>ax d b.p 0 [.o,.o] λ(b e:O)=>Pb a b e (λb d=>bif V (b<0)then K 71 d else ax d c.p 0 [.o,.o] λ(e f:O)=>Pb a e f (λd e=>bif V (d>=0)then K 70 e else Dr e λd=>∃e,a=S e/\∃a,d.s e a/\ax d c.p 0 [.o,.o] λ(c e:O)=>∃f,a.a=S f/\0<=b/\b<(a.len:O)/\(aB d (f.add (b.toNat*3)) 0 [.z c,.z e] λa=>K 0 a)/\I) d) d):=aj func255 (.v (.v (.y .IV (.y (.z (.o 0 48 (.o 1 48 (.o 2 48 (.o 3 48 (.o 4 32 .Kg)))))) .w))))
theorem Ya{a b c K w}:Fr (TS a b c K w) (A2 w [.z b,.z c] 155 λb c=>ax c b.p 0 [.o,.o] λ(b d:O)=>Pb a b d (λb c=>bif V (b<0)then K z0 c else Dr c λc=>∃d,a=S d/\∃e,c.s d e/\(RU a b (λa c=>c.s d e/\0<=a/\a<=(e.cap:O)/\0<=qf.wrap (b+1)/\qf.wrap (b+1)<=(a.toNat:O)/\(Qm ⟨eU e.a ((qf.wrap (b+1)).toNat) e.cap 3,a.toNat-((qf.wrap (b+1)).toNat),e.cap-((qf.wrap (b+1)).toNat)⟩ (λa b=>K a b) c)/\I) c)/\I) c):=aj func257 (.v (.v (.y (.v (.x .w)) (.x (.z (.o 0 496 (.o 1 496 (.o 2 496 (.o 4 456 (.o 5 456 (.o 6 136 (.o 7 8 (.hold 3 256 3071 (.e 8 .Kl))))))))))))))
theorem Yb{a b c d K w}:Fr (U8 a b c d K w) (A2 w [.z a,.z b,.z c] 325 λa b=>ax b a.p 0 [.o,.o] λ(a c:O)=>ax b d 0 [.o,.o] λ(d e:O)=>∃f,vl qe .eql 155 (.tmp 5) (.tmp 6) (.agg #[.z a,.z c]) (.agg #[.z d,.z e]) f/\K f b):=aj func320 (.v .w)
theorem Yc{a b c d e K w}:Fr (Ul a b c d e K w) (A2 w [.z b,.z c] 155 λb c=>A2 c [.z d,.z e] 155 λc d=>ax d b.p 0 [.o,.o] λ(b e:O)=>Pb a b e (λb d=>bif V (b<0)then K 71 d else ax d c.p 0 [.o,.o] λ(e f:O)=>Pb a e f (λd e=>bif V (d>=0)then K 70 e else Dr e λd=>∃e,a=S e/\∃f,d.s e f/\ax d c.p 0 [.o,.o] λ(c e:O)=>∃g,a=S g/\∃h,d.s g h/\∃g,h.a=S g/\0<=b/\b<(h.len:O)/\∃h,d.z ((g.add (b.toNat*3)).add 2) h/\(A2 d [.z c,.z e,.z (qf.wrap (h+1))] 325 λc d=>(R2 f (qf.wrap (b+1)) ⟨S c.p,1,1⟩ (λb c=>∃d,a=S d/\(St c d b.v λa=>K 0 a)/\I) d)/\I)/\I) d) d):=aj func340 (.v (.v (.y .IV (.y (.z (.o 0 1048574 (.o 1 524256 (.o 2 524256 (.o 3 524256 (.o 4 524256 (.o 5 524160 (.o 6 524160 (.o 7 130816 (.o 8 4096 (.o 9 4096 (.o 10 4096 (.o 11 4096 (.o 12 0 (.o 13 0 (.o 14 0 (.o 15 0 (.o 16 0 (.o 17 0 (.e 18 (.e 19 (.o 20 0 (.o 21 0 (.e 22 .done)))))))))))))))))))))))) .w))))
theorem Yd{a b c K w}:Fr (Uo a b c K w) (A2 w [.z b,.z c] 155 λb c=>ax c b.p 0 [.o,.o] λ(b d:O)=>Pb a b d (λb c=>bif V (b<0)then K 71 c else Dr c λc=>∃d,a=S d/\∃e,c.s d e/\(RU a b (λc f=>f.s d e/\0<=c/\c<=(e.cap:O)/\0<=qf.wrap (b+1)/\qf.wrap (b+1)<=(c.toNat:O)/\∀d:O->Pw,(∀(f:O)(g:J),(bif V (f<((c.toNat-((qf.wrap (b+1)).toNat):X):O))then ∃h,eU e.a ((qf.wrap (b+1)).toNat) e.cap 3=S h/\0<=f/\f<((c.toNat-((qf.wrap (b+1)).toNat):X):O)/\∃i,g.z ((h.add (f.toNat*3)).add 2) i/\∃h,eU e.a ((qf.wrap (b+1)).toNat) e.cap 3=S h/\0<=f/\f<((c.toNat-((qf.wrap (b+1)).toNat):X):O)/\St g ((h.add (f.toNat*3)).add 2) (.z (qf.wrap (i-1))) λc=>d (qf.wrap (f+1)) c else ∃c,a=S c/\∃d,g.s c d/\R3 d b (qf.wrap (b+1)) (λb c=>∃d,a=S d/\St c d b.v λa=>K 0 a) g)->d f g)->d 0 f) c)/\I) c):=aj func343 (.v (.v (.y (.v (.x .w)) (.y (.z (.o 0 496 (.o 1 496 (.o 2 496 (.o 4 456 (.o 5 456 (.o 6 136 (.o 7 8 (.hold 3 256 2047 (.e 8 (.o 9 0 (.o 10 0 .done)))))))))))) (.y (.v (.x (.t (S [(25,.c (.i .i64))]) .Ed .u))) (.v .w))))))
theorem Ye{a b K w}:Fr (RU a b K w) (∀c:O->Pw,(∀(d:O)(e:J),(Dr e λe=>∃f,a=S f/\∃g,e.s f g/\bif V (d<(g.len:O))then ∃f,a=S f/\∃g,e.s f g/\∃f,g.a=S f/\0<=d/\d<(g.len:O)/\∃g,e.z ((f.add (d.toNat*3)).add 2) g/\∃f,a=S f/\∃a,e.s f a/\∃f,a.a=S f/\0<=b/\b<(a.len:O)/\∃a,e.z ((f.add (b.toNat*3)).add 2) a/\bif V (g>a)then c (qf.wrap (d+1)) e else K d e else K d e)->c d e)->c (qf.wrap (b+1)) w):=aj func349 (.v (.v (.y (.x (.t (S [(5,.c (.i .i64))]) (.y (.y (.z (.o 0 62 (.o 1 0 (.o 2 0 (.o 3 0 (.o 4 0 (.o 5 0 (.o 6 0 (.o 7 0 (.o 8 16715776 (.o 9 16715776 (.o 10 16715776 (.o 11 16715776 (.o 12 16711680 (.o 13 16711680 (.o 14 16711680 (.o 15 16711680 (.o 16 1048576 (.o 17 1048576 (.o 18 1048576 (.o 19 1048576 (.o 20 0 (.o 21 0 (.o 22 0 (.o 23 0 (.o 24 0 (.o 25 0 .done))))))))))))))))))))))))))) .w) .w) .u)) .w)))
namespace Tr
abbrev Tr:=Y eG
def bA(T:Tr)(s:Slot):qh X:=T.findIdx? λx=>V (x.1=s)
def ud(T:Tr)(i:X):O:=match T[i]? with|some x=>x.2|none=>0
def dD(T:Tr)(i:X):X:=i+1+((T.drop (i+1)).takeWhile λx=>V (ud T i<x.2)).length
def z8:O->Tr->Prop
 |_,[]=>I
 |p,x::T=>0<=x.2/\x.2<=p+1/\z8 x.2 T
structure oc(T:Tr):Prop where
 eC:T.length<=1000000
 wf:z8 (-1) T
 nd:(T.map (·.1)).Nodup
def mR(T:Tr)(s:Slot):O × Tr:=match bA T s with|some _=>(70,T)|none=>(0,T++ [(s,0)])
def xc(T:Tr)(p s:Slot):O × Tr:=match bA T p with
 |none=>(71,T)
 |some i=>match bA T s with|some _=>(70,T)|none=>(0,T.take (i+1)++ [(s,ud T i+1)]++T.drop (i+1))
def eM(l:Tr):Tr:=l.map λx=>(x.1,x.2-1)
def takeN(T:Tr)(s:Slot):O × Tr:=match bA T s with
 |none=>(71,T)
 |some i=>(0,T.take i++(eM ((T.drop (i+1)).take (dD T i-(i+1)))++T.drop (dD T i)))
def dI(T:Tr)(f t:Slot):O × Tr:=match bA T f with
 |none=>(71,T)
 |some i=>match bA T t with|some _=>(70,T)|none=>(0,T.set i (t,ud T i))
def cF(T:Tr)(s:Slot):Y Slot:=match bA T s with
 |none=>[]
 |some i=>((T.drop (i+1)).take (dD T i-(i+1))).map (·.1)
theorem Cy:∀(T:Tr)(p:O)(i:X)(x:eG),-1<=p->z8 p T->T[i]?=S x->0<=x.2/\x.2<=p+1+(i:O)
 | [],_,i,x,_,_,h=>by simp at h
 |y::T,p,0,x,hp,hw,h=>by simp only[Mn,Option.some.injEq]at h;subst h;exact⟨hw.1,by have:=hw.2.1;omega⟩
 |y::T,p,i+1,x,hp,hw,h=>by rw[LG]at h;have h1:=hw.1;have h2:=hw.2.1;have:=Cy T y.2 i x om hw.2.2 h;omega
theorem oc.Eg{T:Tr}(h:oc T){i:X}{x:eG}(hx:T[i]?=S x):0<=x.2/\x.2<=1000000:=by have h1:=Cy T (-1) i x om h.wf hx;have h2:=(Lu.1 hx).1;have h3:=h.eC;omega
theorem du{T:Tr}{s:Slot}{i:X}(h:bA T s=S i):∃x,T[i]?=S x/\x.1=s:=by unfold bA at h;obtain⟨h1,h2,_⟩:=L9.1 h;exact⟨T[i],gE h1,by simpa using h2⟩
theorem oF{T:Tr}{s:Slot}(h:bA T s=N):∀x∈T,x.1≠s:=by unfold bA at h;rw[Mu]at h;intro x hx;simpa using h x hx
theorem gn{T:Tr}{i:X}{x:eG}(h:T[i]?=S x):ud T i=x.2:=by unfold ud;rw[h]
theorem ru(T:Tr){i:X}(hi:i<T.length):i<dD T i/\dD T i<=T.length:=by unfold dD;have:((T.drop (i+1)).takeWhile λx=>V (ud T i<x.2)).length<=(T.drop (i+1)).length:=(List.takeWhile_sublist _).length_le;rw[Ns]at this;omega
theorem Da(T:Tr)(s:Slot):fj (λx:eG=>V (x.1=s)) T=match bA T s with|some i=>(i:O)|none=> -1:=rfl
def bD(b:X)(T:Tr):aH:=sB λs:Sl=>cj [dh (oc T),aa b [bg s],af aO s T]
section
variable{B:X}{w0 w:J}{R L:Y aH}{b:X}{T:Tr}
theorem _root_.Go.Vc.Ow.tree(h:Ow B w0 w (bD b T::R)):∃s,oc T/\Ow B w0 w (af aO s T::aa b [bg s]::R):=by obtain⟨s,h⟩:=h.ex;obtain⟨h1,h⟩:=Ow.pure h.star;exact⟨s,h1,Ow.cq h⟩
theorem _root_.Go.Vc.Ow.eF{s:Sl}(h1:oc T)(h:Ow B w0 w (af aO s T::aa b [bg s]::R)):Ow B w0 w (bD b T::R):=
 Ow.fk s (Ow.bW (Ow.cT h1 (Ow.cq h)))
theorem kf{K:qh qg->Pw}(h:Ow B w0 w R)(hK:∀b w',Ow B w0 w' (bD b []::R)->K b.o w'):Qt K w:=by
 apply X3;refine h.al λw1 h=>?_;exact hK _ w1 (Ow.eF (s:=z0) ⟨qc,trivial,qc⟩ (Ow.cZ h))
theorem eT{s:Sl}{x:Slot}{K:O->Pw}(hT:oc T)(h:Ow B w0 w (af aO s T::aa b [bg s]::R))(hK:∀w',Ow B w0 w' (af aO s T::aa b [bg s]::R)->K (match bA T x with|some i=>(i:O)|none=> -1) w'):
  Pb b.o x.1 x.2 K w:=by
 apply X7;refine h.a λc w1 h=>?_;repeat first|refine h.l1 U ?_|refine eE ?_
 refine tM (L:=aa c [.z x.1,.z x.2]::af aO s T::aa b [bg s]::R) (xs:=T) (p:=λy=>V (y.1=x)) h (by have:=hT.eC;omega) (λy w aby h hQ=>?_) λw h=>?_
 .refine bq ?_
  have hA:U8 y.1.1 y.1.2 y.2 c.p aby w:=by
   apply Yb;repeat first|refine h.al λw h=>?_|refine h.aR U ?_
   exact⟨_,Gf y.1 x,hQ _ h.sub⟩
  exact hA
 .rw[Da]
  exact hK _ h.sub
theorem u4{s:Sl}{i:X}{K:O->Pw}(hT:oc T)(hi:i<T.length)(h:Ow B w0 w (af aO s T::aa b [bg s]::R))(hK:∀w',Ow B w0 w' (af aO s T::aa b [bg s]::R)->K ((dD T i:X):O) w'):
  RU b.o (i:O) K w:=by
 apply Ye;have hlen:=h.aL s;have hfew:=hT.eC;obtain⟨xi,hxi⟩:∃x,T[i]?=S x:=⟨_,gE hi⟩
 intro l hl;have loop:∀(rest:Tr)(k:X)(w:J),T.drop k=rest->k<=T.length->i<k->k+(rest.takeWhile λx=>V (ud T i<x.2)).length=dD T i->Ow B w0 w (af aO s T::aa b [bg s]::R)->l (k:O) w:=by
  intro rest;induction rest with
  |nil=>
   intro k w hk hkl hik he h;have:T.length<=k:=by have:=qz Nc hk;simp at this;omega
   apply hl;repeat first|refine h.dr λw h=>?_|refine h.l1 U ?_|refine eE ?_
   refine aw om ?_;have:k=dD T i:=by simpa using he
   rw[this];exact hK _ h
  |cons y rest ih=>
   intro k w hk hkl hik he h;have hkl2:k<T.length:=by have:=qz Nc hk;simp at this;omega
   have hx:T[k]?=S y:=by have:=qz (λl=>l[0]?) hk;simpa using this
   apply hl;repeat first|refine h.dr λw h=>?_|refine h.l1 U ?_|refine eE ?_
   refine az om ?_;repeat first|refine h.l1 U ?_|refine eE ?_
   refine h.cz U hx λa ha h0 hc=>⟨_,hc 2 _ U,?_⟩
   repeat first|refine h.l1 U ?_|refine eE ?_
   refine h.cz U hxi λa ha h0 hc=>⟨_,hc 2 _ U,?_⟩
   refine bo (λe=>?_) (λe=>?_)
   .rw[wr om om]
    refine ih (k+1) _ (by rw[<-ML,hk];rfl) om om ?_ h;rw[Ov (by rw[gn hxi];simpa using e)]at he;simp at he;omega
   .rw[Ou (by rw[gn hxi];simpa using e)]at he
    have:k=dD T i:=by simpa using he
    rw[this];exact hK _ h
 rw[wI i om];exact loop _ (i+1) w U om om U h
theorem oc.root{s:Slot}(hT:oc T)(hl:T.length<1000000)(h:bA T s=N):oc (T++ [(s,0)]):=by
 refine⟨by simp;omega,?_,?_⟩
 .have:∀(T:Tr)(p:O),-1<=p->z8 p T->z8 p (T++ [(s,0)]):=by
   intro T;induction T with
   |nil=>intro p hp _;exact⟨qc,by show(0:O)<=p+1;omega,trivial⟩
   |cons x T ih=>intro p hp hw;exact⟨hw.1,hw.2.1,ih _ (by have:=hw.1;omega) hw.2.2⟩
  exact this T _ om hT.wf
 .rw[LU,L1,M9,Np]
  refine⟨hT.nd,qc,λa ha c hc=>?_⟩;simp only[Mk]at hc;subst hc;obtain⟨x,hx,rfl⟩:=L2.1 ha;exact oF h x hx
theorem u2{s:Slot}{K:O->Pw}(hl:T.length<1000000)(h:Ow B w0 w (bD b T::R))(hK:∀w',Ow B w0 w' (bD b (mR T s).2::R)->K (mR T s).1 w'):SS b.o s.1 s.2 K w:=by
 apply X5;obtain⟨sl,hT,h⟩:=h.tree;unfold mR at hK;repeat first|refine h.al λw h=>?_|refine h.aR U ?_
 refine eT (x:=s) hT h.kh.kh λw h=>?_;cases hp:bA T s with
 |some i=>
  rw[hp]at hK;refine az (by show(i:O)>=0;omega) ?_;exact hK _ (Ow.eF hT h.FY)
 |none=>
  rw[hp]at hK;refine aw qb ?_;repeat first|refine h.al λw h=>?_|refine h.dr λw h=>?_|refine h.aR U ?_|refine h.l1 U ?_|refine eE ?_|refine _root_.Go.Vc.a2 ?_
  refine vS (xs:=T) (y:=(s,0)) h om λs' w hs' h=>?_;repeat first|refine eE ?_|refine _root_.Go.Vc.a2 ?_|refine h.jH U U λw h=>?_
  exact hK _ (Ow.eF (s:=s') (hT.root hl hp) h.sub)
theorem re:∀(A:Tr)(p:O)(aby:Tr),z8 p (A++aby)↔z8 p A/\z8 (match A.getLast? with|some x=>x.2|none=>p) aby
 | [],p,aby=>by simp[z8]
 |x::A,p,aby=>by
  simp only[MO,z8,re A x.2 aby];cases hA:A with
  |nil=>simp[z8];constructor<;>(intro h;simp_all)
  |cons y A'=>
   rw[<-hA];have:(x::A).getLast?=A.getLast?:=by rw[hA];simp
   rw[this];have h2:∃z,A.getLast?=S z:=by rw[hA];exact⟨_,List.getLast?_eq_some_getLast qc⟩
   obtain⟨z,hz⟩:=h2;rw[hz];constructor
   .rintro ⟨h1,h2,h3,h4⟩;exact⟨⟨h1,h2,h3⟩,h4⟩
   .rintro ⟨⟨h1,h2,h3⟩,h4⟩;exact⟨h1,h2,h3,h4⟩
theorem Aa{p q:O}(hpq:p<=q):∀{T:Tr},z8 p T->z8 q T
 | [],_=>trivial
 |x::T,h=>⟨h.1,by have:=h.2.1;omega,h.2.2⟩
theorem wc{T:Tr}{i:X}{x:eG}(h:T[i]?=S x):(T.take (i+1)).getLast?=S x:=by rw[List.getLast?_take,F om,show i+1-1=i from U,h];rfl
theorem oc.add{p s:Slot}{i:X}(hT:oc T)(hl:T.length<1000000)(hp:bA T p=S i)(h:bA T s=N):oc (T.take (i+1)++ [(s,ud T i+1)]++T.drop (i+1)):=by
 obtain⟨x,hx,_⟩:=du hp;have hi:=(Lu.1 hx).1;have hr:=hT.Eg hx;refine⟨by simp;omega,?_,?_⟩
 .have hw:=hT.wf
  have e:T=T.take (i+1)++T.drop (i+1):=(Ma _ _).symm;rw[e,re,wc hx]at hw;rw[LN,re,wc hx];refine⟨hw.1,?_⟩;rw[gn hx];exact⟨by show 0<=x.2+1;omega,Po _,Aa (by show x.2<=x.2+1;omega) hw.2⟩
 .have hn:=hT.nd
  have e:T=T.take (i+1)++T.drop (i+1):=(Ma _ _).symm;rw[e,LU]at hn;rw[LN,LU,LU];have hnot:s∉T.map (·.1):=λhm=>by obtain⟨y,hy,hys⟩:=L2.1 hm;exact oF h y hy hys
  rw[e,LU,Mm,not_or]at hnot;rw[Np]at hn|-;refine⟨hn.1,?_,λa ha c hc=>?_⟩
  .rw[L1,M9,OP,Mj]
   exact⟨hnot.2,hn.2.1⟩
  .rw[L1,M9,OP,LD]at hc
   rcases hc with rfl|hc
   .intro e;subst e;exact hnot.1 ha
   .exact hn.2.2 a ha c hc
theorem vK{p s:Slot}{K:O->Pw}(hl:T.length<1000000)(h:Ow B w0 w (bD b T::R))(hK:∀w',Ow B w0 w' (bD b (xc T p s).2::R)->K (xc T p s).1 w'):Ul b.o p.1 p.2 s.1 s.2 K w:=by
 apply Yc;obtain⟨sl,hT,h⟩:=h.tree;unfold xc at hK;repeat first|refine h.al λw h=>?_|refine h.aR U ?_
 refine eT (x:=p) hT h.vd.vd λw h=>?_;cases hp:bA T p with
 |none=>
  rw[hp]at hK;refine az qb ?_;exact hK _ (Ow.eF hT h.IZ.FY)
 |some i=>
  obtain⟨x,hx,hxp⟩:=du hp;have hr:=hT.Eg hx;have hi:=(Lu.1 hx).1;rw[hp]at hK;refine aw (by show ¬(i:O)<0;omega) ?_
  (refine h.aR U ?_)
  refine eT (x:=s) hT h λw h=>?_;cases hs:bA T s with
  |some j=>
   simp only[hs]at hK;refine az (by show(j:O)>=0;omega) ?_;exact hK _ (Ow.eF hT h.IZ.FY)
  |none=>
   simp only[hs]at hK;refine aw qb ?_;repeat first|refine h.dr λw h=>?_|refine h.aR U ?_|refine h.l1 U ?_|refine eE ?_
   refine h.cz U hx λa ha h0 hc=>⟨_,hc 2 _ U,?_⟩
   rw[show qf.wrap (x.2+1)=ud T i+1 from by rw[gn hx,wr om om]];repeat first|refine h.al λw h=>?_|refine _root_.Go.Vc.a2 ?_
   show R2 sl (qf.wrap ((i:O)+1)) _ _ _;rw[wI i om];refine yu (y:=(s,ud T i+1)) h.cq om om λs' w h=>?_;repeat first|refine eE ?_|refine _root_.Go.Vc.a2 ?_|refine h.jH U U λw h=>?_
   exact hK _ (Ow.eF (s:=s') (hT.add hl hp hs) h.IZ.FY)
theorem Cz{s:Slot}:∀(T:Tr)(p:O)(i:X)(x:eG),T[i]?=S x->z8 p T->z8 p (T.set i (s,x.2))
 | [],_,_,_,h,_=>by simp at h
 |y::T,p,0,x,h,hw=>by simp only[Mn,Option.some.injEq]at h;subst h;exact hw
 |y::T,p,i+1,x,h,hw=>⟨hw.1,hw.2.1,Cz T y.2 i x (by simpa using h) hw.2.2⟩
theorem wB{α:Type}:∀(l:Y α)(i:X)(s:α),l.Nodup->s∉l->(l.set i s).Nodup
 | [],_,_,_,_=>by simp
 |a::l,0,s,hn,hs=>by rw[Mf,Mj];exact⟨λh=>hs (List.mem_cons_of_mem _ h),(Mj.1 hn).2⟩
 |a::l,i+1,s,hn,hs=>by
  rw[LM,Mj];rw[LD,not_or]at hs;refine⟨λh=>?_,wB l i s (Mj.1 hn).2 hs.2⟩;rcases Mz h with h|h
  .exact (Mj.1 hn).1 h
  .exact hs.1 h.symm
theorem oc.move{f t:Slot}{i:X}(hT:oc T)(hp:bA T f=S i)(h:bA T t=N):oc (T.set i (t,ud T i)):=by
 obtain⟨x,hx,_⟩:=du hp;refine⟨by rw[List.length_set];exact hT.eC,by rw[gn hx];exact Cz T _ i x hx hT.wf,?_⟩;rw[Pc];refine wB _ _ _ hT.nd λhm=>?_;obtain⟨y,hy,hys⟩:=L2.1 hm;exact oF h y hy hys
theorem IA{s:Sl}{xs:Y eG}{i:X}{a:qg}{x:eG}{t:Slot}{k:Pw}(h:Ow B w0 w (af aO s xs::R))(hx:xs[i]?=S x)(ha:s.a=S a)(hk:∀w',Ow B w0 w' (af aO s (xs.set i (t,x.2))::R)->k w'):aB w (a.add ((i:O).toNat*3)) 0 [.z t.1,.z t.2] k:=by
 have hi:=(Lu.1 hx).1;have e:∀(y:eG)(w:J)(k:Pw),St w ((a.add ((i:O).toNat*3)).add 0) (.z t.1) (λw'=>St w' ((a.add ((i:O).toNat*3)).add 1) (.z t.2) k)->aB w (a.add ((i:O).toNat*3)) 0 [.z t.1,.z t.2] k:=λ_ _ _ h=>h;refine e x _ _ ?_;refine h.zO (x:=x) (c:=0) ((t.1,x.1.2),x.2) U hx ha U qb U λw h=>?_;refine h.zO (x:=((t.1,x.1.2),x.2)) (c:=1) (t,x.2) U (by rw[Mb,qd U,qd hi]) ha U qb U λw h=>?_;rw[List.set_set]at h;exact hk w h
theorem uZ{f t:Slot}{K:O->Pw}(h:Ow B w0 w (bD b T::R))(hK:∀w',Ow B w0 w' (bD b (dI T f t).2::R)->K (dI T f t).1 w'):TR b.o f.1 f.2 t.1 t.2 K w:=by
 apply X9;obtain⟨sl,hT,h⟩:=h.tree;unfold dI at hK;repeat first|refine h.al λw h=>?_|refine h.aR U ?_
 refine eT (x:=f) hT h.vd.vd λw h=>?_;cases hp:bA T f with
 |none=>
  rw[hp]at hK;refine az qb ?_;exact hK _ (Ow.eF hT h.IZ.FY)
 |some i=>
  obtain⟨x,hx,hxp⟩:=du hp;have hi:=(Lu.1 hx).1;rw[hp]at hK;refine aw (by show ¬(i:O)<0;omega) ?_
  (refine h.aR U ?_)
  refine eT (x:=t) hT h λw h=>?_;cases hs:bA T t with
  |some j=>
   simp only[hs]at hK;refine az (by show(j:O)>=0;omega) ?_;exact hK _ (Ow.eF hT h.IZ.FY)
  |none=>
   simp only[hs]at hK;refine aw qb ?_;repeat first|refine h.dr λw h=>?_|refine h.aR U ?_|refine h.l1 U ?_|refine eE ?_
   refine h.cz U hx λa ha h0 hc=>?_;refine Go.Vc.a2 ?_;refine IA (t:=t) h hx ha λw h=>?_;have hm:=hT.move hp hs;rw[gn hx]at hm hK;exact hK _ (Ow.eF (s:=sl) hm h.IZ.FY)
theorem oc.take{T:Tr}{s:Slot}{i:X}(hT:oc T)(hp:bA T s=S i):oc (T.take i++(eM ((T.drop (i+1)).take (dD T i-(i+1)))++T.drop (dD T i))):=by
 obtain⟨x,hx,_⟩:=du hp;have hi:=(Lu.1 hx).1;obtain⟨e1,e2⟩:=ru T hi;have hsub:(((T.take i++(eM ((T.drop (i+1)).take (dD T i-(i+1)))++T.drop (dD T i)))).map (·.1)).Sublist (T.map (·.1)):=by
  have h1:T=T.take i++(T.drop i):=(Ma _ _).symm;have h2:T.drop i=x::T.drop (i+1):=by rw[Mr hi];rw[gE hi]at hx;cases hx;rfl
  have h3:T.drop (i+1)=(T.drop (i+1)).take (dD T i-(i+1))++T.drop (dD T i):=by have:=(Ma (dD T i-(i+1)) (T.drop (i+1))).symm;rw[ML,show i+1+(dD T i-(i+1))=dD T i from by omega]at this;exact this
  have h4:(eM ((T.drop (i+1)).take (dD T i-(i+1)))).map (·.1)=((T.drop (i+1)).take (dD T i-(i+1))).map (·.1):=by unfold eM;rw[List.map_map];rfl
  rw[LU,LU,h4,<-LU,<-h3]
  conv=>rhs;rw[h1,h2]
  rw[LU,L1];exact(List.sublist_cons_self _ _).append_left _
 refine⟨?_,?_,List.Nodup.sublist hsub hT.nd⟩
 .have:=hsub.length_le
  rw[L3,L3]at this;have:=hT.eC;omega
 .
  have hw:=hT.wf;have h1:T=T.take i++(T.drop i):=(Ma _ _).symm;have h2:T.drop i=x::T.drop (i+1):=by rw[Mr hi];rw[gE hi]at hx;cases hx;rfl
  have hd:=gn hx;have hend:dD T i-(i+1)=((T.drop (i+1)).takeWhile λy=>V (x.2<y.2)).length:=by unfold dD;rw[hd];omega
  have hdrop:T.drop (dD T i)=(T.drop (i+1)).dropWhile λy=>V (x.2<y.2):=by
   have e:dD T i=i+1+((T.drop (i+1)).takeWhile λy=>V (x.2<y.2)).length:=by unfold dD;rw[hd]
   rw[e,<-ML]
   conv=>lhs;rw[<-NJ (p:=λy:eG=>V (x.2<y.2)) (l:=T.drop (i+1))]
   rw[Qd (by rw[NJ])]
  have htake:(T.drop (i+1)).take (dD T i-(i+1))=(T.drop (i+1)).takeWhile λy=>V (x.2<y.2):=by
   rw[hend]
   conv=>lhs;rw[<-NJ (p:=λy:eG=>V (x.2<y.2)) (l:=T.drop (i+1))]
   rw[List.take_left' (by rw[NJ])]
  rw[h1,h2,re]at hw;rw[htake,hdrop,re];refine⟨hw.1,?_⟩;obtain⟨_,hx0,hx1,hrest⟩:=hw;generalize (match(T.take i).getLast? with|some x=>x.2|none=> -1:O)=q at hx1|-;generalize T.drop (i+1)=D at hrest;have key:∀(D:Tr)(p:O),x.2<=p->z8 p D->z8 (p-1) (eM (D.takeWhile λy=>V (x.2<y.2))++D.dropWhile λy=>V (x.2<y.2)):=by
   intro D;induction D with
   |nil=>intro p _ _;exact trivial
   |cons y D ih=>
    intro p hp hw;by_cases e:x.2<y.2
    .rw[Ov (by simpa using e),List.dropWhile_cons_of_pos (by simpa using e)]
     exact⟨by show 0<=y.2-1;omega,by show y.2-1<=p-1+1;have:=hw.2.1;omega,ih y.2 om hw.2.2⟩
    .rw[Ou (by simpa using e),List.dropWhile_cons_of_neg (by simpa using e)]
     exact⟨hw.1,by show y.2<=p-1+1;omega,hw.2.2⟩
  exact Aa om (key D x.2 (Po _) hrest)
theorem pZ{s:Sl}{xs:Tr}{K:Sl->Pw}(hr:Rd aO B w0 L s xs)(hbig:xs.length<=1000000)(h:Ow B w0 w L)(hK:∀s' w',Ow B w0 w' (af aC s' (xs.map (·.1))::L)->K s' w'):Qm s K w:=by
 apply X8;have hlen:=hr.len;intro l hl;have loop:∀(rest:Tr)(j:X)(o:Sl)(w:J),xs.drop j=rest->j<=xs.length->Ow B w0 w (af aC o ((xs.take j).map (·.1))::L)->l o (j:O) w:=by
  intro rest;induction rest with
  |nil=>
   intro j o w hj hjl h;have:xs.length<=j:=by have:=qz Nc hj;simp at this;omega
   apply hl;refine aw om ?_;rw[Lz this]at h;exact hK _ _ h
  |cons x rest ih=>
   intro j o w hj hjl h;have hjl2:j<xs.length:=by have:=qz Nc hj;simp at this;omega
   have hx:xs[j]?=S x:=by have:=qz (λl=>l[0]?) hj;simpa using this
   apply hl;refine az om ?_;have hr2:Rd aO B w0 (af aC o ((xs.take j).map (·.1))::L) s xs:=hr.more;refine hr2.ix h U hx λa ha h0 hc=>?_;refine Ff hc ?_;refine h.al λw h=>?_;refine h.aA U U λw h=>?_;refine h.aR U ?_;refine h.al λw h=>?_;have h:=h.uN;refine jc (ys:=((xs.take j).map λy:eG=>y.1)) (y:=x.1) h (by simp;omega) λo' w ho' h=>?_;rw[wI j om];refine ih (j+1) o' w (by rw[<-ML,hj];rfl) om ?_;rw[LJ,hx,LU];exact h
 exact loop xs 0 z0 w U om (Ow.cZ h)
theorem vL{K:Sl->Pw}(h:Ow B w0 w (bD b T::R))(hK:∀s' w',Ow B w0 w' (af aC s' (T.map (·.1))::bD b T::R)->K s' w'):SY b.o K w:=by
 apply X6;obtain⟨sl,hT,h⟩:=h.tree;have hlen:=h.aL sl;repeat first|refine h.l1 U ?_|refine eE ?_
 refine pZ (Rd.own hlen) hT.eC h λs' w h=>?_;have h2:Ow B w0 w (bD b T::af aC s' (T.map (·.1))::R):=Ow.eF (s:=sl) hT h.kh.kh;exact hK _ _ h2.cq
theorem uY{K:qh qg->Pw}(h:Ow B w0 w (bD b T::R))(hK:∀b' w',Ow B w0 w' (bD b' T::bD b T::R)->K b'.o w'):SJ b.o K w:=by
 apply X4;obtain⟨sl,hT,h⟩:=h.tree;repeat first|refine h.l1 U ?_|refine eE ?_
 refine Ak (xs:=T) h (by have:=hT.eC;omega) λs' w h=>?_
 (refine h.al λw h=>?_)
 have h2:Ow B w0 _ (bD b T::_):=Ow.eF (s:=sl) hT h.vd.vd;have h3:Ow B w0 _ (bD _ T::_):=Ow.eF (s:=s') hT h2.kh.kh.cq;exact hK _ _ h3
theorem tu{s:Slot}{K:Sl->Pw}(h:Ow B w0 w (bD b T::R))(hK:∀s' w',Ow B w0 w' (af aC s' (cF T s)::bD b T::R)->K s' w'):TS b.o s.1 s.2 K w:=by
 apply Ya;obtain⟨sl,hT,h⟩:=h.tree;have hlen:=h.aL sl;have hcap:=h.lK.gu;have hfew:=hT.eC;unfold cF at hK;repeat first|refine h.al λw h=>?_|refine h.aR U ?_
 refine eT (x:=s) hT h.kh.kh λw h=>?_;cases hp:bA T s with
 |none=>
  rw[hp]at hK;refine az qb ?_;have h2:Ow B w0 w (bD b T::R):=Ow.eF (s:=sl) hT h.FY;exact hK _ w (Ow.cZ h2)
 |some i=>
  obtain⟨x,hx,hxp⟩:=du hp;have hi:=(Lu.1 hx).1;obtain⟨e1,e2⟩:=ru T hi;rw[hp]at hK;refine aw (by show ¬(i:O)<0;omega) ?_;have ew:qf.wrap ((i:O)+1)=((i+1:X):O):=by rw[wr om om];omega
  have fin:∀w,Ow B w0 w (af aO sl T::aa b [bg sl]::R)->Qm ⟨Vc.eU sl.a (i+1) sl.cap 3,dD T i-(i+1),sl.cap-(i+1)⟩ K w:=λw h=>by
   refine pZ (Rd.part (s:=sl) (xs:=T) (E:=aO) (p:=i+1) (n:=dD T i-(i+1)) om) (by simp;omega) h λs' w h=>?_;have h2:Ow B w0 w (bD b T::af aC s' _::R):=Ow.eF (s:=sl) hT h.kh.kh;exact hK _ _ h2.cq
  have h:=h.FY;repeat first|refine h.dr λw h=>?_|refine h.l1 U ?_|refine eE ?_|refine _root_.Go.Vc.a2 ?_
  refine u4 hT hi h λw h=>?_
  (refine⟨h.aF U,?_⟩)
  show _/\_/\0<=qf.wrap ((i:O)+1)/\qf.wrap ((i:O)+1)<=_/\Qm ⟨Vc.eU sl.a (qf.wrap ((i:O)+1)).toNat sl.cap 3,_-(qf.wrap ((i:O)+1)).toNat,sl.cap-(qf.wrap ((i:O)+1)).toNat⟩ _ _/\I;rw[ew];refine⟨om,om,om,by simp only[Lw];omega,Go.Vc.a2 ?_⟩;exact fin w h
def gJ(T:Tr)(i k:X):Tr:=T.take (i+1)++(eM ((T.drop (i+1)).take k)++T.drop (i+1+k))
theorem um(T:Tr)(i k:X):(gJ T i k).length=T.length:=by unfold gJ eM;simp;omega
theorem Fk{T:Tr}{i k j:X}(hk:k<=j):(gJ T i k)[i+1+j]?=T[i+1+j]?:=by
 unfold gJ eM;by_cases hl:i+1+k<=T.length
 .have h1:(T.take (i+1)).length=i+1:=by simp;omega
  have h2:(((T.drop (i+1)).take k).map λx:eG=>(x.1,x.2-1)).length=k:=by simp;omega
  rw[LH om,h1,LH om,h2,LR];congr 1;omega
 .rw[L0 (l:=T) om,L0]
  simp;omega
theorem Dj{T:Tr}{i k:X}{x:eG}(hx:T[i+1+k]?=S x):(gJ T i k).set (i+1+k) (x.1,x.2-1)=gJ T i (k+1):=by
 have hl:=(Lu.1 hx).1;unfold gJ eM;have h1:(T.take (i+1)).length=i+1:=by simp;omega
 have h2:(((T.drop (i+1)).take k).map λx:eG=>(x.1,x.2-1)).length=k:=by simp;omega
 rw[Ng _ _ om,h1,Ng _ _ om,h2,show i+1+k-(i+1)-k=0 from by omega];have h3:T.drop (i+1+k)=x::T.drop (i+1+(k+1)):=by rw[Mr hl];rw[gE hl]at hx;cases hx;rfl
 have h4:(T.drop (i+1)).take (k+1)=(T.drop (i+1)).take k++ [x]:=by rw[LJ,LR,hx];rfl
 rw[h3,h4,Mf,LU,LN];rfl
theorem Dk(T:Tr)(i:X):gJ T i 0=T:=by unfold gJ eM;simp
theorem u3{s:Slot}{K:O->Pw}(h:Ow B w0 w (bD b T::R))(hK:∀w',Ow B w0 w' (bD b (takeN T s).2::R)->K (takeN T s).1 w'):Uo b.o s.1 s.2 K w:=by
 apply Yd;obtain⟨sl,hT,h⟩:=h.tree;have hlen:=h.aL sl;have hcap:=h.lK.gu;have hfew:=hT.eC;unfold takeN at hK;repeat first|refine h.al λw h=>?_|refine h.aR U ?_
 refine eT (x:=s) hT h.kh.kh λw h=>?_;cases hp:bA T s with
 |none=>
  rw[hp]at hK;refine az qb ?_;exact hK _ (Ow.eF (s:=sl) hT h.FY)
 |some i=>
  obtain⟨x,hx,hxp⟩:=du hp;have hi:=(Lu.1 hx).1;obtain⟨e1,e2⟩:=ru T hi;rw[hp]at hK;simp only at hK;refine aw (by show ¬(i:O)<0;omega) ?_;have ew:qf.wrap ((i:O)+1)=((i+1:X):O):=by rw[wr om om];omega
  generalize hm:dD T i-(i+1)=m at*
  have fin:∀(l:O->Pw),(∀(t15:O)(w16:J),(bif V (t15<(m:O))then
    (∃a17:qg,Vc.eU sl.a (i+1) sl.cap 3=S a17/\0<=t15/\t15<(m:O)/\∃depth18:O,w16.cell? ((a17.add (t15.toNat*3)).add 2)=S (.z depth18)/\
     ∃a19:qg,Vc.eU sl.a (i+1) sl.cap 3=S a19/\0<=t15/\t15<(m:O)/\
     St w16 ((a19.add (t15.toNat*3)).add 2) (.z (qf.wrap (depth18-(1:O)))) λw20=>l (qf.wrap (t15+(1:O))) w20)
    else
    (∃a21:qg,S b.p=S a21/\∃l22:Sl,w16.cell? a21=S l22.v/\
     R3 l22 (i:O) (((i+1:X):O)) (λr23 w24=>∃a25:qg,S b.p=S a25/\St w24 a25 r23.v λw26=>K (0:O) w26) w16))->l t15 w16)->
    ∀w,Ow B w0 w (af aO sl T::aa b [bg sl]::R)->l 0 w:=λl hl w h=>by
   have loop:∀(n k:X)(w:J),k+n=m->Ow B w0 w (af aO sl (gJ T i k)::aa b [bg sl]::R)->l (k:O) w:=by
    intro n;induction n with
    |zero=>
     intro k w hk h;obtain rfl:k=m:=om
     apply hl;refine aw om ?_;repeat first|refine h.l1 U ?_|refine eE ?_
     refine yo h om (by rw[um];omega) (by rw[um];omega) λs' w h=>?_;repeat first|refine eE ?_|refine h.jH U U λw h=>?_
     have hd:(gJ T i k).take i++(gJ T i k).drop (i+1)=T.take i++(eM ((T.drop (i+1)).take k)++T.drop (dD T i)):=by
      have h1:(T.take (i+1)).length=i+1:=by simp;omega
      have h2:(gJ T i k).take i=T.take i:=by unfold gJ;rw[MW om,NU,Ms om]
      have h3:(gJ T i k).drop (i+1)=eM ((T.drop (i+1)).take k)++T.drop (i+1+k):=by unfold gJ;rw[Qd h1]
      rw[h2,h3,show i+1+k=dD T i from by omega]
     rw[hd]at h;have hok:=hT.take hp;rw[hm]at hok;exact hK _ (Ow.eF (s:=s') hok h)
    |succ n ih=>
     intro k w hk h;obtain⟨y,hy⟩:∃y,T[i+1+k]?=S y:=⟨_,gE om⟩
     have hy2:(gJ T i k)[i+1+k]?=S y:=by rw[Fk (Nat.le_refl _)];exact hy
     have hyr:=hT.Eg hy;apply hl;refine az om ?_;obtain⟨a,a0,ha0,ha,he⟩:=h.HR (s:=sl) (E:=aO) (xs:=gJ T i k) (p:=i+1) (n:=m) (t:=k) (by rw[um];omega) om;have he:a.add (k*3)=a0.add (((i+1+k:X):O).toNat*3):=by rw[Lw];exact he
     obtain⟨_,hc⟩:=h.Jm (s:=sl) (E:=aO) (i:=((i+1+k:X):O)) (j:=i+1+k) U hy2 ha0;have hc:w.cell? ((a0.add (((i+1+k:X):O).toNat*3)).add 2)=S (.z y.2):=hc 2 _ U;refine⟨a,ha,om,om,y.2,?_,a,ha,om,om,?_⟩
     .rw[Lw,he];exact hc
     .rw[Lw,he,wr om om]
      refine h.zO (E:=aO) (x:=y) (c:=2) (y.1,y.2-1) U hy2 ha0 U qb U λw h=>?_;rw[Dj hy]at h;rw[wI k om];exact ih (k+1) w om h
   exact loop m 0 w om (by rw[Dk];exact h)
  have h:=h.FY;repeat first|refine h.dr λw h=>?_|refine h.l1 U ?_|refine eE ?_|refine _root_.Go.Vc.a2 ?_
  refine u4 hT hi h λw h=>?_
  (refine⟨h.aF U,?_⟩)
  dsimp only;rw[ew];refine⟨om,om,om,by simp only[Lw];omega,?_⟩;intro l hl;subst hm;exact fin l hl w h
end
end Tr
theorem Yf{K w}:Fr (Ri K w) (Al w (.map #[] 0) λa=>A2 a (Ly 256 (.slice N 0 0)++[.map (S w.heap.size),.y 0,.y 0,.y 0,.y 0]) 376 λa b=>K (S a.p) b):=aj func119 (.v .w)
theorem Yg{a K w}:Fr (SU a K w) (∃b,a=S b/\ax w (b.add 257) 0 [.u,.u,.u,.u] λ(b c d e:O)=>TJ b c d e (λb c=>bif V (b<0)then K 0 G c else ∃d,a=S d/\0<=b/\b<256/\∃a,c.s (d.add (b.toNat*1)) a/\∃b,a.a=S b/\(0:O)<=0/\0<(a.len:O)/\∃a,c.z (b.add ((0:O).toNat*1)) a/\K a Z c) w):=aj func127 .IW
theorem Yh{a K w}:Fr (Ru a K w) (Ri (λb c=>∃d,a=S d/\∃e,c.m (d.add 256) e/\∃(d:qg)(f:J),wW qe 370 (.map e) c d f/\∀c:Pw,(∀e:J,(∃(f:W)(g:Y Q)(h:J),BV qe (.pointer (S d)) G 0 e f g h/\bif f then ∃e,∃f,wT qe (.pointer (S d)) (.z e) (.z f) h/\∃d,b=S d/\∃g,h.m (d.add 256) g/\∃d:J,gh qe 370 (.map g) (.z e) (.z f) h d/\c d else ∃c,a=S c/\∃d:qo Q,d.size=256/\(∀a,a<256->h.cell? (c.add a)=d[a]?)/\∀c:O->Pw,(∀(e:O)(f:J),(bif V (e<256)then 0<=e/\e<256/\∃g:Sl,(d:qo Q)[e.toNat*1]?=S g.v/\Dr f λd=>∃h,b=S h/\(Pv g (λa b=>0<=e/\e<256/\(St b (h.add (e.toNat*1)) a.v λa=>c (qf.wrap (e+1)) a)/\I) d)/\I else ∃c,a=S c/\ax f (c.add 257) 0 [.u,.u,.u,.u] λ(a c d e:O)=>∃g,b=S g/\aB f (g.add 257) 0 [.y a,.y c,.y d,.y e] λa=>K b a)->c e f)->c 0 h)->c e)->c f) w):=aj func202 (.v (.v (.y (.v (.x (.t (S []) (.v (.y .w (.x .w))) .u))) (.y (.v (.x (.t (S [(32,.c (.i .i64))]) (.v (.y .w (.x (.x (.v (.z (.o 0 14 (.o 1 124 (.o 2 112 (.o 4 8 (.o 5 8 (.o 6 8 (.e 3 (.o 7 0 (.e 8 .done))))))))))))))) .u))) (.v .w)))))
theorem Yi{a b c K w}:Fr (TI a b c K w) (∀d:W->Pw,(∀(e:W)(f:J),(bif e then K 1 f else ∃d,a=S d/\∃e,f.m (d.add 256) e/\∃d,∃g,sC qe 370 (.map e) (.z c) (.z d) g f/\bif g then K 90 f else Dr f λd=>∃e,a=S e/\0<=b/\b<256/\∃f,d.s (e.add (b.toNat*1)) f/\∃e,a=S e/\(A2 d [.z c] 3 λd g=>(∃h i,aM qe [22,22] 22 f.v (.slice (S d.p) 1 1) g h i/\0<=b/\b<256/\(St i (e.add (b.toNat*1)) h.v λd=>∃e,a=S e/\∃f,d.m (e.add 256) f/\∃e:J,gh qe 370 (.map f) (.z c) (.z b) d e/\∃c,a=S c/\RN (S c) b (λa=>K 0 a) e)/\I)/\I)/\I)->d e f)->(bif V (b<0)then d Z w else d (V (b>=256)) w)):=aj func232 (.v (.y .Jg (.y (.v (.v (.x .w))) (.y (.z (.o 0 4094 (.o 1 32764 (.o 2 30216 (.o 3 30320 (.o 4 30208 (.o 5 30208 (.o 6 30208 (.o 7 30208 (.o 8 30208 (.o 9 28672 (.o 12 3072 (.o 13 3072 (.o 14 3072 (.e 10 (.e 11 (.o 15 0 (.e 16 .done)))))))))))))))))) (.v (.v .w))))))
theorem Yj{a b K w}:Fr (TK a b K w) (A2 w [.z b] 3 λb c=>Dr c λc=>∃d,a=S d/\∃e,c.m (d.add 256) e/\∃d,c.z b.p d/\(∃f,∃g,sC qe 370 (.map e) (.z d) (.z f) g c/\bif !g then K 91 c else Dr c λc=>∃d,a=S d/\0<=f/\f<256/\∃e,c.s (d.add (f.toNat*1)) e/\∃d,a=S d/\(RO e (.func (.func 324) #[] #[.pointer (S b.p)]) (λc e=>0<=f/\f<256/\(St e (d.add (f.toNat*1)) c.v λc=>Dr c λc=>∃d,a=S d/\∃e,c.m (d.add 256) e/\∃d,c.z b.p d/\(∃b:J,wS qe [370,3] 0 (.map e) (.z d) c b/\∃c,a=S c/\RN (S c) f (λa=>K 0 a) b)/\I)/\I) c)/\I)/\I):=aj func234 (.v (.y (.z (.o 0 32 (.o 1 32 (.o 2 32 (.o 3 32 (.o 4 32 .KY)))))) (.y (.v (.x .w)) (.y (.z (.o 0 2046 (.o 1 16380 (.o 2 14856 (.o 3 14960 (.o 4 14848 (.o 5 14848 (.o 6 14848 (.o 7 14848 (.o 8 14848 (.o 9 14336 (.o 11 1024 (.o 12 1024 (.o 13 1024 (.e 10 (.o 14 0 (.e 15 .done))))))))))))))))) (.y (.z (.o 0 32 .K5)) (.v .w))))))
theorem Yk{a b K w}:Fr (RN a b K w) (Dr w λc=>∃d,a=S d/\ax c (d.add 257) 0 [.u,.u,.u,.u] λ(d e f g:O)=>∃h,a=S h/\0<=b/\b<256/\∃i,c.s (h.add (b.toNat*1)) i/\(UC d e f g b (V ((i.len:O)>0)) (λb c d e _ f=>∃g,a=S g/\(aB f (g.add 257) 0 [.y b,.y c,.y d,.y e] λa=>K a)/\I) c)/\I):=aj func321 (.z (.o 0 262142 (.o 1 16352 (.o 2 16352 (.o 3 16352 (.o 4 16352 (.o 5 16320 (.o 6 128 (.o 7 768 (.o 8 0 (.o 9 0 (.o 10 0 (.o 11 0 (.o 12 0 (.o 13 0 (.e 14 (.o 15 0 (.o 16 131072 (.o 17 1835008 (.o 18 0 (.o 19 0 (.e 20 .done))))))))))))))))))))))
theorem Yl{a b K w}:Fr (U9 a b K w) (∃c,w.z b c/\K (a==c) w):=aj func324 (.v .w)
theorem Ym{a K w}:Fr (ON a K w) (∀b:O->O->Pw,(∀(c d:O)(e:J),(bif V (d<a)then b (qv.wrap (2*c)) (qf.wrap (d+1)) e else K c e)->b c d e)->b 1 0 w):=aj func129 (.v (.v (.y (.v (.x (.t (S [(3,.c (.i .u64)),(4,.c (.i .i64))]) (.y (.v .w) (.x .w)) .u))) .w)))
theorem Yn{a b c d e f g h K w}:Fr (Tm a b c d e f g h K w) (A2 w [.z a,.z b,.z c,.y d,.y e,.z f] 157 λa b=>A2 b [.z 0,.z 0,.z 0,.y 0,.y 0,.z 0] 157 λb c=>ax c a.p 0 [.o,.o,.o,.u,.u,.o] λ(d e f i j k:O)=>Rv d e f i j k (λc d=>bif c !=0 then aB d b.p 0 [.z 0,.z 0,.z 0,.y 0,.y 0,.z 0] λe=>ax e b.p 0 [.o,.o,.o,.u,.u,.o] λ(f i j k l m:O)=>K f i j k l m c e else ∀c:W->Pw,(∀(d:W)(e:J),(bif d then aB e b.p 0 [.z 0,.z 0,.z 0,.y 0,.y 0,.z 0] λc=>ax c b.p 0 [.o,.o,.o,.u,.u,.o] λ(d f i j k l:O)=>K d f i j k l 1 c else ∀c:W->Pw,(∀(d:W)(e:J),(bif d then aB e b.p 0 [.z 0,.z 0,.z 0,.y 0,.y 0,.z 0] λc=>ax c b.p 0 [.o,.o,.o,.u,.u,.o] λ(d f i j k l:O)=>K d f i j k l 41 c else ax e a.p 0 [.o,.o,.o,.u,.u,.o] λ(c d f i j k:O)=>A2 e [.z 0,.z 0,.z 0,.y 0,.y 0,.z 0] 157 λe l=>aB l e.p 0 [.z c,.z d,.z f,.y i,.y j,.z k] λc=>∃d,c.z a.p d/\RG d (λc d=>∀f:Pw,(∀a:J,(bif V (h>0)then St a (e.p.add 3) (.y h) λc=>ax c e.p 0 [.o,.o,.o,.u,.u,.o] λ(d f g h i j:O)=>aB c b.p 0 [.z d,.z f,.z g,.y h,.y i,.z j] λc=>ax c b.p 0 [.o,.o,.o,.u,.u,.o] λ(d f g h i j:O)=>K d f g h i j 0 c else ax a e.p 0 [.o,.o,.o,.u,.u,.o] λ(c d e f g h:O)=>aB a b.p 0 [.z c,.z d,.z e,.y f,.y g,.z h] λa=>ax a b.p 0 [.o,.o,.o,.u,.u,.o] λ(b c d e f g:O)=>K b c d e f g 0 a)->f a)->(bif c then ∃b,d.z (a.p.add 2) b/\St d (e.p.add 2) (.z (di .i64 b g)) λa=>f a else f d)) c)->c d e)->(∃b,e.z a.p b/\bif b==0 then c Z e else bif V (h>0)then ∃b,e.z a.p b/\QV b (λb d=>bif !b then c Z d else ∃b,d.y (a.p.add 3) b/\c (V (b>0)) d) e else c G e))->c d e)->(bif V (g<0)then c Z d else c (V (g>7)) d)) c):=aj func171 (.v (.v (.y (.v (.x .w)) (.y (.y (.r (S [(21,.c .b)]) .done) (.x .w)) (.y (.y (.r (S [(40,.c .b)]) .done) (.x .w)) (.v (.y .Ji (.y (.v .w) .w))))))))
theorem Yo{a b c d e f K w}:Fr (Rv a b c d e f K w) (A2 w [.z a,.z b,.z c,.y d,.y e,.z f] 157 λa b=>∀c:W->Pw,(∀(b:W)(d:J),(bif b then K 0 d else ∀b:W->Pw,(∀(c:W)(d:J),(bif c then K 40 d else ∀b:W->Pw,(∀(c:W)(d:J),(bif c then K 40 d else ∃b,d.z a.p b/\bif b !=2 then ∃b,d.y (a.p.add 4) b/\bif V (b>0)then K 40 d else ∃b,d.z (a.p.add 5) b/\bif b !=0 then K 40 d else ∃b,d.y (a.p.add 4) b/\∃c,d.z (a.p.add 5) c/\RP b c (λa b=>bif !a then K 40 b else K 0 b) d else ∃b,d.y (a.p.add 4) b/\∃c,d.z (a.p.add 5) c/\RP b c (λa b=>bif !a then K 40 b else K 0 b) d)->b c d)->(∃c,d.z a.p c/\RG c (λc d=>bif !c then ∃c,d.z (a.p.add 2) c/\bif c !=7 then b Z d else ∃c,d.z a.p c/\QV c (λc d=>bif !c then ∃c,d.y (a.p.add 3) c/\b (V (c>0)) d else b G d) d else ∃c,d.z a.p c/\QV c (λc d=>bif !c then ∃c,d.y (a.p.add 3) c/\b (V (c>0)) d else b G d) d) d))->b c d)->(∃c,d.z a.p c/\bif V (c<1)then b Z d else ∃c,d.z a.p c/\bif V (c>9)then b Z d else ∃c,d.z (a.p.add 1) c/\bif V (c<0)then b Z d else ∃c,d.z (a.p.add 1) c/\bif V (c>2147483647)then b Z d else ∃c,d.z (a.p.add 2) c/\bif V (c<0)then b Z d else ∃c,d.z (a.p.add 2) c/\b (V (c>7)) d))->c b d)->(∃d,b.z a.p d/\bif d==0 then ax b a.p 0 [.o,.o,.o,.u,.u,.o] λ(a d e f g h:O)=>∃i,vl qe .eql 157 (.tmp 7) (.tmp 8) (.agg #[.z a,.z d,.z e,.y f,.y g,.z h]) (.agg #[.z 0,.z 0,.z 0,.y 0,.y 0,.z 0]) i/\c i b else c G b)):=aj func236 (.v (.y (.y (.r (S [(10,.c .b)]) .done) (.x .w)) (.y (.y (.r (S [(38,.c .b)]) .done) (.x .w)) (.y (.y (.r (S [(58,.c .b)]) .done) (.x .w)) (.y (.v (.x .w)) .w)))))
theorem Yp{a K w}:Fr (QV a K w) (bif a==4 then K Z w else K (a==5) w):=aj func278 (.v .w)
theorem Yq{a K w}:Fr (RG a K w) (bif a==4 then K Z w else bif a==5 then K Z w else K (a==6) w):=aj func279 (.v .w)
theorem Yr{a b c d e f g h i j k l K w}:Fr (T3 a b c d e f g h i j k l K w) (A2 w [.z a,.z b,.z c,.y d,.y e,.z f] 157 λa b=>A2 b [.z g,.z h,.z i,.y j,.y k,.z l] 157 λb c=>∃d,c.z a.p d/\bif d !=0 then ∃d,c.z a.p d/\∃e,c.z b.p e/\bif d==e then ∃d,c.z (a.p.add 1) d/\∃a,c.z (b.p.add 1) a/\K (d==a) c else K G c else K G c):=aj func283 (.v .w)
theorem Ys{a b K w}:Fr (RP a b K w) (bif V (b>=0)then bif V (b<=64)then bif b==64 then K Z w else ON b (λb c=>K (V (a<b)) c) w else K G w else K G w):=aj func325 (.v .w)
namespace Th
abbrev Qs:=Y (X × O)
def bX(L:Qs)(p:X):Y O:=(L.filter λx=>x.1==p).map (·.2)
def wh(L:Qs)(n:O):qh X:=(L.find? λx=>x.2==n).map (·.1)
def iF(L:Qs)(p:X):W:= !(bX L p).isEmpty
structure wV(L:Qs):Prop where
 nodup:(L.map (·.2)).Nodup
 prio:∀x∈L,x.1<256
 eC:L.length<=1000000
theorem four{α:Type}(ws:Y α)(h:ws.length=4):∃a b c d,ws= [a,b,c,d]:=by
 rcases ws with _|⟨a,_|⟨b,_|⟨c,_|⟨d,_|⟨e,ws⟩⟩⟩⟩⟩
 .simp at h
 .simp at h
 .simp at h
 .simp at h
 .exact ⟨a,b,c,d,U⟩
 .simp at h
def bg(s:Sl):Q:= s.v
def aV(sl:X->Sl)(m:X)(ws:Y O):Y Q:=(LA 256).map (λp=>bg (sl p))++Value.map (S m)::ws.map (Value.int .u64)
def nU(sl:X->Sl)(p:X)(s:Sl):X->Sl:=λq=>if q=p then s else sl q
theorem eO{sl:X->Sl}{m:X}{ws:Y O}{p:X}(hp:p<256):(aV sl m ws)[p]?=S (bg (sl p)):=by unfold aV;rw[LI (by simpa using hp),LV,ME hp];rfl
theorem hI{sl:X->Sl}{m:X}{ws:Y O}:(aV sl m ws)[256]?=S (.map (S m)):=by unfold aV;rw[LH qc];simp
theorem iy{sl:X->Sl}{m:X}{ws:Y O}(j:X):(aV sl m ws)[257+j]?=(ws[j]?).map (Value.int .u64):=by unfold aV;rw[LH (by simp;omega)];simp only[L3,NM];rw[show 257+j-256=j+1 from by omega,LG,LV]
theorem oK{sl:X->Sl}{m:X}{ws:Y O}{p:X}(hp:p<256)(s:Sl):(aV sl m ws).set p (bg s)=aV (nU sl p s) m ws:=by
 unfold aV;rw[Nw _ _ (by simpa using hp)];congr 1;apply L5;intro i;rw[Mb];simp only[LV,L3,NM];by_cases hi:i<256
 .rw[ME hi]
  by_cases e:p=i
  .subst e;simp[hp,nU]
  .have e':¬i=p:=λh=>e h.symm
   simp[e,e',nU]
 .rw[L0 (l:=LA 256) (by simpa using hi),F om];rfl
theorem bE{sl:X->Sl}{m:X}{ws:Y O}(j:X)(x:O):(aV sl m ws).set (257+j) (.y x)=aV sl m (ws.set j x):=by unfold aV;rw[Ng _ _ (by simp;omega)];simp only[L3,NM];rw[show 257+j-256=j+1 from by omega,LM,Pc]
def HX(L:Qs)(M:Y (O × O)):Prop:=∀n,de M n=(wh L n).map λp:X=>(p:O)
structure Qx where
 m:X
 M:Y (O × O)
 sl:X->Sl
 ws:Y O
def bM(sl:X->Sl)(L:Qs):Y aH:=(LA 256).map λp=>af aq (sl p) (bX L p)
abbrev mapA(m:X)(M:Y (O × O)):aH:=kl (Value.int .i64) (Value.int .i64) m M
def aD(b:X)(L:Qs):aH:=sB λx:Qx=>cj (dh (wV L/\HX L x.M/\gQ (iF L) x.ws)::aa b (aV x.sl x.m x.ws)::mapA x.m x.M::bM x.sl L)
section
variable{B:X}{w0 w:J}{R:Y aH}{b:X}{L:Qs}
theorem _root_.Go.Vc.Ow.queue(h:Ow B w0 w (aD b L::R)):∃x:Qx,wV L/\HX L x.M/\gQ (iF L) x.ws/\Ow B w0 w (aa b (aV x.sl x.m x.ws)::mapA x.m x.M::(bM x.sl L++R)):=by obtain⟨x,h⟩:=h.ex;have h:=h.star;obtain⟨⟨h1,h2,h3⟩,h⟩:=Ow.pure h;exact⟨x,h1,h2,h3,h⟩
theorem _root_.Go.Vc.Ow.gx{m:X}{M:Y (O × O)}{sl:X->Sl}{ws:Y O}(h1:wV L)(h2:HX L M)(h3:gQ (iF L) ws)(h:Ow B w0 w (aa b (aV sl m ws)::mapA m M::(bM sl L++R))):Ow B w0 w (aD b L::R):=
 Ow.fk ⟨m,M,sl,ws⟩ (Ow.bW (Ow.cT ⟨h1,h2,h3⟩ h))
theorem Dm{sl:X->Sl}{p:X}(hp:p<256)(A B:aH)(R:Y aH):(A::B::(bM sl L++R))[2+p]?=S (af aq (sl p) (bX L p)):=by rw[show 2+p=p+1+1 from by omega,LG,LG,LI (by simpa [bM]using hp)];simp only[bM,LV,ME hp,Mx]
theorem wj{sl:X->Sl}{p:X}(hp:p<256){s:Sl}{ns:Y O}{L':Qs}(hL:∀q,q<256->bX L' q=if q=p then ns else bX L q)(A B:aH)(R:Y aH):
  (A::B::(bM sl L++R)).set (2+p) (af aq s ns)=A::B::(bM (nU sl p s) L'++R):=by
 rw[show 2+p=p+1+1 from by omega,LM,LM,Nw _ _ (by simpa [bM]using hp)];congr 3;apply L5;intro i;rw[Mb];simp only[bM,LV,L3,NM];by_cases hi:i<256
 .rw[ME hi]
  by_cases e:p=i
  .subst e;simp[hp,nU,hL p hp]
  .have e':¬i=p:=λh=>e h.symm
   simp[e,e',nU,hL i hi]
 .rw[L0 (l:=LA 256) (by simpa using hi),F om];rfl
theorem gL{sl:X->Sl}{m:X}{ws:Y O}{p:X}{K:Pw}(h:Ow B w0 w (aa b (aV sl m ws)::R))(hp:p<256)(hw:ws.length=4)
  (hK:∀w',Ow B w0 w' (aa b (aV sl m (nG ws p (V (0<(sl p).len))))::R)->K w'):RN b.o (p:O) K w:=by
 apply Yk;obtain⟨b1,b2,b3,b4,rfl⟩:=four ws hw;refine h.dr λw1 h=>?_;refine⟨_,U,?_⟩;simp only[aI];have hwd:∀j v,([b1,b2,b3,b4].map (Value.int .u64))[j]?=S v->(aV sl m [b1,b2,b3,b4])[257+j]?=S v:=λj v hv=>by rw[iy,<-LV];exact hv
 refine⟨_,h.gr 0 U (hwd 0 _ U),_,h.gr 0 U (hwd 1 _ U),_,h.gr 0 U (hwd 2 _ U),_,h.gr 0 U (hwd 3 _ U),_,U,om,om,?_⟩;simp only[aI,Lw,NW,LF];refine⟨sl p,h.gr 0 U (eO hp),vf h om om λr1 r2 r3 r4 w2 h hr=>?_,trivial⟩;refine⟨_,U,?_,trivial⟩;simp only[aI,LF];have hlen:∀(ws:Y O)(j:X),j<ws.length->((aV sl m ws)[257+j]?).isSome=true:=λws j hj=>by rw[iy,gE hj];rfl
 refine h.st 0 U (hlen _ 0 qc) U λw3 h=>?_;refine h.st 0 U (by rw[bE 0];exact hlen _ 1 qc) U λw4 h=>?_;refine h.st 0 U (by rw[bE 0,bE 1];exact hlen _ 2 qc) U λw5 h=>?_;refine h.st 0 U (by rw[bE 0,bE 1,bE 2];exact hlen _ 3 qc) U λw6 h=>?_;have hd:V (((sl p).len:O)>0)=V (0<(sl p).len):=by simp
 rw[hd,Lw]at hr;refine hK _ ?_;rw[<-hr];have e:((((aV sl m [b1,b2,b3,b4]).set 257 (.y r1)).set 258 (.y r2)).set 259 (.y r3)).set 260 (.y r4)=aV sl m [r1,r2,r3,r4]:=by rw[bE 0,bE 1,bE 2,bE 3];rfl
 rw[<-e];exact h
theorem BS{L:Qs}{n:O}{p:X}(h:wh L n=S p):(p,n)∈L:=by
 unfold wh at h;obtain⟨x,h1,rfl⟩:=Option.map_eq_some_iff.1 h;have h2:=List.find?_some h1;have h3:x.2=n:=by simpa using h2
 have:=List.mem_of_find?_eq_some h1;rw[<-h3];exact this
theorem lv{L:Qs}{n:O}:wh L n=N↔∀x∈L,x.2≠n:=by unfold wh;rw[Ps,List.find?_eq_none];simp
theorem Dw{L:Qs}(h:(L.map (·.2)).Nodup){x y:X × O}(hx:x∈L)(hy:y∈L)(e:x.2=y.2):x=y:=by
 induction L with
 |nil=>cases hx
 |cons a L ih=>
  simp only[L1,Mj,L2,not_exists,not_and]at h;rcases LD.1 hx with hx'|hx'
  .rcases LD.1 hy with hy'|hy'
   .rw[hx',hy']
   .rw[hx']at e;exact qj e.symm (h.1 y hy')
  .rcases LD.1 hy with hy'|hy'
   .rw[hy']at e;exact qj e (h.1 x hx')
   .exact ih h.2 hx' hy'
theorem D9{L:Qs}(h:(L.map (·.2)).Nodup){n:O}{p:X}(hm:(p,n)∈L):wh L n=S p:=by
 cases hw:wh L n with
 |none=>exact qj U (lv.1 hw _ hm)
 |some q=>have:=Dw h (BS hw) hm U;cases this;rfl
theorem Fs{L:Qs}{p:X}{n:O}:n∈bX L p↔(p,n)∈L:=by
 unfold bX;rw[L2];constructor
 .rintro ⟨⟨a,b⟩,h1,h2⟩
  rw[LP]at h1;have:a=p:=by simpa using h1.2
  subst this;have h2:b=n:=h2;subst h2;exact h1.1
 .intro h;exact⟨(p,n),LP.2 ⟨h,qc⟩,U⟩
theorem ze(L:Qs)(p:X)(n:O)(q:X):bX (L++ [(p,n)]) q=if q=p then bX L p++ [n]else bX L q:=by
 unfold bX;rw[List.filter_append,LU];by_cases e:q=p
 .subst e;simp
 .have:(p==q)=false:=by simpa using λh=>e h.symm
  simp[e,this]
theorem uq(L:Qs)(p:X):(bX L p).length<=L.length:=by unfold bX;rw[L3];exact L6 _ _
theorem II{L:Qs}{p:X}{n:O}(hn:wh L n=N)(x:O):wh (L++ [(p,n)]) x=if n=x then S p else wh L x:=by
 unfold wh;rw[List.find?_append];by_cases e:n=x
 .subst e
  have:L.find? (λy=>y.2==n)=none:=by have h:=hn;unfold wh at h;rwa [Ps]at h
  rw[this];simp
 .have:(n==x)=false:=by simpa using e
  rw[F e];cases L.find? (λy=>y.2==x)<;>simp[this]
theorem Bi{L:Qs}{p:X}{n:O}(h:wV L)(hp:p<256)(hn:wh L n=N)(hf:L.length<1000000):wV (L++ [(p,n)]):=by
 refine⟨?_,λx hx=>?_,by simp;omega⟩
 .rw[LU,Np]
  refine⟨h.nodup,qc,λa ha b hb=>?_⟩;simp only[L1,M9,Mk]at hb;subst hb;obtain⟨y,hy,rfl⟩:=L2.1 ha;exact lv.1 hn y hy
 .rcases Mm.1 hx with hx|hx
  .exact h.prio x hx
  .simp at hx;subst hx;exact hp
def jy(L:Qs)(p n:O):O × Qs:=if p<0\/256<=p then(1,L)else match wh L n with|some _=>(90,L)|none=>(0,L++ [(p.toNat,n)])
theorem mM{p n:O}{K:O->Pw}(h:Ow B w0 w (aD b L::R))(hf:L.length<1000000)
  (hK:∀w',Ow B w0 w' (aD b (jy L p n).2::R)->K (jy L p n).1 w'):TI b.o p n K w:=by
 apply Yi;intro k hk;by_cases h0:p<0
 .rw[show V (p<0)=Z from by simp[h0],ql]
  apply hk;rw[ql];have e:jy L p n=(1,L):=by unfold jy;rw[qd (.inl h0)]
  rw[e]at hK;exact hK w h
 rw[show V (p<0)=G from by simp;omega,qp];apply hk;by_cases h1:256<=p
 .rw[show V (p>=256)=Z from by simp;omega,ql]
  have e:jy L p n=(1,L):=by unfold jy;rw[qd (.inr h1)]
  rw[e]at hK;exact hK w h
 rw[show V (p>=256)=G from by simp;omega,qp];obtain⟨m,rfl⟩:=LB (by omega:0<=p);have hm:m<256:=om
 have e:jy L (m:O) n=match wh L n with|some _=>(90,L)|none=>(0,L++ [(m,n)]):=by unfold jy;rw[F om];simp
 obtain⟨x,hq,hby,hbits,h⟩:=h.queue;refine⟨_,U,S x.m,h.ld 0 U hI,?_⟩;cases hw:wh L n with
 |some q=>
  have hg:=hby n;rw[hw]at hg;refine⟨(q:O),Z,(h.sL qT (aX .i64 qA) 1 U hg).1,?_⟩;rw[ql];rw[e,hw]at hK;exact hK w (h.gx hq hby hbits)
 |none=>
  have hg:=hby n;rw[hw]at hg;refine⟨0,G,(h.uv qT (aX .i64 qA) (λw=>qR w) 1 U hg).1,?_⟩;rw[qp];rw[e,hw]at hK;refine h.dr λw1 h=>?_;refine⟨_,U,om,om,?_⟩;simp only[aI,Lw,NW,LF];refine⟨x.sl m,h.gr 0 U (eO hm),_,U,h.al λw2 h=>⟨?_,trivial⟩,trivial⟩;have hll:=uq L m;refine vR h (2+m) (Dm hm _ _ _) om λs' w3 hs' h=>?_;rw[wj hm (ze L m n · |> λe=>λ_=>e) _ _ _]at h;refine⟨om,om,?_,trivial⟩;simp only[aI,LF];refine h.st 0 U (by rw[eO hm];rfl) U λw4 h=>?_;have h:Ow B w0 w4 (aa b ((aV x.sl x.m x.ws).set m (bg s'))::mapA x.m x.M::(bM (nU x.sl m s') (L++ [(m,n)])++R)):=h;rw[oK hm]at h;refine⟨_,U,S x.m,h.ld 0 U hI,h.jL qT (aX .i64 qA) 1 U λw5 h=>?_⟩;refine⟨_,U,gL h hm hbits.1 λw6 h=>?_⟩;refine hK w6 (Ow.gx (Bi hq hm hw hf) ?_ ?_ h)
  .intro y
   rw[nD,II hw,hby y];split<;>rfl
  .have hlen:(nU x.sl m s' m).len=(bX L m).length+1:=by simp[nU,hs']
   rw[hlen,show V (0<(bX L m).length+1)=Z from by simp];refine(hbits.set hm Z).congr λi hi=>?_;show(if i=m then Z else iF L i)=iF (L++ [(m,n)]) i;unfold iF;rw[ze];by_cases e:i=m
   .simp[e]
   .simp[e]
theorem js{sl:X->Sl}{p:X}(hp:p<256)(pre R:Y aH):(pre++(bM sl L++R))[p+pre.length]?=S (af aq (sl p) (bX L p)):=by rw[OB,LH om,NQ,LI (by simpa [bM]using hp)];simp only[bM,LV,ME hp,Mx]
theorem ur{sl:X->Sl}{p:X}(hp:p<256){s:Sl}{ns:Y O}{L':Qs}(hL:∀q,q<256->bX L' q=if q=p then ns else bX L q)(pre R:Y aH):
  (pre++(bM sl L++R)).set (p+pre.length) (af aq s ns)=pre++(bM (nU sl p s) L'++R):=by
 have h:=wj (L:=L) (L':=L') (sl:=sl) (s:=s) (ns:=ns) hp hL (dh I) (dh I) R;rw[show 2+p=p+1+1 from by omega,LM,LM]at h;rw[OB p pre.length,Ng _ _ om,NQ];congr 1;simp only[List.cons.injEq,true_and]at h;exact h
theorem mL{K:qh qg->Pw}(h:Ow B w0 w R)(hK:∀b w',Ow B w0 w' (aD b []::R)->K b.o w'):Ri K w:=by
 apply Yf;refine h.BX (Value.int .i64) (Value.int .i64) λw1 h=>?_;refine h.al λw2 h=>?_;refine hK _ w2 ?_;have hlines:∀(n:X)(w:J)(R:Y aH),Ow B w0 w R->Ow B w0 w ((LA n).map (λp=>af aq z0 (bX [] p))++R):=by
  intro n;induction n with
  |zero=>intro w R h;exact h
  |succ n ih=>
   intro w R h;rw[N1,LU,LN];exact ih w _ (Ow.cZ h)
 have h:=h.xg (l':=aV (λ_=>z0) w.heap.size [0,0,0,0]) qa;refine Ow.gx (m:=w.heap.size) (M:=[]) (sl:=λ_=>z0) (ws:=[0,0,0,0]) ⟨qc,qc,qc⟩ (λn=>rfl) (gQ.zero.congr λi _=>rfl) ?_;exact((hlines 256 w2 _ h).perm Ml).perm ((Ml).cons _)
theorem zd(L:Qs)(n:O)(q:X):bX (L.filter λx=>x.2 !=n) q=(bX L q).filter λx=>x !=n:=by unfold bX;rw[List.filter_map,M7,M7];congr 1;apply Od;intro x _;simp[Function.comp,Bool.and_comm]
theorem wi{L:Qs}(h:(L.map (·.2)).Nodup){n:O}{p:X}(hw:wh L n=S p)(q:X):bX (L.filter λx=>x.2 !=n) q=if q=p then(bX L p).filter (λx=>x !=n)else bX L q:=by
 rw[zd];by_cases e:q=p
 .subst e;simp
 .rw[F e,Mv]
  intro x hx;rw[Fs]at hx;simp only[qN,ne_eq];intro e';subst e';have:=D9 h hx;rw[hw]at this;cases this;exact e U
theorem Hv{L:Qs}(n x:O):wh (L.filter λy=>y.2 !=n) x=if n=x then N else wh L x:=by
 by_cases e:n=x
 .subst e
  rw[qd U,lv];intro y hy;have:=(LP.1 hy).2;simpa using this
 .rw[F e]
  unfold wh;congr 1;rw[List.find?_filter];congr 1;funext y;by_cases e2:y.2=x
  .have:¬y.2=n:=λh=>e (h.symm.trans e2)
   simp[e2,this];rw[e2]at this;exact this
  .simp[e2]
def eV(L:Qs)(n:O):O × Qs:=match wh L n with|some _=>(0,L.filter λx=>x.2 !=n)|none=>(91,L)
theorem gK{n:O}{K:O->Pw}(h:Ow B w0 w (aD b L::R))
  (hK:∀w',Ow B w0 w' (aD b (eV L n).2::R)->K (eV L n).1 w'):TK b.o n K w:=by
 apply Yj;obtain⟨x,hq,hby,hbits,h⟩:=h.queue;refine h.al λw1 h=>?_;refine h.dr λw2 h=>?_;refine⟨_,U,S x.m,h.ld 1 U hI,n,h.gr 0 U U,?_,trivial⟩;cases hw:wh L n with
 |none=>
  have hg:=hby n;rw[hw]at hg;refine⟨0,G,(h.uv qT (aX .i64 qA) (λw=>qR w) 2 U hg).1,?_⟩;simp only[MK,ql];have e:eV L n=(91,L):=by unfold eV;rw[hw]
  rw[e]at hK;exact hK w2 (h.drop.gx hq hby hbits)
 |some p=>
  have hg:=hby n;rw[hw]at hg;have hp:p<256:=hq.prio _ (BS hw);refine⟨(p:O),Z,(h.sL qT (aX .i64 qA) 2 U hg).1,?_⟩;simp only[MM,qp];have e:eV L n=(0,L.filter λx=>x.2 !=n):=by unfold eV;rw[hw]
  rw[e]at hK;refine h.dr λw3 h=>?_;refine⟨_,U,om,om,?_⟩;simp only[aI,Lw,NW,LF];refine⟨x.sl p,h.gr 1 U (eO hp),_,U,?_,trivial⟩;have hll:=uq L p;have hfew:=hq.eC;refine eJ (p:=λy=>y==n) h (p+3) (js hp [_,_,_] R) om ?_ λs' w4 h=>?_
  .intro ys hys y w5 aby h hQ
   refine bq ?_;have hA:U9 y w.heap.size.p aby w5:=by apply Yl;exact⟨n,h.gr 0 U U,hQ _ h⟩
   exact hA
  .have h:Ow B w0 w4 ([aa w.heap.size [.z n],aa b (aV x.sl x.m x.ws),mapA x.m x.M]++(bM (nU x.sl p s') (L.filter λx=>x.2 !=n)++R)):=by have:=ur (L:=L) (sl:=x.sl) hp (λq _=>wi hq.nodup hw q) [aa w.heap.size [.z n],aa b (aV x.sl x.m x.ws),mapA x.m x.M] R (s:=s');rw[<-this];exact h
   have hlen:=h.len (p+3) (js hp [_,_,_] R);have hMn:(x.M.map (·.1)).Nodup:=(h.take 2 U).head λ_ hG=>hG.2.nodup;refine⟨om,om,?_,trivial⟩;simp only[aI,LF];refine h.st 1 U (by rw[eO hp];rfl) U λw6 h=>?_;have h:Ow B w0 w6 (aa w.heap.size [.z n]::aa b ((aV x.sl x.m x.ws).set p (bg s'))::mapA x.m x.M::(bM (nU x.sl p s') (L.filter λx=>x.2 !=n)++R)):=h;rw[oK hp]at h;refine h.dr λw7 h=>?_;refine⟨_,U,S x.m,h.ld 1 U hI,n,h.gr 0 U U,h.G1 qT (aX .i64 qA) 2 U λw8 h=>?_,trivial⟩;refine⟨_,U,gL h.drop hp hbits.1 λw9 h=>?_⟩;refine hK w9 (Ow.gx ⟨?_,λy hy=>hq.prio y (LP.1 hy).1,LY (L6 _ _) hq.eC⟩ ?_ ?_ h)
   .exact List.Nodup.sublist (List.filter_sublist.map _) hq.nodup
   .intro y
    rw[rJ hMn,Hv,hby y];split<;>rfl
   .rw[hlen]
    refine(hbits.set hp _).congr λi hi=>?_;show(if i=p then decide (0<(bX (L.filter λx=>x.2 !=n) p).length)else iF L i)=iF (L.filter λx=>x.2 !=n) i;unfold iF;by_cases e:i=p
    .subst e
     rw[qd U];cases bX (L.filter λx=>x.2 !=n) i<;>simp
    .rw[F e,wi hq.nodup hw i,F e]
def D4(L:Qs):qh X:=nc (iF L) 256
def fZ(L:Qs):qh O:=(D4 L).bind λp=>(bX L p).head?
theorem Gn{L:Qs}{p:X}(h:D4 L=S p):p<256/\∃n l,bX L p=n::l:=by
 obtain⟨h1,h2,_⟩:=zX h;refine⟨h1,?_⟩;unfold iF at h2;cases hl:bX L p with
 |nil=>rw[hl]at h2;cases h2
 |cons n l=>exact⟨n,l,U⟩
theorem lS{K:O->W->Pw}(h:Ow B w0 w (aD b L::R))
  (hK:∀w',Ow B w0 w' (aD b L::R)->K ((fZ L).getD 0) (fZ L).isSome w'):SU b.o K w:=by
 apply Yg;obtain⟨x,hq,hby,hbits,h⟩:=h.queue;obtain⟨b1,b2,b3,b4,hws⟩:=four x.ws hbits.1;have hwd:∀j v,([b1,b2,b3,b4].map (Value.int .u64))[j]?=S v->(aV x.sl x.m x.ws)[257+j]?=S v:=λj v hv=>by rw[iy,<-LV,hws];exact hv
 refine⟨_,U,?_⟩;simp only[aI,LF];refine⟨_,h.gr 0 U (hwd 0 _ U),_,h.gr 0 U (hwd 1 _ U),_,h.gr 0 U (hwd 2 _ U),_,h.gr 0 U (hwd 3 _ U),vg h (by rw[<-hws];exact hbits) λw1 h=>?_⟩;unfold D3;cases ht:nc (iF L) 256 with
 |none=>
  simp only;rw[show V ((-1:O)<0)=Z from U,ql];have e:fZ L=none:=by unfold fZ D4;rw[ht];rfl
  rw[e]at hK;exact hK w1 (h.gx hq hby hbits)
 |some p=>
  simp only;obtain⟨hp,n,l,hl⟩:=Gn ht;rw[show V ((p:O)<0)=G from by simp,qp];refine⟨_,U,om,om,?_⟩;simp only[aI,Lw,NW,LF];have hL:=js (L:=L) (sl:=x.sl) hp [aa b (aV x.sl x.m x.ws),mapA x.m x.M] R;rw[hl]at hL;obtain⟨a,ha,hc⟩:=h.E0 (p+2) hL (j:=0) U;have hlen:=h.len (p+2) hL;refine⟨x.sl p,h.gr 0 U (eO hp),a,ha,om,by rw[hlen];simp,n,hc,?_⟩;have e:fZ L=S n:=by unfold fZ D4;rw[ht];simp[hl]
  rw[e]at hK;exact hK w1 (h.gx hq hby hbits)
def zc(L:Qs)(p:O):Y O:=if p<0\/256<=p then []else bX L p.toNat
def under(L:Qs)(t:X):Qs:=L.filter λx=>V (x.1<t)
theorem u9(L:Qs)(t q:X):bX (under L t) q=if q<t then bX L q else []:=by
 unfold bX under;rw[M7];by_cases e:q<t
 .rw[qd e]
  congr 1;apply Od;intro x _;by_cases e2:x.1=q
  .simp[e2,e]
  .simp[e2]
 .rw[F e,List.filter_eq_nil_iff.2]
  .rfl
  .intro x _
   by_cases e2:x.1=q
   .simp[e2,e]
   .simp[e2]
theorem mem_erase{α:Type}:∀{l:Y α}{j:X}{k q:α},l.Nodup->l[j]?=S k->(q∈l.eraseIdx j↔q∈l/\q≠k)
 | [],j,k,q,_,h=>by simp at h
 |a::l,0,k,q,hn,h=>by
  simp only[Mn,Option.some.injEq]at h;subst h;rw[Mj]at hn;rw[OD,LD];constructor
  .intro hq;exact⟨.inr hq,λe=>hn.1 (e▸hq)⟩
  .rintro ⟨hq|hq,hne⟩
   .exact qj hq hne
   .exact hq
 |a::l,j+1,k,q,hn,h=>by
  rw[Mj]at hn;rw[LG]at h;have hak:a≠k:=λe=>hn.1 (e▸L4 h);rw[Nk,LD,LD,mem_erase hn.2 h];constructor
  .rintro (rfl|⟨h1,h2⟩)
   .exact ⟨.inl U,hak⟩
   .exact ⟨.inr h1,h2⟩
  .rintro ⟨rfl|h1,h2⟩
   .exact .inl U
   .exact .inr ⟨h1,h2⟩
theorem D7(L:Qs):under L 0= []:=by unfold under;simp
theorem D6{L:Qs}(h:wV L):under L 256=L:=by unfold under;rw[Mv];intro x hx;simpa using h.prio x hx
theorem lR{K:qh qg->Pw}(h:Ow B w0 w (aD b L::R))(hK:∀b' w',Ow B w0 w' (aD b' L::aD b L::R)->K b'.o w'):Ru b.o K w:=by
 apply Yh;refine mL h λb' w1 h=>?_;obtain⟨y,hq0,hby0,hbits0,h⟩:=h.queue;obtain⟨x,hq,hby,hbits,h⟩:=(h.perm (Ml (l₁:=aa b' (aV y.sl y.m y.ws)::mapA y.m y.M::bM y.sl []) (a:=aD b L) (l₂:=R))).queue;refine⟨_,U,S x.m,?_⟩;have hmap:w1.cell? (b.p.add 256)=S (.map (S x.m)):=h.ld 0 U hI;refine⟨hmap,h.range qT 1 U λw2 h=>?_⟩;intro l8 hl8;have h:Ow B w0 w2 ([aa b' (aV y.sl y.m y.ws),mapA y.m y.M,aa b (aV x.sl x.m x.ws),pa (Value.int .i64) (Value.int .i64) x.m w1.heap.size x.M x.M]++(bM y.sl []++(bM x.sl L++R))):=by
  refine h.perm ?_;simp only[LM,Mf,MO,Mw];have p1:(bM x.sl L++(aa b' (aV y.sl y.m y.ws)::mapA y.m y.M::(bM y.sl []++R))).Perm (aa b' (aV y.sl y.m y.ws)::mapA y.m y.M::(bM y.sl []++(bM x.sl L++R))):=by refine Ml.trans (List.Perm.cons _ (Ml.trans (List.Perm.cons _ ?_)));rw[<-LN,<-LN];exact List.perm_append_comm.append_right R
  refine((List.Perm.cons _ (List.Perm.cons _ p1))).trans ?_;refine(List.Perm.cons _ (List.Perm.swap _ _ _)).trans ?_;refine(List.Perm.swap _ _ _).trans (List.Perm.cons _ ?_);refine(List.Perm.cons _ (List.Perm.swap _ _ _)).trans ?_;exact List.Perm.swap _ _ _
 have loop1:∀(n:X)(left:Y (O × O))(M':Y (O × O))(w:J),left.length=n->(∀k,de M' k=if k∈left.map (·.1)then N else de x.M k)->
   Ow B w0 w ([aa b' (aV y.sl y.m y.ws),mapA y.m M',aa b (aV x.sl x.m x.ws),pa (Value.int .i64) (Value.int .i64) x.m w1.heap.size x.M left]++(bM y.sl []++(bM x.sl L++R)))->l8 w:=by
  intro n;induction n with
  |succ n ih=>
   intro left M' w hn hM' h;apply hl8;obtain⟨hnd,hsub⟩:=h.Dd 3 U;have hndl:(left.map (·.1)).Nodup:=hnd.sublist (hsub.map _);refine h.next 3 U (λe=>by rw[e]at hn;cases hn) λj k v w3 hj h he=>?_
   rw[ql];refine⟨k,v,he,_,U,S y.m,h.ld 0 U hI,h.jL qT (aX .i64 qA) 1 U λw4 h=>?_⟩;refine ih (left.eraseIdx j) (iW M' k v) w4 (by rw[List.length_eraseIdx,qd (Lu.1 hj).1];omega) (λq=>?_) h;have hkj:(left.map (·.1))[j]?=S k:=by rw[LV,hj];rfl
   rw[nD,hM' q,fY];by_cases e:k=q
   .subst e
    rw[qd U,F (λhm=>((mem_erase hndl hkj).1 hm).2 U)];exact(sK hnd (hsub.subset (L4 hj))).symm
   .rw[F e]
    by_cases hm:q∈left.map (·.1)
    .rw[qd hm,qd ((mem_erase hndl hkj).2 ⟨hm,λe'=>e e'.symm⟩)]
    .rw[F hm,F (λhm'=>hm ((mem_erase hndl hkj).1 hm').1)]
  |zero=>
   intro left M' w hn hM' h;have hl0:left= []:=List.eq_nil_of_length_eq_zero hn;subst hl0;have hM2:∀k,de M' k=de x.M k:=λk=>by rw[hM' k];simp
   apply hl8;refine h.next 3 U (λ_=>?_) λj k v w3 hj=>by simp at hj
   rw[qp];have h:=h.GS 3 U;have h:Ow B w0 w ([aa b' (aV y.sl y.m y.ws),mapA y.m M',aa b (aV x.sl x.m x.ws),mapA x.m x.M]++(bM y.sl (under L 0)++(bM x.sl L++R))):=by rw[D7];exact h
   refine⟨_,U,((LA 256).map λp=>bg (x.sl p)).toArray,qc,λi hi=>?_,?_⟩
   .rw[aI,h.gr 2 U (show _=S (bg (x.sl i))from by rw[LF];exact eO hi)]
    simp[hi]
   intro l21 hl21;have loop2:∀(n t:X)(sl:X->Sl)(w:J),t+n=256->Ow B w0 w ([aa b' (aV sl y.m y.ws),mapA y.m M',aa b (aV x.sl x.m x.ws),mapA x.m x.M]++(bM sl (under L t)++(bM x.sl L++R)))->l21 (t:O) w:=by
    intro n;induction n with
    |succ n ih2=>
     intro t sl w hn h;have ht:t<256:=om
     apply hl21;rw[show V ((t:O)<256)=Z from by simp;omega,ql];refine⟨om,om,x.sl t,by rw[Lw,NW];simp[ht,bg],?_⟩;refine h.dr λw3 h=>?_;refine⟨_,U,?_,trivial⟩;have hO:=js (L:=L) (sl:=x.sl) ht ([aa b' (aV sl y.m y.ws),mapA y.m M',aa b (aV x.sl x.m x.ws),mapA x.m x.M]++bM sl (under L t)) R;rw[LN]at hO;have hll:=uq L t;have hfew:=hq.eC;refine fJ h (h.sR _ hO) (h.len _ hO) om λs' w4 h=>?_;refine⟨om,om,?_,trivial⟩;simp only[aI,Lw,NW,LF];refine h.st 1 U (by rw[eO ht];rfl) U λw5 h=>?_;have h:Ow B w0 w5 (af aq s' (bX L t)::([aa b' ((aV sl y.m y.ws).set t (bg s')),mapA y.m M',aa b (aV x.sl x.m x.ws),mapA x.m x.M]++(bM sl (under L t)++(bM x.sl L++R)))):=h;rw[oK ht]at h;have h5:=h.IB (t+4) (js (L:=under L t) (sl:=sl) ht [aa b' (aV (nU sl t s') y.m y.ws),mapA y.m M',aa b (aV x.sl x.m x.ws),mapA x.m x.M] (bM x.sl L++R));have h6:=ur (L:=under L t) (L':=under L (t+1)) (sl:=sl) (s:=s') (ns:=bX L t) ht (λq hq=>by
      rw[u9,u9];by_cases e:q=t
      .subst e;rw[qd U,qd om]
      .rw[F e]
       by_cases e2:q<t
       .rw[qd e2,qd om]
       .rw[F e2,F om]) [aa b' (aV (nU sl t s') y.m y.ws),mapA y.m M',aa b (aV x.sl x.m x.ws),mapA x.m x.M] (bM x.sl L++R)
     have h7:Ow B w0 w5 ([aa b' (aV (nU sl t s') y.m y.ws),mapA y.m M',aa b (aV x.sl x.m x.ws),mapA x.m x.M]++(bM (nU sl t s') (under L (t+1))++(bM x.sl L++R))):=by rw[<-h6];exact h5
     rw[wr om om];exact ih2 (t+1) _ w5 om h7
    |zero=>
     intro t sl w hn h;have ht:t=256:=om
     subst ht;rw[D6 hq]at h;apply hl21;rw[show V (((256:X):O)<256)=G from U,qp];obtain⟨b1,b2,b3,b4,hws⟩:=four x.ws hbits.1;obtain⟨c1,c2,c3,c4,hcs⟩:=four y.ws hbits0.1;have hwd:∀j v,([b1,b2,b3,b4].map (Value.int .u64))[j]?=S v->(aV x.sl x.m x.ws)[257+j]?=S v:=λj v hv=>by rw[iy,<-LV,hws];exact hv
     refine⟨_,U,?_⟩;simp only[aI,LF];refine⟨_,h.gr 2 U (hwd 0 _ U),_,h.gr 2 U (hwd 1 _ U),_,h.gr 2 U (hwd 2 _ U),_,h.gr 2 U (hwd 3 _ U),_,U,?_⟩;simp only[aI,LF];rw[hcs]at h;have hlen:∀(ws:Y O)(j:X),j<ws.length->((aV sl y.m ws)[257+j]?).isSome=true:=λws j hj=>by rw[iy,gE hj];rfl
     refine h.st 0 U (hlen _ 0 qc) U λw3 h=>?_;refine h.st 0 U (by rw[bE 0];exact hlen _ 1 qc) U λw4 h=>?_;refine h.st 0 U (by rw[bE 0,bE 1];exact hlen _ 2 qc) U λw5 h=>?_;refine h.st 0 U (by rw[bE 0,bE 1,bE 2];exact hlen _ 3 qc) U λw6 h=>?_;have e:((((aV sl y.m [c1,c2,c3,c4]).set 257 (.y b1)).set 258 (.y b2)).set 259 (.y b3)).set 260 (.y b4)=aV sl y.m [b1,b2,b3,b4]:=by rw[bE 0,bE 1,bE 2,bE 3];rfl
     have h:Ow B w0 w6 ([aa b' (((((aV sl y.m [c1,c2,c3,c4]).set 257 (.y b1)).set 258 (.y b2)).set 259 (.y b3)).set 260 (.y b4)),mapA y.m M',aa b (aV x.sl x.m x.ws),mapA x.m x.M]++(bM sl L++(bM x.sl L++R))):=h;rw[e]at h;have h1:Ow B w0 w6 (aa b' (aV sl y.m [b1,b2,b3,b4])::mapA y.m M'::(bM sl L++(aa b (aV x.sl x.m x.ws)::mapA x.m x.M::(bM x.sl L++R)))):=by refine h.perm ?_;simp only[MO,Mw];refine List.Perm.cons _ (List.Perm.cons _ ?_);exact((List.Perm.cons _ Ml.symm).trans Ml.symm)
     have h2:=Ow.gx hq (λk=>by rw[hM2 k];exact hby k) (by rw[<-hws];exact hbits) h1;have h3:Ow B w0 w6 (aa b (aV x.sl x.m x.ws)::mapA x.m x.M::(bM x.sl L++(aD b' L::R))):=by refine h2.perm ?_;refine(List.Perm.swap _ _ _).trans (List.Perm.cons _ ((List.Perm.swap _ _ _).trans (List.Perm.cons _ ?_)));exact Ml.symm
     exact hK b' w6 ((Ow.gx hq hby hbits h3).perm (List.Perm.swap _ _ _))
   exact loop2 256 0 y.sl w U h
 exact loop1 x.M.length x.M y.M w2 U (λk=>by
  have e:de y.M k=none:=by rw[hby0 k];rfl
  rw[e];by_cases hm:k∈x.M.map (·.1)
  .rw[qd hm]
  .rw[F hm,eW.2 hm]) h
end
end Th
end Go.Vc
