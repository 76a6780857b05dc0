/- What the row rests on: the declarations that it needs, out of my texts (part 2). -/
import Derived.Test.YtfgikfglabdeoaaGreatZo1
import Derived.Test.YtfgikfglabdeoaaGreatProg
open Bool renaming false->Z,true->V
open Decidable renaming decide->F
open Go renaming Addr->qf,Operand->qB,Program->qo,TypeId->qh,TypeInfo->qJ,Value->N,World->Y,zeroValue->qE
open Go.IntKind renaming i64->qd,u64->qq
open Go.Proofs.Tryz renaming prog->qe,t3->qI,t331->aeq,t39->ad9,underlying22->qH,underlying232->qM,underlying278->aep,underlying3->qy,underlying328->aea
open Option renaming none->I,some->S
open _root_ renaming Array->qn,Bool->W,False->qj,Int->O,List->J,Nat->X,Option->qg,True->G,absurd->qi,beq_iff_eq->qG,cond_false->qp,cond_true->ql,congrArg->qw,decide_eq_decide->qL,decide_eq_false->qk,decide_eq_true->qm,decide_eq_true_eq->qA,if_false->qx,if_neg->Q,if_pos->A,if_true->qz,or_false->qC,rfl->U
open Go.Proofs.Tryz
open Bool renaming and_eq_true->OH,and_true->Q7,eq_iff_iff->Qm,false_and->P5,false_eq_true->OF,false_or->Q8,not_false->PN,not_true->PK,true_and->Qa
open Int renaming eq_ofNat_of_zero_le->Ox,natCast_add->Ra,natCast_nonneg->Qp,one_mul->SB,toNat_natCast->Oo
open List renaming drop_drop->Pz,eraseIdx_append_of_lt_length->Qh,filter_eq_self->Py,findIdx?_eq_none_iff->Pa,findIdx?_eq_some_iff_getElem->OT,getElem?_append_left->Oy,getElem?_eq_some_iff->Om,length->PI,mem_cons->Oz,mem_iff_getElem?->O5,mem_of_getElem?->OV,nodup_cons->Pu,not_mem_nil->Ps,range->OC,replicate->Oq,take->Sk,take_add_one->OG,take_append_of_le_length->PR,take_take->QL,zipWith->Ot
open Nat renaming add_mul->PJ,add_zero->QD,dvd_of_mod_eq_zero->SD,eq_of_testBit_eq->R1,lt_of_le_of_lt->QZ,lt_of_lt_of_le->Qc,min_eq_left->Pv,min_self->R3,mod_eq_of_lt->O6,mod_lt->RD,mul_le_mul_right->OU,mul_mod_left->Td,one_mul->RL,pow_le_pow_right->Pm,testBit_lt_two_pow->QE,testBit_two_pow_sub_one->Sm,two_pow_pos->PG,zero_testBit->Te
open Option renaming isSome_none->Q0,isSome_some->Rc
set_option maxRecDepth 100000
set_option maxHeartbeats 4000000
set_option linter.all false
namespace Go.Vc
open Go.Proofs
def po(f:Func):Code:=f.body.getD .skip
theorem nI{P:qo}{f:FuncId}{fn:Func}{c:Code}{p:Prop}(hf:P.funcs[f]?=S fn)(hb:fn.body=S c)(h:p):okF P f p:=by unfold okF;rw[hf];simp only[hb];exact h
theorem zj{P:qo}{f:FuncId}{p:Prop}(h:okF P f p):p:=by unfold okF at h;split at h<;>first|exact h.elim|(split at h<;>first|exact h.elim|exact h)
theorem nH:∀(f:X) (fn:Func),qe.funcs[f]?=S fn->(fn.name== "runtime.NumGoroutine")=false:=by
 have h:qe.funcs.toList.all (λfn=> !(fn.name== "runtime.NumGoroutine"))=true:=qa
 intro f fn hf;have:=List.all_eq_true.1 h fn (by rw[Array.mem_toList_iff];exact Array.mem_of_getElem? hf);simpa using this
theorem jR:qe.follows .mixedOrders=true:=qa
theorem N3{f:FuncId}{fn:Func}(hf:qe.funcs[f]?=S fn)(an:An)(cs:J (X × Sh))(args:J N)(K:xp cs){w:Y}{p:Prop}(hb:fn.body=S (po fn))(hok:IX qe fn (po fn) an cs args.length=V)(e:p=L8 qe fn (po fn) an cs args K w)(h:p):okF qe f (Calls qe f ⟨args⟩ w (Gz cs K [])):=
 nI hf hb (GF nH jR hf hb hok (Eq.mp e h))
abbrev _root_.Go.Value.z(n:O):N:= .int .i64 n
abbrev _root_.Go.Value.y(n:O):N:= .int .u64 n
abbrev Sl.v(s:Sl):N:= .slice s.a s.len s.cap
abbrev Sc.o:Sc:= .i .i64
abbrev Sc.u:Sc:= .i .u64
abbrev _root_.Go.Value.q(b:X):N:= .pointer (S ⟨b,0,I⟩)
abbrev _root_.Nat.o(b:X):qg qf:=S ⟨b,0,I⟩
abbrev z0:Sl:=⟨I,0,0⟩
abbrev _root_.Go.World.z(w:Y)(a:qf)(d:O):Prop:=w.cell? a=S (.int .i64 d)
abbrev _root_.Go.World.y(w:Y)(a:qf)(d:O):Prop:=w.cell? a=S (.int .u64 d)
abbrev _root_.Go.World.q(w:Y)(a:qf)(d:qg qf):Prop:=w.cell? a=S (.pointer d)
abbrev _root_.Go.World.b(w:Y)(a:qf)(d:W):Prop:=w.cell? a=S (.bool d)
abbrev _root_.Go.World.m(w:Y)(a:qf)(d:qg X):Prop:=w.cell? a=S (.map d)
abbrev _root_.Go.World.s(w:Y)(a:qf)(d:Sl):Prop:=w.cell? a=S (.slice d.a d.len d.cap)
abbrev Pw:=Y->Prop
abbrev Fr(q p:Prop):Prop:=p->q
theorem Ow.l1{B:X}{w0 w:Y}{L:J aH}{b o:X}{l:J N}{α:Type}{κ:α->N}{f:α->Prop}{d:α}[ae4:dE b L l](h:Ow B w0 w L)(hv:l[o]?=S (κ d))(hf:f d):∃d,w.cell? ⟨b,o,I⟩=S (κ d)/\f d:=⟨d,h.aF hv,hf⟩
theorem Ow.l2{B:X}{w0 w:Y}{L:J aH}{b o n:X}{l:J N}{α:Type}{κ:α->N}{f:α->Prop}{d:α}[ae4:dE b L l](h:Ow B w0 w L)(hv:l[o+n]?=S (κ d))(hf:f d):∃d,w.cell? ((Addr.mk b o I).add n)=S (κ d)/\f d:=⟨d,h.aE hv,hf⟩
theorem _root_.Eq.k{α:Type}{x:qg α}{f g:α}(h:x=S f)(e:f=g:=by kernel_rfl):x=S g:=e▸h
abbrev M5(f:FuncId)(a:J N)(w:Y)(cs:J (X × Sh))(K:xp cs):Prop:=okF qe f (Calls qe f ⟨a⟩ w (Gz cs K []))
abbrev oG(f:FuncId)(a:J N)(cs:J (X × Sh))(K:xp cs)(w:Y):Prop:=M5 f a w cs K
abbrev r0:J (X × Sh):=[(0,.c (.i .i64))]
abbrev r1:J (X × Sh):=[(0,.c (.b))]
abbrev r2:J (X × Sh):=[(0,.c (.s))]
abbrev r3:J (X × Sh):=[]
abbrev r4:J (X × Sh):=[(0,.c (.i .i64)),(1,.c (.b))]
abbrev r5:J (X × Sh):=[(0,.c (.p)),(1,.c (.i .i64))]
abbrev r6:J (X × Sh):=[(0,.c (.i .i64)),(1,.c (.i .i64))]
abbrev r7:J (X × Sh):=[(0,.c (.p))]
abbrev r8:J (X × Sh):=[(0,.a [.o,.o,.o,.u,.u,.o]),(1,.c (.i .i64))]
abbrev r9:J (X × Sh):=[(0,.a [.o,.o,.o,.o,.u,.o,.s,.o,.o,.b]),(1,.c (.b))]
abbrev Mk:J (X × Sh):=[(0,.c (.i .i64)),(1,.c (.i .u64)),(2,.c (.b)),(3,.c (.i .i64))]
abbrev Ml:J (X × Sh):=[(0,.a [.b,.o,.o,.o,.u,.u,.u,.u,.u,.b]),(1,.c (.i .i64))]
abbrev Li:J (X × Sh):=[(0,.a [.o,.o]),(1,.c (.i .i64))]
abbrev KT:J (X × Sh):=[(0,.c (.v))]
abbrev Lj:J (X × Sh):=[(0,.a [.o,.o]),(1,.c (.b))]
abbrev L0:J (X × Sh):=[(0,.a [.o,.u,.o,.s])]
abbrev Ng:J (X × Sh):=[(0,.c (.s)),(1,.c (.i .i64))]
abbrev L1:J (X × Sh):=[(0,.c (.i .u64)),(1,.c (.i .i64))]
theorem ai{f:FuncId}{fn:Func}(hf:qe.funcs[f]?=S fn)(an:An){cs:J (X × Sh)}{args:J N}{K:xp cs}{w:Y}{p:Prop}(hb:fn.body=S (po fn):=by rfl)(hok:IX qe fn (po fn) an cs args.length=true:=by kernel_rfl)(e:p=L8 qe fn (po fn) an cs args K w:=by kernel_rfl):Fr (M5 f args w cs K) p:=
 by unfold Fr M5;exact N3 hf an cs args K hb hok e
def An.w:An:= .t I .u .u
def An.v(a:An):An:= .t I .u a
def An.x(a:An):An:= .t I a .u
def An.y(a b:An):An:= .t I a b
def An.z(p:bq):An:= .r I p
def bq.o(a b:X)(p:bq):bq:= .one a b p
def bq.e(a:X)(p:bq):bq:= .alt a p .none
def bq.f(a:X)(p q:bq):bq:= .alt a p q
def An.LG:An:= .v (.t (S []) .u .u)
def An.Iq:An:= .v (.y .w (.x (.x .w)))
def An.Ir:An:= .v (.y (.v (.x .w)) .w)
def bq.LH:bq:= .o 13 0 (.o 14 0 .done)
def An.Kw:An:= .y (.v (.x .w)) (.v .w)
def bq.Mh:bq:= .e 7 (.e 10 (.e 11 .done))
def An.J5:An:= .x (.v (.y .w (.v (.x .w))))
def An.Kv:An:= .v .Ir
def bq.MQ:bq:= .o 7 0 (.o 8 0 (.e 9 .done))
def An.MR:An:= .r (S [(26,.c .b)]) .done
def An.MS:An:= .r (S [(18,.c .b)]) .done
def An.MT:An:= .r (S [(42,.c .b)]) .done
def bq.Mf:bq:= .o 5 0 (.o 6 0 (.e 7 .done))
def bq.Mg:bq:= .o 6 0 (.o 7 0 (.e 8 .done))
def An.J6:An:= .y (.v .w) (.x (.x (.v .w)))
def bq.Lc:bq:= .e 18 (.e 19 (.o 20 0 .done))
def bq.Ld:bq:= .e 16 (.e 17 (.o 18 0 .done))
def bq.MN:bq:= .o 5 0 (.o 6 0 (.o 7 0 .done))
def bq.MO:bq:= .o 9 0 (.e 10 (.o 11 0 .done))
def bq.MP:bq:= .o 9 0 (.o 10 0 (.e 11 .done))
def An.ML:An:= .y .w (.v (.y .w (.v (.x .w))))
def bq.LF:bq:= .o 10 0 (.e 11 (.o 12 0 .done))
def bq.MM:bq:= .o 10 0 (.o 11 0 (.e 12 .done))
def An.Md:An:= .v (.y (.v (.x .w)) (.v (.v .w)))
def An.MK:An:= .v (.y .w (.x (.x (.v (.v .w)))))
def An.Me:An:= .y (.v .w) (.x (.x (.v (.x .w))))
def bq.MI:bq:= .o 4 0 (.o 5 0 (.e 6 (.o 7 0 .done)))
def bq.MJ:bq:= .o 5 0 .Mg
def bq.MH:bq:= .e 7 .LF
def bq.MG:bq:= .o 4 64 (.o 5 64 (.o 6 0 (.e 7 .done)))
def An.MF:An:= .y (.r (S [(17,.c .b)]) .done) (.x .w)
def An.LD:An:= .y (.r (S [(14,.c .b)]) .done) (.x .w)
def An.Mb:An:= .y (.r (S [(19,.c .b)]) .done) (.x .w)
def bq.ME:bq:= .e 9 (.e 10 (.o 11 0 (.o 12 0 (.e 13 .done))))
def An.NV:An:= .v (.y .J5 (.v (.v .w)))
def An.NW:An:= .v (.v (.y .J5 (.v .w)))
def bq.NT:bq:= .o 9 0 (.o 10 0 (.o 11 0 (.o 12 0 (.o 13 0 .done))))
def bq.NU:bq:= .e 1 (.e 6 .MH)
def An.Lb:An:= .v (.y (.y (.r (S [(9,.c .b)]) .done) (.x .w)) .w)
def bq.NS:bq:= .e 8 .ME
def An.NQ:An:= .v (.y (.y (.r (S [(15,.c .b)]) .done) (.x .w)) .w)
def bq.NR:bq:= .o 4 128 (.o 5 128 (.o 6 128 (.o 7 0 (.o 8 0 .done))))
def bq.MD:bq:= .o 4 0 (.o 5 0 (.o 6 0 .MQ))
def An.MC:An:= .v (.t (S [(0,.c (.i .u64)),(2,.c (.i .i64))]) .w .u)
def An.NN:An:= .v (.y (.v (.x .w)) (.y (.v (.v (.x .w))) (.y (.v .w) .w)))
def bq.NO:bq:= .o 1 32 (.o 2 32 (.o 3 32 (.o 4 32 (.o 5 0 (.e 6 .done)))))
def bq.NP:bq:= .o 8 0 (.o 9 0 (.o 10 0 (.o 11 0 (.e 12 (.o 13 0 .done)))))
def bq.NM:bq:= .o 7 256 (.o 8 0 (.o 9 0 .MM))
def An.NL:An:= .v (.x (.t (S [(5,.c (.i .i64))]) (.y (.v .w) (.x .w)) .u))
def An.Ma:An:= .z (.o 0 16 (.o 1 16 (.o 2 16 (.o 3 16 (.o 4 0 (.e 5 .done))))))
def bq.NK:bq:= .e 17 (.e 18 (.o 19 0 (.o 20 0 (.e 21 (.o 22 0 (.o 23 0 .done))))))
def bq.NI:bq:= .f 7 (.e 9 (.e 10 (.e 11 .done))) (.e 9 .Mh)
def bq.NJ:bq:= .f 7 (.e 8 (.e 10 (.e 11 .done))) (.e 8 .Mh)
def bq.NH:bq:= .o 4 8 (.o 5 8 (.hold 3 64 511 (.e 6 .MQ)))
def bq.NG:bq:= .o 5 0 (.e 6 (.o 7 0 (.o 8 512 (.o 9 1024 (.o 10 0 (.o 11 0 .done))))))
def An.NF:An:= .y .Ma .w
def An.ND:An:= .z (.o 0 48 (.o 1 48 (.o 2 48 (.o 3 48 (.o 4 0 (.o 5 0 (.e 6 .done)))))))
def bq.NA:bq:= .o 10 16384 (.o 11 16384 (.o 12 16384 (.o 13 16384 (.o 14 0 (.e 15 .done)))))
def bq.NB:bq:= .o 16 0 .NK
def An.NC:An:= .v (.x (.t (S [(5,.c (.i .i64))]) .Me .u))
def bq.Nz:bq:= .o 8 14336 (.o 9 14336 (.o 10 14336 (.o 11 0 (.o 12 0 (.o 13 0 (.e 14 .done))))))
def An.MA:An:= .y (.z (.o 0 48 (.o 1 48 (.o 2 48 (.o 3 48 (.o 4 32 (.o 5 0 (.e 6 .done)))))))) .w
def An.MB:An:= .v (.x (.t (S [(5,.c .s),(6,.c (.i .i64))]) .J6 .u))
def An.Ny:An:= .z (.o 0 48 (.o 1 48 (.o 2 48 (.o 3 48 (.o 4 32 .Mf)))))
def An.Nw:An:= .y (.v (.x (.t (S [(6,.c (.i .i64))]) .Me .u))) .w
def bq.Nv:bq:= .e 9 (.o 10 0 (.o 11 12288 (.o 12 73728 (.o 13 196608 .Ld))))
def An.Nu:An:= .v .Nw
def bq.Nt:bq:= .e 11 (.o 12 0 (.o 13 49152 (.o 14 294912 (.o 15 786432 .Lc))))
def An.g24:An:= .x (.x (.v (.x (.t (S [(3,.c .s),(5,.c (.i .i64))]) .J6 .u))))
def An.g23:An:= .v (.y (.v (.x (.t (S [(8,.c (.i .i64))]) (.v (.y .w (.x (.x (.v (.v (.x .w))))))) .u))) .w)
def An.g22:An:= .z (.o 0 240 (.o 1 240 (.o 2 240 (.o 3 240 (.o 4 224 .MJ)))))
def An.g20:An:= .z (.o 0 238 (.o 1 228 (.o 2 224 (.o 3 224 (.o 4 224 (.o 5 64 .Mg))))))
def An.g21:An:= .z (.o 0 240 (.o 1 240 (.o 2 240 (.o 3 240 (.o 4 224 (.o 5 64 .Mg))))))
def An.g18:An:= .z (.o 0 112 (.o 1 112 (.o 2 112 (.o 3 112 .MD))))
def An.g19:An:= .z (.o 0 496 (.o 1 496 (.o 2 496 (.o 3 496 .MD))))
def An.g17:An:= .y (.v (.x (.v (.x (.z (.o 0 12 (.o 1 12 (.o 2 16 (.o 3 16 (.o 4 0 .MN)))))))))) (.v .w)
def An.g16:An:= .v (.v (.y (.v (.x .w)) (.v (.y (.z (.o 0 58 (.o 1 56 (.o 2 56 (.o 3 16 .MI))))) (.v .w)))))
def An.g15:An:= .y (.z (.o 0 48 (.o 1 48 (.o 2 48 (.o 3 48 (.o 4 0 .NG)))))) .w
def An.g14:An:= .z (.o 0 1022 (.o 1 480 (.o 2 480 (.o 3 480 (.o 4 480 (.o 5 64 (.o 6 0 (.o 7 0 (.e 8 (.e 9 .MM))))))))))
def An.g13:An:= .z (.o 0 1920 (.o 1 1920 (.o 2 1920 (.o 3 1920 (.o 4 1920 (.o 5 1920 (.o 6 1920 (.o 7 0 (.o 8 0 .MP)))))))))
def An.g12:An:= .v (.v (.y (.v (.x .w)) (.y (.v (.x (.t (S [(5,.c (.i .i64)),(6,.c (.i .i64))]) (.y (.v .w) (.x (.x (.v (.v (.x .w)))))) .u))) (.v .w))))
def An.g11:An:= .v (.x (.z (.o 0 240 (.o 1 240 (.o 2 240 (.o 3 240 (.o 4 256 (.o 5 256 (.o 6 256 (.o 7 256 (.o 8 0 (.o 9 0 (.o 10 0 (.o 11 0 .done))))))))))))))
def An.g10:An:= .y (.z (.o 0 1840 (.o 1 1840 (.o 2 1840 (.o 3 1840 (.o 4 1792 (.o 5 1792 (.o 6 1792 (.o 7 1792 (.o 8 1024 (.o 9 1024 .MM))))))))))) .w
def An.g9:An:= .y (.z (.o 0 816 (.o 1 816 (.o 2 816 (.o 3 816 (.o 4 768 (.o 5 768 (.o 6 768 (.o 7 768 (.o 8 0 .NT)))))))))) (.x .w)
def bq.g8:bq:= .o 9 32768 (.o 10 32768 (.f 11 (.o 12 32768 (.o 13 49152 (.o 14 98304 (.e 15 (.e 16 (.o 17 0 .done)))))) (.e 15 (.e 11 (.o 12 0 (.o 13 16384 (.o 14 65536 (.e 16 (.o 17 0 .done)))))))))
def An.g7:An:= .z (.o 0 16256 (.o 1 16256 (.o 2 16256 (.o 3 16256 (.o 4 16256 (.o 5 16256 (.o 6 16256 (.o 7 14336 .Nz))))))))
def bq.g6:bq:= .o 0 528 (.o 1 528 (.o 2 528 (.o 3 528 (.o 4 512 (.f 5 (.o 6 512 (.o 7 768 (.o 8 1536 (.e 9 (.e 10 (.o 11 0 .done)))))) (.e 9 (.e 5 (.o 6 0 (.o 7 256 (.o 8 1024 (.e 10 (.o 11 0 .done))))))))))))
def An.g5:An:= .y .g22 .g22
def An.g4:An:= .v (.y (.v (.x .w)) (.y (.v (.x (.t (S [(5,.c (.i .i64))]) (.y (.v .w) (.x (.x (.y (.z (.o 0 242 (.o 1 240 (.o 2 240 (.o 3 240 (.o 4 32 (.o 5 0 (.o 6 0 (.o 7 0 (.o 8 0 .done)))))))))) (.x .w))))) .u))) .w))
def An.g3:An:= .y (.z (.o 0 16368 (.o 1 16368 (.o 2 16368 (.o 4 6152 (.o 5 6152 (.o 6 6152 (.hold 3 16256 65535 (.hold 7 6144 57343 (.o 8 6144 (.o 9 6144 (.hold 10 6144 57343 (.e 11 (.e 12 (.e 13 (.o 14 0 (.o 15 0 (.e 16 .done)))))))))))))))))) .w
def An.g2:An:= .r (S [(4,.c .q)]) (.o 0 4224 (.o 1 4224 (.o 2 4224 (.o 3 4224 (.o 4 4224 (.o 5 4224 (.o 6 4224 (.o 7 4096 (.f 8 (.o 9 4096 (.o 10 6144 (.o 11 12288 (.e 12 (.e 13 (.o 14 0 .done)))))) (.e 12 (.e 8 (.o 9 0 (.o 10 2048 (.o 11 8192 (.e 13 (.o 14 0 .done))))))))))))))))
def An.g1:An:= .r (S [(54,.c .b)]) (.o 0 0 (.o 1 0 (.o 2 0 (.o 3 0 (.o 4 0 (.o 5 2089472 (.o 6 2089472 (.o 7 2089472 (.o 8 2089472 (.o 9 2088960 (.o 10 2088960 (.o 11 2088960 (.o 12 2088960 (.o 13 131072 (.o 14 131072 (.o 15 131072 (.o 16 131072 (.o 17 0 (.o 18 0 (.o 19 0 (.o 20 0 (.o 21 0 (.o 22 0 (.o 23 0 .done))))))))))))))))))))))))
def An.g0:An:= .r (S [(4,.c .q),(5,.c .b)]) (.o 0 49648 (.o 1 49648 (.o 2 49648 (.o 3 49648 (.o 4 49152 (.o 5 49152 (.o 6 49152 (.o 7 49152 (.o 8 49152 (.f 9 (.o 10 49152 (.o 11 61440 (.o 12 122880 (.o 13 245760 (.f 14 (.e 15 .Ld) (.e 15 (.e 14 .Ld))))))) (.f 14 (.f 9 (.o 10 32768 (.o 11 45056 (.o 12 106496 (.o 13 229376 (.e 15 .Ld))))) (.e 15 .Nv)) (.e 15 (.f 9 (.o 10 16384 (.o 11 28672 (.o 12 90112 (.o 13 212992 (.e 14 .Ld))))) (.e 14 .Nv))))))))))))))
def Vi:=λa b c(d e:Sl)f(g:Sl)(K:W->Pw)=>oG 4 [.agg #[.z a,.z b,.z c,d.v,e.v,.z f],g.v] r1 K
def T8:=λa b c(d:Sl)(K:O->O->O->Sl->Pw)=>oG 6 [.agg #[.z a,.z b,.z c,d.v]] [(0,.a [.o,.o,.o,.s])] K
def Vj:=λa b c(d:Sl)(K:qg qf->O->Pw)=>oG 7 [.agg #[.z a,.z b,.z c,d.v]] r5 K
def Vk:=λa b c(d:Sl)(K:qg qf->O->Pw)=>oG 8 [.agg #[.z a,.z b,.z c,d.v]] r5 K
def Vl:=λa b c d e f g h(K:O->O->O->Sl->Pw)=>oG 10 [.pointer a,.z b,.agg #[.z c,.z d,.z e,.z f,.z g,.z h]] L0 K
def Vm:=λa b c(d:Sl)e f g(h:Sl)(K:W->Pw)=>oG 11 [.agg #[.z a,.y b,.z c,d.v],.agg #[.z e,.y f,.z g,h.v]] r1 K
def T9:=λa b c d e f g h(K:O->O->O->Sl->Pw)=>oG 12 [.pointer a,.z b,.agg #[.z c,.z d,.z e,.z f,.z g,.z h]] L0 K
def Vn:=λa b(K:O->O->Pw)=>oG 13 [.pointer a,.z b] r6 K
def Vo:=λa b(K:O->O->Pw)=>oG 14 [.pointer a,.z b] r6 K
def Vp:=λa b(K:W->Pw)=>oG 15 [.pointer a,.z b] r1 K
def Ua:=λa b(K:W->Pw)=>oG 16 [.pointer a,.z b] r1 K
def Vq:=λa b c(d e:Sl)f(K:O->O->O->Sl->Sl->O->Pw)=>oG 19 [.agg #[.z a,.z b,.z c,d.v,e.v,.z f]] [(0,.a [.o,.o,.o,.s,.s,.o])] K
def SQ:=λa b c(d e:Sl)f(K:qg qf->O->Pw)=>oG 20 [.agg #[.z a,.z b,.z c,d.v],e.v,.z f] r5 K
def RE:=λa b c d e(K:O->O->O->O->O->O->Sl->O->O->W->W->Pw)=>oG 21 [.pointer a,.agg #[.z b,.z c,.z d,.z e]] r9 K
def Vr:=λ(a b:Sl)(K:W->Pw)=>oG 22 [a.v,b.v] r1 K
def Ub:=λa(K:Sl->Pw)=>oG 23 [.pointer a] r2 K
def Uc:=λa(K:Sl->Pw)=>oG 24 [.pointer a] r2 K
def SV:=λ(a b:Sl)(K:W->Pw)=>oG 25 [a.v,b.v] r1 K
def Tv:=λa b(K:Sl->Pw)=>oG 26 [.pointer a,.z b] r2 K
def R8:=λa(K:Sl->Pw)=>oG 27 [.pointer a] r2 K
def SZ:=λ(K:W->Pw)=>oG 28 [] r1 K
def Vs:=λa b c(d:Sl)(K:W->Pw)=>oG 34 [.agg #[.z a,.z b,.z c,d.v]] r1 K
def Ud:=λ(K:qg qf->Pw)=>oG 35 [] r7 K
def Tw:=λ(K:qg qf->Pw)=>oG 36 [] r7 K
def Ss:=λ(K:qg qf->Pw)=>oG 37 [] r7 K
def Vt:=λa(K:qg qf->O->Pw)=>oG 38 [.z a] r5 K
def Vu:=λa(K:qg qf->O->Pw)=>oG 39 [.z a] r5 K
def Ue:=λa b(K:O->O->Pw)=>oG 40 [.pointer a,.z b] r6 K
def Su:=λa b c d(K:O->Pw)=>oG 41 [.pointer a,.z b,.z c,.z d] r0 K
def S3:=λa b c(K:O->O->Pw)=>oG 42 [.pointer a,.z b,.z c] r6 K
def S5:=λa b(K:O->Pw)=>oG 43 [.pointer a,.z b] r0 K
def S7:=λa b(K:O->W->Pw)=>oG 44 [.pointer a,.z b] r4 K
def Vv:=λa(K:qg qf->O->Pw)=>oG 45 [.z a] r5 K
def Vw:=λa(K:qg qf->O->Pw)=>oG 46 [.z a] r5 K
def Uf:=λa b(K:O->O->Pw)=>oG 47 [.pointer a,.z b] r6 K
def Sv:=λa b c(K:Pw)=>oG 48 [.pointer a,.z b,.z c] r3 K
def Ug:=λa b c(K:O->O->Pw)=>oG 49 [.pointer a,.z b,.z c] r6 K
def Tx:=λa b(K:O->Pw)=>oG 50 [.pointer a,.z b] r0 K
def S8:=λa b(K:O->W->Pw)=>oG 51 [.pointer a,.z b] r4 K
def Vx:=λa(K:Sl->Pw)=>oG 52 [.pointer a] r2 K
def Vy:=λa b(K:O->O->O->O->O->O->O->O->O->O->O->O->O->Pw)=>oG 56 [.pointer a,.z b] [(0,.a [.o,.o,.o,.o,.u,.u,.u,.u,.u,.u,.u,.u]),(1,.c (.i .i64))] K
def Vz:=λa(K:O->W->Pw)=>oG 62 [.pointer a] [(0,.c (.i .u64)),(1,.c (.b))] K
def Uh:=λa b(K:Sl->Pw)=>oG 63 [.pointer a,.z b] r2 K
def Sy:=λa b(K:O->W->Pw)=>oG 65 [.pointer a,.z b] r4 K
def Ui:=λa b(K:W->Pw)=>oG 66 [.pointer a,.z b] r1 K
def VA:=λa(K:O->Pw)=>oG 67 [.pointer a] r0 K
def VB:=λ(a b:Sl)(K:W->Pw)=>oG 68 [a.v,b.v] r1 K
def Ty:=λa b(K:W->Pw)=>oG 69 [.pointer a,.z b] r1 K
def VC:=λa b c d e f g(K:W->Pw)=>oG 70 [.pointer a,.agg #[.z b,.z c,.z d,.z e,.z f,.z g]] r1 K
def VD:=λa b c d e f g h(K:O->Pw)=>oG 71 [.pointer a,.z b,.agg #[.z c,.z d,.z e,.z f,.z g,.z h]] r0 K
def VE:=λa b c d e f g(K:O->Pw)=>oG 72 [.pointer a,.agg #[.z b,.z c,.z d,.z e,.z f,.z g]] r0 K
def VF:=λa b c d e f g h i(K:O->Pw)=>oG 73 [.pointer a,.z b,.z c,.agg #[.z d,.z e,.z f,.z g,.z h,.z i]] r0 K
def VG:=λa b c d e f g(K:O->Pw)=>oG 74 [.pointer a,.agg #[.z b,.z c,.z d,.z e,.z f,.z g]] r0 K
def VH:=λa b(K:O->O->W->O->Pw)=>oG 75 [.pointer a,.z b] Mk K
def Tz:=λa b c(K:O->Pw)=>oG 76 [.pointer a,.z b,.y c] r0 K
def VI:=λa b(K:O->O->W->O->Pw)=>oG 77 [.pointer a,.z b] Mk K
def Tg:=λa b c(K:O->Pw)=>oG 78 [.pointer a,.z b,.y c] r0 K
def VJ:=λa b(K:W->Pw)=>oG 79 [.pointer a,.z b] r1 K
def Uj:=λ(K:O->O->O->Sl->Pw)=>oG 91 [] [(0,.a [.o,.o,.o,.s])] K
def VK:=λ(a:Sl)(K:Sl->Pw)=>oG 92 [a.v] r2 K
def VL:=λa(K:qg qf->O->Pw)=>oG 93 [.z a] r5 K
def VM:=λa(K:qg qf->O->Pw)=>oG 94 [.z a] r5 K
def VN:=λa(K:qg qf->O->Pw)=>oG 95 [.z a] r5 K
def VO:=λa b c d e(K:W->Pw)=>oG 96 [.agg #[.z a,.z b,.z c,.z d],.z e] r1 K
def VP:=λa b c d e(K:O->O->O->O->O->O->Sl->O->O->W->W->Pw)=>oG 97 [.pointer a,.agg #[.z b,.z c,.z d,.z e]] r9 K
def VQ:=λa b(K:O->O->O->O->O->O->Sl->O->O->W->W->Pw)=>oG 98 [.pointer a,.z b] r9 K
def VR:=λa(K:W->Pw)=>oG 99 [.pointer a] r1 K
def VS:=λa b(K:O->W->Pw)=>oG 100 [.pointer a,.z b] r4 K
def Uk:=λa b c(d:Sl)(K:O->O->O->Sl->Pw)=>oG 107 [.agg #[.z a,.y b,.z c,d.v]] L0 K
def X8:=λa(K:W->Pw)=>oG 116 [.z a] r1 K
def VT:=λ(a:Sl)(b:N)(K:W->Pw)=>oG 117 [a.v,b] r1 K
def VU:=λ(a:Sl)b(K:Sl->Pw)=>oG 118 [a.v,.z b] r2 K
def VV:=λ(K:qg qf->Pw)=>oG 119 [] r7 K
def Ul:=λa b c d e f g h i(K:O->Pw)=>oG 120 [.pointer a,.agg #[.z b,.z c],.agg #[.z d,.z e,.z f,.y g,.y h,.z i]] r0 K
def VW:=λa b c(K:O->Pw)=>oG 121 [.pointer a,.agg #[.z b,.z c]] r0 K
def Um:=λa(K:W->Pw)=>oG 122 [.z a] r1 K
def TA:=λa b(K:W->Pw)=>oG 123 [.pointer a,.z b] r1 K
def RF:=λa b(K:qg qf->Pw)=>oG 124 [.pointer a,.z b] r7 K
def Tj:=λa b(K:Pw)=>oG 125 [.pointer a,.z b] r3 K
def TB:=λa b(K:O->W->Pw)=>oG 126 [.pointer a,.z b] r4 K
def VX:=λa(K:O->W->Pw)=>oG 127 [.pointer a] r4 K
def RQ:=λa b c(K:Pw)=>oG 128 [.pointer a,.z b,.z c] r3 K
def RA:=λa(K:O->Pw)=>oG 129 [.z a] [(0,.c (.i .u64))] K
def Un:=λa b c d e f g h i(K:O->Pw)=>oG 130 [.pointer a,.agg #[.z b,.z c],.agg #[.z d,.z e,.z f,.y g,.y h,.z i]] r0 K
def VY:=λa b c(K:O->Pw)=>oG 131 [.pointer a,.agg #[.z b,.z c]] r0 K
def Uo:=λa(K:W->Pw)=>oG 132 [.z a] r1 K
def Up:=λa b(K:W->Pw)=>oG 133 [.pointer a,.z b] r1 K
def R9:=λa b(K:W->Pw)=>oG 134 [.pointer a,.z b] r1 K
def Tm:=λa b(K:Pw)=>oG 135 [.pointer a,.z b] r3 K
def VZ:=λa(K:O->W->Pw)=>oG 136 [.pointer a] r4 K
def Tn:=λa b(K:Pw)=>oG 137 [.pointer a,.z b] r3 K
def Uq:=λa(K:Sl->Pw)=>oG 138 [.pointer a] r2 K
def Ur:=λa b(K:O->O->O->O->O->O->O->O->O->O->O->O->O->Pw)=>oG 140 [.pointer a,.z b] [(0,.a [.o,.o,.o,.o,.u,.u,.u,.u,.u,.u,.u,.u]),(1,.c (.i .i64))] K
def X9:=λ(a:Sl)b(K:W->Pw)=>oG 146 [a.v,.z b] r1 K
def Us:=λa(K:Sl->Pw)=>oG 147 [.pointer a] r2 K
def V0:=λa(K:O->O->Pw)=>oG 148 [.z a] [(0,.a [.o,.o])] K
def Rq:=λa b c(K:O->O->O->O->O->O->O->O->W->Pw)=>oG 149 [.pointer a,.z b,.z c] [(0,.a [.o,.o]),(1,.a [.o,.o,.o,.u,.u,.o]),(2,.c (.b))] K
def V1:=λa(K:O->Pw)=>oG 150 [.pointer a] r0 K
def V3:=λa(K:O->Pw)=>oG 151 [.pointer a] r0 K
def V4:=λa(K:O->Pw)=>oG 152 [.pointer a] r0 K
def V5:=λa(K:O->Pw)=>oG 153 [.pointer a] r0 K
def V6(d1:qg qf)(K:O->Pw)(w:Y):Prop:=okF qe 154 (Calls qe 154 #[.pointer d1] w λen w'=>∃r2,en= .returned (.z r2)/\K r2 w')
def V7:=λa(K:O->Pw)=>oG 155 [.pointer a] r0 K
def V8:=λa(K:O->Pw)=>oG 156 [.pointer a] r0 K
def V9:=λa(K:O->Pw)=>oG 157 [.pointer a] r0 K
def Wa:=λa(K:O->Pw)=>oG 158 [.pointer a] r0 K
def Wb:=λa(K:O->Pw)=>oG 159 [.pointer a] r0 K
def Wc:=λa(K:O->Pw)=>oG 160 [.pointer a] r0 K
def Wd:=λa(K:O->Pw)=>oG 161 [.pointer a] r0 K
def We:=λa(K:O->Pw)=>oG 162 [.pointer a] r0 K
def Wf:=λa(K:O->Pw)=>oG 163 [.pointer a] r0 K
def Wg:=λa(K:O->Pw)=>oG 164 [.pointer a] r0 K
def Wh:=λa(K:O->Pw)=>oG 165 [.pointer a] r0 K
def Wi:=λa(K:O->Pw)=>oG 166 [.pointer a] r0 K
def Rp:=λa b(K:O->O->O->O->O->O->Pw)=>oG 167 [.pointer a,.z b] [(0,.a [.o,.o,.o,.u,.u,.o])] K
def TC:=λa(K:O->Pw)=>oG 168 [.z a] r0 K
def Wj:=λa b c d e f g h i(K:O->Pw)=>oG 169 [.pointer a,.z b,.agg #[.z c,.z d,.z e,.z f,.z g,.z h],.z i] r0 K
def SC:=λa b c(K:O->Pw)=>oG 170 [.pointer a,.z b,.z c] r0 K
def Wk:=λa b c d e f g h(K:O->O->O->O->O->O->O->Pw)=>oG 171 [.agg #[.z a,.z b,.z c,.y d,.y e,.z f],.z g,.y h] r8 K
def Ut:=λa b c d e f g h i(K:Pw)=>oG 172 [.pointer a,.z b,.z c,.agg #[.z d,.z e,.z f,.y g,.y h,.z i]] r3 K
def Wl:=λa b c d e(K:O->Pw)=>oG 173 [.pointer a,.agg #[.z b,.z c],.agg #[.z d,.z e]] r0 K
def Wm:=λa b c d e(K:O->Pw)=>oG 174 [.pointer a,.agg #[.z b,.z c],.agg #[.z d,.z e]] r0 K
def Uu:=λa b c(K:Pw)=>oG 175 [.pointer a,.agg #[.z b,.z c]] r3 K
def Wn:=λa b c(K:Sl->Pw)=>oG 176 [.pointer a,.agg #[.z b,.z c]] r2 K
def TD:=λa b(K:Pw)=>oG 177 [.pointer a,.z b] r3 K
def Sb:=λa b(K:O->Pw)=>oG 178 [.pointer a,.z b] r0 K
def Uv:=λa b(K:O->Pw)=>oG 179 [.pointer a,.z b] r0 K
def Wo:=λa b c(K:O->Pw)=>oG 180 [.pointer a,.z b,.z c] r0 K
def Wp:=λa b c(K:O->W->O->Pw)=>oG 181 [.pointer a,.z b,.bool c] [(0,.c (.i .u64)),(1,.c (.b)),(2,.c (.i .i64))] K
def Uw:=λa b c d e f g h i(K:Pw)=>oG 182 [.pointer a,.z b,.z c,.agg #[.z d,.z e,.z f,.z g,.z h,.z i]] r3 K
def Wq:=λa b c d e f g h i j(K:W->O->O->O->O->O->O->O->O->W->O->Pw)=>oG 183 [.pointer a,.z b,.agg #[.z c,.y d,.y e,.y f,.y g,.y h,.bool i],.bool j] Ml K
def Wr:=λa b c(K:W->O->O->O->O->O->O->O->O->W->O->Pw)=>oG 184 [.pointer a,.z b,.bool c] Ml K
def Ws:=λa b c d e f g h i(K:Pw)=>oG 185 [.pointer a,.z b,.agg #[.z c,.y d,.y e,.y f,.y g,.y h,.bool i]] r3 K
def Wu:=λa b c(K:O->Pw)=>oG 186 [.pointer a,.z b,.z c] r0 K
def Wv:=λa b c d(K:O->Pw)=>oG 187 [.pointer a,.z b,.agg #[.z c,.z d]] r0 K
def To:=λa b(K:O->O->O->Pw)=>oG 188 [.pointer a,.z b] Li K
def TE:=λa b c d e(K:Pw)=>oG 189 [.pointer a,.z b,.z c,.agg #[.z d,.z e]] r3 K
def Ww:=λa b c d(K:O->Pw)=>oG 190 [.pointer a,.z b,.z c,.y d] r0 K
def Wx:=λa b(K:O->O->W->O->Pw)=>oG 191 [.pointer a,.z b] Mk K
def TF:=λa b(K:qg qf->Pw)=>oG 192 [.pointer a,.z b] r7 K
def Wy:=λa b(K:O->O->W->Pw)=>oG 193 [.pointer a,.y b] [(0,.c (.i .i64)),(1,.c (.i .u64)),(2,.c (.b))] K
def TG:=λa b c d(K:O->Pw)=>oG 194 [.pointer a,.z b,.z c,.y d] r0 K
def TH:=λa b(K:W->Pw)=>oG 195 [.pointer a,.z b] r1 K
def Wz:=λa b(K:O->O->W->Pw)=>oG 196 [.pointer a,.y b] [(0,.c (.i .i64)),(1,.c (.i .u64)),(2,.c (.b))] K
def Tq:=λa b c d(K:O->Pw)=>oG 197 [.pointer a,.z b,.z c,.y d] r0 K
def Ya:=λa(K:W->Pw)=>oG 206 [.z a] r1 K
def WA:=λa b c(K:O->O->O->O->O->O->Sl->O->O->W->W->Pw)=>oG 207 [.pointer a,.z b,.z c] r9 K
def WB:=λa b(K:W->Pw)=>oG 208 [.pointer a,.z b] r1 K
def Ux:=λa b(K:O->Pw)=>oG 209 [.pointer a,.z b] r0 K
def Uy:=λa b(K:W->O->Pw)=>oG 210 [.pointer a,.z b] [(0,.c (.b)),(1,.c (.i .i64))] K
def WC:=λa b(K:O->O->O->O->O->O->Sl->O->O->W->Pw)=>oG 211 [.pointer a,.z b] [(0,.a [.o,.o,.o,.o,.u,.o,.s,.o,.o,.b])] K
def WD:=λa b(K:O->Pw)=>oG 212 [.pointer a,.z b] r0 K
def Uz:=λa b(K:O->Pw)=>oG 213 [.pointer a,.z b] r0 K
def WE:=λa(K:O->W->Pw)=>oG 214 [.pointer a] r4 K
def WG:=λa b(K:W->Pw)=>oG 215 [.pointer a,.z b] r1 K
def WH:=λ(a:Sl)(K:Sl->Pw)=>oG 218 [a.v] r2 K
def TI:=λ(a:Sl)(b:N)(K:O->Pw)=>oG 227 [a.v,b] r0 K
def WI:=λa b(K:O->O->Pw)=>oG 228 [.y a,.y b] [(0,.c (.i .u64)),(1,.c (.i .u64))] K
def TJ:=λa b c d e f(K:O->Pw)=>oG 229 [.agg #[.z a,.z b,.z c,.y d,.y e,.z f]] r0 K
def SF:=λa b c(K:W->Pw)=>oG 230 [.pointer a,.agg #[.z b,.z c]] r1 K
def RS:=λa b c(K:O->Pw)=>oG 231 [.pointer a,.agg #[.z b,.z c]] r0 K
def WJ:=λa b c(K:O->Pw)=>oG 232 [.pointer a,.z b,.z c] r0 K
def WK:=λa b c d(K:O->Pw)=>oG 233 [.agg #[.y a,.y b,.y c,.y d]] r0 K
def WL:=λa b(K:O->Pw)=>oG 234 [.pointer a,.z b] r0 K
def SH:=λa b c(K:W->Pw)=>oG 235 [.pointer a,.agg #[.z b,.z c]] r1 K
def UA:=λa b c d e f(K:O->Pw)=>oG 236 [.agg #[.z a,.z b,.z c,.y d,.y e,.z f]] r0 K
def R0:=λa b c(K:O->Pw)=>oG 237 [.pointer a,.agg #[.z b,.z c]] r0 K
def TK:=λa b c d e(K:Pw)=>oG 238 [.pointer a,.z b,.agg #[.z c,.z d],.z e] r3 K
def WM:=λa b c(K:O->Pw)=>oG 239 [.pointer a,.z b,.z c] r0 K
def WN:=λa b(K:Sl->Pw)=>oG 240 [.pointer a,.z b] r2 K
def WO:=λa b(K:O->Pw)=>oG 241 [.pointer a,.z b] r0 K
def UB:=λ(a b:N)(K:Sl->Pw)=>oG 242 [a,b] r2 K
def WQ:=λa(K:N->Pw)=>oG 243 [.map a] KT K
def Yb(a1:O)(a2:O)(b3:O)(b4:O)(K:O->Pw)(w:Y):Prop:=okF qe 244 (Calls qe 244 #[.agg #[.z a1,.z a2],.agg #[.z b3,.z b4]] w λen w'=>∃r5,en= .returned (.z r5)/\K r5 w')
def TL:=λ(a:Sl)(K:Sl->Pw)=>oG 245 [a.v] r2 K
def Ts:=λa b(K:Sl->Pw)=>oG 246 [.agg #[.z a,.map b]] r2 K
def TM:=λa b(K:O->O->W->Pw)=>oG 247 [.pointer a,.z b] Lj K
def R6:=λa b c(K:O->O->O->O->O->O->O->Pw)=>oG 248 [.pointer a,.agg #[.z b,.z c]] r8 K
def UC:=λa b c d e f(K:Sl->O->O->O->O->Pw)=>oG 249 [.agg #[.y a,.z b,.y c],.z d,.z e,.z f] [(0,.c (.s)),(1,.a [.u,.o,.u]),(2,.c (.i .i64))] K
def TN:=λa b(K:Sl->O->Pw)=>oG 250 [.pointer a,.z b] Ng K
def UD:=λa b c d e f g h i(K:Pw)=>oG 251 [.pointer a,.agg #[.z b,.z c],.agg #[.z d,.z e,.z f,.y g,.y h,.z i]] r3 K
def WR:=λa b(K:O->Pw)=>oG 252 [.pointer a,.y b] r0 K
def UE:=λa b c d e f g h(K:O->O->O->O->O->O->O->Pw)=>oG 253 [.agg #[.z a,.z b,.z c,.y d,.y e,.z f],.z g,.y h] r8 K
def WS:=λa b c d e(K:O->Pw)=>oG 254 [.pointer a,.agg #[.z b,.z c],.agg #[.z d,.z e]] r0 K
def WT:=λa b c d e(K:O->Pw)=>oG 255 [.pointer a,.agg #[.z b,.z c],.agg #[.z d,.z e]] r0 K
def TO:=λa b c(K:Pw)=>oG 256 [.pointer a,.agg #[.z b,.z c]] r3 K
def WU:=λa b c(K:Sl->Pw)=>oG 257 [.pointer a,.agg #[.z b,.z c]] r2 K
def Yc:=λ(a:Sl)(K:N->Pw)=>oG 258 [a.v] KT K
def WV:=λa b c(K:O->O->O->Pw)=>oG 259 [.agg #[.y a,.z b,.y c]] [(0,.a [.u,.o,.u])] K
def TP:=λa b(K:Pw)=>oG 260 [.pointer a,.z b] r3 K
def TQ:=λa b(K:O->Pw)=>oG 261 [.pointer a,.z b] r0 K
def TR:=λa b(K:O->Pw)=>oG 262 [.pointer a,.z b] r0 K
def WW:=λa b c(K:O->Pw)=>oG 263 [.pointer a,.z b,.z c] r0 K
def UF:=λa b c d e f g h i j(K:W->O->O->O->O->O->O->O->O->W->O->Pw)=>oG 264 [.pointer a,.z b,.agg #[.z c,.y d,.y e,.y f,.y g,.y h,.bool i],.bool j] Ml K
def TS:=λa(K:Pw)=>oG 265 [.pointer a] r3 K
def UG:=λa b c d e f g h i(K:Pw)=>oG 266 [.pointer a,.z b,.agg #[.z c,.y d,.y e,.y f,.y g,.y h,.bool i]] r3 K
def UH:=λa b c(K:W->O->O->O->O->O->O->O->O->W->O->Pw)=>oG 267 [.pointer a,.z b,.bool c] Ml K
def WX:=λa b c(K:O->W->O->Pw)=>oG 268 [.pointer a,.z b,.bool c] [(0,.c (.i .u64)),(1,.c (.b)),(2,.c (.i .i64))] K
def WY:=λa b c(K:O->Pw)=>oG 269 [.pointer a,.z b,.z c] r0 K
def UI:=λa b c d(K:O->Pw)=>oG 270 [.pointer a,.z b,.agg #[.z c,.z d]] r0 K
def TT:=λa b(K:O->O->O->Pw)=>oG 271 [.pointer a,.z b] Li K
def TU:=λa b c d e(K:Pw)=>oG 272 [.pointer a,.z b,.agg #[.z c,.z d,.z e]] r3 K
def WZ:=λa b c d(K:O->Pw)=>oG 273 [.pointer a,.z b,.z c,.y d] r0 K
def W0:=λa b(K:O->O->W->O->Pw)=>oG 274 [.pointer a,.z b] Mk K
def W4:=λa b c(K:O->O->O->O->O->O->O->Pw)=>oG 275 [.pointer a,.agg #[.z b,.z c]] r8 K
def UJ:=λa b c d e f(K:Sl->O->O->O->O->Pw)=>oG 276 [.agg #[.y a,.z b,.y c],.z d,.z e,.z f] [(0,.c (.s)),(1,.a [.u,.o,.u]),(2,.c (.i .i64))] K
def W5:=λa b c d e f g h i(K:O->Pw)=>oG 277 [.pointer a,.z b,.agg #[.z c,.z d,.z e,.z f,.z g,.z h],.y i] r0 K
def TV:=λa(K:W->Pw)=>oG 278 [.z a] r1 K
def UK:=λa(K:W->Pw)=>oG 279 [.z a] r1 K
def W6:=λa b c d e(K:O->Pw)=>oG 280 [.pointer a,.agg #[.z b,.z c],.agg #[.z d,.z e]] r0 K
def W7:=λa b c(K:O->Pw)=>oG 281 [.pointer a,.agg #[.z b,.z c]] r0 K
def UL:=λa b c(K:O->O->O->O->O->O->O->Pw)=>oG 282 [.pointer a,.agg #[.z b,.z c]] r8 K
def W8:=λa b c d e f g h i j k l(K:W->Pw)=>oG 283 [.agg #[.z a,.z b,.z c,.y d,.y e,.z f],.agg #[.z g,.z h,.z i,.y j,.y k,.z l]] r1 K
def W9:=λa b(K:Sl->Pw)=>oG 284 [.pointer a,.z b] r2 K
def TW:=λa b(K:O->W->Pw)=>oG 285 [.pointer a,.z b] r4 K
def Xa:=λa b(K:Sl->O->Pw)=>oG 286 [.pointer a,.z b] Ng K
def TX:=λa b(K:O->Pw)=>oG 287 [.pointer a,.z b] r0 K
def Xb:=λa b(K:W->Pw)=>oG 288 [.pointer a,.z b] r1 K
def Xc:=λa b(K:W->Pw)=>oG 289 [.pointer a,.z b] r1 K
def Xd:=λa b(K:O->Pw)=>oG 290 [.pointer a,.z b] r0 K
def TY:=λa b(K:W->Pw)=>oG 291 [.pointer a,.z b] r1 K
def UM:=λa b(K:O->Pw)=>oG 292 [.pointer a,.z b] r0 K
def Xe:=λ(a:Sl)b c(K:Sl->Pw)=>oG 293 [a.v,.z b,.z c] r2 K
def Tt:=λ(a:Sl)(K:O->Pw)=>oG 294 [a.v] r0 K
def SN:=λa b(K:O->Pw)=>oG 295 [.bool a,.z b] r0 K
def Xf:=λa b c(K:O->O->W->Pw)=>oG 297 [.pointer a,.z b,.z c] Lj K
def Xg:=λa b(K:O->O->W->Pw)=>oG 298 [.pointer a,.z b] Lj K
def Xh:=λa b c d e(K:Pw)=>oG 299 [.pointer a,.agg #[.z b,.z c,.z d,.z e]] r3 K
def Xi:=λa b(K:O->O->O->W->Pw)=>oG 300 [.pointer a,.z b] [(0,.a [.o,.o,.o]),(1,.c (.b))] K
def UN:=λa b c(K:W->Pw)=>oG 301 [.pointer a,.z b,.z c] r1 K
def UO:=λa b(K:W->Pw)=>oG 302 [.pointer a,.z b] r1 K
def UP:=λa(K:W->Pw)=>oG 303 [.pointer a] r1 K
def Xj:=λa b c d(K:O->Pw)=>oG 304 [.pointer a,.z b,.z c,.z d] r0 K
def Xk:=λ(a:Sl)(b:N)(K:O->Pw)=>oG 305 [a.v,b] r0 K
def Yd:=λa(K:W->Pw)=>oG 306 [.pointer a] r1 K
def Ye:=λa b(K:O->O->Pw)=>oG 313 [.y a,.y b] [(0,.c (.i .u64)),(1,.c (.i .u64))] K
def UQ:=λa(K:W->Pw)=>oG 314 [.z a] r1 K
def Xl:=λa b(K:W->Pw)=>oG 315 [.y a,.z b] r1 K
def UR:=λa(K:W->Pw)=>oG 316 [.z a] r1 K
def US:=λa(K:W->Pw)=>oG 317 [.z a] r1 K
def UT:=λa b(K:O->W->Pw)=>oG 318 [.pointer a,.z b] r4 K
def Xm:=λ(a:Sl)(b:N)(K:O->Pw)=>oG 319 [a.v,b] r0 K
def Yf:=λa b c(d:qf)(K:W->Pw)=>oG 320 [.agg #[.z a,.z b,.z c],.pointer (S d)] r1 K
def UU:=λa b(K:Pw)=>oG 321 [.pointer a,.z b] r3 K
def Xn:=λa(K:O->Pw)=>oG 322 [.y a] r0 K
def UW:=λ(a:Sl)(b:N)(K:Sl->Pw)=>oG 323 [a.v,b] r2 K
def Yg:=λa(b:qf)(K:W->Pw)=>oG 324 [.z a,.pointer (S b)] r1 K
def UX:=λa b(K:W->Pw)=>oG 325 [.y a,.z b] r1 K
def Xo:=λa b(K:O->W->Pw)=>oG 326 [.pointer a,.z b] r4 K
def Yh:=λa(K:Sl->Pw)=>oG 327 [a] r2 K
def Xp(x1:Sl)(cmp2:N)(K:Pw)(w:Y):Prop:=okF qe 328 (Calls qe 328 #[x1.v,cmp2] w λen w'=>en= .returned (.tuple #[])/\K w')
def Xq:=λ(a:Sl)(K:O->Pw)=>oG 330 [a.v] r0 K
def UY:=λa b(K:O->Pw)=>oG 331 [.z a,.z b] r0 K
def TZ(seq1:N)(K:Sl->Pw)(w:Y):Prop:=okF qe 332 (Calls qe 332 #[seq1] w λen w'=>∃r2:Sl,en= .returned r2.v/\K r2 w')
def T0(m1:qg X)(K:N->Pw)(w:Y):Prop:=okF qe 333 (Calls qe 333 #[.map m1] w λen w'=>∃r2:N,en= .returned (r2)/\K r2 w')
def UZ:=λa b c d e f g h i(K:O->O->O->Pw)=>oG 334 [.pointer a,.agg #[.z b,.z c,.z d,.y e,.y f,.z g],.y h,.z i] Li K
def Xr:=λa b c(K:O->Pw)=>oG 335 [.agg #[.y a,.z b,.y c]] r0 K
def Xs:=λa b(K:O->O->Pw)=>oG 336 [.z a,.z b] r6 K
def U0:=λa b(K:O->O->Pw)=>oG 337 [.y a,.z b] L1 K
def Xt:=λa b(c:qf)(K:W->Pw)=>oG 338 [.agg #[.z a,.z b],.pointer (S c)] r1 K
def Xu:=λ(a:Sl)(b:N)(K:W->Pw)=>oG 339 [a.v,b] r1 K
def Xv:=λa b c d e(K:O->Pw)=>oG 340 [.pointer a,.agg #[.z b,.z c],.agg #[.z d,.z e]] r0 K
def Xw:=λ(K:qg qf->Pw)=>oG 341 [] r7 K
def Xx:=λ(K:qg qf->Pw)=>oG 342 [] r7 K
def Xy:=λa b c(K:O->Pw)=>oG 343 [.pointer a,.agg #[.z b,.z c]] r0 K
def U1:=λa b c(K:O->O->O->O->O->O->O->Pw)=>oG 344 [.pointer a,.agg #[.z b,.z c]] r8 K
def Xz:=λ(a:Sl)(b:N)(K:W->Pw)=>oG 345 [a.v,b] r1 K
def XA:=λa b c d e f g h(i:qf)(K:W->Pw)=>oG 346 [.agg #[.z a,.z b,.z c,.z d,.z e,.y f,.y g,.z h],.pointer (S i)] r1 K
def XB:=λa b c d e f g h i j k l(K:W->Pw)=>oG 347 [.agg #[.z a,.z b,.z c,.y d,.y e,.z f],.agg #[.z g,.z h,.z i,.y j,.y k,.z l]] r1 K
def XC:=λa b c d e f g(K:Pw)=>oG 348 [.pointer a,.agg #[.z b,.z c,.z d,.y e,.y f,.z g]] r3 K
def U2:=λa b(K:O->Pw)=>oG 349 [.pointer a,.z b] r0 K
def XD:=λa b(K:W->Pw)=>oG 351 [.pointer a,.z b] r1 K
def XE:=λa b(K:W->Pw)=>oG 352 [.pointer a,.z b] r1 K
def U3:=λa b(K:W->Pw)=>oG 353 [.pointer a,.z b] r1 K
def U4:=λa b(K:O->O->O->O->O->O->O->W->W->Pw)=>oG 354 [.pointer a,.bool b] [(0,.a [.o,.o,.u,.u,.u,.u,.u,.b]),(1,.c (.b))] K
def U5:=λa b c d e f g h i j(K:Pw)=>oG 355 [.pointer a,.agg #[.z b,.z c,.y d,.y e,.y f,.y g,.y h,.bool i],.bool j] r3 K
def U6:=λa b(K:O->Pw)=>oG 356 [.pointer a,.z b] r0 K
def XF:=λ(a:Sl)b(K:W->Pw)=>oG 357 [a.v,.z b] r1 K
def T1:=λa(K:W->Pw)=>oG 358 [.z a] r1 K
def Yi:=λa b(c:qf)(K:W->Pw)=>oG 359 [.agg #[.z a,.map b],.pointer (S c)] r1 K
def XG:=λ(a:Sl)(b:N)(K:W->Pw)=>oG 360 [a.v,b] r1 K
def T2:=λa(K:W->Pw)=>oG 361 [.z a] r1 K
def XH:=λa(K:W->Pw)=>oG 362 [.z a] r1 K
def T3:=λa b(K:qg qf->W->Pw)=>oG 363 [.pointer a,.z b] [(0,.c (.p)),(1,.c (.b))] K
def XI:=λa b(K:O->O->W->Pw)=>oG 364 [.pointer a,.z b] Lj K
def XJ:=λa b c(K:O->Pw)=>oG 365 [.agg #[.y a,.z b,.y c]] r0 K
def XK:=λa b(K:O->O->Pw)=>oG 366 [.z a,.z b] r6 K
def Yj:=λ(a:Sl)(b:N)(K:O->Pw)=>oG 367 [a.v,b] r0 K
def Yk:=λa(K:W->Pw)=>oG 368 [.z a] r1 K
def U7:=λa b c d(e:Sl)(K:W->Pw)=>oG 369 [.agg #[.z a,.z b,.z c,.z d],e.v] r1 K
def T4:=λa(K:N->Pw)=>oG 370 [.z a] KT K
def T5:=λa(K:N->Pw)=>oG 371 [.z a] KT K
def XL:=λ(a:Sl)(b:N)(K:O->Pw)=>oG 372 [a.v,b] r0 K
def Yl:=λa b c(d:qf)(K:W->Pw)=>oG 373 [.agg #[.z a,.z b,.z c],.pointer (S d)] r1 K
def U8:=λa(b:Sl)(K:O->Pw)=>oG 374 [.pointer a,b.v] r0 K
def XM:=λ(a:Sl)b c(K:Sl->Pw)=>oG 375 [a.v,.z b,.z c] r2 K
def U9:=λa b(K:W->Pw)=>oG 376 [.pointer a,.z b] r1 K
def XN:=λ(a:Sl)b c(K:Sl->Pw)=>oG 377 [a.v,.z b,.z c] r2 K
def XO:=λa b c d(e:Sl)(K:O->Pw)=>oG 378 [.pointer a,.agg #[.z b,.z c,.z d],e.v] r0 K
def XP:=λa(K:O->O->Pw)=>oG 382 [.z a] L1 K
def XQ:=λa b c d e f(K:O->O->O->O->O->Pw)=>oG 383 [.agg #[.y a,.y b,.y c,.y d],.z e,.bool f] [(0,.a [.u,.u,.u,.u]),(1,.c (.i .i64))] K
def Ym(s1:Sl)(seq2:N)(K:Sl->Pw)(w:Y):Prop:=okF qe 384 (Calls qe 384 #[s1.v,seq2] w λen w'=>∃r3:Sl,en= .returned r3.v/\K r3 w')
def Va:=λa(K:W->Pw)=>oG 387 [.z a] r1 K
def XR:=λa b c d e f g h(K:O->O->O->Pw)=>oG 391 [.pointer a,.agg #[.z b,.z c,.z d,.y e,.y f,.z g],h] Li K
def Yn:=λa b(K:O->W->Pw)=>oG 392 [.pointer a,.z b] [(0,.c (.i .u64)),(1,.c (.b))] K
def Vb:=λa b c d(K:O->O->Pw)=>oG 393 [.z a,.z b,.z c,.z d] r6 K
def Vd:=λ(K:O->O->O->O->O->O->O->O->O->O->Pw)=>oG 394 [] [(0,.a [.o,.o,.o,.o,.o,.o,.o,.o,.o,.o])] K
def Tu:=λa(K:O->Pw)=>oG 395 [.z a] [(0,.c (.i .u64))] K
def XS:=λ(a:Sl)(b:N)(K:O->Pw)=>oG 397 [a.v,b] r0 K
def Ve:=λ(a:Sl)b(c:Sl)(K:Sl->Pw)=>oG 398 [a.v,.z b,c.v] r2 K
def Vf:=λ(a:Sl)b c(K:Sl->Pw)=>oG 399 [a.v,.z b,.z c] r2 K
def XT:=λ(a:Sl)(b:N)(K:O->Pw)=>oG 400 [a.v,b] r0 K
def XU:=λa b(K:Sl->Pw)=>oG 401 [.pointer a,.z b] r2 K
def XV:=λa b(K:O->W->Pw)=>oG 402 [.pointer a,.z b] r4 K
def XW:=λa b(K:Sl->O->Pw)=>oG 403 [.pointer a,.z b] Ng K
def XX:=λ(a:Sl)(b:N)(K:Sl->Pw)=>oG 404 [a.v,b] r2 K
def Yo:=λa b c d e f g h(i:qf)(K:W->Pw)=>oG 405 [.agg #[.z a,.z b,.y c,.y d,.y e,.y f,.y g,.bool h],.pointer (S i)] r1 K
def Yp:=λa(b:qf)(K:W->Pw)=>oG 406 [.z a,.pointer (S b)] r1 K
def XY:=λ(a:Sl)(b:N)(K:W->Pw)=>oG 407 [a.v,b] r1 K
def Yq:=λa b c d e f g h(i:qf)(K:W->Pw)=>oG 408 [.agg #[.z a,.z b,.y c,.y d,.y e,.y f,.y g,.bool h],.pointer (S i)] r1 K
def XZ:=λ(a:Sl)b c(K:Sl->Pw)=>oG 409 [a.v,.z b,.z c] r2 K
def X0:=λ(a:Sl)b(K:O->Pw)=>oG 410 [a.v,.z b] r0 K
def Yr:=λ(a:Sl)(b:N)(K:O->Pw)=>oG 411 [a.v,b] r0 K
def T6:=λa b c(K:O->O->Pw)=>oG 412 [.y a,.z b,.z c] L1 K
def Ys:=λ(a:Sl)(b:N)(K:W->Pw)=>oG 413 [a.v,b] r1 K
def Yt:=λa(b:qf)(K:W->Pw)=>oG 414 [a,.pointer (S b)] r1 K
def Yu:=λa b c d(e:qf)(K:W->Pw)=>oG 415 [.agg #[.z a,.z b,.z c,.z d],.pointer (S e)] r1 K
def Yv:=λa b c d(e:qf)(K:W->Pw)=>oG 416 [.agg #[.z a,.z b,.z c,.z d],.pointer (S e)] r1 K
def X1:=λ(a:Sl)(b:N)(K:Sl->Pw)=>oG 417 [a.v,b] r2 K
def Yw:=λa b c d(e:qf)(K:W->Pw)=>oG 418 [.agg #[.z a,.z b,.z c,.z d],.pointer (S e)] r1 K
def Yx:=λa(b:qf)(K:W->Pw)=>oG 419 [.z a,.pointer (S b)] r1 K
def X2:=λa(K:W->Pw)=>oG 420 [.z a] r1 K
def X3:=λa b c d e f g(K:O->W->Pw)=>oG 432 [.pointer a,.agg #[.z b,.z c,.z d,.y e,.y f,.z g]] r4 K
def YM(s1:Sl)(r2:O)(K:Pw)(w:Y):Prop:=okF qe 434 (Calls qe 434 #[s1.v,.z r2] w λen w'=>en= .returned (.tuple #[])/\K w')
def Vg:=λ(a:Sl)(b:N)(K:O->Pw)=>oG 435 [a.v,b] r0 K
def Vh:=λa b(K:W->Pw)=>oG 436 [.z a,.z b] r1 K
def Yy:=λ(a:Sl)(b:N)(K:O->Pw)=>oG 437 [a.v,b] r0 K
def X4:=λ(a:Sl)(b:N)(K:O->Pw)=>oG 438 [a.v,b] r0 K
def cd:dF X:=⟨1,λp=>[.q p],λ_=>rfl,λx v h=>by simp only[Oz,Ps,qC]at h;subst h;rfl,qb⟩
def au{α:Type}(ae7:X->α->aH)(ps:J X)(xs:J α):aH:=pa λ_:Unit=>bo (dJ (ps.length=xs.length)::Ot ae7 ps xs)
section
variable{B:X}{w0 w:Y}{R L:J aH}{α β:Type}{E:dF α}{s:Sl}{ae7:X->α->aH}{ps:J X}{xs:J α}
theorem Ow.Fe(h:Ow B w0 w (au ae7 ps xs::R)):ps.length=xs.length/\Ow B w0 w (Ot ae7 ps xs++R):=by obtain⟨_,h⟩:=h.ex;exact Ow.pure h.star
theorem Ow.jj(hl:ps.length=xs.length)(h:Ow B w0 w (Ot ae7 ps xs++R)):Ow B w0 w (au ae7 ps xs::R):=
 Ow.eP () (Ow.br (Ow.cZ hl h))
theorem Io{p:X}{x:α}{j:X}(hp:ps[j]?=S p)(hx:xs[j]?=S x)(R:J aH):(Ot ae7 ps xs++R)[j]?=S (ae7 p x):=by have h1:=(Om.1 hp).1;have h2:=(Om.1 hx).1;rw[Oy (by simp;omega),List.getElem?_zipWith,hp,hx]
theorem Ow.pt(h:Ow B w0 w (au ae7 ps xs::R)){j:X}{p:X}{x:α}(hp:ps[j]?=S p)(hx:xs[j]?=S x):
  Ow B w0 w (ae7 p x::((Ot ae7 ps xs).eraseIdx j++R)):=by
 obtain⟨hl,h⟩:=h.Fe;have h1:=(Om.1 hp).1;have:=h.take j (Io hp hx R)
 rwa [Qh (by simp;omega)]at this
theorem B3{p:X}{x':α}:∀(ps:J X)(xs:J α)(j:X),ps[j]?=S p->Ot ae7 ps (xs.set j x')=(Ot ae7 ps xs).set j (ae7 p x')
 | [],xs,j,h=>by simp at h
 |_::_,[],j,_=>by cases j<;>simp
 |s::ps,r::xs,0,h=>by simp at h;subst h;simp
 |s::ps,r::xs,j+1,h=>by simp[B3 ps xs j (by simpa using h)]
theorem Ow.zm{j:X}{p:X}{x':α}(hl:ps.length=xs.length)(hp:ps[j]?=S p)(h:Ow B w0 w (ae7 p x'::((Ot ae7 ps xs).eraseIdx j++R))):
  Ow B w0 w (au ae7 ps (xs.set j x')::R):=by
 have hj:=(Om.1 hp).1;refine Ow.jj (by simp[hl]) ?_;rw[B3 _ _ _ hp];have hj':j<(Ot ae7 ps xs).length:=by simp;omega
 have h2:Ow B w0 w (ae7 p x'::(Ot ae7 ps xs++R).eraseIdx j):=by rwa [Qh hj']
 have:=h2.put (by simp;omega)
 rwa [List.set_append_left _ _ hj']at this
theorem yx{p:X}{x:α}:∀(ps:J X)(xs:J α),ps.length=xs.length->Ot ae7 (ps++ [p]) (xs++ [x])=Ot ae7 ps xs++ [ae7 p x]
 | [],[],_=>rfl
 | [],_::_,h=>by simp at h
 |_::_,[],h=>by simp at h
 |a::ps,b::xs,h=>by simp[yx ps xs (by simpa using h)]
theorem Ow.nL{p:X}{x:α}(h:Ow B w0 w (ae7 p x::au ae7 ps xs::R)):Ow B w0 w (au ae7 (ps++ [p]) (xs++ [x])::R):=by have h2:Ow B w0 w (au ae7 ps xs::ae7 p x::R):=h.perm (List.Perm.swap _ _ _);obtain⟨hl,h3⟩:=h2.Fe;refine Ow.jj (by simp[hl]) ?_;rw[yx _ _ hl,List.append_assoc];exact h3
theorem Ow.cQ(h:Ow B w0 w (au ae7 ps xs::R)):ps.length=xs.length:=h.Fe.1
theorem Dx{T el t:qh}{inf:qJ}{zv:N}{K:Sl->Y->Prop}[ae4:bY s L α E xs]
  (hu:qe.underlying T=S (.slice el)) (hi:qe.info? el=S inf) (hz:inf.zero=S zv) (hsz:inf.size=E.z) (hzc:zv.cells.size=E.z) (hb:1<=inf.bytes)
  (h:Ow B w0 w L) (hbig:(17*xs.length+16000)*inf.bytes<=2^48) (hK:∀s' w',Ow B w0 w' (af E s' xs::L)->K s' w'):
  bif s.a.isNone then(K z0 w)else(Al w (.cells #[] t) λw2=>∃(t3:Sl)(w4:Y),aP qe [T,T] T (.slice (S w.heap.size.p) 0 0) s.v w2 t3 w4/\K t3 w4):=by
 have hlen:=h.aL s;cases hn:s.a with
 |none=>
  refine aU U ?_;have hx:xs= []:=by
   cases xs with
   |nil=>rfl
   |cons x xs=>obtain⟨_,_,ha,_⟩:=h.get ae4.i ae4.at_ (j:=0) (x:=x) U;rw[hn]at ha;cases ha
  subst hx;exact hK _ w (Ow.cH h)
 |some a=>
  refine aW U ?_;refine h.al λw' h=>?_;generalize w.heap.size=b at h|-;have h2:Ow B w0 w' (af E ⟨S b.p,0,0⟩ []::L):=Ow.empty h;have hx2:=h2.wN (ae4.i+1) (by simpa using ae4.at_)
  (try rw[<-hn])
  exact Ow.app (s:=⟨S b.p,0,0⟩) (xs:=[]) (ys:=xs) hu hi hz hsz hzc hb h2 0 U hx2 hlen (by simpa using hbig) λs' w _ h=>hK _ w h
theorem eF{s:Sl}{ps:J X}{j p:X}{i:O}{ae3:qf->Prop}[ae4:bY s L X cd ps](h:Ow B w0 w L)(hij:i=(j:O))(hj:ps[j]?=S p)
  (hG:∀a,s.a=S a->w.cell? (a.add (i.toNat*1))=S (.q p)->ae3 a):∃a,s.a=S a/\0<=i/\i<(s.len:O)/\ae3 a:=
 h.bX (s:=s) hij hj λa ha h0 _=>hG a ha (h0 _ U)
theorem YN{a b c d e f K w}:Fr (TJ a b c d e f K w) (A2 w [.z a,.z b,.z c,.y d,.y e,.z f] 157 λa b=>∀c:W->Pw,(∀(b:W)(d:Y),(av d a.p 0 [.o,.o,.o,.u,.u,.o] λ(c e f g h i:O)=>∃j,B8 qe .eql 157 (.tmp 35) (.tmp 36) (.agg #[.z c,.z e,.z f,.y g,.y h,.z i]) (.agg #[.z 0,.z 0,.z 0,.y 0,.y 0,.z 0]) j/\bif j then K 0 d else ∀c:W->Pw,(∀(b:W)(d:Y),(bif b then K 40 d else ∀b:W->Pw,(∀(c:W)(d:Y),(bif c then bif c then K 40 d else K 0 d else ∃b,d.z (a.p.add 5) b/\bif b !=0 then ∃b,d.z a.p b/\bif b !=2 then K 40 d else K 0 d else K 0 d)->b c d)->(∃c,d.y (a.p.add 3) c/\bif c !=0 then ∃c,d.z a.p c/\US c (λa c=>b (!a) c) d else b Z d))->c b d)->(bif !b then c (!b) d else ∃b,d.z a.p b/\UR b (λb d=>bif !b then ∃b,d.z (a.p.add 2) b/\c (b !=7) d else c Z d) d))->c b d)->(∃d,b.z a.p d/\bif F (d>0)then ∃d,b.z a.p d/\bif F (d<10)then ∃d,b.z (a.p.add 1) d/\bif F (d>=0)then ∃d,b.z (a.p.add 1) d/\bif F (d<2147483648)then ∃d,b.z (a.p.add 2) d/\UQ d (λb d=>bif b then ∃b,d.y (a.p.add 4) b/\∃e,d.z (a.p.add 5) e/\Xl b e (λa b=>c a b) d else c Z d) b else c Z b else c Z b else c Z b else c Z b)):=ai func229 (.v (.y (.r (S [(3,.c .b)]) .done) (.y (.x (.v (.y .w (.y (.v (.t (S [(38,.c .b)]) .u .u)) (.y .w (.y (.y (.r (S [(50,.c .b)]) .done) .w) (.x .w))))))) .w)))
theorem YO{a b c d e f g h K w}:Fr (UE a b c d e f g h K w) (A2 w [.z a,.z b,.z c,.y d,.y e,.z f] 157 λa b=>A2 b [.z 0,.z 0,.z 0,.y 0,.y 0,.z 0] 157 λb c=>av c a.p 0 [.o,.o,.o,.u,.u,.o] λ(d e f i j k:O)=>TJ d e f i j k (λc d=>bif c !=0 then aD d b.p 0 [.z 0,.z 0,.z 0,.y 0,.y 0,.z 0] λe=>av e b.p 0 [.o,.o,.o,.u,.u,.o] λ(f i j k l m:O)=>K f i j k l m c e else UQ g (λc d=>bif !c then aD d b.p 0 [.z 0,.z 0,.z 0,.y 0,.y 0,.z 0] λc=>av c b.p 0 [.o,.o,.o,.u,.u,.o] λ(e f i j k l:O)=>K e f i j k l 1 c else ∃c,d.z a.p c/\∀e:W->Pw,(∀(c:W)(d:Y),(bif c then aD d b.p 0 [.z 0,.z 0,.z 0,.y 0,.y 0,.z 0] λc=>av c b.p 0 [.o,.o,.o,.u,.u,.o] λ(e f i j k l:O)=>K e f i j k l 41 c else ∃c,d.z a.p c/\UR c (λc d=>∀e:Pw,(∀c:Y,(bif h !=0 then St c (a.p.add 3) (.y h) λd=>av d a.p 0 [.o,.o,.o,.u,.u,.o] λ(e f g h i j:O)=>aD d b.p 0 [.z e,.z f,.z g,.y h,.y i,.z j] λd=>av d b.p 0 [.o,.o,.o,.u,.u,.o] λ(e f g h i j:O)=>K e f g h i j 0 d else av c a.p 0 [.o,.o,.o,.u,.u,.o] λ(a d e f g h:O)=>aD c b.p 0 [.z a,.z d,.z e,.y f,.y g,.z h] λa=>av a b.p 0 [.o,.o,.o,.u,.u,.o] λ(b c d e f g:O)=>K b c d e f g 0 a)->e c)->(bif c then ∃b,d.z (a.p.add 2) b/\St d (a.p.add 2) (.z (da .i64 b g)) λa=>e a else e d)) d)->e c d)->(bif c==0 then e (c==0) d else bif h !=0 then ∃b,d.z a.p b/\US b (λb c=>bif !b then e V c else ∃b,c.y (a.p.add 3) b/\e (b !=0) c) d else e Z d)) d) c):=ai func253 (.v (.v (.y (.x (.v (.y .w (.v (.y .w (.y (.v (.t (S [(21,.c .b)]) .u .u)) (.x .w))))))) (.y .LG (.y (.v .w) .w)))))
theorem YP{a K w}:Fr (UQ a K w) (bif F (a>=0)then K (F (a<=7)) w else K Z w):=ai func314 (.v .w)
theorem YQ{a b K w}:Fr (Xl a b K w) (XP b (λb c d=>bif c==0 then K ((fV .u64 a b)==0) d else K Z d) w):=ai func315 (.v (.v .w))
theorem YR{a K w}:Fr (UR a K w) (bif a==4 then K V w else bif a==5 then K V w else K (a==6) w):=ai func316 (.v .w)
theorem YS{a K w}:Fr (US a K w) (bif a==4 then K V w else K (a==5) w):=ai func317 (.v .w)
theorem YT{a b c d e f g h i j k l K w}:Fr (XB a b c d e f g h i j k l K w) (A2 w [.z a,.z b,.z c,.y d,.y e,.z f] 157 λa b=>A2 b [.z g,.z h,.z i,.y j,.y k,.z l] 157 λb c=>∃d,c.z a.p d/\bif d !=0 then ∃d,c.z a.p d/\∃e,c.z b.p e/\bif d==e then ∃d,c.z (a.p.add 1) d/\∃a,c.z (b.p.add 1) a/\K (d==a) c else K Z c else K Z c):=ai func347 (.v .w)
theorem YU{a K w}:Fr (Xq a K w) (∀b:O->Pw,(∀(c:O)(d:Y),(bif F (c<(a.len:O))then ∃e,a.a=S e/\0<=c/\c<(a.len:O)/\∃a,d.z (e.add (c.toNat*1)) a/\bif a !=0 then K a d else b (qd.wrap (c+1)) d else K 0 d)->b c d)->b 0 w):=ai func330 (.v .g23)
theorem YV{a b K w}:Fr (UY a b K w) (Va a (λc d=>Va b (λd e=>bif c then bif d then K 0 e else K (-1) e else bif d then K 1 e else bif F (a<b)then K (-1) e else bif F (a>b)then K 1 e else K 0 e) d) w):=ai func331 (.v (.v (.v (.y (.v (.x (.y (.v (.x .w)) .w))) (.y (.v (.x .w)) (.y (.v (.x .w)) (.y (.v (.x .w)) .w)))))))
theorem YW{a K w}:Fr (Va a K w) (K (a !=a) w):=ai func387 (.v .w)
theorem YX{a b c d e f g h i j K w}:Fr (UF a b c d e f g h i j K w) (A2 w [.z c,.y d,.y e,.y f,.y g,.y h,.bool i] 274 λc d=>A2 d [.bool Z,.z 0,.z 0,.z 0,.y 0,.y 0,.y 0,.y 0,.y 0,.bool Z] 303 λd e=>U3 a b (λe f=>bif e then aD f d.p 0 [.bool Z,.z 0,.z 0,.z 0,.y 0,.y 0,.y 0,.y 0,.y 0,.bool Z] λe=>av e d.p 0 [.b,.o,.o,.o,.u,.u,.u,.u,.u,.b] λ(g:W)(h i k l m n o p:O)(q:W)=>K g h i k l m n o p q 110 e else U4 a Z (λe f g h i k l m n o=>A2 o [.z 0,.z 0,.y 0,.y 0,.y 0,.y 0,.y 0,.bool Z] 331 λo p=>aD p o.p 0 [.z e,.z f,.y g,.y h,.y i,.y k,.y l,.bool m] λe=>bif n then ∃f,e.z o.p f/\av e c.p 0 [.o,.u,.u,.u,.u,.u,.b] λ(g h i k l m:O)(n:W)=>aD e d.p 0 [.bool V,.z b,.z f,.z g,.y h,.y i,.y k,.y l,.y m,.bool n] λf=>av f d.p 0 [.b,.o,.o,.o,.u,.u,.u,.u,.u,.b] λ(g:W)(h i k l m n o p:O)(q:W)=>K g h i k l m n o p q 0 f else bif j then av e c.p 0 [.o,.u,.u,.u,.u,.u,.b] λ(c f g h i j:O)(k:W)=>U5 a b c f g h i j k V (λa=>aD a d.p 0 [.bool Z,.z 0,.z 0,.z 0,.y 0,.y 0,.y 0,.y 0,.y 0,.bool Z] λa=>av a d.p 0 [.b,.o,.o,.o,.u,.u,.u,.u,.u,.b] λ(b:W)(c d e f g h i j:O)(k:W)=>K b c d e f g h i j k 0 a) e else aD e d.p 0 [.bool Z,.z 0,.z 0,.z 0,.y 0,.y 0,.y 0,.y 0,.y 0,.bool Z] λa=>av a d.p 0 [.b,.o,.o,.o,.u,.u,.u,.u,.u,.b] λ(b:W)(c d e f g h i j:O)(k:W)=>K b c d e f g h i j k 0 a) f) e):=ai func264 .NN
theorem YY{a b c K w}:Fr (UH a b c K w) (A2 w [.bool Z,.z 0,.z 0,.z 0,.y 0,.y 0,.y 0,.y 0,.y 0,.bool Z] 303 λd e=>U3 a b (λe f=>bif e then aD f d.p 0 [.bool Z,.z 0,.z 0,.z 0,.y 0,.y 0,.y 0,.y 0,.y 0,.bool Z] λe=>av e d.p 0 [.b,.o,.o,.o,.u,.u,.u,.u,.u,.b] λ(g:W)(h i j k l m n o:O)(p:W)=>K g h i j k l m n o p 110 e else U4 a V (λe f g h i j k l m n=>A2 n [.z 0,.z 0,.y 0,.y 0,.y 0,.y 0,.y 0,.bool Z] 331 λn o=>aD o n.p 0 [.z e,.z f,.y g,.y h,.y i,.y j,.y k,.bool l] λe=>bif m then ∃f,e.z n.p f/\av e (n.p.add 1) 0 [.o,.u,.u,.u,.u,.u,.b] λ(g h i j k l:O)(m:W)=>aD e d.p 0 [.bool V,.z f,.z b,.z g,.y h,.y i,.y j,.y k,.y l,.bool m] λf=>av f d.p 0 [.b,.o,.o,.o,.u,.u,.u,.u,.u,.b] λ(g:W)(h i j k l m n o:O)(p:W)=>K g h i j k l m n o p 0 f else bif c then U5 a b 0 0 0 0 0 0 Z Z (λa=>aD a d.p 0 [.bool Z,.z 0,.z 0,.z 0,.y 0,.y 0,.y 0,.y 0,.y 0,.bool Z] λa=>av a d.p 0 [.b,.o,.o,.o,.u,.u,.u,.u,.u,.b] λ(b:W)(c d e f g h i j:O)(k:W)=>K b c d e f g h i j k 0 a) e else aD e d.p 0 [.bool Z,.z 0,.z 0,.z 0,.y 0,.y 0,.y 0,.y 0,.y 0,.bool Z] λa=>av a d.p 0 [.b,.o,.o,.o,.u,.u,.u,.u,.u,.b] λ(b:W)(c d e f g h i j:O)(k:W)=>K b c d e f g h i j k 0 a) f) e):=ai func267 .NN
theorem YZ{K w}:Fr (Xw K w) (A2 w [.slice I 0 0,.bool Z] 333 λa b=>K (S a.p) b):=ai func341 (.v .w)
theorem Y0{a b K w}:Fr (XD a b K w) (A2 w [.z b] 3 λb c=>∃d,a=S d/\∃e,c.s d e/\∃d,a=S d/\∃f,c.s d f/\XX f (.func (.func 405) #[] #[.pointer (S b.p)]) (λb c=>∃d,a=S d/\St c d b.v λb=>∃c,a=S c/\∃a,b.s c a/\K (F ((a.len:O)<(e.len:O))) b) c):=ai func351 (.v (.v (.v .w)))
theorem Y1{a b K w}:Fr (U3 a b K w) (A2 w [.z b] 3 λb c=>∃d,a=S d/\∃a,c.s d a/\XY a (.func (.func 408) #[] #[.pointer (S b.p)]) (λa b=>K a b) c):=ai func353 (.v .w)
theorem Y2{a b K w}:Fr (U4 a b K w) (A2 w [.z 0,.z 0,.y 0,.y 0,.y 0,.y 0,.y 0,.bool Z] 331 λc d=>∀e:W->Pw,(∀(b:W)(d:Y),(bif b then aD d c.p 0 [.z 0,.z 0,.y 0,.y 0,.y 0,.y 0,.y 0,.bool Z] λb=>av b c.p 0 [.o,.o,.u,.u,.u,.u,.u,.b] λ(e f g h i j k:O)(l:W)=>K e f g h i j k l Z b else ∃b,a=S b/\∃e,d.s b e/\∃b,e.a=S b/\(0:O)<=0/\0<(e.len:O)/\av d (b.add ((0:O).toNat*8)) 0 [.o,.o,.u,.u,.u,.u,.u,.b] λ(b e f g h i j:O)(k:W)=>A2 d [.z 0,.z 0,.y 0,.y 0,.y 0,.y 0,.y 0,.bool Z] 331 λd l=>aD l d.p 0 [.z b,.z e,.y f,.y g,.y h,.y i,.y j,.bool k] λb=>∃e,a=S e/\∃f,b.s e f/\XZ f 0 1 (λb e=>∃f,a=S f/\St e f b.v λa=>av a d.p 0 [.o,.o,.u,.u,.u,.u,.u,.b] λ(b d e f g h i:O)(j:W)=>aD a c.p 0 [.z b,.z d,.y e,.y f,.y g,.y h,.y i,.bool j] λa=>av a c.p 0 [.o,.o,.u,.u,.u,.u,.u,.b] λ(b c d e f g h:O)(i:W)=>K b c d e f g h i V a) b)->e b d)->(∃c,a=S c/\∃f,d.s c f/\bif (f.len:O)==0 then e V d else ∃c,a=S c/\∃a,d.b (c.add 1) a/\e (!(a==b)) d)):=ai func354 (.v (.y (.y (.r (S [(20,.c .b)]) .done) (.x .w)) (.v (.v .w))))
theorem Y5{a b c d e f g h i j K w}:Fr (U5 a b c d e f g h i j K w) (A2 w [.z b,.z c,.y d,.y e,.y f,.y g,.y h,.bool i] 331 λb c=>Dr c λc=>∃d,a=S d/\∃e,c.s d e/\av c b.p 0 [.o,.o,.u,.u,.u,.u,.u,.b] λ(b d f g h i k:O)(l:W)=>(A2 c [.z b,.z d,.y f,.y g,.y h,.y i,.y k,.bool l] 331 λb c=>(∃d f,aP qe [328,328] 328 e.v (.slice (S b.p) 1 1) c d f/\∃b,a=S b/\(St f b d.v λb=>∃c,a=S c/\(St b (c.add 1) (.bool j) λa=>K a)/\G)/\G)/\G)/\G):=ai func355 (.v (.z (.o 0 1022 (.o 1 8188 (.o 2 704 (.o 3 704 (.o 4 704 (.o 5 704 (.o 6 512 (.o 9 7552 (.e 7 (.e 8 (.o 10 0 (.o 11 0 (.e 12 (.o 13 0 (.o 14 0 (.e 15 .done))))))))))))))))))
theorem Y6{a b c d e f g h i K w}:Fr (Yo a b c d e f g h i K w) (A2 w [.z a,.z b,.y c,.y d,.y e,.y f,.y g,.bool h] 331 λa b=>∃c,b.z a.p c/\∃a,b.z i a/\K (c==a) b):=ai func405 (.v .w)
theorem Y7{a b c d e f g h i K w}:Fr (Yq a b c d e f g h i K w) (A2 w [.z a,.z b,.y c,.y d,.y e,.y f,.y g,.bool h] 331 λa b=>∃c,b.z a.p c/\∃a,b.z i a/\K (c==a) b):=ai func408 (.v .w)
theorem Y8{a b c d e f K w}:Fr (UC a b c d e f K w) (A2 w [.y a,.z b,.y c] 98 λa b=>A2 b [.y 0,.z 0,.y 0] 98 λb c=>av c a.p 0 [.u,.o,.u] λ(g h i:O)=>Xr g h i (λc g=>Xs d e (λd e g=>bif c !=0 then aD g b.p 0 [.y 0,.z 0,.y 0] λh=>av h b.p 0 [.u,.o,.u] λ(i j k:O)=>K z0 i j k c h else bif e !=0 then aD g b.p 0 [.y 0,.z 0,.y 0] λc=>av c b.p 0 [.u,.o,.u] λ(h i j:O)=>K z0 h i j e c else ∀c:W->Pw,(∀(e:W)(g:Y),(bif e then aD g b.p 0 [.y 0,.z 0,.y 0] λc=>av c b.p 0 [.u,.o,.u] λ(e h i:O)=>K z0 e h i 1 c else ∃c,g.y a.p c/\∃e,g.y (a.p.add 2) e/\U0 (qq.wrap (c+e)) d (λc _ e=>Dr e λe=>∃g,e.y a.p g/\∃h,e.z (a.p.add 1) h/\0<=h/\0<=d/\bif F ((qq.wrap (c+(iJ .u64 (qq.wrap f) d)))>(qq.wrap (g+(iJ .u64 1 h))))then aD e b.p 0 [.y 0,.z 0,.y 0] λg=>av g b.p 0 [.u,.o,.u] λ(h i j:O)=>K z0 h i j 81 g else ∀g:O->Sl->O->Pw,(∀(c:O)(e:Sl)(h:O)(i:Y),(bif F (h<f)then A2 i [.y c] 39 λf j=>∃k l,aP qe [278,278] 278 e.v (.slice (S f.p) 1 1) j k l/\0<=d/\g (qq.wrap (c+(iJ .u64 1 d))) k (qd.wrap (h+1)) l else ∃d,i.y a.p d/\St i (a.p.add 2) (.y (qq.wrap (c-d))) λc=>Dr c λc=>av c a.p 0 [.u,.o,.u] λ(a d f:O)=>(aD c b.p 0 [.y a,.z d,.y f] λa=>av a b.p 0 [.u,.o,.u] λ(b c d:O)=>K e b c d 0 a)/\G)->g c e h i)->g c z0 0 e) g)->c e g)->(bif F (f<1)then c V g else c (F (f>64)) g)) g) c):=ai func249 (.v (.v (.v (.y (.x (.v (.y .w (.v (.y .w (.y (.r (S [(36,.c .b)]) .done) (.x .w))))))) (.v (.y (.z (.o 0 28 (.o 1 28 (.o 2 0 (.o 3 0 (.o 4 0 (.o 5 0 (.o 6 0 .done)))))))) (.y (.v (.x .w)) (.v (.y (.v (.x (.t (S [(14,.c (.i .u64)),(17,.c .s),(70,.c (.i .i64))]) .Iq .u))) (.v (.x (.z (.o 0 2 (.o 1 4 (.o 2 0 (.e 3 (.o 4 0 .done)))))))))))))))))
theorem Y9{a b c K w}:Fr (WV a b c K w) (A2 w [.y a,.z b,.y c] 98 λa b=>A2 b [.y 0,.z 0,.y 0] 98 λb c=>St c (a.p.add 2) (.y 0) λc=>av c a.p 0 [.u,.o,.u] λ(a d e:O)=>aD c b.p 0 [.y a,.z d,.y e] λa=>av a b.p 0 [.u,.o,.u] λ(b c d:O)=>K b c d a):=ai func259 (.v (.v .w))
theorem Za{a b c K w}:Fr (Xr a b c K w) (A2 w [.y a,.z b,.y c] 98 λa b=>∀c:W->Pw,(∀(b:W)(d:Y),(bif b then K 1 d else ∃b,d.y a.p b/\∃c,d.z (a.p.add 1) c/\U0 b c (λb c d=>Dr d λd=>bif c !=0 then K 1 d else ∃c,d.y a.p c/\bif b !=c then K 1 d else ∃b,d.y (a.p.add 2) b/\∃c,d.z (a.p.add 1) c/\0<=c/\bif F (b>(iJ .u64 1 c))then K 1 d else K 0 d) d)->c b d)->(∃d,b.z (a.p.add 1) d/\bif F (d<0)then c V b else ∃d,b.z (a.p.add 1) d/\bif F (d>20)then c V b else ∃d,b.y a.p d/\c (F (d>1099511627776)) b)):=ai func335 (.v (.y .MF (.v (.y (.y (.z (.o 0 0 (.o 1 0 (.o 2 0 (.o 3 48 (.o 4 0 (.o 5 0 (.o 6 0 (.o 7 0 (.o 8 0 (.o 9 14336 (.o 10 14336 (.o 11 0 (.o 12 0 (.o 13 0 (.o 14 0 (.o 15 0 .done))))))))))))))))) (.x .w)) .w))))
theorem Zb{a b K w}:Fr (Xs a b K w) (bif a==1 then Vb b 4 20 0 (λa b c=>K a b c) w else bif a==2 then Vb b 1 8 2 (λa b c=>K a b c) w else ∀b:W->Pw,(∀(c:W)(d:Y),(bif c then K 0 80 d else Vd (λb c d e f g h i j k l=>0<=a/\a<10/\∃m,(#[.z b,.z c,.z d,.z e,.z f,.z g,.z h,.z i,.z j,.z k]:qn N)[a.toNat*1]?=S (.z m)/\K m 0 l) d)->b c d)->(bif F (a<0)then b V w else bif F (a>=10)then b V w else Vd (λc d e f g h i j k l m=>0<=a/\a<10/\∃n,(#[.z c,.z d,.z e,.z f,.z g,.z h,.z i,.z j,.z k,.z l]:qn N)[a.toNat*1]?=S (.z n)/\b (n==0) m) w)):=ai func336 (.v (.y (.v .J5) (.y (.y (.r (S [(30,.c .b)]) .done) (.x .w)) .w)))
theorem Zc{a b c d K w}:Fr (Vb a b c d K w) (∀e:W->Pw,(∀(b:W)(c:Y),(bif b then K 0 1 c else K (qd.wrap (a+d)) 0 c)->e b c)->(bif F (a<b)then e V w else e (F (a>c)) w)):=ai func393 (.v (.y .MF .w))
theorem Zd{K w}:Fr (Vd K w) (A2 w [.z 0,.z 0,.z 0,.z 0,.z 0,.z 0,.z 0,.z 0,.z 0,.z 0] 490 λa b=>aD b a.p 0 [.z 0,.z 0,.z 0,.z 5,.z 2,.z 2,.z 6,.z 6,.z 6,.z 0] λb=>av b a.p 0 [.o,.o,.o,.o,.o,.o,.o,.o,.o,.o] λ(a c d e f g h i j k:O)=>K a c d e f g h i j k b):=ai func394 (.v .w)
theorem Ze{a b c d K w}:Fr (WK a b c d K w) (A2 w [.y a,.y b,.y c,.y d] 372 λa b=>∀c:O->Pw,(∀(b:O)(d:Y),(bif F (b<4)then 0<=qd.wrap (3-b)/\qd.wrap (3-b)<4/\∃e,d.cell? (a.p.add ((qd.wrap (3-b)).toNat*1))=S (.y e)/\bif e !=0 then 0<=qd.wrap (3-b)/\qd.wrap (3-b)<4/\∃e,d.cell? (a.p.add ((qd.wrap (3-b)).toNat*1))=S (.y e)/\Xn e (λa c=>K (qd.wrap ((qd.wrap ((qd.wrap ((qd.wrap (3-b))*64))+a))-1)) c) d else c (qd.wrap (b+1)) d else K (-1) d)->c b d)->c 0 b):=ai func233 (.v (.y (.v (.x (.t (S [(5,.c (.i .i64))]) (.v (.y .w (.x (.x (.v (.v (.v (.x .w)))))))) .u))) .w))
theorem Zf{a b K w}:Fr (U0 a b K w) (∀c:W->Pw,(∀(d:W)(e:Y),(bif d then K 0 1 e else Tu b (λb c=>∃d,∃e,∃f:Y,zY qe 396 #[.y a,.y b,.y 0] c (.tuple #[.y d,.y e]) f/\bif e !=0 then K 0 2 f else K (fV .u64 d b) 0 f) e)->c d e)->(bif F (b<0)then c V w else c (F (b>=64)) w)):=ai func337 (.v (.y .LD .Kv))
theorem Zg{a K w}:Fr (XP a K w) (∀b:W->Pw,(∀(c:W)(d:Y),(bif c then K 0 1 d else Tu a (λa b=>K a 0 b) d)->b c d)->(bif F (a<0)then b V w else b (F (a>64)) w)):=ai func382 .Lb
theorem Zh{a b c d e f K w}:Fr (XQ a b c d e f K w) (A2 w [.y a,.y b,.y c,.y d] 372 λa b=>A2 b [.y 0,.y 0,.y 0,.y 0] 372 λb c=>X2 e (λc d=>bif !c then aD d b.p 0 [.y 0,.y 0,.y 0,.y 0] λc=>av c b.p 0 [.u,.u,.u,.u] λ(g h i j:O)=>K g h i j 1 c else Dr d λc=>(64:O)≠0/\0<=qd.wrap (e.tdiv 64)/\qd.wrap (e.tdiv 64)<4/\∃d,c.cell? (a.p.add ((qd.wrap (e.tdiv 64)).toNat*1))=S (.y d)/\(64:O)≠0/\0<=(e.tmod 64)/\0<=qd.wrap (e.tdiv 64)/\qd.wrap (e.tdiv 64)<4/\(St c (a.p.add ((qd.wrap (e.tdiv 64)).toNat*1)) (.y (fV .u64 d (iJ .u64 1 (e.tmod 64)))) λc=>bif f then Dr c λd=>(64:O)≠0/\0<=qd.wrap (e.tdiv 64)/\qd.wrap (e.tdiv 64)<4/\∃f,d.cell? (a.p.add ((qd.wrap (e.tdiv 64)).toNat*1))=S (.y f)/\(64:O)≠0/\0<=(e.tmod 64)/\0<=qd.wrap (e.tdiv 64)/\qd.wrap (e.tdiv 64)<4/\(St d (a.p.add ((qd.wrap (e.tdiv 64)).toNat*1)) (.y (Hq .u64 f (iJ .u64 1 (e.tmod 64)))) λc=>av c a.p 0 [.u,.u,.u,.u] λ(a d e f:O)=>aD c b.p 0 [.y a,.y d,.y e,.y f] λa=>av a b.p 0 [.u,.u,.u,.u] λ(b c d e:O)=>K b c d e 0 a)/\G else av c a.p 0 [.u,.u,.u,.u] λ(a d e f:O)=>aD c b.p 0 [.y a,.y d,.y e,.y f] λa=>av a b.p 0 [.u,.u,.u,.u] λ(b c d e:O)=>K b c d e 0 a)/\G) c):=ai func383 (.v (.y (.v (.x .w)) (.y .g18 (.y (.v (.x .g18)) .w))))
theorem Yz{a K w}:Fr (Tu a K w) (0<=a/\K (qq.wrap ((iJ .u64 1 a)-1)) w):=ai func395 (.v .w)
theorem YA{a b c K w}:Fr (T6 a b c K w) (Vh b c (λd e=>bif !d then K 0 1 e else Dr e λd=>0<=b/\(Tu c (λc d=>K (da .u64 (kS .u64 a b) c) 0 d) d)/\G) w):=ai func412 (.v (.y (.v (.x .w)) (.x (.z (.o 0 26 (.o 1 24 (.o 2 24 (.o 3 0 (.e 4 .MN)))))))))
theorem Zi{a K w}:Fr (X2 a K w) (bif F (a>=0)then K (F (a<256)) w else K Z w):=ai func420 (.v .w)
theorem YB{a b K w}:Fr (Vh a b K w) (bif F (a>=0)then bif F (b>=0)then bif F (a<=64)then K (F (b<=(qd.wrap (64-a)))) w else K Z w else K Z w else K Z w):=ai func436 (.v .w)
end
namespace Sl
section
variable{B:X}{w0 w:Y}{R:J aH}
structure cO where
 kind:O
 obj:O
 ak:O
 ax:O
 guard:O
 bits:O
deriving DecidableEq
abbrev cO.cells(c:cO):J N:=[.z c.kind,.z c.obj,.z c.ak,.y c.ax,.y c.guard,.z c.bits]
def jN(c:cO):N:= .agg ⟨c.cells⟩
def aq:cO:=⟨0,0,0,0,0,0⟩
def nj:dF cO:=⟨6,cO.cells,λ_=>rfl,λx v h=>by simp only[cO.cells,Oz,Ps,qC]at h;rcases h with rfl|rfl|rfl|rfl|rfl|rfl<;>rfl,qb⟩
structure fI(c:cO):Prop where
 b0:0<=c.ax
 b1:c.ax<18446744073709551616
 g0:0<=c.guard
 g1:c.guard<18446744073709551616
def eE(g bits:O):W:=F (0<=bits/\bits<=64/\g<2^bits.toNat)
def cW(k:O):W:=k==4||k==5||k==6
def df(k:O):W:=k==4||k==5
def gx(c:cO):W:=
 !(F (0<c.kind)&&F (c.kind<10)&&F (0<=c.obj)&&F (c.obj<2147483648)&&(F (0<=c.ak)&&F (c.ak<=7))&&eE c.guard c.bits)
  ||(!cW c.kind&&c.ak !=7)||(c.ax !=0&& !df c.kind)||(c.bits !=0&&c.kind !=2)
def bT(c:cO):O:=if c=aq then 0 else if gx c then 40 else 0
theorem wrap_u64(z:X):qq.wrap (z:O)=((z%2^64:X):O):=by
 have e1:(2:O)^64=18446744073709551616:=qb
 have e2:(2:X)^64=18446744073709551616:=qb
 simp only[IntKind.wrap,IntKind.bits,IntKind.signed,e1,e2,P5,OF,qx];omega
theorem zc(n:X)(hn:n<=64):qq.wrap (iJ .u64 1 (n:O)-1)=((2^n-1:X):O):=by
 have e2:(2:X)^64=18446744073709551616:=qb
 have hp:0<2^n:=PG n;unfold iJ;rw[Oo,show qq.bits=64 from U,Pv hn,SB,show((2:O)^n)=((2^n:X):O)from by simp,wrap_u64];by_cases e:n=64
 .subst e
  rw[e2];rfl
 .have hlt:2^n<2^64:=Nat.pow_lt_pow_right om om
  rw[O6 hlt,show(((2^n:X):O)-1)=((2^n-1:X):O)from by omega,wrap_u64,O6 om]
theorem rj(z:X):BitVec.ofInt qq.bits (z:O)=BitVec.ofNat 64 z:=by apply BitVec.eq_of_toNat_eq;simp[IntKind.bits,BitVec.toNat_ofInt]
theorem yI(v n:X)(hv:v<2^64)(hn:n<=64):da .u64 (v:O) ((2^n-1:X):O)=((v%2^n:X):O):=by
 have hp:0<2^n:=PG n;have hle:2^n<=2^64:=Pm om hn;unfold da;rw[rj,rj];have h1:(BitVec.ofNat 64 v &&& BitVec.ofNat 64 (2^n-1)).toNat=v%2^n:=by rw[BitVec.toNat_and,BitVec.toNat_ofNat,BitVec.toNat_ofNat,O6 hv,O6 om,Nat.and_two_pow_sub_one_eq_mod]
 show qq.wrap (((BitVec.ofNat 64 v &&& BitVec.ofNat 64 (2^n-1)).toNat:X):O)=_;rw[h1,wrap_u64,O6 (QZ (Nat.mod_le _ _) hv)]
theorem Ce(v n:X)(hv:v<2^64)(hn:n<=64):(fV .u64 (v:O) ((2^n-1:X):O)==0)=F (v<2^n):=by
 have hp:0<2^n:=PG n;have hle:2^n<=2^64:=Pm om hn;unfold fV;rw[rj,rj];have hgl:∀(z j:X),j<64->(BitVec.ofNat 64 z).getLsbD j=z.testBit j:=λz j hj=>by rw[BitVec.getLsbD_ofNat];simp[hj]
 have hbit:∀j,j<64->(BitVec.ofNat 64 v &&& ~~~ BitVec.ofNat 64 (2^n-1)).toNat.testBit j=(v.testBit j&& !decide (j<n)):=λj hj=>by rw[BitVec.testBit_toNat,BitVec.getLsbD_and,BitVec.getLsbD_not,hgl _ _ hj,hgl _ _ hj,Sm];simp[hj]
 have hlt:=(BitVec.ofNat 64 v &&& ~~~ BitVec.ofNat 64 (2^n-1)).isLt;show(qq.wrap (((BitVec.ofNat 64 v &&& ~~~ BitVec.ofNat 64 (2^n-1)).toNat:X):O)==0)=_;generalize hz:(BitVec.ofNat 64 v &&& ~~~ BitVec.ofNat 64 (2^n-1)).toNat=z at hbit hlt;rw[wrap_u64,O6 hlt];rw[Qm];simp only[qG,qA];constructor
 .intro h0
  have h0:z=0:=om
  subst h0;refine Nat.lt_pow_two_of_testBit v λi hi=>?_;by_cases h64:i<64
  .have:=hbit i h64
   rw[Te]at this;simp only[show ¬i<n from by omega,decide_false,PN,Q7]at this;exact this.symm
  .exact QE (Qc hv (Pm om om))
 .intro hvn
  have:z=0:=by
   apply R1;intro i;rw[Te];by_cases h64:i<64
   .rw[hbit i h64]
    by_cases hin:i<n
    .simp[hin]
    .rw[QE (Qc hvn (Pm om om))];rfl
   .exact QE (Qc hlt (Pm om om))
  omega
theorem mg(x k:X)(hk:k<=64):kS .u64 (x:O) (k:O)=((x / 2^k:X):O):=by unfold kS;rw[Oo,show qq.bits=64 from U,Pv hk];rw[show((2:O)^k)=((2^k:X):O)from by simp];rw[Int.fdiv_eq_ediv_of_nonneg _ (Qp _)];simp
theorem fR{n:X}{K:O->Pw}(hn:n<=64)(h:K ((2^n-1:X):O) w):Tu (n:O) K w:=by apply Yz;rw[zc n hn];exact⟨om,h⟩
theorem uv{n:O}{K:O->O->Pw}(h1:¬(0<=n/\n<=64)->K 0 1 w)(h2:∀k:X,n=(k:O)->k<=64->K ((2^k-1:X):O) 0 w):XP n K w:=by
 apply Zg;intro k2 hk2;by_cases e:n<0
 .rw[show F (n<0)=V from by simpa using e,ql]
  apply hk2;rw[ql];exact h1 om
 .rw[show F (n<0)=Z from by simpa using e,qp]
  apply hk2;by_cases e2:n>64
  .rw[show F (n>64)=V from by simpa using e2,ql];exact h1 om
  .rw[show F (n>64)=Z from by simpa using e2,qp]
   obtain⟨k,rfl⟩:=Ox (by omega:0<=n);exact fR om (h2 k U om)
theorem tW{g bits:O}{K:W->Pw}(h0:0<=g)(h1:g<18446744073709551616)(h:K (eE g bits) w):Xl g bits K w:=by
 apply YQ;have e2:(2:X)^64=18446744073709551616:=qb
 refine uv (λhn=>?_) (λk hk hk2=>?_)
 .rw[show((1:O)==0)=Z from U,qp]
  have:eE g bits=false:=by unfold eE;rw[qk];rintro⟨h1,h2,_⟩;exact hn ⟨h1,h2⟩
  rw[this]at h;exact h
 .subst hk
  rw[show((0:O)==0)=V from U,ql];obtain⟨v,rfl⟩:=Ox h0;rw[Ce v k om hk2];have:eE (v:O) (k:O)=F (v<2^k):=by unfold eE;rw[qL,Oo,show((2:O)^k)=((2^k:X):O)from by simp];omega
  rw[this]at h;exact h
theorem lq{n:O}{K:W->Pw}(h:K (F (0<=n)&&F (n<=7)) w):UQ n K w:=by
 apply YP;by_cases e:0<=n
 .rw[show F (n>=0)=V from by simpa using e,ql]
  rw[show F (0<=n)=V from by simpa using e,Qa]at h;exact h
 .rw[show F (n>=0)=Z from by simpa using e,qp]
  rw[show F (0<=n)=Z from by simpa using e,P5]at h;exact h
theorem ky{k:O}{K:W->Pw}(h:K (cW k) w):UR k K w:=by
 apply YR;unfold cW at h;cases h4:k==4 with
 |true=>rw[ql];rw[h4]at h;exact h
 |false=>
  rw[qp];cases h5:k==5 with
  |true=>rw[ql];rw[h4,h5]at h;exact h
  |false=>rw[qp];rw[h4,h5]at h;exact h
theorem ll{k:O}{K:W->Pw}(h:K (df k) w):US k K w:=by
 apply YS;unfold df at h;cases h4:k==4 with
 |true=>rw[ql];rw[h4]at h;exact h
 |false=>rw[qp];rw[h4]at h;exact h
theorem Mu(a b:cO):pw qe 9 157 a.cells b.cells=S (F (a=b)):=by
 have h:pw qe 9 157 a.cells b.cells=S (a.kind==b.kind&&(a.obj==b.obj&&(a.ak==b.ak&&(a.ax==b.ax&&(a.guard==b.guard&&(a.bits==b.bits&&V)))))):=qa
 rw[h];congr 1;rw[Qm];simp only[Q7,OH,qG,qA];cases a;cases b;simp only[cO.mk.injEq]
theorem JV{x y:qB}(a b:cO):B8 qe .eql 157 x y (.agg ⟨a.cells⟩) (.agg ⟨b.cells⟩) (F (a=b)):=J0 qa qa qa (Mu a b)
theorem jd{c:cO}{K:O->Pw}(h:Ow B w0 w R)(hc:fI c)(hK:∀w',Ow B w0 w' R->K (bT c) w'):TJ c.kind c.obj c.ak c.ax c.guard c.bits K w:=by
 apply YN;refine h.al λw1 h=>?_;have hcell:∀w',Ow B w0 w' (aa w.heap.size c.cells::R)->Ow B w0 w' (aa w.heap.size c.cells::R):=λ_ h=>h;have h:Ow B w0 w1 (aa w.heap.size c.cells::R):=h;simp only[aO,Nat.zero_add];intro k8 hk8;have fin:k8 (F (0<c.kind)&&F (c.kind<10)&&F (0<=c.obj)&&F (c.obj<2147483648)&&(F (0<=c.ak)&&F (c.ak<=7))&&eE c.guard c.bits) w1:=by
  generalize hr:(F (0<c.kind)&&F (c.kind<10)&&F (0<=c.obj)&&F (c.obj<2147483648)&&(F (0<=c.ak)&&F (c.ak<=7))&&eE c.guard c.bits)=right;apply hk8;refine h.tY 0 U U ?_;refine⟨_,JV c aq,?_⟩;have hb:gx c=(!right||(!cW c.kind&&c.ak !=7)||(c.ax !=0&& !df c.kind)||(c.bits !=0&&c.kind !=2)):=by unfold gx;rw[hr]
  have hE:=hK w1 h.drop;unfold bT at hE;by_cases e:c=aq
  .rw[qm e,ql];rw[A e]at hE;exact hE
  rw[qk e,qp];rw[Q e,hb]at hE;intro k18 hk18;have rest:(!right||(!cW c.kind&&c.ak !=7))=Z->k18 Z w1:=by
   intro h0;rw[h0,Q8]at hE;apply hk18;rw[qp];intro k21 hk21;refine⟨c.ax,h.iM 0 U U,?_⟩;have last:(c.ax !=0&& !df c.kind)=Z->k21 Z w1:=by
    intro h1;rw[h1,Q8]at hE;apply hk21;rw[qp];refine⟨c.bits,h.iM 0 U U,?_⟩;cases hbits:c.bits !=0 with
    |false=>rw[qp];rw[hbits,P5,Q qc]at hE;exact hE
    |true=>
     rw[ql];rw[hbits,Qa]at hE;refine⟨c.kind,h.iM 0 U U,?_⟩;cases hk:c.kind !=2 with
     |true=>rw[ql];rw[hk,A U]at hE;exact hE
     |false=>rw[qp];rw[hk,Q qc]at hE;exact hE
   cases hbad:c.ax !=0 with
   |false=>rw[qp];exact last (by rw[hbad];rfl)
   |true=>
    rw[ql];refine⟨c.kind,h.iM 0 U U,ll ?_⟩;cases hbg:df c.kind with
    |true=>exact last (by rw[hbg];simp)
    |false=>
     apply hk21;rw[PN,ql,ql];rw[hbad,hbg]at hE;simpa using hE
  cases hright:right with
  |false=>
   rw[PN,ql];apply hk18;rw[ql];rw[hright]at hE;simpa using hE
  |true=>
   rw[PK,qp];refine⟨c.kind,h.iM 0 U U,ky ?_⟩;cases hlim:cW c.kind with
   |true=>rw[PK,qp];exact rest (by rw[hright,hlim];simp)
   |false=>
    rw[PN,ql];refine⟨c.ak,h.iM 0 U U,?_⟩;cases hr7:c.ak !=7 with
    |false=>exact rest (by rw[hright,hr7];simp)
    |true=>
     apply hk18;rw[ql];rw[hright,hlim,hr7]at hE;simpa using hE
 refine⟨c.kind,h.iM 0 U U,?_⟩;by_cases e1:0<c.kind
 .rw[show F (c.kind>0)=V from by simpa using e1,ql]
  refine⟨c.kind,h.iM 0 U U,?_⟩;by_cases e2:c.kind<10
  .rw[show F (c.kind<10)=V from by simpa using e2,ql]
   refine⟨c.obj,h.iM 0 U U,?_⟩;by_cases e3:0<=c.obj
   .rw[show F (c.obj>=0)=V from by simpa using e3,ql]
    refine⟨c.obj,h.iM 0 U U,?_⟩;by_cases e4:c.obj<2147483648
    .rw[show F (c.obj<2147483648)=V from by simpa using e4,ql]
     refine⟨c.ak,h.iM 0 U U,lq ?_⟩;cases e5:(F (0<=c.ak)&&F (c.ak<=7))with
     |false=>
      rw[qp];simpa [e5]using fin
     |true=>
      rw[ql];refine⟨c.guard,h.iM 0 U U,c.bits,h.iM 0 U U,tW hc.g0 hc.g1 ?_⟩;rw[show F (0<c.kind)=V from by simpa using e1,show F (c.kind<10)=V from by simpa using e2,show F (0<=c.obj)=V from by simpa using e3,show F (c.obj<2147483648)=V from by simpa using e4,e5]at fin;simpa using fin
    .rw[show F (c.obj<2147483648)=Z from by simpa using e4,qp]
     rw[show F (c.obj<2147483648)=Z from by simpa using e4]at fin;simpa using fin
   .rw[show F (c.obj>=0)=Z from by simpa using e3,qp]
    rw[show F (0<=c.obj)=Z from by simpa using e3]at fin;simpa using fin
  .rw[show F (c.kind<10)=Z from by simpa using e2,qp]
   rw[show F (c.kind<10)=Z from by simpa using e2]at fin;simpa using fin
 .rw[show F (c.kind>0)=Z from by simpa using e1,qp]
  rw[show F (0<c.kind)=Z from by simpa using e1]at fin;simpa using fin
end
end Sl
theorem Zj{K w}:Fr (Ud K w) (Al w (.map #[] 0) λa=>A2 a [.slice I 0 0,.map (S w.heap.size)] 234 λa b=>K (S a.p) b):=ai func35 (.v .w)
theorem Zk{a b K w}:Fr (Ue a b K w) (∀c:W->Pw,(∀(d:W)(e:Y),(bif d then K 0 1 e else ∃c,a=S c/\∃d,e.s c d/\bif F ((d.len:O)>=64)then K 0 2 e else ∃c,a=S c/\∃d,e.s c d/\A2 e [.z b] 3 λb c=>∃e f,aP qe [22,22] 22 d.v (.slice (S b.p) 1 1) c e f/\∃b,a=S b/\St f b e.v λb=>∃c,a=S c/\∃a,b.s c a/\K (qd.wrap ((a.len:O)-1)) 0 b)->c d e)->(bif F (b<1)then c V w else c (F (b>8)) w)):=ai func40 (.v (.y (.x (.y (.r (S [(6,.c .b)]) .done) (.y .w (.v (.x .w))))) (.v .w)))
theorem Zl{a b c d e f g h i K w}:Fr (Ul a b c d e f g h i K w) (A2 w [.z b,.z c] 155 λb c=>A2 c [.z d,.z e,.z f,.y g,.y h,.z i] 157 λc d=>av d c.p 0 [.o,.o,.o,.u,.u,.o] λ(e f g h i j:O)=>TJ e f g h i j (λd e=>∀f:W->Pw,(∀(e:W)(g:Y),(av g b.p 0 [.o,.o] λ(f h:O)=>SF a f h (λf g=>bif !f then K 50 g else bif d !=0 then K d g else ∃d,g.z c.p d/\bif d==0 then K 1 g else bif e then K 51 g else Dr g λd=>∃e,a=S e/\∃a,d.m (e.add 1) a/\av d b.p 0 [.o,.o] λ(b e:O)=>av d c.p 0 [.o,.o,.o,.u,.u,.o] λ(c f g h i j:O)=>(∃k:Y,gK qe 232 (.map a) (.agg #[.z b,.z e]) (.agg #[.z c,.z f,.z g,.y h,.y i,.z j]) d k/\K 0 k)/\G) g)->f e g)->(Dr e λc=>∃d,a=S d/\∃a,c.m (d.add 1) a/\av c b.p 0 [.o,.o] λ(b d:O)=>(∃e,∃g,∃h,∃i,∃j,∃k,∃l,tz qe 232 (.map a) (.agg #[.z b,.z d]) (.agg #[.z e,.z g,.z h,.y i,.y j,.z k]) l c/\(A2 c [.z 0,.z 0,.z 0,.y 0,.y 0,.z 0] 157 λa b=>(aD b a.p 0 [.z e,.z g,.z h,.y i,.y j,.z k] λa=>f l a)/\G)/\G)/\(A2 c [.z 0,.z 0,.z 0,.y 0,.y 0,.z 0] 157 λc e=>(∃g,∃h,∃i,∃j,∃k,∃l,∃m,tz qe 232 (.map a) (.agg #[.z b,.z d]) (.agg #[.z g,.z h,.z i,.y j,.y k,.z l]) m e/\(aD e c.p 0 [.z g,.z h,.z i,.y j,.y k,.z l] λa=>f m a)/\G)/\G)/\G)) d):=ai func120 (.v (.v (.y (.r (S [(9,.c .b)]) .g6) (.y (.x (.v (.y .w (.v .ML)))) .MA))))
theorem Zm{a K w}:Fr (Uq a K w) (∃b,a=S b/\∃c,w.m (b.add 1) c/\WQ c (λb c=>UB b (.func (.func 244) #[] #[]) (λb c=>∀d:Sl->O->Pw,(∀(c:Sl)(e:O)(f:Y),(bif F (e<(b.len:O))then ∃g,b.a=S g/\0<=e/\e<(b.len:O)/\av f (g.add (e.toNat*2)) 0 [.o,.o] λ(b g:O)=>A2 f [.z 0,.z 0] 155 λh i=>aD i h.p 0 [.z b,.z g] λb=>Dr b λb=>∃g,a=S g/\∃a,b.m (g.add 1) a/\av b h.p 0 [.o,.o] λ(g i:O)=>av b h.p 0 [.o,.o] λ(j k:O)=>(∃f,∃l,∃m,∃n,∃o,∃p,z7 qe 232 (.map a) (.agg #[.z g,.z i]) (.agg #[.z f,.z l,.z m,.y n,.y o,.z p]) b/\zP b h.p 0 [.z j,.z k] ((A2 b [.z j,.z k,.z f,.z l,.z m,.y n,.y o,.z p] 201 λa b=>(∃f g,aP qe [78,78] 78 c.v (.slice (S a.p) 1 1) b f g/\d f (qd.wrap (e+1)) g)/\G)/\G))/\G else K c f)->d c e f)->d z0 0 c) c) w):=ai func138 (.v (.v (.y (.v (.x (.t (S [(3,.c .s),(13,.c (.i .i64))]) (.v (.y .w (.x (.x (.v (.z (.o 0 1022 (.o 2 66 (.o 3 66 (.o 4 66 (.o 5 66 (.o 6 2 (.hold 1 128 2559 (.e 7 (.o 8 0 (.e 9 (.e 10 (.o 11 0 .done)))))))))))))))))) .u))) .w)))
theorem Zn{a b c K w}:Fr (SF a b c K w) (A2 w [.z b,.z c] 155 λb c=>∃d,c.z b.p d/\UT a d (λa c d=>Dr d λd=>bif c then ∃c,d.z (b.p.add 1) c/\bif F (c>=0)then ∃c,d.z (b.p.add 1) c/\0<=a/\K (F (c<(iJ .i64 1 a))) d else K Z d else K Z d) c):=ai func230 (.v (.v (.x (.z (.o 0 0 (.o 1 0 (.o 2 0 (.o 3 0 (.o 4 0 (.o 5 0 (.o 6 0 (.o 7 1536 (.o 8 1536 .NT)))))))))))))
def YC(a1:O)(a2:O)(b3:O)(b4:O)(K:O->Pw)(w:Y):Prop:=Al w (.cells #[.z a1,.z a2] 155) λw5=>Al w5 (.cells #[.z b3,.z b4] 155) λw6=>Dr w6 λw7=>∃node8,w7.cell? w.heap.size.p=S (.z node8)/\∃node9,w7.cell? w5.heap.size.p=S (.z node9)/\∃i10,w7.cell? (w.heap.size.p.add 1)=S (.z i10)/\∃i11,w7.cell? (w5.heap.size.p.add 1)=S (.z i11)/\(UY node8 node9 (λLi w13=>w13.cell? (w5.heap.size.p.add 1)=S (.z i11)/\w13.cell? (w.heap.size.p.add 1)=S (.z i10)/\(UY i10 i11 (λLj w15=>(Al w15 (.cells #[.z Li,.z Lj] 3) λw16=>(Xq ⟨S w15.heap.size.p,2,2⟩ (λL1 w18=>K L1 w18) w16)/\G)/\G) w13)/\G) w7)/\G
theorem Zo(a1:O)(a2:O)(b3:O)(b4:O)(K:O->Pw)(w:Y)(h:YC a1 a2 b3 b4 K w):Yb a1 a2 b3 b4 K w:=
 N3 func244 (.t I (.u) (.t I (.r I (.one 0 492 (.one 1 492 (.one 2 480 (.one 3 480 (.one 5 400 (.one 7 80 (.hold 6 272 4607 (.hold 8 16 4607 (.alt 4 (.alt 9 (.alt 10 (.alt 11 (.one 12 0 (.done)) (.none)) (.none)) (.none)) (.none))))))))))) (.u))) [(0,.c (.i .i64))] [.agg #[.z a1,.z a2],.agg #[.z b3,.z b4]] K U qa qa h
theorem Zp{a b c K w}:Fr (R6 a b c K w) (A2 w [.z b,.z c] 155 λb c=>A2 c [.z 0,.z 0,.z 0,.y 0,.y 0,.z 0] 157 λc d=>av d b.p 0 [.o,.o] λ(e f:O)=>SF a e f (λd e=>bif !d then aD e c.p 0 [.z 0,.z 0,.z 0,.y 0,.y 0,.z 0] λd=>av d c.p 0 [.o,.o,.o,.u,.u,.o] λ(f g h i j k:O)=>K f g h i j k 50 d else Dr e λd=>∃e,a=S e/\∃a,d.m (e.add 1) a/\av d b.p 0 [.o,.o] λ(b e:O)=>(∃f,∃g,∃h,∃i,∃j,∃k,z7 qe 232 (.map a) (.agg #[.z b,.z e]) (.agg #[.z f,.z g,.z h,.y i,.y j,.z k]) d/\(aD d c.p 0 [.z f,.z g,.z h,.y i,.y j,.z k] λa=>av a c.p 0 [.o,.o,.o,.u,.u,.o] λ(b c d e f g:O)=>K b c d e f g 0 a)/\G)/\G) d):=ai func248 (.v (.y (.v (.x .w)) (.x (.z (.o 0 16 (.o 1 16 (.o 2 16 (.o 3 16 (.o 4 0 (.e 5 (.e 6 (.o 7 0 .done))))))))))))
theorem Zq{a b c d e K w}:Fr (WS a b c d e K w) (A2 w [.z b,.z c] 155 λb c=>A2 c [.z d,.z e] 155 λc d=>∀e:qf->W->Pw,(∀(d:qf)(f:W)(g:Y),(∀e:W->Pw,(∀(g:W)(h:Y),(∀e:W->Pw,(∀(h:W)(i:Y),(bif h then K 50 i else bif !f then K 52 i else bif g then K 51 i else Dr i λe=>∃f,a=S f/\∃g,e.m (f.add 1) g/\av e b.p 0 [.o,.o] λ(b f:O)=>(∃h:Y,yz qe [232,155] 0 (.map g) (.agg #[.z b,.z f]) e h/\Dr h λb=>∃e,a=S e/\∃a,b.m (e.add 1) a/\av b c.p 0 [.o,.o] λ(c e:O)=>av b d 0 [.o,.o,.o,.u,.u,.o] λ(d f g h i j:O)=>(∃k:Y,gK qe 232 (.map a) (.agg #[.z c,.z e]) (.agg #[.z d,.z f,.z g,.y h,.y i,.z j]) b k/\K 0 k)/\G)/\G)->e h i)->(av h b.p 0 [.o,.o] λ(b d:O)=>SF a b d (λb d=>bif !b then e V d else av d c.p 0 [.o,.o] λ(b c:O)=>SF a b c (λa b=>e (!a) b) d) h))->e g h)->(Dr g λb=>∃d,a=S d/\∃a,b.m (d.add 1) a/\av b c.p 0 [.o,.o] λ(c d:O)=>(∃f,∃g,∃h,∃i,∃j,∃k,∃l,tz qe 232 (.map a) (.agg #[.z c,.z d]) (.agg #[.z f,.z g,.z h,.y i,.y j,.z k]) l b/\(A2 b [.z 0,.z 0,.z 0,.y 0,.y 0,.z 0] 157 λa b=>(aD b a.p 0 [.z f,.z g,.z h,.y i,.y j,.z k] λa=>e l a)/\G)/\G)/\(A2 b [.z 0,.z 0,.z 0,.y 0,.y 0,.z 0] 157 λb f=>(∃g,∃h,∃i,∃j,∃k,∃l,∃m,tz qe 232 (.map a) (.agg #[.z c,.z d]) (.agg #[.z g,.z h,.z i,.y j,.y k,.z l]) m f/\(aD f b.p 0 [.z g,.z h,.z i,.y j,.y k,.z l] λa=>e m a)/\G)/\G)/\G))->e d f g)->(Dr d λc=>∃d,a=S d/\∃a,c.m (d.add 1) a/\av c b.p 0 [.o,.o] λ(b d:O)=>(∃f,∃g,∃h,∃i,∃j,∃k,∃l,tz qe 232 (.map a) (.agg #[.z b,.z d]) (.agg #[.z f,.z g,.z h,.y i,.y j,.z k]) l c/\(A2 c [.z 0,.z 0,.z 0,.y 0,.y 0,.z 0] 157 λa b=>(aD b a.p 0 [.z f,.z g,.z h,.y i,.y j,.z k] λb=>e a.p l b)/\G)/\G)/\(A2 c [.z 0,.z 0,.z 0,.y 0,.y 0,.z 0] 157 λc f=>(∃g,∃h,∃i,∃j,∃k,∃l,∃m,tz qe 232 (.map a) (.agg #[.z b,.z d]) (.agg #[.z g,.z h,.z i,.y j,.y k,.z l]) m f/\(aD f c.p 0 [.z g,.z h,.z i,.y j,.y k,.z l] λa=>e c.p m a)/\G)/\G)/\G)):=ai func254 (.v (.y (.r (S [(7,.c .q),(8,.c .b)]) .g6) (.y (.r (S [(10,.c .b)]) .g6) (.y (.x (.y (.r (S [(29,.c .b)]) .done) .ML)) (.y .Ma .MA)))))
theorem Zr{a b K w}:Fr (UT a b K w) (∀c:W->Pw,(∀(d:W)(e:Y),(bif d then K 0 Z e else ∃c,a=S c/\∃a,e.s c a/\∃c,a.a=S c/\0<=b/\b<(a.len:O)/\∃a,e.z (c.add (b.toNat*1)) a/\K a V e)->c d e)->(bif F (b<0)then c V w else ∃d,a=S d/\∃e,w.s d e/\bif F (b>=(e.len:O))then c V w else ∃d,a=S d/\∃a,w.s d a/\∃d,a.a=S d/\0<=b/\b<(a.len:O)/\∃a,w.z (d.add (b.toNat*1)) a/\c (a==(-1)) w)):=ai func318 (.v (.y (.y .MR (.x .w)) .w))
theorem Zs{a b c K w}:Fr (U1 a b c K w) (A2 w [.z b,.z c] 155 λb c=>A2 c [.z 0,.z 0,.z 0,.y 0,.y 0,.z 0] 157 λc d=>∀e:qf->W->Pw,(∀(d:qf)(f:W)(g:Y),(av g b.p 0 [.o,.o] λ(e h:O)=>SF a e h (λe g=>bif !e then aD g c.p 0 [.z 0,.z 0,.z 0,.y 0,.y 0,.z 0] λe=>av e c.p 0 [.o,.o,.o,.u,.u,.o] λ(h i j k l m:O)=>K h i j k l m 50 e else bif !f then aD g c.p 0 [.z 0,.z 0,.z 0,.y 0,.y 0,.z 0] λe=>av e c.p 0 [.o,.o,.o,.u,.u,.o] λ(f h i j k l:O)=>K f h i j k l 52 e else Dr g λe=>∃f,a=S f/\∃a,e.m (f.add 1) a/\av e b.p 0 [.o,.o] λ(b f:O)=>(∃g:Y,yz qe [232,155] 0 (.map a) (.agg #[.z b,.z f]) e g/\av g d 0 [.o,.o,.o,.u,.u,.o] λ(a b d e f h:O)=>aD g c.p 0 [.z a,.z b,.z d,.y e,.y f,.z h] λa=>av a c.p 0 [.o,.o,.o,.u,.u,.o] λ(b c d e f g:O)=>K b c d e f g 0 a)/\G) g)->e d f g)->(Dr d λc=>∃d,a=S d/\∃a,c.m (d.add 1) a/\av c b.p 0 [.o,.o] λ(b d:O)=>(∃f,∃g,∃h,∃i,∃j,∃k,∃l,tz qe 232 (.map a) (.agg #[.z b,.z d]) (.agg #[.z f,.z g,.z h,.y i,.y j,.z k]) l c/\(A2 c [.z 0,.z 0,.z 0,.y 0,.y 0,.z 0] 157 λa b=>(aD b a.p 0 [.z f,.z g,.z h,.y i,.y j,.z k] λb=>e a.p l b)/\G)/\G)/\(A2 c [.z 0,.z 0,.z 0,.y 0,.y 0,.z 0] 157 λc f=>(∃g,∃h,∃i,∃j,∃k,∃l,∃m,tz qe 232 (.map a) (.agg #[.z b,.z d]) (.agg #[.z g,.z h,.z i,.y j,.y k,.z l]) m f/\(aD f c.p 0 [.z g,.z h,.z i,.y j,.y k,.z l] λa=>e c.p m a)/\G)/\G)/\G)):=ai func344 (.v (.y (.r (S [(6,.c .q),(7,.c .b)]) .g6) (.y .J5 .NF)))
theorem Zt{K w}:Fr (Ss K w) (A2 w (Oq 64 [.z 0,.map I]).flatten 243 λa b=>K (S a.p) b):=ai func37 (.v .w)
theorem Zu{a K w}:Fr (Us a K w) (∃b,a=S b/\∃a:qn N,a.size=128/\(∀c,c<128->w.cell? (b.add c)=a[c]?)/\∀b:Sl->O->Pw,(∀(c:Sl)(d:O)(e:Y),(bif F (d<64)then 0<=d/\d<64/\∃f,(a:qn N)[d.toNat*2+0]?=S (.z f)/\∃g,(a:qn N)[d.toNat*2+1]?=S (.map g)/\A2 e [.z 0,.map I] 240 λa h=>aD h a.p 0 [.z f,.map g] λf=>av f a.p 0 [.o,.m] λ(a:O)(g:qg X)=>Ts a g (λa e=>∃f g,aP qe [81,81] 81 c.v a.v e f g/\b f (qd.wrap (d+1)) g) f else K c e)->b c d e)->b z0 0 w):=ai func147 (.v (.v (.y (.v (.x (.t (S [(3,.c .s),(10,.c (.i .i64))]) .Iq .u))) .w)))
theorem YD{a b K w}:Fr (Ts a b K w) (A2 w [.z a,.map b] 240 λa b=>∃c,b.m (a.p.add 1) c/\T0 c (λb c=>TZ b (λb c=>∀d:Sl->O->Pw,(∀(c:Sl)(e:O)(f:Y),(bif F (e<(b.len:O))then ∃g,b.a=S g/\0<=e/\e<(b.len:O)/\∃b,f.z (g.add (e.toNat*1)) b/\∃g,f.m (a.p.add 1) g/\∃a,∃h,z7 qe 238 (.map g) (.z b) (.agg #[.z a,.z h]) f/\A2 f [.z b,.z a,.z h] 204 λa b=>∃g h,aP qe [81,81] 81 c.v (.slice (S a.p) 1 1) b g h/\d g (qd.wrap (e+1)) h else K c f)->d c e f)->d z0 0 c) c) b):=ai func246 (.v (.v (.y (.v (.x (.t (S [(3,.c .s),(11,.c (.i .i64))]) .Iq .u))) .w)))
theorem Zv{a b c K w}:Fr (WY a b c K w) (A2 w [.z c] 3 λc d=>∀e:W->Pw,(∀(d:W)(f:Y),(bif d then K 1 f else ∀d:W->Pw,(∀(e:W)(f:Y),(bif e then K 140 f else Dr f λd=>∃e,d.z c.p e/\∃c,a=S c/\(Al d (.map #[] 0) λa=>0<=b/\b<64/\(aD a (c.add (b.toNat*2)) 0 [.z e,.map (S d.heap.size)] λa=>K 0 a)/\G)/\G)->d e f)->(∃e,a=S e/\0<=b/\b<64/\∃g,f.m ((e.add (b.toNat*2)).add 1) g/\bif !g.isNone then d V f else ∃b,a=S b/\XG ⟨eH (S b) 0 64 2,64-0,64-0⟩ (.func (.func 359) #[] #[.pointer (S c.p)]) (λa b=>d a b) f))->e d f)->(T1 b (λa b=>bif !a then e V b else ∃a,b.z c.p a/\e (F (a<0)) b) d)):=ai func269 (.v (.y .LD (.v (.y (.y (.r (S [(31,.c .b)]) .done) (.x .w)) (.y (.z (.o 0 30 (.o 1 124 (.o 2 104 (.o 5 24 (.o 6 24 (.e 3 (.o 4 0 (.o 7 0 (.e 8 .done)))))))))) .w)))))
theorem Zw{a b c d K w}:Fr (UI a b c d K w) (A2 w [.z c,.z d] 70 λc d=>∀e:W->Pw,(∀(d:W)(f:Y),(bif d then K 1 f else T3 a b (λa d e=>bif !d then K 141 e else ∃d,a=S d/\∃f,e.m (d.add 1) f/\∃d,∃g,∃h,tz qe 238 (.map f) (.z b) (.agg #[.z d,.z g]) h e/\A2 e [.z 0,.z 0] 70 λe f=>aD f e.p 0 [.z d,.z g] λd=>bif h then K 140 d else Dr d λd=>∃e,a=S e/\∃a,d.m (e.add 1) a/\av d c.p 0 [.o,.o] λ(c e:O)=>(∃f:Y,gK qe 238 (.map a) (.z b) (.agg #[.z c,.z e]) d f/\K 0 f)/\G) f)->e d f)->(T2 b (λa b=>bif !a then e V b else ∃a,b.z c.p a/\bif F (a<0)then e V b else ∃a,b.z (c.p.add 1) a/\XH a (λa b=>e (!a) b) b) d)):=ai func270 (.v (.y (.y (.r (S [(24,.c .b)]) .done) (.x .w)) (.v (.y (.v (.x .w)) (.y (.v (.v (.x .w))) .MA)))))
theorem Zx{a b K w}:Fr (TT a b K w) (A2 w [.z 0,.z 0] 70 λc d=>T2 b (λd e=>bif !d then aD e c.p 0 [.z 0,.z 0] λd=>av d c.p 0 [.o,.o] λ(f g:O)=>K f g 1 d else XI a b (λd e f g=>A2 g [.z 0,.z 0] 70 λg h=>aD h g.p 0 [.z d,.z e] λd=>bif !f then aD d c.p 0 [.z 0,.z 0] λe=>av e c.p 0 [.o,.o] λ(f h:O)=>K f h 141 e else T3 a b (λa _ d=>∃e,a=S e/\∃a,d.m (e.add 1) a/\∃e:Y,yz qe [238,3] 0 (.map a) (.z b) d e/\av e g.p 0 [.o,.o] λ(a b:O)=>aD e c.p 0 [.z a,.z b] λa=>av a c.p 0 [.o,.o] λ(b c:O)=>K b c 0 a) d) e) d):=ai func271 (.v (.y (.v (.x .w)) .Md))
theorem Zy{a K w}:Fr (T1 a K w) (bif F (a>=0)then K (F (a<64)) w else K Z w):=ai func358 (.v .w)
theorem Zz{a b c K w}:Fr (Yi a b c K w) (A2 w [.z a,.map b] 240 λa b=>∃d,b.m (a.p.add 1) d/\bif !d.isNone then ∃d,b.z a.p d/\∃a,b.z c a/\K (d==a) b else K Z b):=ai func359 (.v .w)
theorem ZA{a K w}:Fr (T2 a K w) (bif F (a>=0)then K (F (a<4096)) w else K Z w):=ai func361 (.v .w)
theorem ZB{a K w}:Fr (XH a K w) (bif F (a>=0)then K (F (a<=7)) w else K Z w):=ai func362 (.v .w)
theorem ZC{a b K w}:Fr (T3 a b K w) (T6 (qq.wrap b) 6 6 (λb _ c=>Dr c λc=>∃d,a=S d/\0<=b/\b<64/\∃e,a=S e/\0<=b/\b<64/\∃a,c.m ((e.add (b.toNat*2)).add 1) a/\K (S (d.add (b.toNat*2))) (!a.isNone) c) w):=ai func363 (.v (.v (.x (.z (.o 0 8162 (.o 1 8172 (.o 2 8160 (.o 3 8160 (.o 4 8160 (.o 5 8256 (.o 6 8576 (.o 7 8192 (.o 8 8192 (.o 9 8192 (.o 10 8192 (.o 11 8192 (.o 12 8192 .LH)))))))))))))))))
theorem ZD{a b K w}:Fr (XI a b K w) (A2 w [.z 0,.z 0] 70 λc d=>T2 b (λd e=>bif !d then aD e c.p 0 [.z 0,.z 0] λd=>av d c.p 0 [.o,.o] λ(f g:O)=>K f g Z d else T3 a b (λa _ d=>∃e,a=S e/\∃a,d.m (e.add 1) a/\∃e,∃f,∃g,tz qe 238 (.map a) (.z b) (.agg #[.z e,.z f]) g d/\A2 d [.z 0,.z 0] 70 λa b=>aD b a.p 0 [.z e,.z f] λb=>av b a.p 0 [.o,.o] λ(a d:O)=>aD b c.p 0 [.z a,.z d] λa=>av a c.p 0 [.o,.o] λ(b c:O)=>K b c g a) e) d):=ai func364 .Md
theorem ZE{a b K w}:Fr (XU a b K w) (Us a (λa c=>∀d:Sl->O->Pw,(∀(c:Sl)(e:O)(f:Y),(bif F (e<(a.len:O))then ∃g,a.a=S g/\0<=e/\e<(a.len:O)/\av f (g.add (e.toNat*3)) 0 [.o,.o,.o] λ(a g h:O)=>A2 f [.z 0,.z 0,.z 0] 204 λi j=>aD j i.p 0 [.z a,.z g,.z h] λa=>∃g,a.z (i.p.add 1) g/\bif g==b then ∃b,a.z i.p b/\A2 a [.z b] 3 λb g=>∃h i,aP qe [22,22] 22 c.v (.slice (S b.p) 1 1) g h i/\d h (qd.wrap (e+1)) i else d c (qd.wrap (e+1)) a else K c f)->d c e f)->d z0 0 c) w):=ai func401 (.v (.v (.y (.v (.x (.t (S [(5,.c .s),(11,.c (.i .i64))]) .MK .u))) .w)))
theorem ZF{a b K w}:Fr (XV a b K w) (∀c:W->Pw,(∀(d:W)(e:Y),(bif d then K 0 Z e else ∃c,a=S c/\0<=b/\b<64/\∃a,e.z (c.add (b.toNat*2)) a/\K a V e)->c d e)->(T1 b (λd e=>bif !d then c V e else ∃d,a=S d/\0<=b/\b<64/\∃a,e.m ((d.add (b.toNat*2)).add 1) a/\c a.isNone e) w)):=ai func402 (.v (.y (.y .MS (.x .w)) .w))
theorem ZG{a b K w}:Fr (XW a b K w) (T1 b (λc d=>bif !c then K z0 1 d else ∃c,a=S c/\0<=b/\b<64/\∃e,d.m ((c.add (b.toNat*2)).add 1) e/\bif e.isNone then K z0 141 d else ∃c,a=S c/\0<=b/\b<64/\av d (c.add (b.toNat*2)) 0 [.o,.m] λ(c:O)(e:qg X)=>Ts c e (λc d=>∃e,a=S e/\0<=b/\b<64/\aD d (e.add (b.toNat*2)) 0 [.z 0,.map I] λa=>K c 0 a) d) w):=ai func403 .NV
namespace Sl
abbrev Slot:=O × O
abbrev Hs:=Slot->qg cO
abbrev bL(s:Sl):N:= s.v
def eC(bits:J O)(n:O):qg O:=if n<0 then I else match bits[n.toNat]? with|some z=>if z= -1 then I else S z|none=>I
def aR(bits:J O)(s:Slot):W:=match eC bits s.1 with|some z=>F (0<=s.2/\s.2<2^z.toNat)|none=>Z
structure sq(bits:J O)(H:Hs):Prop where
 fh:bits.length<=64
 zT:∀z∈bits,z= -1\/(1<=z/\z<=8)
 held:∀s c,H s=S c->aR bits s=V/\bT c=0/\c.kind≠0/\fI c
def cz(H:Hs)(s:Slot)(o:qg cO):Hs:=λk=>if k=s then o else H k
structure Nx where
 s:Sl
 m:X
 M:J (Slot × cO)
abbrev kT(m:X)(M:J (Slot × cO)):aH:=mU dT jN m M
def aC(b:X)(bits:J O)(H:Hs):aH:=pa λx:Nx=>bo [dJ (sq bits H/\∀k,dO x.M k=H k),aa b [bL x.s,.map (S x.m)],af aB x.s bits,kT x.m x.M]
theorem kn{bits:J O}{n z:O}(h:eC bits n=S z):0<=n/\bits[n.toNat]?=S z/\z≠ -1:=by
 unfold eC at h;split at h
 .cases h
 .split at h
  .split at h
   .cases h
   .cases h;exact⟨om,by assumption,by assumption⟩
  .cases h
theorem ti{bits:J O}{H:Hs}(hk:sq bits H){n z:O}(h:eC bits n=S z):1<=z/\z<=8:=by
 obtain⟨_,h2,h3⟩:=kn h;rcases hk.zT z (OV h2)with e|e
 .exact qi e h3
 .exact e
theorem jw:kv qe 155 dT:=
 Cz underlying155 qy qy qb qb U U (λa b c d=>by kernel_rfl)
theorem B1(w:Y):(qE 157).run qe w= .ok (jN aq) w:=zeroValue157 w
section
variable{B:X}{w0 w:Y}{R L:J aH}{b:X}{bits:J O}{H:Hs}
theorem _root_.Go.Vc.Ow.nodes(h:Ow B w0 w (aC b bits H::R)):∃x:Nx,sq bits H/\(∀k,dO x.M k=H k)/\Ow B w0 w (aa b [bL x.s,.map (S x.m)]::af aB x.s bits::kT x.m x.M::R):=by obtain⟨x,h⟩:=h.ex;obtain⟨⟨h1,h2⟩,h⟩:=Ow.pure h.star;exact⟨x,h1,h2,h⟩
theorem _root_.Go.Vc.Ow.fo{s:Sl}{m:X}{M:J (Slot × cO)}(h1:sq bits H)(h2:∀k,dO M k=H k)(h:Ow B w0 w (aa b [bL s,.map (S m)]::af aB s bits::kT m M::R)):Ow B w0 w (aC b bits H::R):=
 Ow.eP ⟨s,m,M⟩ (Ow.br (Ow.cZ ⟨h1,h2⟩ h))
theorem _root_.Go.Vc.Ow.sr(h:Ow B w0 w (aC b bits H::R)):sq bits H:=by obtain⟨_,h,_⟩:=h.nodes;exact h
theorem nY{K:qg qf->Pw}(h:Ow B w0 w R)(hK:∀b w',Ow B w0 w' (aC b [] (λ_=>I)::R)->K b.o w'):Ud K w:=by
 apply Zj;refine h.Dt dT jN λw1 h=>?_;refine h.al λw2 h=>?_;refine hK _ w2 (Ow.fo (s:=z0) (m:=w.heap.size) (M:=[]) ⟨qc,qc,λs c h=>by cases h⟩ (λk=>rfl) ?_);exact(Ow.cH h).perm (List.Perm.swap _ _ _)
theorem iq{n:O}{K:O->W->Pw}(h:Ow B w0 w L)(i:X)(hi:L[i]?=S (aC b bits H))(hK:K ((eC bits n).getD 0) (eC bits n).isSome w):UT b.o n K w:=by
 apply Zr;obtain⟨x,hk,hM,h⟩:=(h.take i hi).nodes;have hlen:=h.len 1 U;intro k3 hk3;by_cases h0:n<0
 .rw[show F (n<0)=V from by simpa using h0,ql]
  apply hk3;rw[ql];have:eC bits n=none:=by unfold eC;rw[A h0]
  rw[this]at hK;exact hK
 rw[show F (n<0)=Z from by simpa using h0,qp];refine⟨_,U,x.s,h.iM 0 U U,?_⟩;by_cases h1:(x.s.len:O)<=n
 .rw[show F (n>=(x.s.len:O))=V from by simpa using h1,ql]
  apply hk3;rw[ql];have:eC bits n=none:=by unfold eC;rw[Q h0,List.getElem?_eq_none om]
  rw[this]at hK;exact hK
 rw[show F (n>=(x.s.len:O))=Z from by simpa using h1,qp];have hz:bits[n.toNat]?=S bits[n.toNat]:=gE om;obtain⟨a,ha,hc⟩:=h.GJ 1 U hz;refine⟨_,U,x.s,h.iM 0 U U,a,ha,om,om,_,hc,?_⟩;apply hk3;by_cases e:bits[n.toNat]= -1
 .rw[show(bits[n.toNat]== -1)=V from by simpa using e,ql]
  have:eC bits n=none:=by unfold eC;rw[Q h0,hz];simp[e]
  rw[this]at hK;exact hK
 .rw[show(bits[n.toNat]== -1)=Z from by simpa using e,qp]
  have:eC bits n=S bits[n.toNat]:=by unfold eC;rw[Q h0,hz];simp[e]
  rw[this]at hK;exact⟨_,U,x.s,h.iM 0 U U,a,ha,om,om,_,hc,hK⟩
theorem Jy(z:X)(hz:z<=62):iJ .i64 1 (z:O)=((2^z:X):O):=by
 unfold iJ;rw[Oo,show qd.bits=64 from U,Pv om,SB,show((2:O)^z)=((2^z:X):O)from by simp];have hp:(2:X)^62=4611686018427387904:=qb
 have:2^z<=2^62:=Pm om hz;rw[hp]at this;generalize 2^z=y at*
 exact wr om om
theorem dn{s:Slot}{K:W->Pw}(h:Ow B w0 w L)(i:X)(hi:L[i]?=S (aC b bits H))(hK:∀w',Ow B w0 w' L->K (aR bits s) w'):SF b.o s.1 s.2 K w:=by
 apply Zn;have hk:=(h.take i hi).sr;refine h.al λw1 h=>?_;refine⟨s.1,h.iM 0 U U,iq h (i+1) (by simpa using hi) ?_⟩;refine h.dr λw2 h=>?_;cases hz:eC bits s.1 with
 |none=>
  rw[Q0,qp];have:aR bits s=false:=by unfold aR;rw[hz]
  rw[<-this];exact hK w2 h.drop
 |some z=>
  have hr:=ti hk hz;rw[Rc,ql,Option.getD_some];refine⟨s.2,h.ld 0 U U,?_⟩;have hth:aR bits s=F (0<=s.2/\s.2<2^z.toNat):=by unfold aR;rw[hz]
  by_cases e:0<=s.2
  .rw[show F (s.2>=0)=V from by simpa using e,ql]
   refine⟨s.2,h.ld 0 U U,om,?_⟩;obtain⟨y,rfl⟩:=Ox (by omega:0<=z);rw[Jy y om];have:F (s.2<((2^y:X):O))=aR bits s:=by rw[hth,qL,Oo,show((2:O)^y)=((2^y:X):O)from by simp];exact⟨λh=>⟨e,h⟩,λh=>h.2⟩
   rw[this];exact hK w2 h.drop
  .rw[show F (s.2>=0)=Z from by simpa using e,qp]
   have:aR bits s=false:=by rw[hth,qk];rintro⟨h1,_⟩;exact e h1
   rw[<-this];exact hK w2 h.drop
theorem Cg{B:X}{w0 w:Y}{L:J aH}{s:Sl}{xs:J O}{y:O}{c:X}{k:Sl->Pw}(h:Ow B w0 w (aa c [.z y]::L))(i:X)(hL:L[i]?=S (af aB s xs))
  (hbig:xs.length<=1000000000000) (hk:∀s' w',s'.len=xs.length+1->Ow B w0 w' (L.set i (af aB s' (xs++ [y])))->k s' w'):
  ∃s' w',aP qe [22,22] 22 s.v (.slice (S c.p) 1 1) w s' w'/\k s' w':=
 Ow.ID (E:=aB) (y:=y) qH (show qe.info? 3=S qI from by kernel_rfl) (zv:= .z 0) qa qa U qb h i hL (by
  have e:qI.bytes=8:=qa
  rw[e];omega) hk
def eO(bits:J O)(z:O):O × O × J O:=if z<1\/8<z then(0,1,bits)else if 64<=bits.length then(0,2,bits)else((bits.length:O),0,bits++ [z])
theorem zE{bits:J O}{n z y:O}(h:eC bits n=S z):eC (bits++ [y]) n=S z:=by obtain⟨h1,h2,h3⟩:=kn h;unfold eC;rw[Q om,Oy (Om.1 h2).1,h2];simp[h3]
theorem zJ{bits:J O}{s:Slot}{y:O}(h:aR bits s=V):aR (bits++ [y]) s=true:=by
 unfold aR at h|-;cases hz:eC bits s.1 with
 |none=>rw[hz]at h;cases h
 |some z=>rw[hz]at h;rw[zE hz];exact h
theorem sq.make{bits:J O}{H:Hs}(h:sq bits H){z:O}(h1:1<=z)(h2:z<=8)(hf:bits.length<64):sq (bits++ [z]) H:=by
 refine⟨by simp;omega,λy hy=>?_,λs c hs=>?_⟩
 .rcases List.mem_append.1 hy with hy|hy
  .exact h.zT y hy
  .simp only[List.mem_singleton]at hy;subst hy;exact .inr ⟨h1,h2⟩
 .obtain ⟨g1,g2⟩:=h.held s c hs
  exact⟨zJ g1,g2⟩
theorem im{z:O}{K:O->O->Pw}(h:Ow B w0 w (aC b bits H::R))(hK:∀w',Ow B w0 w' (aC b (eO bits z).2.2 H::R)->K (eO bits z).1 (eO bits z).2.1 w'):Ue b.o z K w:=by
 apply Zk;intro k3 hk3;by_cases h0:z<1
 .rw[show F (z<1)=V from by simpa using h0,ql]
  apply hk3;rw[ql];have e:eO bits z=(0,1,bits):=by unfold eO;rw[A (.inl h0)]
  rw[e]at hK;exact hK w h
 rw[show F (z<1)=Z from by simpa using h0,qp];apply hk3;by_cases h1:8<z
 .rw[show F (z>8)=V from by simpa using h1,ql]
  have e:eO bits z=(0,1,bits):=by unfold eO;rw[A (.inr h1)]
  rw[e]at hK;exact hK w h
 rw[show F (z>8)=Z from by simpa using h1,qp];obtain⟨x,hk,hM,h⟩:=h.nodes;have hlen:=h.len 1 U;have hfew:=hk.fh;refine⟨_,U,x.s,h.iM 0 U U,?_⟩;by_cases h2:64<=bits.length
 .rw[show F ((x.s.len:O)>=64)=V from by simp;omega,ql]
  have e:eO bits z=(0,2,bits):=by unfold eO;rw[Q om,A h2]
  rw[e]at hK;exact hK w (Ow.fo hk hM h)
 .rw[show F ((x.s.len:O)>=64)=Z from by simp;omega,qp]
  have e:eO bits z=((bits.length:O),0,bits++ [z]):=by unfold eO;rw[Q om,Q h2]
  rw[e]at hK;refine⟨_,U,x.s,h.iM 0 U U,h.al λw1 h=>?_⟩;refine Cg h 1 U om λs' w2 hs' h=>?_;refine⟨_,U,h.st 0 U U U λw3 h=>?_⟩;refine⟨_,U,s',h.iM 0 U U,?_⟩;have e2:qd.wrap ((s'.len:O)-1)=(bits.length:O):=by rw[wr om om];omega
  rw[e2];exact hK w3 (Ow.fo (s:=s') (hk.make om om om) hM h)
theorem iV{s:Slot}{K:O->O->O->O->O->O->O->Pw}(h:Ow B w0 w L)(i:X)(hi:L[i]?=S (aC b bits H))
  (h1:aR bits s=Z->∀w',Ow B w0 w' L->K 0 0 0 0 0 0 50 w')
  (h2:aR bits s=V->∀w' c,c=(H s).getD aq->Ow B w0 w' L->K c.kind c.obj c.ak c.ax c.guard c.bits 0 w'):R6 b.o s.1 s.2 K w:=by
 apply Zp;refine h.al λw1 h=>?_;refine h.al λw2 h=>?_;refine h.pD 1 U U ?_;refine dn h (i+2) (by simpa using hi) λw3 h=>?_;cases ht:aR bits s with
 |false=>
  rw[PN,ql];refine h.Iv 0 U U U λw4 h=>?_;refine h.tY 0 U U ?_;exact h1 ht w4 h.drop.drop
 |true=>
  rw[PK,qp];refine h.dr λw4 h=>?_;have hn:Ow B w0 w4 (aC b bits H::(aa w1.heap.size [.z 0,.z 0,.z 0,.y 0,.y 0,.z 0]::aa w.heap.size [.z s.1,.z s.2]::L).eraseIdx (i+2)):=h.take (i+2) (by simpa using hi);obtain⟨x,hk,hM,hn⟩:=hn.nodes;refine⟨_,U,S x.m,hn.ld 0 U U,h.pD 1 U U ?_⟩;have hl:z7 qe 232 (.map (S x.m)) (dT s) (jN ((H s).getD aq)) w4:=by
   cases hs:H s with
   |none=>exact(hn.vw qM jw B1 2 U (by rw[hM,hs])).2
   |some c=>exact(hn.tI qM jw 2 U (by rw[hM,hs];rfl)).2
  generalize hc:(H s).getD aq=c at hl;refine⟨⟨c.kind,c.obj,c.ak,c.ax,c.guard,c.bits,hl,h.Iv 0 U U U λw5 h=>?_,trivial⟩,trivial⟩;refine h.tY 0 U U ?_;exact h2 ht w5 c hc.symm h.drop.drop
theorem DQ{s:Slot}{m:X}{M:J (Slot × cO)}{k:qf->W->Pw}(h:Ow B w0 w L)(i:X)(hi:L[i]?=S (kT m M))(o:qg cO)(ho:dO M s=o)
  (hk:∀w',Ow B w0 w' (aa w.heap.size (o.getD aq).cells::L)->k w.heap.size.p o.isSome w'):
  (∃t52:O,∃t53:O,∃t54:O,∃t55:O,∃t56:O,∃t57:O,∃is58:W,tz qe 232 (.map (S m)) (.agg #[.z s.1,.z s.2]) (.agg #[.z t52,.z t53,.z t54,.y t55,.y t56,.z t57]) is58 w/\
  (Al w (.cells #[.z (0:O),.z (0:O),.z (0:O),.y (0:O),.y (0:O),.z (0:O)] 157) λw59=>
  (aD w59 w.heap.size.p 0 [.z t52,.z t53,.z t54,.y t55,.y t56,.z t57] λw60=>
  k w.heap.size.p is58 w60)/\
  G)/\
  G)/\
  (Al w (.cells #[.z (0:O),.z (0:O),.z (0:O),.y (0:O),.y (0:O),.z (0:O)] 157) λw61=>
  (∃t62:O,∃t63:O,∃t64:O,∃t65:O,∃t66:O,∃t67:O,∃is68:W,tz qe 232 (.map (S m)) (.agg #[.z s.1,.z s.2]) (.agg #[.z t62,.z t63,.z t64,.y t65,.y t66,.z t67]) is68 w61/\
  (aD w61 w.heap.size.p 0 [.z t62,.z t63,.z t64,.y t65,.y t66,.z t67] λw69=>
  k w.heap.size.p is68 w69)/\
  G)/\
  G)/\
  G:=by
 have hl:∀(w':Y)(L':J aH)(j:X),Ow B w0 w' L'->L'[j]?=S (kT m M)->tz qe 232 (.map (S m)) (dT s) (jN (o.getD aq)) o.isSome w':=by
  intro w' L' j h hj;cases o with
  |none=>exact(h.vw qM jw B1 j hj ho).1
  |some c=>exact(h.tI qM jw j hj ho).1
 generalize hc:o.getD aq=c at hl hk;refine⟨⟨c.kind,c.obj,c.ak,c.ax,c.guard,c.bits,o.isSome,hl w L i h hi,?_,trivial⟩,?_,trivial⟩
 .refine h.al λw2 h=>⟨?_,trivial⟩
  refine h.Iv 0 U U U λw3 h=>?_;exact hk w3 h
 .refine h.al λw2 h=>⟨⟨c.kind,c.obj,c.ak,c.ax,c.guard,c.bits,o.isSome,hl w2 _ (i+1) h (by simpa using hi),?_,trivial⟩,trivial⟩
  refine h.Iv 0 U U U λw3 h=>?_;exact hk w3 h
theorem sq.put{bits:J O}{H:Hs}(h:sq bits H){s:Slot}{c:cO}(h1:aR bits s=V)(h2:bT c=0)(h3:c.kind≠0)(h4:fI c):sq bits (cz H s (S c)):=by
 refine⟨h.fh,h.zT,λs' c' hs=>?_⟩;unfold cz at hs;split at hs
 .rename_i e;subst e;cases hs;exact⟨h1,h2,h3,h4⟩
 .exact h.held s' c' hs
theorem sq.del{bits:J O}{H:Hs}(h:sq bits H)(s:Slot):sq bits (cz H s I):=by
 refine⟨h.fh,h.zT,λs' c' hs=>?_⟩;unfold cz at hs;split at hs
 .cases hs
 .exact h.held s' c' hs
theorem yc{M:J (Slot × cO)}{H:Hs}(h:∀k,dO M k=H k)(s:Slot)(c:cO):∀k,dO (jL M s c) k=cz H s (S c) k:=λk=>by
 rw[sO,h k];unfold cz;by_cases e:s=k
 .subst e;simp
 .have:¬k=s:=λh=>e h.symm
  rw[Q e,Q this]
theorem ya{M:J (Slot × cO)}{H:Hs}(hn:(M.map (·.1)).Nodup)(h:∀k,dO M k=H k)(s:Slot):∀k,dO (lh M s) k=cz H s I k:=λk=>by
 rw[sN hn,h k];unfold cz;by_cases e:s=k
 .subst e;simp
 .have:¬k=s:=λh=>e h.symm
  rw[Q e,Q this]
theorem _root_.Go.Vc.Ow.CH{B:X}{w0 w:Y}{L:J aH}{m:X}{M:J (Slot × cO)}(h:Ow B w0 w L)(i:X)(hi:L[i]?=S (kT m M)):(M.map (·.1)).Nodup:=(h.take i hi).head λ_ h=>h.2.nodup
def jl(bits:J O)(H:Hs)(s:Slot)(c:cO):O × Hs:=
 if aR bits s=Z then(50,H)else if bT c≠0 then(bT c,H)else if c.kind=0 then(1,H)else if(H s).isSome then(51,H)else(0,cz H s (S c))
theorem iW{s:Slot}{c:cO}{K:O->Pw}(hc:fI c)(h:Ow B w0 w (aC b bits H::R))(hK:∀w',Ow B w0 w' (aC b bits (jl bits H s c).2::R)->K (jl bits H s c).1 w'):
  Ul b.o s.1 s.2 c.kind c.obj c.ak c.ax c.guard c.bits K w:=by
 apply Zl;refine h.al λw1 h=>?_;refine h.al λw2 h=>?_;have h:Ow B w0 w2 (aa w1.heap.size c.cells::aa w.heap.size [.z s.1,.z s.2]::aC b bits H::R):=h;refine h.tY 0 U U ?_;refine jd h hc λw3 h=>?_;intro k20 hk20;refine h.dr λw4 h=>?_;have h:Ow B w0 w4 (aC b bits H::aa w1.heap.size c.cells::aa w.heap.size [.z s.1,.z s.2]::R):=h.take 2 U;have hn:=h;obtain⟨x,hk,hM,h⟩:=h.nodes;refine⟨_,U,S x.m,h.ld 0 U U,h.pD 4 U U (DQ (k:=λ_ b w=>k20 b w) h 2 U (H s) (hM s) λw5 h=>?_)⟩;apply hk20;have h:Ow B w0 w5 (aC b bits H::aa w1.heap.size c.cells::aa w.heap.size [.z s.1,.z s.2]::R):=Ow.fo hk hM h.drop;refine h.pD 2 U U ?_;refine dn h 0 U λw6 h=>?_;have fail:∀e:O,jl bits H s c=(e,H)->K e w6:=λe he=>by rw[he]at hK;have h1:Ow B w0 w6 (aa w.heap.size [.z s.1,.z s.2]::aC b bits H::aa w1.heap.size c.cells::R):=h.take 2 U;exact hK w6 ((h1.drop.perm (List.Perm.swap _ _ _)).drop)
 cases ht:aR bits s with
 |false=>
  rw[PN,ql];exact fail 50 (by unfold jl;rw[A ht])
 |true=>
  have ht':¬aR bits s=false:=by rw[ht];decide
  rw[PK,qp];by_cases e1:bT c=0
  .rw[show(bT c !=0)=Z from by simpa using e1,qp]
   refine⟨c.kind,h.iM 1 U U,?_⟩;by_cases e2:c.kind=0
   .rw[show(c.kind==0)=V from by simpa using e2,ql]
    exact fail 1 (by unfold jl;rw[Q ht',Q (by simpa using e1),A e2])
   .rw[show(c.kind==0)=Z from by simpa using e2,qp]
    cases e3:(H s).isSome with
    |true=>
     rw[ql];exact fail 51 (by unfold jl;rw[Q ht',Q (by simpa using e1),Q e2,A e3])
    |false=>
     rw[qp];have ep:jl bits H s c=(0,cz H s (S c)):=by unfold jl;rw[Q ht',Q (by simpa using e1),Q e2,Q (by rw[e3];decide)]
     rw[ep]at hK;refine h.dr λw7 h=>?_;obtain⟨x,hk,hM,h⟩:=h.nodes;refine⟨_,U,S x.m,h.ld 0 U U,h.pD 4 U U (h.tY 3 U U ⟨h.kM (enc:=dT) (encV:=jN) (k:=s) (v:=c) qM jw 2 U λw8 h=>?_,trivial⟩)⟩;have h1:=Ow.fo (hk.put ht e1 e2 hc) (yc hM s c) h;have h2:Ow B w0 w8 (aa w.heap.size [.z s.1,.z s.2]::aC b bits (cz H s (S c))::aa w1.heap.size c.cells::R):=h1.take 2 U;exact hK w8 ((h2.drop.perm (List.Perm.swap _ _ _)).drop)
  .rw[show(bT c !=0)=V from by simpa using e1,ql]
   exact fail (bT c) (by unfold jl;rw[Q ht',A e1])
theorem ir{s:Slot}{K:O->O->O->O->O->O->O->Pw}(h:Ow B w0 w (aC b bits H::R))
  (h1:aR bits s=Z->∀w',Ow B w0 w' (aC b bits H::R)->K 0 0 0 0 0 0 50 w')
  (h2:aR bits s=V->H s=I->∀w',Ow B w0 w' (aC b bits H::R)->K 0 0 0 0 0 0 52 w')
  (h3:aR bits s=V->∀c,H s=S c->∀w',Ow B w0 w' (aC b bits (cz H s I)::R)->K c.kind c.obj c.ak c.ax c.guard c.bits 0 w'):U1 b.o s.1 s.2 K w:=by
 apply Zs;refine h.al λw1 h=>?_;refine h.al λw2 h=>?_;have h:Ow B w0 w2 (aa w1.heap.size aq.cells::aa w.heap.size [.z s.1,.z s.2]::aC b bits H::R):=h;intro k6 hk6;refine h.dr λw3 h=>?_;have h:Ow B w0 w3 (aC b bits H::aa w1.heap.size aq.cells::aa w.heap.size [.z s.1,.z s.2]::R):=h.take 2 U;obtain⟨x,hk,hM,h⟩:=h.nodes;refine⟨_,U,S x.m,h.ld 0 U U,h.pD 4 U U (DQ (k:=λa b w=>k6 a b w) h 2 U (H s) (hM s) λw4 h=>?_)⟩;apply hk6;have h:Ow B w0 w4 (aC b bits H::aa w1.heap.size aq.cells::aa w.heap.size [.z s.1,.z s.2]::aa w3.heap.size ((H s).getD aq).cells::R):=by
  have h5:=Ow.fo hk hM h.drop;have h6:Ow B w0 w4 (aa w3.heap.size ((H s).getD aq).cells::aa b [bL x.s,.map (S x.m)]::af aB x.s bits::kT x.m x.M::(aa w1.heap.size aq.cells::aa w.heap.size [.z s.1,.z s.2]::R)):=h;have h7:Ow B w0 w4 (aa b [bL x.s,.map (S x.m)]::af aB x.s bits::kT x.m x.M::(aa w1.heap.size aq.cells::aa w.heap.size [.z s.1,.z s.2]::aa w3.heap.size ((H s).getD aq).cells::R)):=by
   refine h6.perm ?_;have p:∀(a b c d e f:aH)(R:J aH),(a::b::c::d::e::f::R).Perm (b::c::d::e::f::a::R):=λa b c d e f R=>by refine(List.Perm.swap _ _ _).trans (List.Perm.cons _ ?_);refine(List.Perm.swap _ _ _).trans (List.Perm.cons _ ?_);refine(List.Perm.swap _ _ _).trans (List.Perm.cons _ ?_);refine(List.Perm.swap _ _ _).trans (List.Perm.cons _ ?_);exact List.Perm.swap _ _ _
   exact p _ _ _ _ _ _ _
  exact Ow.fo hk hM h7
 have fin:∀w' H',Ow B w0 w' (aC b bits H'::aa w1.heap.size aq.cells::aa w.heap.size [.z s.1,.z s.2]::aa w3.heap.size ((H s).getD aq).cells::R)->Ow B w0 w' (aC b bits H'::R):=λw' H' h=>by have g1:Ow B w0 w' (aa w1.heap.size aq.cells::aC b bits H'::aa w.heap.size [.z s.1,.z s.2]::aa w3.heap.size ((H s).getD aq).cells::R):=h.perm (List.Perm.swap _ _ _);exact((g1.drop.perm (List.Perm.swap _ _ _)).drop.perm (List.Perm.swap _ _ _)).drop
 refine h.pD 2 U U ?_;refine dn h 0 U λw5 h=>?_;cases ht:aR bits s with
 |false=>
  rw[PN,ql];refine h.Iv 1 U U U λw6 h=>?_;refine h.tY 1 U U ?_;exact h1 ht w6 (fin _ _ h)
 |true=>
  rw[PK,qp];cases hs:H s with
  |none=>
   rw[Q0,PN,ql];refine h.Iv 1 U U U λw6 h=>?_;refine h.tY 1 U U ?_;exact h2 ht hs w6 (fin _ _ h)
  |some c=>
   rw[Rc,PK,qp];refine h.dr λw6 h=>?_;obtain⟨x,hk,hM,h⟩:=h.nodes;have hnd:=h.CH 2 U;refine⟨_,U,S x.m,h.ld 0 U U,h.pD 4 U U ⟨h.Je (enc:=dT) (encV:=jN) (k:=s) qM jw 2 U λw7 h=>?_,trivial⟩⟩;have h:=Ow.fo (hk.del s) (ya hnd hM s) h;have hcell:((H s).getD aq).cells=c.cells:=by rw[hs];rfl
   rw[hcell]at h fin;refine h.tY 3 U U ?_;refine h.Iv 1 U U U λw8 h=>?_;refine h.tY 1 U U ?_;have h:Ow B w0 w8 (aC b bits (cz H s I)::aa w1.heap.size c.cells::aa w.heap.size [.z s.1,.z s.2]::aa w3.heap.size c.cells::R):=h;have g1:Ow B w0 w8 (aa w1.heap.size c.cells::aC b bits (cz H s I)::aa w.heap.size [.z s.1,.z s.2]::aa w3.heap.size c.cells::R):=h.perm (List.Perm.swap _ _ _);exact h3 ht c hs w8 (((g1.drop.perm (List.Perm.swap _ _ _)).drop.perm (List.Perm.swap _ _ _)).drop)
def dW(bits:J O)(H:Hs)(f t:Slot):O × Hs:=
 if aR bits f=Z\/aR bits t=Z then(50,H)else match H f with|none=>(52,H)|some c=>if(H t).isSome then(51,H)else(0,cz (cz H f I) t (S c))
theorem mQ{f t:Slot}{K:O->Pw}(h:Ow B w0 w (aC b bits H::R))(hK:∀w',Ow B w0 w' (aC b bits (dW bits H f t).2::R)->K (dW bits H f t).1 w'):
  WS b.o f.1 f.2 t.1 t.2 K w:=by
 apply Zq;refine h.al λw1 h=>?_;refine h.al λw2 h=>?_;have h:Ow B w0 w2 (aC b bits H::aa w1.heap.size [.z t.1,.z t.2]::aa w.heap.size [.z f.1,.z f.2]::R):=h.take 2 U;intro k8 hk8;refine h.dr λw3 h=>?_;obtain⟨x,hk,hM,h⟩:=h.nodes;refine⟨_,U,S x.m,h.ld 0 U U,h.pD 4 U U (DQ (k:=λa b w=>k8 a b w) h 2 U (H f) (hM f) λw4 h=>?_)⟩;apply hk8;intro k12 hk12;have h:Ow B w0 w4 (aa w3.heap.size ((H f).getD aq).cells::aC b bits H::aa w1.heap.size [.z t.1,.z t.2]::aa w.heap.size [.z f.1,.z f.2]::R):=by
  have p:∀(a b c d:aH)(R:J aH),(a::b::c::d::R).Perm (b::c::d::a::R):=λa b c d R=>by refine(List.Perm.swap _ _ _).trans (List.Perm.cons _ ?_);refine(List.Perm.swap _ _ _).trans (List.Perm.cons _ ?_);exact List.Perm.swap _ _ _
  have q:∀(a b c d:aH)(R:J aH),(a::b::c::d::R).Perm (a::d::b::c::R):=λa b c d R=>by refine List.Perm.cons _ ?_;refine(List.Perm.cons _ (List.Perm.swap _ _ _)).trans ?_;exact List.Perm.swap _ _ _
  have h5:=Ow.fo hk hM (h.perm (p _ _ _ _ _));exact h5.perm (List.Perm.swap _ _ _)
 refine h.dr λw5 h=>?_;have h:=h.perm (List.Perm.swap _ _ _);obtain⟨x,hk,hM,h⟩:=h.nodes;refine⟨_,U,S x.m,h.ld 0 U U,h.pD 4 U U (DQ (k:=λa b w=>k12 b w) h 2 U (H t) (hM t) λw6 h=>?_)⟩;apply hk12;have h:Ow B w0 w6 (aC b bits H::aa w3.heap.size ((H f).getD aq).cells::aa w1.heap.size [.z t.1,.z t.2]::aa w.heap.size [.z f.1,.z f.2]::R):=Ow.fo hk hM h.drop;have fin:∀w' H',Ow B w0 w' (aC b bits H'::aa w3.heap.size ((H f).getD aq).cells::aa w1.heap.size [.z t.1,.z t.2]::aa w.heap.size [.z f.1,.z f.2]::R)->Ow B w0 w' (aC b bits H'::R):=λw' H' h=>by have g1:Ow B w0 w' (aa w3.heap.size ((H f).getD aq).cells::aC b bits H'::aa w1.heap.size [.z t.1,.z t.2]::aa w.heap.size [.z f.1,.z f.2]::R):=h.perm (List.Perm.swap _ _ _);exact((g1.drop.perm (List.Perm.swap _ _ _)).drop.perm (List.Perm.swap _ _ _)).drop
 intro k15 hk15;have none':∀w',(aR bits f=Z\/aR bits t=Z)->Ow B w0 w' (aC b bits H::aa w3.heap.size ((H f).getD aq).cells::aa w1.heap.size [.z t.1,.z t.2]::aa w.heap.size [.z f.1,.z f.2]::R)->k15 V w':=λw' hn h=>by
  apply hk15;rw[ql];have e:dW bits H f t=(50,H):=by unfold dW;rw[A hn]
  rw[e]at hK;exact hK w' (fin _ _ h)
 refine h.pD 3 U U ?_;refine dn h 0 U λw7 h=>?_;cases hf:aR bits f with
 |false=>rw[PN,ql];exact none' w7 (.inl hf) h
 |true=>
  rw[PK,qp];refine h.pD 2 U U ?_;refine dn h 0 U λw8 h=>?_;cases ht:aR bits t with
  |false=>exact none' w8 (.inr ht) h
  |true=>
   rw[PK];apply hk15;rw[qp];have hn:¬(aR bits f=Z\/aR bits t=Z):=by rw[hf,ht];decide
   cases hs:H f with
   |none=>
    rw[Q0,PN,ql];have e:dW bits H f t=(52,H):=by unfold dW;rw[Q hn,hs]
    rw[e]at hK;exact hK w8 (fin _ _ h)
   |some c=>
    rw[Rc,PK,qp];cases hto:(H t).isSome with
    |true=>
     rw[ql];have e:dW bits H f t=(51,H):=by unfold dW;rw[Q hn,hs];simp only[hto,qz]
     rw[e]at hK;exact hK w8 (fin _ _ h)
    |false=>
     rw[qp];have e:dW bits H f t=(0,cz (cz H f I) t (S c)):=by unfold dW;rw[Q hn,hs];simp[hto]
     rw[e]at hK;have hcell:((H f).getD aq).cells=c.cells:=by rw[hs];rfl
     rw[hcell]at h fin;refine h.dr λw9 h=>?_;obtain⟨x,hk,hM,h⟩:=h.nodes;have hnd:=h.CH 2 U;obtain⟨g1,g2,g3,g4⟩:=hk.held f c hs;refine⟨_,U,S x.m,h.ld 0 U U,h.pD 5 U U ⟨h.Je (enc:=dT) (encV:=jN) (k:=f) qM jw 2 U λw10 h=>?_,trivial⟩⟩;refine h.dr λw11 h=>?_;refine⟨_,U,S x.m,h.ld 0 U U,h.pD 4 U U (h.tY 3 U U ⟨h.kM (enc:=dT) (encV:=jN) (k:=t) (v:=c) qM jw 2 U λw12 h=>?_,trivial⟩)⟩;exact hK w12 (fin _ _ (Ow.fo ((hk.del f).put ht g2 g3 g4) (yc (ya hnd hM f) t c) h))
theorem pG{α:Type}:∀{l:J α}{j:X}{k q:α},l.Nodup->l[j]?=S k->(q∈l.eraseIdx j↔q∈l/\q≠k)
 | [],j,k,q,_,h=>by simp at h
 |a::l,0,k,q,hn,h=>by
  simp only[List.getElem?_cons_zero,Option.some.injEq]at h;subst h;rw[Pu]at hn;rw[List.eraseIdx_cons_zero,Oz];constructor
  .intro hq;exact⟨.inr hq,λe=>hn.1 (e▸hq)⟩
  .rintro ⟨hq|hq,hne⟩
   .exact qi hq hne
   .exact hq
 |a::l,j+1,k,q,hn,h=>by
  rw[Pu]at hn;rw[List.getElem?_cons_succ]at h;have hak:a≠k:=λe=>hn.1 (e▸OV h);rw[List.eraseIdx_cons_succ,Oz,Oz,pG hn.2 h];constructor
  .rintro (rfl|⟨h1,h2⟩)
   .exact ⟨.inl U,hak⟩
   .exact ⟨.inr h1,h2⟩
  .rintro ⟨rfl|h1,h2⟩
   .exact .inl U
   .exact .inr ⟨h1,h2⟩
end
end Sl
theorem ZH{a K w}:Fr (VL a K w) (∀b:W->Pw,(∀(c:W)(d:Y),(bif c then K I 1 d else ∃(b:Sl)(c:Y),jH qe 337 (.z a) (.z a) d b c/\A2 c [.z a,.pointer I,b.v] 340 λa b=>K (S a.p) 0 b)->b c d)->(bif F (a<1)then b V w else b (F (a>8)) w)):=ai func93 .Lb
theorem YE{a b K w}:Fr (Ux a b K w) (UO a b (λc d=>bif !c then K 1 d else ∃c,a=S c/\∃e,d.s (c.add 2) e/\∃c,e.a=S c/\0<=b/\b<(e.len:O)/\∃e,d.q (c.add (b.toNat*1)) e/\bif !e.isNone then K 160 d else ∃c,a=S c/\∃e,d.q (c.add 1) e/\A2 d [.z b,.pointer e,.bool V] 420 λc d=>∃e,a=S e/\∃f,d.s (e.add 2) f/\∃e,a=S e/\St d (e.add 1) (.pointer (S c.p)) λa=>∃d,f.a=S d/\0<=b/\b<(f.len:O)/\St a (d.add (b.toNat*1)) (.pointer (S c.p)) λa=>K 0 a) w):=ai func209 .NV
theorem ZI{a b K w}:Fr (Uy a b K w) (UO a b (λc d=>bif !c then K Z 1 d else ∃c,a=S c/\∃e,d.s (c.add 2) e/\∃c,e.a=S c/\0<=b/\b<(e.len:O)/\∃e,d.q (c.add (b.toNat*1)) e/\bif e.isNone then K Z 161 d else ∃c,a=S c/\∃a,d.s (c.add 2) a/\∃c,a.a=S c/\0<=b/\b<(a.len:O)/\∃a,d.q (c.add (b.toNat*1)) a/\UP a (λa b=>K a 0 b) d) w):=ai func210 (.v (.y .J5 .w))
theorem YF{a b K w}:Fr (Uz a b K w) (Uy a b (λc d e=>bif d !=0 then K d e else bif !c then K 161 e else ∃c,a=S c/\∃d,e.s (c.add 2) d/\∃c,d.a=S c/\0<=b/\b<(d.len:O)/\∃d,e.q (c.add (b.toNat*1)) d/\∃c,d=S c/\St e (c.add 2) (.bool Z) λc=>∃e,d=S e/\St c (e.add 1) (.pointer I) λc=>∃d,a=S d/\∃a,c.s (d.add 2) a/\∃d,a.a=S d/\0<=b/\b<(a.len:O)/\St c (d.add (b.toNat*1)) (.pointer I) λa=>K 0 a) w):=ai func213 (.v (.v (.y .J5 (.v (.v (.v .w))))))
theorem ZJ{a K w}:Fr (WE a K w) (∃b,a=S b/\∃a,w.s (b.add 2) a/\Xk a (.func (.func 306) #[] #[]) (λa b=>K (KM a 0) (F (a>=0)) b) w):=ai func214 (.v (.v .w))
theorem ZK{a b K w}:Fr (UO a b K w) (bif F (b>=0)then ∃c,a=S c/\∃a,w.z c a/\K (F (b<a)) w else K Z w):=ai func302 (.v .w)
theorem ZL{a K w}:Fr (UP a K w) (∃b,a=S b/\∃c,w.q (b.add 1) c/\bif c.isNone then K V w else ∃b,a=S b/\∃a,w.q (b.add 1) a/\∃b,a=S b/\∃a,w.b (b.add 2) a/\K (!a) w):=ai func303 (.v .w)
theorem ZM{a K w}:Fr (Yd a K w) (bif !a.isNone then UP a (λa b=>K a b) w else K Z w):=ai func306 (.v .w)
theorem ZN{a b c d e f g h i K w}:Fr (UZ a b c d e f g h i K w) (A2 w [.z b,.z c,.z d,.y e,.y f,.z g] 157 λb c=>A2 c [.z 0,.z 0] 155 λc d=>∀e:W->Pw,(∀(d:W)(f:Y),(bif d then aD f c.p 0 [.z 0,.z 0] λd=>av d c.p 0 [.o,.o] λ(e g:O)=>K e g 1 d else A2 f [.y h,.z i] 487 λd e=>av e b.p 0 [.o,.o,.o,.u,.u,.o] λ(b f g h i j:O)=>A2 e [.z 0,.z 0,.z 0,.y 0,.y 0,.z 0] 157 λe k=>aD k e.p 0 [.z b,.z f,.z g,.y h,.y i,.z j] λb=>∀f:qf->Pw,(∀(b:qf)(e:Y),(av e b 0 [.o,.o,.o,.u,.u,.o] λ(g h i j k l:O)=>XR a g h i j k l (.func (.func 392) #[.pointer (S d.p)] #[]) (λe g h i=>A2 i [.z 0,.z 0] 155 λi j=>aD j i.p 0 [.z e,.z g] λe=>∀g:W->Pw,(∀(d:W)(e:Y),(bif d then av e i.p 0 [.o,.o] λ(d g:O)=>aD e c.p 0 [.z d,.z g] λd=>av d c.p 0 [.o,.o] λ(g j:O)=>K g j h d else av e i.p 0 [.o,.o] λ(d g:O)=>R6 a d g (λa d e g h i _ j=>aD j b 0 [.z a,.z d,.z e,.y g,.y h,.z i] λa=>∃d,a.z b d/\bif d !=2 then aD a c.p 0 [.z 0,.z 0] λd=>av d c.p 0 [.o,.o] λ(c e:O)=>K c e 62 d else av a b 0 [.o,.o,.o,.u,.u,.o] λ(b c d e g h:O)=>A2 a [.z 0,.z 0,.z 0,.y 0,.y 0,.z 0] 157 λa i=>aD i a.p 0 [.z b,.z c,.z d,.y e,.y g,.z h] λb=>f a.p b) e)->g d e)->(bif h !=0 then g V e else ∃a,S d.p=S a/\∃b,e.z (a.add 1) b/\g (b==0) e)) e)->f b e)->f e.p b)->e d f)->(bif F (i<1)then e V d else e (F (i>64)) d)):=ai func334 (.v (.y .Mb (.v (.v (.x (.t (S [(11,.c .q)]) (.y (.x (.v (.y (.y .MT (.x .w)) (.v (.v (.x .w)))))) .w) .u))))))
theorem ZO{a b c d e f g h K w}:Fr (XR a b c d e f g h K w) (A2 w [.z b,.z c,.z d,.y e,.y f,.z g] 157 λb c=>A2 c [.z 0,.z 0] 155 λc d=>av d b.p 0 [.o,.o,.o,.u,.u,.o] λ(e f g i j k:O)=>X3 a e f g i j k (λa d e=>bif !d then aD e c.p 0 [.z 0,.z 0] λd=>av d c.p 0 [.o,.o] λ(f g:O)=>K f g 60 d else ∃d,e.z (b.p.add 5) d/\cT qe (h) [.z d] e λd e=>∃f,∃g,d= .returned (.tuple #[.y f,.bool g])/\∀d:W->Pw,(∀(e:W)(f:Y),(bif e then aD f c.p 0 [.z 0,.z 0] λd=>av d c.p 0 [.o,.o] λ(e g:O)=>K e g 61 d else cT qe (h) [.z a] f λa d=>∃e,∃f,a= .returned (.tuple #[.y e,.bool f])/\bif !f then aD d c.p 0 [.z 0,.z 0] λa=>av a c.p 0 [.o,.o] λ(f g:O)=>K f g 62 a else ∃a,d.z (b.p.add 1) a/\aD d c.p 0 [.z a,.z (qd.wrap e)] λa=>av a c.p 0 [.o,.o] λ(b c:O)=>K b c 0 a)->d e f)->(bif !g then d V e else ∃a,e.y (b.p.add 4) a/\d (f !=a) e)) d):=ai func391 (.v (.v (.y (.v (.x .w)) (.y (.v (.y (.r (S [(37,.c .b)]) .done) (.x .w))) .Ir))))
theorem ZP{a b K w}:Fr (Yn a b K w) (∃c,a=S c/\∃d,w.z (c.add 1) d/\bif F (b>d)then K 0 Z w else ∃c,a=S c/\∃d,w.z (c.add 1) d/\∃c,a=S c/\St w (c.add 1) (.z (qd.wrap (d-b))) λc=>Dr c λc=>∃d,a=S d/\∃e,c.y d e/\∃d,a=S d/\∃a,c.z (d.add 1) a/\(T6 e a b (λa _ b=>K a V b) c)/\G):=ai func392 (.v (.y (.v (.x .w)) (.v (.y (.z (.o 0 496 (.o 1 496 (.o 2 496 (.o 3 496 (.o 4 256 (.o 5 256 (.o 6 256 (.o 7 256 (.o 8 0 (.e 9 (.o 10 0 (.o 11 4096 (.o 12 8192 .LH)))))))))))))) .w))))
theorem ZQ{a b c d e f g K w}:Fr (X3 a b c d e f g K w) (A2 w [.z b,.z c,.z d,.y e,.y f,.z g] 157 λb c=>∀d:W->Pw,(∀(c:W)(e:Y),(bif c then K 0 Z e else ∃c,e.z (b.p.add 1) c/\UT a c (λa b c=>K a b c) e)->d c e)->(∃a,c.z b.p a/\bif a !=2 then d V c else av c b.p 0 [.o,.o,.o,.u,.u,.o] λ(a b e f g h:O)=>TJ a b e f g h (λa b=>d (a !=0) b) c)):=ai func432 (.v (.y (.y (.r (S [(13,.c .b)]) .done) (.x .w)) .w))
theorem YG{a b c d e f K w}:Fr (SQ a b c d e f K w) (A2 w [.z a,.z b,.z c,d.v] 24 λa b=>av b a.p 0 [.o,.o,.o,.s] λ(c d g:O)(h:Sl)=>Vj c d g h (λb c d=>bif c !=0 then K I c d else VK e (λc d=>A2 d [.pointer b,.pointer I,.pointer I,.slice I 0 0,c.v] 188 λb c=>∃d,c.z a.p d/\VL d (λc _ d=>∃e,S b.p=S e/\St d (e.add 1) (.pointer c) λc=>∃d,c.z a.p d/\VM d (λc _ d=>∃e,S b.p=S e/\St d (e.add 2) (.pointer c) λc=>∃d,c.z a.p d/\∀a:O->Pw,(∀(c:O)(e:Y),(bif F (c<d)then VN f (λd e f=>bif e !=0 then K I e f else ∃e,S b.p=S e/\∃g,f.s (e.add 3) g/\A2 f [.pointer d,.z 0,.z 0,.z 0,.y 0,.z 0,.slice I 0 0] 197 λd e=>∃f h,aP qe [186,186] 186 g.v (.slice (S d.p) 1 1) e f h/\∃d,S b.p=S d/\St h (d.add 3) f.v λb=>a (qd.wrap (c+1)) b) e else K (S b.p) 0 e)->a c e)->a 0 c) c) c) d) b):=ai func20 (.v (.v (.y (.v (.x .w)) (.v (.v (.v (.y (.v (.x (.t (S [(46,.c (.i .i64))]) (.v (.y .w (.x (.x (.v (.x (.v (.x .w)))))))) .u))) .w)))))))
theorem ZR{a b c d e K w}:Fr (RE a b c d e K w) (A2 w [.z b,.z c,.z d,.z e] 76 λb c=>A2 c [.z 0,.z 0,.z 0,.z 0,.y 0,.z 0,.slice I 0 0,.z 0,.z 0,.bool Z] 72 λc d=>Dr d λd=>av d b.p 0 [.o,.o,.o,.o] λ(e f g h:O)=>∃i,a=S i/\∃j,d.s (i.add 3) j/\(VO e f g h (j.len:O) (λd e=>bif !d then aD e c.p 0 [.z 0,.z 0,.z 0,.z 0,.y 0,.z 0,.slice I 0 0,.z 0,.z 0,.bool Z] λd=>av d c.p 0 [.o,.o,.o,.o,.u,.o,.s,.o,.o,.b] λ(f g h i j k:O)(l:Sl)(m n:O)(o:W)=>K f g h i j k l m n o Z d else ∃d,e.z b.p d/\bif d==1 then av e b.p 0 [.o,.o,.o,.o] λ(d f g h:O)=>VP a d f g h (λa b d e f g h i j k l m=>aD m c.p 0 [.z a,.z b,.z d,.z e,.y f,.z g,h.v,.z i,.z j,.bool k] λa=>av a c.p 0 [.o,.o,.o,.o,.u,.o,.s,.o,.o,.b] λ(b c d e f g:O)(h:Sl)(i j:O)(k:W)=>K b c d e f g h i j k l a) e else ∃d,e.z b.p d/\bif d==0 then ∃d,e.z (b.p.add 1) d/\VQ a d (λa b d e f g h i j k l m=>aD m c.p 0 [.z a,.z b,.z d,.z e,.y f,.z g,h.v,.z i,.z j,.bool k] λa=>av a c.p 0 [.o,.o,.o,.o,.u,.o,.s,.o,.o,.b] λ(b c d e f g:O)(h:Sl)(i j:O)(k:W)=>K b c d e f g h i j k l a) e else VR a (λd e=>bif !d then aD e c.p 0 [.z 0,.z 0,.z 0,.z 0,.y 0,.z 0,.slice I 0 0,.z 0,.z 0,.bool Z] λd=>av d c.p 0 [.o,.o,.o,.o,.u,.o,.s,.o,.o,.b] λ(f g h i j k:O)(l:Sl)(m n:O)(o:W)=>K f g h i j k l m n o Z d else ∃d,e.z b.p d/\bif d==2 then Dr e λd=>∃f,a=S f/\∃g,d.q f g/\∃f,d.z (b.p.add 2) f/\(Vn g f (λa d e=>∃f,e.z (b.p.add 1) f/\∃g,e.z (b.p.add 2) g/\aD e c.p 0 [.z 4,.z f,.z g,.z d,.y 0,.z a,.slice I 0 0,.z 0,.z 0,.bool Z] λa=>av a c.p 0 [.o,.o,.o,.o,.u,.o,.s,.o,.o,.b] λ(b c d e f g:O)(h:Sl)(i j:O)(k:W)=>K b c d e f g h i j k V a) d)/\G else Dr e λd=>∃e,a=S e/\∃a,d.q e a/\∃e,d.z (b.p.add 1) e/\∃f,d.z (b.p.add 1) f/\(Vp a e (λa d=>d.z (b.p.add 1) f/\(aD d c.p 0 [.z 5,.z f,.z 0,.z 0,.y 0,.z 0,.slice I 0 0,.z 0,.z 0,.bool a] λa=>av a c.p 0 [.o,.o,.o,.o,.u,.o,.s,.o,.o,.b] λ(b c d e f g:O)(h:Sl)(i j:O)(k:W)=>K b c d e f g h i j k V a)/\G) d)/\G) e) d)/\G):=ai func21 (.v (.y (.y (.z (.o 0 62 (.o 1 0 (.o 2 0 (.o 3 0 .MI))))) (.x .w)) (.y (.x (.v (.y .w (.v (.y .w (.v (.y .w (.v (.x .g15))))))))) (.x (.z (.o 0 508 (.o 2 194 (.o 3 194 (.o 4 194 (.o 5 194 (.o 6 2 (.o 7 2 (.hold 1 256 3071 (.e 8 .MO))))))))))))))
theorem ZS{a K w}:Fr (Ub a K w) (∃b,a=S b/\∃a,w.q b a/\Vx a (λa b=>K a b) w):=ai func23 (.v .w)
theorem ZT{a b K w}:Fr (Tv a b K w) (∃c,a=S c/\∃a,w.q c a/\Uh a b (λa b=>K a b) w):=ai func26 (.v .w)
theorem ZU{a b c d e K w}:Fr (VP a b c d e K w) (A2 w [.z b,.z c,.z d,.z e] 76 λb c=>A2 c [.z 0,.z 0,.z 0,.z 0,.y 0,.z 0,.slice I 0 0,.z 0,.z 0,.bool Z] 72 λc d=>Dr d λd=>∃e,a=S e/\∃f,d.s (e.add 3) f/\∃e,d.z (b.p.add 1) e/\∃g,f.a=S g/\0<=e/\e<(f.len:O)/\∃f,S (g.add (e.toNat*7))=S f/\∃h,d.z (f.add 1) h/\bif h !=0 then aD d c.p 0 [.z 0,.z 0,.z 0,.z 0,.y 0,.z 0,.slice I 0 0,.z 0,.z 0,.bool Z] λf=>av f c.p 0 [.o,.o,.o,.o,.u,.o,.s,.o,.o,.b] λ(h i j k l m:O)(n:Sl)(o p:O)(q:W)=>K h i j k l m n o p q Z f else ∃f,d.z (b.p.add 3) f/\bif F (f>0)then ∃f,d.z (b.p.add 1) f/\∃h,d.z (b.p.add 2) h/\WA a f h (λa b d e f g h i j k l m=>aD m c.p 0 [.z a,.z b,.z d,.z e,.y f,.z g,h.v,.z i,.z j,.bool k] λa=>av a c.p 0 [.o,.o,.o,.o,.u,.o,.s,.o,.o,.b] λ(b c d e f g:O)(h:Sl)(i j:O)(k:W)=>K b c d e f g h i j k l a) d else Dr d λd=>∃f,d.z (b.p.add 2) f/\∃h,a=S h/\∃a,d.s (h.add 4) a/\bif F (f<(a.len:O))then Dr d λa=>∃f,S (g.add (e.toNat*7))=S f/\∃h,a.z (b.p.add 2) h/\(St a (f.add 1) (.z 1) λa=>a.z (b.p.add 2) h/\∃b,S (g.add (e.toNat*7))=S b/\(St a (b.add 2) (.z h) λa=>aD a c.p 0 [.z 0,.z 0,.z 0,.z 0,.y 0,.z 0,.slice I 0 0,.z 0,.z 0,.bool Z] λa=>av a c.p 0 [.o,.o,.o,.o,.u,.o,.s,.o,.o,.b] λ(b c d e f g:O)(h:Sl)(i j:O)(k:W)=>K b c d e f g h i j k Z a)/\G)/\G else aD d c.p 0 [.z 0,.z 0,.z 0,.z 0,.y 0,.z 0,.slice I 0 0,.z 0,.z 0,.bool Z] λa=>av a c.p 0 [.o,.o,.o,.o,.u,.o,.s,.o,.o,.b] λ(b c d e f g:O)(h:Sl)(i j:O)(k:W)=>K b c d e f g h i j k Z a):=ai func97 (.v (.y (.z (.o 0 48 (.o 1 48 (.o 2 48 (.o 3 48 (.o 4 0 .MN)))))) (.y (.x (.v (.v (.v (.y .w (.y (.z (.o 0 124 (.o 1 124 (.o 2 0 (.o 3 0 (.o 4 0 (.o 5 0 (.o 6 0 (.o 7 0 (.o 8 0 .done)))))))))) (.x (.z (.o 0 14 (.o 1 124 (.o 2 112 .NH))))))))))) .w)))
theorem ZV{a b K w}:Fr (VQ a b K w) (A2 w [.z 0,.z 0,.z 0,.z 0,.y 0,.z 0,.slice I 0 0,.z 0,.z 0,.bool Z] 72 λc d=>∃e,a=S e/\∃f,d.s (e.add 3) f/\∃e,f.a=S e/\0<=b/\b<(f.len:O)/\WB a b (λd f=>bif d then aD f c.p 0 [.z 0,.z 0,.z 0,.z 0,.y 0,.z 0,.slice I 0 0,.z 0,.z 0,.bool Z] λd=>av d c.p 0 [.o,.o,.o,.o,.u,.o,.s,.o,.o,.b] λ(g h i j k l:O)(m:Sl)(n o:O)(p:W)=>K g h i j k l m n o p Z d else ∃d,S (e.add (b.toNat*7))=S d/\∃g,f.z (d.add 1) g/\bif g==1 then ∃d,a=S d/\∃g,f.q (d.add 1) g/\Ux g b (λ_ a=>∃d,S (e.add (b.toNat*7))=S d/\St a (d.add 1) (.z 2) λa=>∃d,S (e.add (b.toNat*7))=S d/\∃e,a.z (d.add 2) e/\aD a c.p 0 [.z 0,.z b,.z e,.z 0,.y 0,.z 0,.slice I 0 0,.z 0,.z 0,.bool Z] λa=>av a c.p 0 [.o,.o,.o,.o,.u,.o,.s,.o,.o,.b] λ(b c d e f g:O)(h:Sl)(i j:O)(k:W)=>K b c d e f g h i j k V a) f else ∃d,S (e.add (b.toNat*7))=S d/\∃g,f.z (d.add 1) g/\bif g==2 then ∃d,a=S d/\∃g,f.q (d.add 1) g/\Uy g b (λd _ e=>bif d then WC a b (λa b d e f g h i j k l=>aD l c.p 0 [.z a,.z b,.z d,.z e,.y f,.z g,h.v,.z i,.z j,.bool k] λa=>av a c.p 0 [.o,.o,.o,.o,.u,.o,.s,.o,.o,.b] λ(b c d e f g:O)(h:Sl)(i j:O)(k:W)=>K b c d e f g h i j k V a) e else aD e c.p 0 [.z 0,.z 0,.z 0,.z 0,.y 0,.z 0,.slice I 0 0,.z 0,.z 0,.bool Z] λa=>av a c.p 0 [.o,.o,.o,.o,.u,.o,.s,.o,.o,.b] λ(b c d e f g:O)(h:Sl)(i j:O)(k:W)=>K b c d e f g h i j k Z a) f else ∀d:W->Pw,(∀(f:W)(g:Y),(bif f then ∃d,a=S d/\∃a,g.q (d.add 1) a/\Uz a b (λ_ a=>∃d,S (e.add (b.toNat*7))=S d/\St a (d.add 1) (.z 0) λa=>Dr a λa=>∃d,S (e.add (b.toNat*7))=S d/\∃f,S (e.add (b.toNat*7))=S f/\av a (f.add 3) 0 [.o,.u,.o,.s] λ(e f g:O)(h:Sl)=>∃i,a.z (d.add 2) i/\(Uk e f g h (λa e f g h=>h.z (d.add 2) i/\(aD h c.p 0 [.z 2,.z b,.z i,.z a,.y e,.z f,g.v,.z 0,.z 0,.bool Z] λa=>av a c.p 0 [.o,.o,.o,.o,.u,.o,.s,.o,.o,.b] λ(b c d e f g:O)(h:Sl)(i j:O)(k:W)=>K b c d e f g h i j k V a)/\G) a)/\G) g else aD g c.p 0 [.z 0,.z 0,.z 0,.z 0,.y 0,.z 0,.slice I 0 0,.z 0,.z 0,.bool Z] λa=>av a c.p 0 [.o,.o,.o,.o,.u,.o,.s,.o,.o,.b] λ(b c d e f g:O)(h:Sl)(i j:O)(k:W)=>K b c d e f g h i j k Z a)->d f g)->(∃c,S (e.add (b.toNat*7))=S c/\∃e,f.z (c.add 1) e/\bif e==3 then ∃c,a=S c/\∃a,f.q (c.add 2) a/\WD a b (λa b=>d (a==0) b) f else d Z f)) d):=ai func98 (.v (.v (.y (.x (.v (.v (.v (.y (.v (.v .w)) (.v (.y (.v (.v (.x .w))) (.y (.r (S [(59,.c .b)]) .done) (.x (.v (.v (.x (.z (.o 0 1022 (.o 1 992 (.o 2 992 (.o 3 992 (.o 5 16 (.o 6 16 (.o 7 16 (.o 8 16 (.hold 4 512 6143 (.e 9 .LF))))))))))))))))))))))) .w)))
theorem ZW{a K w}:Fr (VR a K w) (∃b,a=S b/\∃a,w.q (b.add 1) a/\WE a (λ_ a b=>K (!a) b) w):=ai func99 (.v (.v .w))
theorem ZX{a b K w}:Fr (VS a b K w) (WG a b (λc d=>bif !c then K 0 Z d else ∃c,a=S c/\∃a,d.s (c.add 3) a/\∃c,a.a=S c/\0<=b/\b<(a.len:O)/\∃a,d.z ((c.add (b.toNat*7)).add 1) a/\K a V d) w):=ai func100 .Ir
theorem ZY{a b c d K w}:Fr (Uk a b c d K w) (A2 w [.z a,.y b,.z c,d.v] 42 λa b=>A2 b [.z 0,.y 0,.z 0,.slice I 0 0] 42 λb c=>∃d,c.s (a.p.add 3) d/\WH d (λc d=>St d (a.p.add 3) c.v λc=>av c a.p 0 [.o,.u,.o,.s] λ(a d e:O)(f:Sl)=>aD c b.p 0 [.z a,.y d,.z e,f.v] λa=>av a b.p 0 [.o,.u,.o,.s] λ(b c d:O)(e:Sl)=>K b c d e a) c):=ai func107 (.v (.v .w))
theorem ZZ{a b c K w}:Fr (WA a b c K w) (A2 w [.z 0,.z 0,.z 0,.z 0,.y 0,.z 0,.slice I 0 0,.z 0,.z 0,.bool Z] 72 λd e=>∃f,a=S f/\∃g,e.s (f.add 3) g/\∃f,g.a=S f/\0<=b/\b<(g.len:O)/\∃g,S (f.add (b.toNat*7))=S g/\∃h,e.q g h/\Xf h 0 c (λe g h i=>A2 i [.z 0,.z 0] 70 λi j=>aD j i.p 0 [.z e,.z g] λe=>∀g:W->Pw,(∀(a:W)(e:Y),(av e i.p 0 [.o,.o] λ(f g:O)=>aD e d.p 0 [.z 3,.z b,.z c,.z 0,.y 0,.z 0,.slice I 0 0,.z f,.z g,.bool a] λa=>av a d.p 0 [.o,.o,.o,.o,.u,.o,.s,.o,.o,.b] λ(b c d e f g:O)(h:Sl)(i j:O)(k:W)=>K b c d e f g h i j k V a)->g a e)->(bif !h then Xg a c (λa d e h=>aD h i.p 0 [.z a,.z d] λa=>bif e then Dr a λd=>∃h,S (f.add (b.toNat*7))=S h/\∃b,d.q h b/\av d i.p 0 [.o,.o] λ(f h:O)=>(Xh b 0 c f h (λa=>g e a) d)/\G else g e a) e else g h e)) e):=ai func207 (.v (.v (.v (.y (.v (.t (S [(10,.c .b)]) (.v (.v (.x (.z (.o 0 112 (.o 1 112 (.o 2 112 (.o 3 112 (.o 4 32 .Mf))))))))) .u)) .w))))
theorem Z0{a b K w}:Fr (WB a b K w) (∃c,a=S c/\∃d,w.q (c.add 2) d/\Xi d b (λc d e f g=>A2 g [.z 0,.z 0,.z 0] 357 λg h=>aD h g.p 0 [.z c,.z d,.z e] λc=>bif f then Dr c λd=>∃e,a=S e/\∃a,d.s (e.add 3) a/\∃e,a.a=S e/\0<=b/\b<(a.len:O)/\∃a,d.q (e.add (b.toNat*7)) a/\∃b,d.z (g.p.add 2) b/\(4096:O)≠0/\∃e,d.z (g.p.add 2) e/\(4096:O)≠0/\(UN a (qd.wrap (b.tdiv 4096)) (e.tmod 4096) (λ_ a=>K f a) d)/\G else K f c) w):=ai func208 (.v (.v (.y (.v (.x (.z (.o 0 16144 (.o 1 16144 (.o 2 16144 (.o 3 16144 (.o 4 16128 (.o 5 16128 (.o 6 16128 (.o 7 16128 .Nz))))))))))) .w)))
theorem Z3{a b K w}:Fr (WC a b K w) (A2 w [.z 0,.z 0,.z 0,.z 0,.y 0,.z 0,.slice I 0 0,.z 0,.z 0,.bool Z] 72 λc d=>∃e,a=S e/\∃f,d.s (e.add 3) f/\∃e,f.a=S e/\0<=b/\b<(f.len:O)/\Dr d λd=>∃f,a=S f/\∃g,d.q f g/\∃f,a=S f/\∃h,d.s (f.add 4) h/\∃f,S (e.add (b.toNat*7))=S f/\∃i,d.z (f.add 2) i/\∃f,h.a=S f/\0<=i/\i<(h.len:O)/\av d (f.add (i.toNat*6)) 0 [.o,.o,.o,.o,.o,.o] λ(f h i j k l:O)=>(Vl g b f h i j k l (λd f g h i=>∃j,S (e.add (b.toNat*7))=S j/\(aD i (j.add 3) 0 [.z d,.y f,.z g,h.v] λd=>∃f,S (e.add (b.toNat*7))=S f/\∃g,d.s ((f.add 3).add 3) g/\∀f:O->Pw,(∀(d:O)(h:Y),(bif F (d<(g.len:O))then ∃i,g.a=S i/\0<=d/\d<(g.len:O)/\av h (i.add (d.toNat*4)) 0 [.o,.o,.o,.o] λ(g i j k:O)=>A2 h [.z 0,.z 0,.z 0,.z 0] 289 λl m=>aD m l.p 0 [.z g,.z i,.z j,.z k] λg=>Dr g λg=>∃i,S (e.add (b.toNat*7))=S i/\∃j,g.q i j/\∃i,g.z l.p i/\∃k,g.z (l.p.add 1) k/\(UN j i k (λ_ c=>Dr c λc=>∃e,a=S e/\∃a,c.q (e.add 2) a/\∃e,c.z l.p e/\∃g,c.z (l.p.add 1) g/\(Xj a b 0 (qd.wrap ((qd.wrap (e*4096))+g)) (λ_ a=>f (qd.wrap (d+1)) a) c)/\G) g)/\G else ∃a,S (e.add (b.toNat*7))=S a/\St h (a.add 1) (.z 3) λa=>Dr a λa=>∃d,S (e.add (b.toNat*7))=S d/\∃f,S (e.add (b.toNat*7))=S f/\av a (f.add 3) 0 [.o,.u,.o,.s] λ(e f g:O)(h:Sl)=>∃i,a.z (d.add 2) i/\(Uk e f g h (λa e f g h=>h.z (d.add 2) i/\(aD h c.p 0 [.z 1,.z b,.z i,.z a,.y e,.z f,g.v,.z 0,.z 0,.bool Z] λa=>av a c.p 0 [.o,.o,.o,.o,.u,.o,.s,.o,.o,.b] λ(b c d e f g:O)(h:Sl)(i j:O)(k:W)=>K b c d e f g h i j k a)/\G) a)/\G)->f d h)->f 0 d)/\G) d)/\G):=ai func211 (.v (.v (.y (.z (.o 0 131070 (.o 1 65504 (.o 2 65504 (.o 3 65504 (.o 4 65504 (.o 5 65472 (.o 6 15360 (.o 7 15360 (.o 8 15360 (.o 9 15360 (.o 10 0 (.o 11 0 (.o 12 0 (.o 13 0 (.o 14 0 (.o 15 0 (.e 16 (.o 17 0 (.o 18 0 (.e 19 .done))))))))))))))))))))) (.y (.v (.x (.t (S [(39,.c (.i .i64))]) (.v (.y .w (.x (.x (.v (.y (.z (.o 0 240 (.o 1 240 (.o 2 240 (.o 3 240 (.o 4 192 (.o 5 192 .Mg))))))) (.z (.o 0 2032 (.o 1 2032 (.o 2 2032 (.o 3 2032 (.o 4 2016 (.o 5 768 (.o 6 768 (.o 7 768 (.o 8 0 .MP)))))))))))))))) .u))) (.v (.x (.z (.o 0 1022 (.o 1 992 (.o 2 992 (.o 3 992 (.o 5 16 (.o 6 16 (.o 7 16 (.o 8 16 (.hold 4 512 2047 (.e 9 (.o 10 0 (.e 11 .done)))))))))))))))))))
theorem Z4{a b K w}:Fr (WG a b K w) (bif F (b>=0)then ∃c,a=S c/\∃a,w.s (c.add 3) a/\K (F (b<(a.len:O))) w else K Z w):=ai func215 (.v .w)
theorem Z5{a b K w}:Fr (Xg a b K w) (A2 w [.z b] 3 λb c=>A2 c [.z 0,.z 0] 70 λc d=>∃e,a=S e/\∃a,d.q e a/\Uh a 0 (λa d=>XL a (.func (.func 373) #[] #[.pointer (S b.p)]) (λb d=>bif F (b<0)then aD d c.p 0 [.z 0,.z 0] λe=>av e c.p 0 [.o,.o] λ(f g:O)=>K f g Z e else ∃e,a.a=S e/\0<=b/\b<(a.len:O)/\av d ((e.add (b.toNat*3)).add 1) 0 [.o,.o] λ(a b:O)=>aD d c.p 0 [.z a,.z b] λa=>av a c.p 0 [.o,.o] λ(b c:O)=>K b c V a) d) d):=ai func298 (.v .Kv)
theorem Z6{a b c d K w}:Fr (Yl a b c d K w) (A2 w [.z a,.z b,.z c] 204 λa b=>∃c,b.z a.p c/\∃a,b.z d a/\K (c==a) b):=ai func373 (.v .w)
namespace Sl
section
variable{B:X}{w0 w:Y}{R L:J aH}{b rb:X}{bits:J O}{H:Hs}
def oU(bits:J O)(c:cO):qg O:=if c.kind≠2 then I else if bT c≠0 then I else eC bits c.obj
def eo(bits:J O)(addr:X)(c:cO)(left:X):O × Slot × X:=
 match oU bits c with
 |none=>(60,(0,0),left)
 |some z=>
  if left<c.bits.toNat then(61,(0,0),left)
  else if((addr / 2^(left-c.bits.toNat)%2^c.bits.toNat:X):O)≠c.guard then(61,(0,0),left)
  else if left-c.bits.toNat<z.toNat then(62,(0,0),left)
  else(0,(c.obj,((addr / 2^(left-c.bits.toNat-z.toNat)%2^z.toNat:X):O)),left-c.bits.toNat-z.toNat)
def kH(bits:J O)(H:Hs)(addr:X):X->cO->X->Slot × O
 |0,_,_=>((0,0),62)
 |f+1,c,left=>
  if(eo bits addr c left).1≠0 then((0,0),(eo bits addr c left).1)
  else if(eo bits addr c left).2.2=0 then((eo bits addr c left).2.1,0)
  else if((H (eo bits addr c left).2.1).getD aq).kind≠2 then((0,0),62)
  else kH bits H addr f ((H (eo bits addr c left).2.1).getD aq) (eo bits addr c left).2.2
def rU(bits:J O)(H:Hs)(root:cO)(addr:X)(depth:O):Slot × O:=
 if depth<1\/64<depth then((0,0),1)else kH bits H addr depth.toNat root depth.toNat
theorem vB{bits:J O}{c:cO}{z:O}(h:oU bits c=S z):c.kind=2/\bT c=0/\eC bits c.obj=S z:=by
 unfold oU at h;split at h
 .cases h
 .split at h
  .cases h
  .exact ⟨om,om,h⟩
theorem CK{c:cO}(h1:c.kind=2)(h2:bT c=0):0<=c.bits/\c.bits<=64/\c.guard<2^c.bits.toNat:=by
 unfold bT at h2;split at h2
 .rename_i e;rw[e]at h1;cases h1
 .split at h2
  .cases h2
  .rename_i e
   unfold gx at e;simp only[Bool.or_eq_true,not_or,Bool.not_eq_true,Bool.not_eq_false',OH]at e;have:=e.1.1.1.2;unfold eE at this;simpa using this
theorem iL{a n:X}{K:W->Pw}(ha:a+n<=64)(h:K V w):Vh (a:O) (n:O) K w:=by apply YB;refine az om (az om (az om ?_));rw[wr om om,qm om];exact h
theorem iK{v a n:X}{K:O->O->Pw}(hv:v<2^64)(hn:a+n<=64)(h:Ow B w0 w L)(hK:∀w',Ow B w0 w' L->K ((v / 2^a%2^n:X):O) 0 w'):T6 (v:O) (a:O) (n:O) K w:=by
 apply YA;refine iL hn ?_;refine aW U ?_;repeat refine h.dr λw h=>?_
 refine⟨om,a2 (fR om ?_)⟩;rw[mg v a om,yI _ n (QZ (Nat.div_le_self _ _) hv) om];exact hK _ h
theorem lB{addr left n:X}{K:O->W->Pw}(ha:addr<2^64)(hl:left<=64)(h:Ow B w0 w (aa rb [.y (addr:O),.z (left:O)]::R))(hn:n<=64)
  (h1:left<n->∀w',Ow B w0 w' (aa rb [.y (addr:O),.z (left:O)]::R)->K 0 Z w')
  (h2:n<=left->∀w',Ow B w0 w' (aa rb [.y (addr:O),.z ((left-n:X):O)]::R)->K ((addr / 2^(left-n)%2^n:X):O) V w'):
  Yn rb.o (n:O) K w:=by
 apply ZP;repeat first|refine h.l1 U ?_|refine eX ?_
 refine bg (λe=>h1 om _ h) (λe=>?_);have e2:qd.wrap ((left:O)-(n:O))=((left-n:X):O):=by rw[wr om om];omega
 repeat first|refine h.dr λw h=>?_|refine h.l1 U ?_|refine eX ?_|refine _root_.Go.Vc.a2 ?_|refine h.jx U U λw h=>?_
 rw[e2]at h|-;refine iK ha om h λw h=>?_;exact h2 om _ h
theorem sL{c:cO}{K:O->W->Pw}(hc:fI c)(h:Ow B w0 w L)(i:X)(hi:L[i]?=S (aC b bits H))(hK:∀w',Ow B w0 w' L->K ((oU bits c).getD 0) (oU bits c).isSome w'):X3 b.o c.kind c.obj c.ak c.ax c.guard c.bits K w:=by
 apply ZQ;unfold oU at hK;refine h.al λw1 h=>?_;have h:Ow B w0 w1 (aa w.heap.size c.cells::L):=h;intro k hk
 (refine h.l1 U ?_)
 refine oO (λe=>?_) (λe=>?_)
 .apply hk
  rw[A e]at hK;exact hK _ h.drop
 .rw[Q om]at hK
  repeat refine h.aN U ?_
  refine jd h hc λw h=>?_;apply hk;refine oO (λe=>?_) (λe=>?_)
  .rw[A e]at hK
   exact hK _ h.drop
  .rw[Q om]at hK
   (refine h.l1 U ?_)
   exact iq h (i+1) (by simpa using hi) (hK _ h.drop)
theorem E4(x n:X)(hn:n<=8):x%2^n<256:=by have h1:0<2^n:=PG n;have h2:2^n<=2^8:=Pm om hn;have:=RD x h1;omega
theorem sM{addr left:X}{c:cO}{K:O->O->O->Pw}(hc:fI c)(ha:addr<2^64)(hl:left<=64)
  (h:Ow B w0 w (aC b bits H::aa rb [.y (addr:O),.z (left:O)]::R))
  (h1:(eo bits addr c left).1≠0->∀w' l',Ow B w0 w' (aC b bits H::aa rb [.y (addr:O),.z l']::R)->K 0 0 (eo bits addr c left).1 w')
  (h2:(eo bits addr c left).1=0->∀w',Ow B w0 w' (aC b bits H::aa rb [.y (addr:O),.z ((eo bits addr c left).2.2:O)]::R)->K (eo bits addr c left).2.1.1 (eo bits addr c left).2.1.2 0 w'):
  XR b.o c.kind c.obj c.ak c.ax c.guard c.bits (.func (.func 392) #[.q rb] #[]) K w:=by
 apply ZO;have hk:=h.sr;repeat first|refine h.al λw h=>?_|refine h.aN U ?_
 refine sL hc h 2 U λw h=>?_;cases hn:oU bits c with
 |none=>
  have hs:eo bits addr c left=(60,(0,0),left):=by unfold eo;rw[hn]
  rw[hs]at h1;refine aU U ?_;repeat first|refine h.aN U ?_|refine h.ay U U λw h=>?_
  exact h1 qc _ (left:O) h.sub
 |some z=>
  obtain⟨hk2,he,hz⟩:=vB hn;obtain⟨g1,g2,g3⟩:=CK hk2 he;obtain⟨z1,z2⟩:=ti hk hz;obtain⟨cb,hcb⟩:=Ox g1;obtain⟨zz,rfl⟩:=Ox (show 0<=z by omega);refine aW U ?_
  (refine h.l1 U ?_)
  refine aT ?_;have hgoN:c.bits.toNat=cb:=om
  rw[hcb];refine lB ha hl h.xm om (λe w h=>?_) (λe w h=>?_)
  .have hs:eo bits addr c left=(61,(0,0),left):=by unfold eo;rw[hn];simp only[hgoN];rw[A e]
   rw[hs]at h1;intro k hk';refine aU U ?_;apply hk';refine aU U ?_;repeat first|refine h.aN U ?_|refine h.ay U U λw h=>?_
   exact h1 qc _ (left:O) h.sub
  .intro k hk'
   refine aW U ?_
   (refine h.l1 U ?_)
   apply hk';refine oO (λe2=>?_) (λe2=>?_)
   .have hs:eo bits addr c left=(61,(0,0),left):=by unfold eo;rw[hn];simp only[hgoN];rw[Q om,A e2]
    rw[hs]at h1;repeat first|refine h.aN U ?_|refine h.ay U U λw h=>?_
    exact h1 qc _ ((left-cb:X):O) h.sub
   .refine aT ?_
    refine lB ha om h om (λe3 w h=>?_) (λe3 w h=>?_)
    .have hs:eo bits addr c left=(62,(0,0),left):=by unfold eo;rw[hn];simp only[hgoN];rw[Q om,Q om,A om]
     rw[hs]at h1;refine aU U ?_;repeat first|refine h.aN U ?_|refine h.ay U U λw h=>?_
     exact h1 qc _ ((left-cb:X):O) h.sub
    .have hs:eo bits addr c left=(0,(c.obj,((addr / 2^(left-cb-zz)%2^zz:X):O)),left-cb-zz):=by unfold eo;rw[hn];simp only[hgoN,Oo];rw[Q om,Q om,Q om]
     rw[hs]at h2;refine aW U ?_;have:=E4 (addr / 2^(left-cb-zz)) zz om;rw[wr om om];repeat first|refine h.aN U ?_|refine h.l1 U ?_|refine h.ay U U λw h=>?_
     exact h2 U _ h.sub
theorem xg{bits:J O}{addr left:X}{c:cO}(hb:∀z∈bits,z= -1\/(1<=z/\z<=8))(h:(eo bits addr c left).1=0):
  aR bits (eo bits addr c left).2.1=V/\(eo bits addr c left).2.2<left:=by
 unfold eo at h|-;cases hn:oU bits c with
 |none=>rw[hn]at h;simp at h
 |some z=>
  rw[hn]at h;obtain⟨hk2,he,hz⟩:=vB hn;simp only at h|-;obtain⟨_,hz2,hz3⟩:=kn hz;have hzr:1<=z/\z<=8:=by
   rcases hb z (OV hz2)with e|e
   .exact qi e hz3
   .exact e
  by_cases e1:left<c.bits.toNat
  .rw[A e1]at h;simp at h
  rw[Q e1]at h|-;by_cases e2:((addr / 2^(left-c.bits.toNat)%2^c.bits.toNat:X):O)≠c.guard
  .rw[A e2]at h;simp at h
  rw[Q e2]at h|-;by_cases e3:left-c.bits.toNat<z.toNat
  .rw[A e3]at h;simp at h
  rw[Q e3];refine⟨?_,by show left-c.bits.toNat-z.toNat<left;omega⟩;unfold aR;simp only[hz];rw[decide_eq_true_iff];have hm:addr / 2^(left-c.bits.toNat-z.toNat)%2^z.toNat<2^z.toNat:=RD _ (PG _);refine⟨Qp _,?_⟩;rw[show((2:O)^z.toNat)=((2^z.toNat:X):O)from by simp];exact Int.ofNat_lt.2 hm
theorem sq.Kk{bits:J O}{H:Hs}(h:sq bits H)(s:Slot):fI ((H s).getD aq):=by
 cases hs:H s with
 |none=>exact⟨qb,qb,qb,qb⟩
 |some c=>exact(h.held s c hs).2.2.2
theorem lA{addr:X}{depth:O}{root:cO}{K:O->O->O->Pw}(hc:fI root)(ha:addr<2^64)(h:Ow B w0 w (aC b bits H::R))
  (hK:∀w',Ow B w0 w' (aC b bits H::R)->K (rU bits H root addr depth).1.1 (rU bits H root addr depth).1.2 (rU bits H root addr depth).2 w'):
  UZ b.o root.kind root.obj root.ak root.ax root.guard root.bits (addr:O) depth K w:=by
 apply ZN;have hk:=h.sr;refine h.al λw1 h=>?_;refine h.al λw2 h=>?_;intro k hk12;have hT:(depth<1\/64<depth)->k V w2:=λe=>by
  have hs:rU bits H root addr depth=((0,0),1):=by unfold rU;rw[A e]
  rw[hs]at hK;apply hk12;refine aU U ?_;repeat first|refine h.aN U ?_|refine h.ay U U λw h=>?_
  exact hK _ h.sub
 refine bg (λe=>hT (.inl e)) (λe=>?_);by_cases e2:64<depth
 .rw[qm om];exact hT (.inr e2)
 rw[qk om];have hs:rU bits H root addr depth=kH bits H addr depth.toNat root depth.toNat:=by unfold rU;rw[Q om]
 rw[hs]at hK;obtain⟨d,rfl⟩:=Ox (show 0<=depth by omega);rw[Oo]at hK;apply hk12;refine aW U ?_;refine h.al λw3 h=>?_;repeat first|refine h.al λw h=>?_|refine h.aN U ?_|refine h.ay U U λw h=>?_
 intro l hl;have loop:∀(f left:X)(c:cO)(cb:X)(w':Y),1<=left->left<=f->left<=64->fI c->
   Ow B w0 w' (aC b bits H::aa w2.heap.size [.y (addr:O),.z (left:O)]::aa cb c.cells::aa w1.heap.size [.z 0,.z 0]::R)->
   kH bits H addr f c left=kH bits H addr d root d->l cb.p w':=by
  intro f;induction f with
  |zero=>intro left c cb w' h1 h2;omega
  |succ f ih=>
   intro left c cb w' h1 h2 h64 hc h heq;apply hl;repeat refine h.aN U ?_
   refine sM hc ha h64 h (λhe w l' h=>?_) (λhe w h=>?_)
   ·(repeat first|refine h.al λw h=>?_|refine h.ay U U λw h=>?_)
    intro k hk;refine iy he ?_;apply hk;refine aU U ?_;repeat first|refine h.aN U ?_|refine h.ay U U λw h=>?_
    have hs:kH bits H addr (f+1) c left=((0,0),(eo bits addr c left).1):=by rw[kH,A he]
    rw[<-heq,hs]at hK;exact hK _ h.sub
   .obtain ⟨ht,hlt⟩:=xg hk.zT he
    generalize hst:eo bits addr c left=st at he ht hlt h|-;obtain⟨er,s,left'⟩:=st;simp only at he ht hlt h|-;subst he;repeat first|refine h.al λw h=>?_|refine h.ay U U λw h=>?_
    intro k hk2;refine fG U ?_;repeat first|refine h.l1 U ?_|refine eX ?_
    by_cases hz:left'=0
    .rw[show((left':O)==0)=V from by simpa using hz]
     apply hk2;refine aU U ?_;repeat first|refine h.aN U ?_|refine h.ay U U λw h=>?_
     have hs:kH bits H addr (f+1) c left=(s,0):=by rw[kH,hst,Q qc,A hz]
     rw[<-heq,hs]at hK;exact hK _ h.sub
    .rw[show((left':O)==0)=Z from by simpa using hz]
     apply hk2;refine aW U ?_
     (refine h.aN U ?_)
     refine iV (s:=s) h 1 U (λhn=>by rw[ht]at hn;cases hn) λ_ w c' hc' h=>?_;have hcR:fI c':=by rw[hc'];exact hk.Kk s
     repeat first|refine h.l1 U ?_|refine h.ay U U λw h=>?_
     refine oO (λe3=>?_) (λe3=>?_)
     ·(repeat first|refine h.aN U ?_|refine h.ay U U λw h=>?_)
      have hs:kH bits H addr (f+1) c left=((0,0),62):=by rw[kH,hst,Q qc,Q hz,A (by simpa [hc']using e3)]
      rw[<-heq,hs]at hK;exact hK _ h.sub
     ·(repeat first|refine h.al λw h=>?_|refine h.aN U ?_|refine h.ay U U λw h=>?_)
      refine ih left' c' _ _ om om om hcR h.sub ?_;rw[<-heq];rw[kH,hst,Q qc,Q hz,Q (by simpa [hc']using e3),hc']
 exact loop d d root _ _ om om om hc h.sub U
def yX(bits:J O)(H:Hs)(s:Slot):cO × O:=if aR bits s=Z then(aq,50)else((H s).getD aq,0)
theorem CE{a d k g m:X}(ha:a<2^d)(hg:g<2^k):a*2^k+g<2^(d+k):=by rw[Nat.pow_add];have:(a+1)*2^k<=2^d*2^k:=OU _ ha;rw[Nat.succ_mul]at this;omega
theorem Kd{a k d:X}(ha:a<2^d)(hd:d+k<=64):iJ .u64 (a:O) (k:O)=((a*2^k:X):O):=by unfold iJ;rw[Oo,show qq.bits=64 from U,Pv om,show((2:O)^k)=((2^k:X):O)from by simp,<-Int.natCast_mul,wrap_u64,O6];have:=CE (m:=0) ha (PG k);have h2:2^(d+k)<=2^64:=Pm om hd;omega
theorem BH{s:Slot}{K:O->O->O->O->O->O->O->Pw}(h:Ow B w0 w L)(i:X)(hi:L[i]?=S (aC b bits H))
  (hK:∀w' c e,(c,e)=yX bits H s->fI c->Ow B w0 w' L->K c.kind c.obj c.ak c.ax c.guard c.bits e w'):R6 b.o s.1 s.2 K w:=by
 have hk:=(h.take i hi).sr;refine iV h i hi (λhn w h=>?_) (λht w c hc h=>?_)
 .exact hK w aq 50 (by unfold yX;rw[A hn]) ⟨qb,qb,qb,qb⟩ h
 .exact hK w c 0 (by unfold yX;rw[Q (by rw[ht];decide),hc]) (by rw[hc];exact hk.Kk s) h
end
end Sl
section
variable{B:X}{w0 w:Y}{R L:J aH}
structure sw where
 base:X
 bits:X
 used:X
deriving DecidableEq
def zU:sw:=⟨0,0,0⟩
def eM:dF sw:=⟨3,λu=>[.y (u.base:O),.z (u.bits:O),.y (u.used:O)],λ_=>rfl,λx v h=>by simp only[Oz,Ps,qC]at h;rcases h with rfl|rfl|rfl<;>rfl,qb⟩
def wE:dF X:=⟨1,λx=>[.y (x:O)],λ_=>rfl,λx v h=>by simp only[Oz,Ps,qC]at h;subst h;rfl,qb⟩
structure yC(u:sw):Prop where
 bits:u.bits<=20
 top:u.base+2^u.bits<=2^20
 dvd:u.base%2^u.bits=0
 used:u.used<=2^u.bits
def Dn(v n:X):X:=(v+(2^n-1)) / 2^n*2^n
def fb(kind bits:O):O × O:=
 if kind=1 then(if 4<=bits/\bits<=20 then(bits,0)else(0,1))
 else if kind=2 then(if 1<=bits/\bits<=8 then(bits+2,0)else(0,1))
 else if kind=3 then(5,0)else if kind=4\/kind=5 then(2,0)else if kind=6\/kind=7\/kind=8 then(6,0)else(0,80)
def bA(u:sw)(kind bits n:O):J X × sw × O:=
 if(fb kind bits).2≠0 then([],zU,(fb kind bits).2)else if n<1\/64<n then([],zU,1)
 else if u.base+2^u.bits<Dn (u.base+u.used) (fb kind bits).1.toNat+n.toNat*2^(fb kind bits).1.toNat then([],zU,81)
 else((OC n.toNat).map λi=>Dn (u.base+u.used) (fb kind bits).1.toNat+i*2^(fb kind bits).1.toNat,
  { u with used:=Dn (u.base+u.used) (fb kind bits).1.toNat+n.toNat*2^(fb kind bits).1.toNat-u.base},0)
theorem wb{kind bits:O}:0<=(fb kind bits).1/\(fb kind bits).1<=20:=by
 unfold fb;repeat' split
 all_goals (dsimp only;omega)
theorem zN(v n:X):v<=Dn v n/\Dn v n<v+2^n:=by unfold Dn;have hp:0<2^n:=PG n;have h1:=Nat.div_add_mod (v+(2^n-1)) (2^n);have h2:=RD (v+(2^n-1)) hp;rw[Nat.mul_comm]at h1;omega
theorem BU{v n:X}(h:v%2^n=0):Dn v n=v:=by
 have hp:0<2^n:=PG n;have h1:=zN v n;have h2:Dn v n%2^n=0:=by unfold Dn;exact Td _ _
 obtain⟨a,ha⟩:=SD h;obtain⟨c,hc⟩:=SD h2;rw[hc,ha]at h1;have h3:a<=c:=Nat.le_of_mul_le_mul_left h1.1 hp;have h4:c<a+1:=Nat.lt_of_mul_lt_mul_left (a:=2^n) (by rw[Nat.mul_add];omega);rw[hc,ha,show c=a from by omega]
theorem Cf(v n:X)(hv:v<2^64)(hn:n<=64):fV .u64 (v:O) ((2^n-1:X):O)=((v / 2^n*2^n:X):O):=by
 have hp:0<2^n:=PG n;have hle:2^n<=2^64:=Pm om hn;unfold fV;rw[Sl.rj,Sl.rj];have hgl:∀(z j:X),j<64->(BitVec.ofNat 64 z).getLsbD j=z.testBit j:=λz j hj=>by rw[BitVec.getLsbD_ofNat];simp[hj]
 have hbit:∀j,j<64->(BitVec.ofNat 64 v &&& ~~~ BitVec.ofNat 64 (2^n-1)).toNat.testBit j=(v.testBit j&& !decide (j<n)):=λj hj=>by rw[BitVec.testBit_toNat,BitVec.getLsbD_and,BitVec.getLsbD_not,hgl _ _ hj,hgl _ _ hj,Sm];simp[hj]
 have hlt:=(BitVec.ofNat 64 v &&& ~~~ BitVec.ofNat 64 (2^n-1)).isLt;show qq.wrap (((BitVec.ofNat 64 v &&& ~~~ BitVec.ofNat 64 (2^n-1)).toNat:X):O)=_;generalize hz:(BitVec.ofNat 64 v &&& ~~~ BitVec.ofNat 64 (2^n-1)).toNat=z at hbit hlt;rw[Sl.wrap_u64,O6 hlt];congr 1;have hdm:v / 2^n*2^n<=v:=Nat.div_mul_le_self _ _;apply R1;intro i;by_cases h64:i<64
 .rw[hbit i h64,Nat.testBit_mul_two_pow,Nat.testBit_div_two_pow]
  by_cases hin:i<n
  .simp[hin];omega
  .simp[hin,Nat.sub_add_cancel (Nat.le_of_not_lt hin)];intro _;omega
 .rw[QE (Qc hlt (Pm om om)),QE (Qc (QZ hdm hv) (Pm om om))]
theorem Er(x y:X)(w:Y):zY qe 396 #[.y (x:O),.y (y:O),.y (0:O)] w (.tuple #[.y (((x+y)%18446744073709551616:X):O),.y (((x+y) / 18446744073709551616:X):O)]) w:=by unfold zY;rw[run_callFunc_extern func396 qa qa qa (e:=add64Entry) qa,run_add64 (x:O) (y:O) 0 om om om om];simp only[Result.andThen,Int.add_zero];congr 5
theorem oZ{v n:X}{K:O->O->Pw}(hv:v<2^62)(hn:n<=60)(h:K ((Dn v n:X):O) 0 w):U0 (v:O) (n:O) K w:=by
 apply Zf;have e62:(2:X)^62=4611686018427387904:=qb
 have hle:2^n<=2^60:=Pm om hn;have e60:(2:X)^60=1152921504606846976:=qb
 intro k hk;refine aw om ?_;apply hk;rw[qk om];refine aW U ?_;refine Sl.fR om ?_;refine⟨_,_,w,Er v (2^n-1) w,?_⟩;rw[Nat.div_eq_of_lt om,O6 om];refine fG U ?_;have h64:(2:X)^64=18446744073709551616:=qb
 rw[Cf _ _ om om];exact h
theorem rf{n a c d:O}{K:O->O->Pw}(hb:a<=n/\n<=c->0<=n+d/\n+d<=1000)(h:K (if a<=n/\n<=c then n+d else 0) (if a<=n/\n<=c then 0 else 1) w):Vb n a c d K w:=by
 apply Zc;intro k hk;refine bg (λe=>?_) (λe=>?_)
 .apply hk
  rw[Q om,Q om]at h;exact aU U h
 .apply hk
  by_cases e2:n>c
  .rw[qm e2]
   rw[Q om,Q om]at h;exact aU U h
  .rw[qk e2]
   have:=hb om;rw[A om,A om]at h;rw[wr om om];exact aW U h
theorem wc{K:O->O->O->O->O->O->O->O->O->O->Pw}(h:Ow B w0 w R)(hK:∀w',Ow B w0 w' R->K 0 0 0 5 2 2 6 6 6 0 w'):Vd K w:=by
 apply Zd;refine h.a λc w1 h=>?_;refine h.ay U U λw h=>?_;refine h.jV U ?_;exact hK w h.drop
theorem En{kind bits:O}{K:O->O->Pw}(h:Ow B w0 w R)(hK:∀w',Ow B w0 w' R->K (fb kind bits).1 (fb kind bits).2 w'):Xs kind bits K w:=by
 apply Zb;unfold fb at hK;refine dK (λe=>?_) (λe=>?_)
 .rw[A e]at hK
  refine rf om ?_;have:=hK w h;split at this
  .rename_i hb
   rw[A hb,A hb,Int.add_zero];exact this
  .rename_i hb
   rw[Q hb,Q hb];exact this
 rw[Q e]at hK;refine dK (λe2=>?_) (λe2=>?_)
 .rw[A e2]at hK
  refine rf om ?_;have:=hK w h;split at this
  .rename_i hb
   rw[A hb,A hb];exact this
  .rename_i hb
   rw[Q hb,Q hb];exact this
 rw[Q e2]at hK;intro k hk;refine bg (λe3=>?_) (λe3=>?_)
 .rw[Q om,Q om,Q om]at hK
  apply hk;exact aU U (hK w h)
 refine bg (λe4=>?_) (λe4=>?_)
 .rw[Q om,Q om,Q om]at hK
  apply hk;exact aU U (hK w h)
 refine wc h λw h=>?_;refine⟨om,om,?_⟩;have hk2:kind=0\/kind=3\/kind=4\/kind=5\/kind=6\/kind=7\/kind=8\/kind=9:=om
 have fin:∀z:O,(#[.z 0,.z 0,.z 0,.z 5,.z 2,.z 2,.z 6,.z 6,.z 6,.z 0]:qn N)[kind.toNat*1]?=S (.z z)->z≠0->
   (∀w',Ow B w0 w' R->K z 0 w')->k (z==0) w:=λz hz z0 hK=>by
  rw[show(z==0)=Z from by simpa using z0];apply hk;refine aW U ?_;refine wc h λw h=>?_;exact⟨om,om,z,hz,hK w h⟩
 have fin0:(∀w',Ow B w0 w' R->K 0 80 w')->k ((0:O)==0) w:=λhK=>by apply hk;exact aU U (hK w h)
 rcases hk2 with rfl|rfl|rfl|rfl|rfl|rfl|rfl|rfl
 .exact ⟨0,U,fin0 hK⟩
 .exact ⟨5,U,fin 5 U qb hK⟩
 .exact ⟨2,U,fin 2 U qb hK⟩
 .exact ⟨2,U,fin 2 U qb hK⟩
 .exact ⟨6,U,fin 6 U qb hK⟩
 .exact ⟨6,U,fin 6 U qb hK⟩
 .exact ⟨6,U,fin 6 U qb hK⟩
 .exact ⟨0,U,fin0 hK⟩
theorem KZ{n:X}(hn:n<=62):iJ .u64 1 (n:O)=((2^n:X):O):=by have:=Sl.Kd (a:=1) (k:=n) (d:=1) qb om;rw[RL]at this;exact this
theorem yC.room{u:sw}(hu:yC u):2^u.bits<=2^20/\u.base<=2^20/\u.used<=2^20:=by have h1:=hu.top;have h2:=hu.used;have h3:0<2^u.bits:=PG _;omega
theorem B5{u:sw}{K:O->Pw}(hu:yC u)(h:Ow B w0 w R)(hK:∀w',Ow B w0 w' R->K 0 w'):Xr (u.base:O) (u.bits:O) (u.used:O) K w:=by
 apply Za;obtain⟨r1,r2,r3⟩:=hu.room;have e20:(2:X)^20=1048576:=qb
 have hb:=hu.bits;have e62:(2:X)^62=4611686018427387904:=qb
 refine h.a λc w1 h=>?_;intro k hk;refine⟨_,h.aE U,aw om ⟨_,h.aE U,aw om (h.l1 U ?_)⟩⟩;apply hk;rw[qk om];refine aW U ?_;refine⟨_,h.aF U,h.l2 U (oZ om om (h.dr λw h=>?_))⟩;refine fG U ?_;refine h.l1 U ?_;rw[BU hu.dvd];refine fG U ?_;refine⟨_,h.aE U,_,h.aE U,om,?_⟩;rw[KZ om];have:=hu.used;refine aw om ?_;exact hK _ h.drop
theorem Gh{s:Sl}{ys:J X}{y:X}{c:X}{L:J aH}{k:Sl->Pw}[ae4:bY s L X wE ys][aeX:eD (af wE s ys) L R](h:Ow B w0 w (aa c [.y (y:O)]::L))(hbig:ys.length<=1000000000)
  (hk:∀s' w',s'.len=ys.length+1->Ow B w0 w' (af wE s' (ys++ [y])::R)->k s' w'):
  ∃s' w',aP qe [278,278] 278 s.v (.slice (S c.p) 1 1) w s' w'/\k s' w':=
 Ow.eR (E:=wE) (y:=y) aep (show qe.info? 39=S ad9 from by kernel_rfl) (zv:= .y 0) qa qa U qb h (by
  have e:ad9.bytes=8:=qa
  rw[e];omega) hk
theorem uW{u:sw}{kind bits n:O}{K:Sl->O->O->O->O->Pw}(hu:yC u)(h:Ow B w0 w R)
  (hK:∀s w',Ow B w0 w' (af wE s (bA u kind bits n).1::R)->K s ((bA u kind bits n).2.1.base:O) ((bA u kind bits n).2.1.bits:O) ((bA u kind bits n).2.1.used:O) (bA u kind bits n).2.2 w'):UC (u.base:O) (u.bits:O) (u.used:O) kind bits n K w:=by
 apply Y8;obtain⟨r1,r2,r3⟩:=hu.room;have e20:(2:X)^20=1048576:=qb
 have hb:=hu.bits;have e62:(2:X)^62=4611686018427387904:=qb
 refine h.a λc w1 h=>?_;refine h.a λd w2 h=>?_;refine h.oP U ?_;refine B5 hu h λw h=>?_;refine En h λw h=>?_;refine fG U ?_;unfold bA at hK;have hs:=wb (kind:=kind) (bits:=bits);generalize fb kind bits=sz at hK hs|-;obtain⟨z,e⟩:=sz;dsimp only at hK hs|-;obtain⟨m,rfl⟩:=Ox hs.1;rw[Oo]at hK;have hz2:2^m<=2^20:=Pm om om;have bad:∀(q:O)(w:Y),(∀s w',Ow B w0 w' (af wE s []::R)->K s 0 0 0 q w')->Ow B w0 w (aa d [.y 0,.z 0,.y 0]::aa c [.y (u.base:O),.z (u.bits:O),.y (u.used:O)]::R)->
   aD w d.p 0 [.y (0:O),.z (0:O),.y (0:O)] λw17=>av w17 d.p 0 [.u,.o,.u] λ(r18:O)(r19:O)(r20:O)=>K z0 r18 r19 r20 q w17:=λq w hK h=>by
  refine h.ay U U λw h=>?_;refine h.oP U ?_;exact hK _ w (Ow.cH h.drop.drop)
 by_cases he:e≠0
 .rw[A he]at hK
  refine iy he ?_;exact bad e w hK h
 rw[Q he]at hK;refine fG om ?_;intro k hk;by_cases hn:n<1\/64<n
 .rw[A hn]at hK
  have:k V w:=by apply hk;refine aU U ?_;exact bad 1 w hK h
  refine bg (λe1=>this) (λe1=>?_);rw[qm om];exact this
 rw[Q hn]at hK;obtain⟨n,rfl⟩:=Ox (show 0<=n by omega);rw[Oo]at hK;refine aw om ?_;rw[qk om];apply hk;refine aW U ?_;refine⟨_,h.aF U,h.l2 U ?_⟩;have hw:qq.wrap ((u.base:O)+(u.used:O))=((u.base+u.used:X):O):=by have:=Sl.wrap_u64 (u.base+u.used);rw[O6 om]at this;rw[<-this];congr 1
 rw[hw];have hup:=zN (u.base+u.used) m;refine oZ om om ?_;refine h.dr λw h=>?_;refine⟨_,h.aF U,_,h.aE U,om,om,?_⟩;generalize Dn (u.base+u.used) m=q at hK hup|-;have hnw:qq.wrap (n:O)=(n:O):=by rw[Sl.wrap_u64,O6 om]
 have hnm:n*2^m<=64*2^20:=Nat.mul_le_mul om hz2;have w1:qq.wrap ((q:O)+iJ .u64 (qq.wrap (n:O)) (m:O))=((q+n*2^m:X):O):=by rw[hnw,Sl.Kd (a:=n) (k:=m) (d:=7) om om,<-Ra,Sl.wrap_u64,O6 om]
 have w2:qq.wrap ((u.base:O)+iJ .u64 1 (u.bits:O))=((u.base+2^u.bits:X):O):=by rw[KZ om,<-Ra,Sl.wrap_u64,O6 om]
 rw[w1,w2];by_cases hfit:u.base+2^u.bits<q+n*2^m
 .rw[A hfit]at hK
  refine az om ?_;exact bad 81 w hK h
 rw[Q hfit]at hK;refine aw om ?_;intro l hl;have loop:∀(r j:X)(o:Sl)(w:Y),j+r=n->Ow B w0 w (af wE o ((OC j).map λi=>q+i*2^m)::aa d [.y 0,.z 0,.y 0]::aa c [.y (u.base:O),.z (u.bits:O),.y (u.used:O)]::R)->l ((q+j*2^m:X):O) o (j:O) w:=by
  intro r;induction r with
  |zero=>
   intro j o w hj h;have hj:j=n:=om
   subst hj;apply hl;refine aw om ?_;refine h.l1 U ?_;have e3:qq.wrap (((q+j*2^m:X):O)-(u.base:O))=((q+j*2^m-u.base:X):O):=by rw[show(((q+j*2^m:X):O)-(u.base:O))=((q+j*2^m-u.base:X):O)from by omega,Sl.wrap_u64,O6 om]
   rw[e3];refine h.gh U U λw h=>?_;refine h.dr λw h=>?_;refine h.oP U ⟨?_,trivial⟩;refine h.ay U U λw h=>?_;refine h.oP U ?_;exact hK _ w h.vU.vU
  |succ r ih=>
   intro j o w hj h;have hjm:(j+1)*2^m<=n*2^m:=OU _ om;apply hl;refine az om ?_;refine h.a λg w2 h=>?_;refine Gh (s:=o) (y:=q+j*2^m) h (by simp;omega) λo' w ho' h=>⟨om,?_⟩
   have e4:qq.wrap (((q+j*2^m:X):O)+iJ .u64 1 (m:O))=((q+(j+1)*2^m:X):O):=by rw[KZ om,<-Ra,Sl.wrap_u64,O6 (by rw[PJ]at hjm;omega)];rw[PJ,RL,Nat.add_assoc]
   rw[e4,show qd.wrap ((j:O)+1)=((j+1:X):O)from by rw[wr om om];omega];refine ih (j+1) o' w om ?_;rw[List.range_succ,List.map_append];exact h
 have:=loop n 0 z0 w om (Ow.cH h);rw[Nat.zero_mul,QD]at this;exact this
theorem Ca{u:sw}{K:O->O->O->Pw}(h:Ow B w0 w R)(hK:∀w',Ow B w0 w' R->K (u.base:O) (u.bits:O) 0 w'):WV (u.base:O) (u.bits:O) (u.used:O) K w:=by
 apply Y9;refine h.a λc w1 h=>?_;refine h.a λd w2 h=>?_;refine h.gh U U λw h=>?_;refine h.oP U ?_;refine h.ay U U λw h=>?_;refine h.oP U ?_;exact hK w h.drop.drop
theorem yC.place{u:sw}(hu:yC u){kind bits n:O}(h:(bA u kind bits n).2.2=0):1<=n/\n<=64/\yC (bA u kind bits n).2.1/\(bA u kind bits n).1.length=n.toNat/\(fb kind bits).2=0/\
  ∀a∈(bA u kind bits n).1,a%2^(fb kind bits).1.toNat=0/\a+2^(fb kind bits).1.toNat<=2^20:=by
 unfold bA at*
 have hs:=wb (kind:=kind) (bits:=bits);generalize fb kind bits=sz at*
 split at h
 .rename_i h0;exact qi h h0
 rename_i h0;rw[Q h0];split at h
 .cases h
 rename_i h1;rw[Q h1];split at h
 .cases h
 rename_i h2;rw[Q h2];have hup:=zN (u.base+u.used) sz.1.toNat;have ht:=hu.top;refine⟨om,om,⟨hu.bits,hu.top,hu.dvd,?_⟩,qc,om,λa ha=>?_⟩
 .dsimp only;omega
 .obtain ⟨i,hi,rfl⟩:=List.mem_map.1 ha
  rw[List.mem_range]at hi;have hm:(i+1)*2^sz.1.toNat<=n.toNat*2^sz.1.toNat:=OU _ om;rw[PJ,RL]at hm;refine⟨?_,om⟩;rw[Nat.add_mul_mod_self_right];unfold Dn;exact Td _ _
theorem Z7{a b c d e K w}:Fr (VO a b c d e K w) (A2 w [.z a,.z b,.z c,.z d] 76 λa b=>∃c,b.z a.p c/\bif F (c>=0)then ∃c,b.z a.p c/\bif F (c<4)then ∃c,b.z (a.p.add 1) c/\bif F (c>=0)then ∃c,b.z (a.p.add 1) c/\bif F (c<(rG e 8))then ∃c,b.z (a.p.add 2) c/\cT qe (.func (.func 206) #[] #[]) [.z c] b λc d=>∃e,c= .returned (.bool e)/\bif e then ∃c,d.z (a.p.add 3) c/\cT qe (.func (.func 206) #[] #[]) [.z c] d λa c=>∃e,a= .returned (.bool e)/\K e c else K Z d else K Z b else K Z b else K Z b else K Z b):=ai func96 (.v (.v .w))
theorem Z8{a K w}:Fr (Ya a K w) (bif F (a>=0)then K (F (a<=255)) w else K Z w):=ai func206 (.v .w)
theorem Z9{a K w}:Fr (VK a K w) (bif a.a.isNone then K z0 w else A2 w [] 36 λb c=>∃d e,aP qe [61,61] 61 (.slice (S b.p) 0 0) a.v c d e/\K d e):=ai func92 .Ir
theorem YH{a b K w}:Fr (VT a b K w) (TI a b (λa b=>K (F (a>=0)) b) w):=ai func117 (.v .w)
theorem aaa{a b K w}:Fr (VU a b K w) (∀c:Pw,(∀d:Y,(WI (qq.wrap (a.len:O)) (qq.wrap b) (λb c d=>∀e:W->Pw,(∀(b:W)(d:Y),(∀e:Pw,(∀b:Y,(∃(d:Sl)(e:Y),jH qe 22 (.z (qd.wrap c)) (.z (qd.wrap c)) b d e/\∃(b:O)(c:Y),kZ qe [22,22] 3 d.v a.v e b c/\∀a:O->Pw,(∀(b:O)(c:Y),(bif F (b<(d.len:O))then Dr c λe=>0<=b/\b<=(d.len:O)/\0<=b/\b<=(d.cap:O)/\(∃(c:O)(f:Y),kZ qe [22,22] 3 (.slice (eH d.a b.toNat d.cap 1) (d.len-b.toNat) (d.cap-b.toNat)) (.slice (eH d.a 0 d.cap 1) (b.toNat-0) (d.cap-0)) e c f/\a (qd.wrap (b+c)) f)/\G else K d c)->a b c)->a b c)->e b)->(bif b then qj else e d))->e b d)->(bif F (b>0)then e V d else e (F (c>9223372036854775807)) d)) d)->c d)->(bif F (b<0)then qj else c w)):=ai func118 (.v (.y .LG (.v (.y (.y .MR (.t (S []) .u .u)) (.v (.v (.y (.x (.t (S [(8,.c (.i .i64))]) (.y (.v .w) (.x (.z (.o 0 254 (.o 1 116 (.o 2 112 (.o 3 112 (.o 4 32 (.o 5 0 (.o 6 0 (.e 7 (.o 8 0 (.o 9 0 .done))))))))))))) .u)) .w)))))))
theorem aab{a K w}:Fr (WH a K w) (bif a.a.isNone then K z0 w else A2 w [] 289 λb c=>∃d e,aP qe [40,40] 40 (.slice (S b.p) 0 0) a.v c d e/\K d e):=ai func218 .Ir
theorem YI{a b K w}:Fr (TI a b K w) (∀c:O->Pw,(∀(d:O)(e:Y),(bif F (d<(a.len:O))then ∃f,a.a=S f/\0<=d/\d<(a.len:O)/\∃a,e.z (f.add (d.toNat*1)) a/\cT qe (b) [.z a] e λa b=>∃f,a= .returned (.bool f)/\bif f then K d b else c (qd.wrap (d+1)) b else K (-1) e)->c d e)->c 0 w):=ai func227 .g23
theorem aac{a b K w}:Fr (UB a b K w) (Yh a (λa c=>Xp a b (λb=>K a b) c) w):=ai func242 (.v (.v (.v .w)))
theorem aad{a K w}:Fr (Yc a K w) (A2 w [a.v] 124 λa b=>K (.func (.func 350) #[] #[.pointer (S a.p)]) b):=ai func258 (.v .w)
theorem aae{a b c K w}:Fr (Xe a b c K w) (0<=(a.len:O)/\(a.len:O)<=(a.cap:O)/\0<=c/\c<=(((a.len:O).toNat:X):O)/\0<=b/\b<=(c.toNat:O)/\bif b==c then K a w else Dr w λd=>0<=b/\b<=(a.cap:O)/\0<=c/\c<=(a.len:O)/\(∃e f,aP qe [22,22] 22 (.slice (eH a.a 0 a.cap 1) (b.toNat-0) (a.cap-0)) (.slice (eH a.a c.toNat a.cap 1) (a.len-c.toNat) (a.cap-c.toNat)) d e f/\0<=(a.len:O)/\(a.len:O)<=(e.cap:O)/\0<=(e.len:O)/\(e.len:O)<=(((a.len:O).toNat:X):O)/\∃b:Y,jb qe [22] 0 (.slice (eH e.a ((e.len:O).toNat) e.cap 1) (((a.len:O).toNat)-((e.len:O).toNat)) (e.cap-((e.len:O).toNat))) f b/\K e b)/\G):=ai func293 .g16
theorem aaf{a b K w}:Fr (Xk a b K w) (∀c:O->Pw,(∀(d:O)(e:Y),(bif F (d<(a.len:O))then ∃f,a.a=S f/\0<=d/\d<(a.len:O)/\∃a,e.q (f.add (d.toNat*1)) a/\cT qe (b) [.pointer a] e λa b=>∃f,a= .returned (.bool f)/\bif f then K d b else c (qd.wrap (d+1)) b else K (-1) e)->c d e)->c 0 w):=ai func305 .g23
theorem aag{a b K w}:Fr (Xm a b K w) (∀c:O->Pw,(∀(d:O)(e:Y),(bif F (d<(a.len:O))then ∃f,a.a=S f/\0<=d/\d<(a.len:O)/\av e (f.add (d.toNat*3)) 0 [.o,.o,.o] λ(a f g:O)=>cT qe (b) [.agg #[.z a,.z f,.z g]] e λa b=>∃f,a= .returned (.bool f)/\bif f then K d b else c (qd.wrap (d+1)) b else K (-1) e)->c d e)->c 0 w):=ai func319 .g23
theorem aah{a b K w}:Fr (UW a b K w) (TI a b (λc d=>bif c==(-1)then K a d else ∀e:O->O->Pw,(∀(c d:O)(f:Y),(bif F (d<(a.len:O))then ∃g,a.a=S g/\0<=d/\d<(a.len:O)/\∃h,f.z (g.add (d.toNat*1)) h/\cT qe (b) [.z h] f λb g=>∃i,b= .returned (.bool i)/\bif !i then ∃b,a.a=S b/\0<=c/\c<(a.len:O)/\St g (b.add (c.toNat*1)) (.z h) λb=>e (qd.wrap (c+1)) (qd.wrap (d+1)) b else e c (qd.wrap (d+1)) g else 0<=c/\c<=(a.len:O)/\∃b:Y,jb qe [22] 0 (.slice (eH a.a c.toNat a.cap 1) (a.len-c.toNat) (a.cap-c.toNat)) f b/\0<=c/\c<=(a.cap:O)/\K ⟨eH a.a 0 a.cap 1,c.toNat-0,a.cap-0⟩ b)->e c d f)->e c (qd.wrap (c+1)) d) w):=ai func323 .g12
theorem aai{a K w}:Fr (Yh a K w) (Ym z0 a (λa b=>K a b) w):=ai func327 (.v .w)
theorem aaj{a b K w}:Fr (Xu a b K w) (XS a b (λa b=>K (F (a>=0)) b) w):=ai func339 (.v .w)
theorem aak{a b K w}:Fr (Xz a b K w) (XT a b (λa b=>K (F (a>=0)) b) w):=ai func345 (.v .w)
theorem aal{a b K w}:Fr (XF a b K w) (X0 a b (λa b=>K (F (a>=0)) b) w):=ai func357 (.v .w)
theorem aam{a b K w}:Fr (XG a b K w) (Yr a b (λa b=>K (F (a>=0)) b) w):=ai func360 (.v .w)
theorem aan{a b K w}:Fr (Yj a b K w) (∀c:O->Pw,(∀(d:O)(e:Y),(bif F (d<(a.len:O))then ∃f,a.a=S f/\0<=d/\d<(a.len:O)/\∃a,e.z (f.add (d.toNat*1)) a/\cT qe (b) [.z a] e λa b=>∃f,a= .returned (.bool f)/\bif f then K d b else c (qd.wrap (d+1)) b else K (-1) e)->c d e)->c 0 w):=ai func367 .g23
theorem aao{a b K w}:Fr (XL a b K w) (∀c:O->Pw,(∀(d:O)(e:Y),(bif F (d<(a.len:O))then ∃f,a.a=S f/\0<=d/\d<(a.len:O)/\av e (f.add (d.toNat*3)) 0 [.o,.o,.o] λ(a f g:O)=>cT qe (b) [.agg #[.z a,.z f,.z g]] e λa b=>∃f,a= .returned (.bool f)/\bif f then K d b else c (qd.wrap (d+1)) b else K (-1) e)->c d e)->c 0 w):=ai func372 .g23
theorem aap{a b c K w}:Fr (XM a b c K w) (0<=(a.len:O)/\(a.len:O)<=(a.cap:O)/\0<=c/\c<=(((a.len:O).toNat:X):O)/\0<=b/\b<=(c.toNat:O)/\bif b==c then K a w else Dr w λd=>0<=b/\b<=(a.cap:O)/\0<=c/\c<=(a.len:O)/\(∃e f,aP qe [40,40] 40 (.slice (eH a.a 0 a.cap 4) (b.toNat-0) (a.cap-0)) (.slice (eH a.a c.toNat a.cap 4) (a.len-c.toNat) (a.cap-c.toNat)) d e f/\0<=(a.len:O)/\(a.len:O)<=(e.cap:O)/\0<=(e.len:O)/\(e.len:O)<=(((a.len:O).toNat:X):O)/\∃b:Y,jb qe [40] 0 (.slice (eH e.a ((e.len:O).toNat) e.cap 4) (((a.len:O).toNat)-((e.len:O).toNat)) (e.cap-((e.len:O).toNat))) f b/\K e b)/\G):=ai func375 .g16
theorem aaq{a b c K w}:Fr (XN a b c K w) (0<=(a.len:O)/\(a.len:O)<=(a.cap:O)/\0<=c/\c<=(((a.len:O).toNat:X):O)/\0<=b/\b<=(c.toNat:O)/\bif b==c then K a w else Dr w λd=>0<=b/\b<=(a.cap:O)/\0<=c/\c<=(a.len:O)/\(∃e f,aP qe [354,354] 354 (.slice (eH a.a 0 a.cap 3) (b.toNat-0) (a.cap-0)) (.slice (eH a.a c.toNat a.cap 3) (a.len-c.toNat) (a.cap-c.toNat)) d e f/\0<=(a.len:O)/\(a.len:O)<=(e.cap:O)/\0<=(e.len:O)/\(e.len:O)<=(((a.len:O).toNat:X):O)/\∃b:Y,jb qe [354] 0 (.slice (eH e.a ((e.len:O).toNat) e.cap 3) (((a.len:O).toNat)-((e.len:O).toNat)) (e.cap-((e.len:O).toNat))) f b/\K e b)/\G):=ai func377 .g16
theorem aar{a b K w}:Fr (XS a b K w) (∀c:O->Pw,(∀(d:O)(e:Y),(bif F (d<(a.len:O))then ∃f,a.a=S f/\0<=d/\d<(a.len:O)/\av e (f.add (d.toNat*2)) 0 [.o,.o] λ(a f:O)=>cT qe (b) [.agg #[.z a,.z f]] e λa b=>∃f,a= .returned (.bool f)/\bif f then K d b else c (qd.wrap (d+1)) b else K (-1) e)->c d e)->c 0 w):=ai func397 .g23
theorem aas{a b c K w}:Fr (Ve a b c K w) (0<=b/\b<=(a.len:O)/\bif (c.len:O)==0 then K a w else bif b==(a.len:O)then ∃d e,aP qe [235,235] 235 a.v c.v w d e/\K d e else bif F ((qd.wrap ((a.len:O)+(c.len:O)))>(a.cap:O))then 0<=b/\b<=(a.cap:O)/\∃d e,aP qe [235,3] 235 (.slice (eH a.a 0 a.cap 3) (b.toNat-0) (a.cap-0)) (.z (qd.wrap ((qd.wrap ((a.len:O)+(c.len:O)))-b))) w d e/\0<=b/\b<=(d.len:O)/\∃(f:O)(g:Y),kZ qe [235,235] 3 (.slice (eH d.a b.toNat d.cap 3) (d.len-b.toNat) (d.cap-b.toNat)) c.v e f g/\Dr g λe=>0<=qd.wrap (b+(c.len:O))/\qd.wrap (b+(c.len:O))<=(d.len:O)/\0<=b/\b<=(a.len:O)/\(∃(f:O)(g:Y),kZ qe [235,235] 3 (.slice (eH d.a ((qd.wrap (b+(c.len:O))).toNat) d.cap 3) (d.len-((qd.wrap (b+(c.len:O))).toNat)) (d.cap-((qd.wrap (b+(c.len:O))).toNat))) (.slice (eH a.a b.toNat a.cap 3) (a.len-b.toNat) (a.cap-b.toNat)) e f g/\K d g)/\G else 0<=qd.wrap ((a.len:O)+(c.len:O))/\qd.wrap ((a.len:O)+(c.len:O))<=(a.cap:O)/\0<=qd.wrap (b+(c.len:O))/\qd.wrap (b+(c.len:O))<=((((qd.wrap ((a.len:O)+(c.len:O))).toNat)-0:X):O)/\∃d,∃e:Y,zY qe 433 #[c.v,.slice (eH (eH a.a 0 a.cap 3) ((qd.wrap (b+(c.len:O))).toNat) (a.cap-0) 3) ((((qd.wrap ((a.len:O)+(c.len:O))).toNat)-0)-((qd.wrap (b+(c.len:O))).toNat)) ((a.cap-0)-((qd.wrap (b+(c.len:O))).toNat))] w (.bool d) e/\bif !d then Dr e λd=>0<=qd.wrap (b+(c.len:O))/\qd.wrap (b+(c.len:O))<=((((qd.wrap ((a.len:O)+(c.len:O))).toNat)-0:X):O)/\0<=b/\b<=((((qd.wrap ((a.len:O)+(c.len:O))).toNat)-0:X):O)/\(∃(e:O)(f:Y),kZ qe [235,235] 3 (.slice (eH (eH a.a 0 a.cap 3) ((qd.wrap (b+(c.len:O))).toNat) (a.cap-0) 3) ((((qd.wrap ((a.len:O)+(c.len:O))).toNat)-0)-((qd.wrap (b+(c.len:O))).toNat)) ((a.cap-0)-((qd.wrap (b+(c.len:O))).toNat))) (.slice (eH (eH a.a 0 a.cap 3) b.toNat (a.cap-0) 3) ((((qd.wrap ((a.len:O)+(c.len:O))).toNat)-0)-b.toNat) ((a.cap-0)-b.toNat)) d e f/\0<=b/\b<=((((qd.wrap ((a.len:O)+(c.len:O))).toNat)-0:X):O)/\∃(d:O)(e:Y),kZ qe [235,235] 3 (.slice (eH (eH a.a 0 a.cap 3) b.toNat (a.cap-0) 3) ((((qd.wrap ((a.len:O)+(c.len:O))).toNat)-0)-b.toNat) ((a.cap-0)-b.toNat)) c.v f d e/\K ⟨eH a.a 0 a.cap 3,((qd.wrap ((a.len:O)+(c.len:O))).toNat)-0,a.cap-0⟩ e)/\G else 0<=(a.len:O)/\(a.len:O)<=((((qd.wrap ((a.len:O)+(c.len:O))).toNat)-0:X):O)/\∃(d:O)(f:Y),kZ qe [235,235] 3 (.slice (eH (eH a.a 0 a.cap 3) ((a.len:O).toNat) (a.cap-0) 3) ((((qd.wrap ((a.len:O)+(c.len:O))).toNat)-0)-((a.len:O).toNat)) ((a.cap-0)-((a.len:O).toNat))) c.v e d f/\0<=b/\b<=((((qd.wrap ((a.len:O)+(c.len:O))).toNat)-0:X):O)/\YM ⟨eH (eH a.a 0 a.cap 3) b.toNat (a.cap-0) 3,(((qd.wrap ((a.len:O)+(c.len:O))).toNat)-0)-b.toNat,(a.cap-0)-b.toNat⟩ (c.len:O) (λb=>K ⟨eH a.a 0 a.cap 3,((qd.wrap ((a.len:O)+(c.len:O))).toNat)-0,a.cap-0⟩ b) f):=ai func398 (.v (.v (.v (.y (.v (.x .w)) (.v (.y (.v (.x .w)) (.y (.v (.x (.v (.v (.y .g20 .w))))) (.v (.y (.v (.x (.y .g20 (.v .w)))) (.v (.v .w)))))))))))
theorem aat{a b c K w}:Fr (Vf a b c K w) (0<=(a.len:O)/\(a.len:O)<=(a.cap:O)/\0<=c/\c<=(((a.len:O).toNat:X):O)/\0<=b/\b<=(c.toNat:O)/\bif b==c then K a w else Dr w λd=>0<=b/\b<=(a.cap:O)/\0<=c/\c<=(a.len:O)/\(∃e f,aP qe [235,235] 235 (.slice (eH a.a 0 a.cap 3) (b.toNat-0) (a.cap-0)) (.slice (eH a.a c.toNat a.cap 3) (a.len-c.toNat) (a.cap-c.toNat)) d e f/\0<=(a.len:O)/\(a.len:O)<=(e.cap:O)/\0<=(e.len:O)/\(e.len:O)<=(((a.len:O).toNat:X):O)/\∃b:Y,jb qe [235] 0 (.slice (eH e.a ((e.len:O).toNat) e.cap 3) (((a.len:O).toNat)-((e.len:O).toNat)) (e.cap-((e.len:O).toNat))) f b/\K e b)/\G):=ai func399 .g16
theorem aau{a b K w}:Fr (XT a b K w) (∀c:O->Pw,(∀(d:O)(e:Y),(bif F (d<(a.len:O))then ∃f,a.a=S f/\0<=d/\d<(a.len:O)/\av e (f.add (d.toNat*8)) 0 [.o,.o,.o,.o,.o,.u,.u,.o] λ(a f g h i j k l:O)=>cT qe (b) [.agg #[.z a,.z f,.z g,.z h,.z i,.y j,.y k,.z l]] e λa b=>∃f,a= .returned (.bool f)/\bif f then K d b else c (qd.wrap (d+1)) b else K (-1) e)->c d e)->c 0 w):=ai func400 .g23
theorem aav{a b K w}:Fr (XX a b K w) (Vg a b (λc d=>bif c==(-1)then K a d else ∀e:O->O->Pw,(∀(c d:O)(f:Y),(bif F (d<(a.len:O))then ∃g,a.a=S g/\0<=d/\d<(a.len:O)/\av f (g.add (d.toNat*8)) 0 [.o,.o,.u,.u,.u,.u,.u,.b] λ(g h i j k l m:O)(n:W)=>A2 f [.z 0,.z 0,.y 0,.y 0,.y 0,.y 0,.y 0,.bool Z] 331 λo p=>aD p o.p 0 [.z g,.z h,.y i,.y j,.y k,.y l,.y m,.bool n] λg=>av g o.p 0 [.o,.o,.u,.u,.u,.u,.u,.b] λ(h i j k l m n:O)(p:W)=>cT qe (b) [.agg #[.z h,.z i,.y j,.y k,.y l,.y m,.y n,.bool p]] g λb g=>∃h,b= .returned (.bool h)/\bif !h then av g o.p 0 [.o,.o,.u,.u,.u,.u,.u,.b] λ(b h i j k l m:O)(n:W)=>∃o,a.a=S o/\0<=c/\c<(a.len:O)/\aD g (o.add (c.toNat*8)) 0 [.z b,.z h,.y i,.y j,.y k,.y l,.y m,.bool n] λb=>e (qd.wrap (c+1)) (qd.wrap (d+1)) b else e c (qd.wrap (d+1)) g else 0<=c/\c<=(a.len:O)/\∃b:Y,jb qe [328] 0 (.slice (eH a.a c.toNat a.cap 8) (a.len-c.toNat) (a.cap-c.toNat)) f b/\0<=c/\c<=(a.cap:O)/\K ⟨eH a.a 0 a.cap 8,c.toNat-0,a.cap-0⟩ b)->e c d f)->e c (qd.wrap (c+1)) d) w):=ai func404 .g12
theorem aaw{a b K w}:Fr (XY a b K w) (Vg a b (λa b=>K (F (a>=0)) b) w):=ai func407 (.v .w)
theorem aax{a b c K w}:Fr (XZ a b c K w) (0<=(a.len:O)/\(a.len:O)<=(a.cap:O)/\0<=c/\c<=(((a.len:O).toNat:X):O)/\0<=b/\b<=(c.toNat:O)/\bif b==c then K a w else Dr w λd=>0<=b/\b<=(a.cap:O)/\0<=c/\c<=(a.len:O)/\(∃e f,aP qe [328,328] 328 (.slice (eH a.a 0 a.cap 8) (b.toNat-0) (a.cap-0)) (.slice (eH a.a c.toNat a.cap 8) (a.len-c.toNat) (a.cap-c.toNat)) d e f/\0<=(a.len:O)/\(a.len:O)<=(e.cap:O)/\0<=(e.len:O)/\(e.len:O)<=(((a.len:O).toNat:X):O)/\∃b:Y,jb qe [328] 0 (.slice (eH e.a ((e.len:O).toNat) e.cap 8) (((a.len:O).toNat)-((e.len:O).toNat)) (e.cap-((e.len:O).toNat))) f b/\K e b)/\G):=ai func409 .g16
theorem aay{a b K w}:Fr (X0 a b K w) (∀c:O->Pw,(∀(d:O)(e:Y),(bif F (d<(a.len:O))then ∃f,a.a=S f/\0<=d/\d<(a.len:O)/\∃a,e.z (f.add (d.toNat*1)) a/\bif b==a then K d e else c (qd.wrap (d+1)) e else K (-1) e)->c d e)->c 0 w):=ai func410 .g23
theorem aaz{a b K w}:Fr (Yr a b K w) (∀c:O->Pw,(∀(d:O)(e:Y),(bif F (d<(a.len:O))then ∃f,a.a=S f/\0<=d/\d<(a.len:O)/\av e (f.add (d.toNat*2)) 0 [.o,.m] λ(a:O)(f:qg X)=>cT qe (b) [.agg #[.z a,.map f]] e λa b=>∃f,a= .returned (.bool f)/\bif f then K d b else c (qd.wrap (d+1)) b else K (-1) e)->c d e)->c 0 w):=ai func411 .g23
theorem aaA{a b K w}:Fr (Ys a b K w) (Yy a b (λa b=>K (F (a>=0)) b) w):=ai func413 (.v .w)
theorem aaB{a b K w}:Fr (X1 a b K w) (X4 a b (λc d=>bif c==(-1)then K a d else ∀e:O->O->Pw,(∀(c d:O)(f:Y),(bif F (d<(a.len:O))then ∃g,a.a=S g/\0<=d/\d<(a.len:O)/\av f (g.add (d.toNat*4)) 0 [.o,.o,.o,.o] λ(g h i j:O)=>A2 f [.z 0,.z 0,.z 0,.z 0] 289 λk l=>aD l k.p 0 [.z g,.z h,.z i,.z j] λg=>av g k.p 0 [.o,.o,.o,.o] λ(h i j l:O)=>cT qe (b) [.agg #[.z h,.z i,.z j,.z l]] g λb g=>∃h,b= .returned (.bool h)/\bif !h then av g k.p 0 [.o,.o,.o,.o] λ(b h i j:O)=>∃k,a.a=S k/\0<=c/\c<(a.len:O)/\aD g (k.add (c.toNat*4)) 0 [.z b,.z h,.z i,.z j] λb=>e (qd.wrap (c+1)) (qd.wrap (d+1)) b else e c (qd.wrap (d+1)) g else 0<=c/\c<=(a.len:O)/\∃b:Y,jb qe [40] 0 (.slice (eH a.a c.toNat a.cap 4) (a.len-c.toNat) (a.cap-c.toNat)) f b/\0<=c/\c<=(a.cap:O)/\K ⟨eH a.a 0 a.cap 4,c.toNat-0,a.cap-0⟩ b)->e c d f)->e c (qd.wrap (c+1)) d) w):=ai func417 .g12
theorem aaC{a b K w}:Fr (Vg a b K w) (∀c:O->Pw,(∀(d:O)(e:Y),(bif F (d<(a.len:O))then ∃f,a.a=S f/\0<=d/\d<(a.len:O)/\av e (f.add (d.toNat*8)) 0 [.o,.o,.u,.u,.u,.u,.u,.b] λ(a f g h i j k:O)(l:W)=>cT qe (b) [.agg #[.z a,.z f,.y g,.y h,.y i,.y j,.y k,.bool l]] e λa b=>∃f,a= .returned (.bool f)/\bif f then K d b else c (qd.wrap (d+1)) b else K (-1) e)->c d e)->c 0 w):=ai func435 .g23
theorem aaD{a b K w}:Fr (Yy a b K w) (∀c:O->Pw,(∀(d:O)(e:Y),(bif F (d<(a.len:O))then ∃f,a.a=S f/\0<=d/\d<(a.len:O)/\∃a:N,e.cell? (f.add (d.toNat*1))=S (a)/\cT qe (b) [a] e λa b=>∃f,a= .returned (.bool f)/\bif f then K d b else c (qd.wrap (d+1)) b else K (-1) e)->c d e)->c 0 w):=ai func437 .g23
theorem aaE{a b K w}:Fr (X4 a b K w) (∀c:O->Pw,(∀(d:O)(e:Y),(bif F (d<(a.len:O))then ∃f,a.a=S f/\0<=d/\d<(a.len:O)/\av e (f.add (d.toNat*4)) 0 [.o,.o,.o,.o] λ(a f g h:O)=>cT qe (b) [.agg #[.z a,.z f,.z g,.z h]] e λa b=>∃f,a= .returned (.bool f)/\bif f then K d b else c (qd.wrap (d+1)) b else K (-1) e)->c d e)->c 0 w):=ai func438 .g23
structure FY where
 label:O
 w0:O
 w1:O
 w2:O
 w3:O
 ax:O
 calls:W
deriving DecidableEq
structure Wt where
 who:O
 m:FY
deriving DecidableEq
def ja:dF Wt:=⟨8,λo=>[.z o.who,.z o.m.label,.y o.m.w0,.y o.m.w1,.y o.m.w2,.y o.m.w3,.y o.m.ax,.bool o.m.calls],λ_=>rfl,λx v h=>by simp only[Oz,Ps,qC]at h;rcases h with rfl|rfl|rfl|rfl|rfl|rfl|rfl|rfl<;>rfl,qb⟩
theorem G6{w:Y}{a:qf}{x:Wt}{f:O->O->O->O->O->O->O->W->Prop}(g:∀c v,(ja.enc x)[c]?=S v->w.cell? (a.add c)=S v)(hf:f x.who x.m.label x.m.w0 x.m.w1 x.m.w2 x.m.w3 x.m.ax x.m.calls):
  av w a 0 [.o,.o,.u,.u,.u,.u,.u,.b] f:=⟨_,g 0 _ U,_,g 1 _ U,_,g 2 _ U,_,g 3 _ U,_,g 4 _ U,_,g 5 _ U,_,g 6 _ U,_,g 7 _ U,hf⟩
theorem GO:qe.info? 331=S aeq:=qa
theorem IM:aeq.bytes=64:=qa
def BZ:FY:=⟨0,0,0,0,0,0,Z⟩
def JL:Wt:=⟨0,BZ⟩
theorem Im(w:Y):(qE 331).run qe w= .ok (.agg ⟨ja.enc JL⟩) w:=zeroValue331 w
def dH{α:Type}(p:α->W)(xs:J α):O:=match xs.findIdx? p with|some i=>(i:O)|none=> -1
theorem jT{α:Type}(p:α->W)(xs:J α):F (dH p xs>=0)=xs.any p:=by
 unfold dH;cases h:xs.findIdx? p with
 |none=>
  rw[Pa]at h;have:xs.any p=false:=by rw[List.any_eq_false];intro x hx;simp[h x hx]
  rw[this];rfl
 |some i=>
  obtain⟨hi,hp,_⟩:=OT.1 h;have:xs.any p=true:=List.any_eq_true.2 ⟨_,List.getElem_mem hi,hp⟩;rw[this];simp
end
section
variable{B:X}{w0 w:Y}{R L:J aH}{s:Sl}{xs:J Wt}
theorem ra{p:Wt->W}{f:N}{K:O->Pw}[ae4:bY s L Wt ja xs](h:Ow B w0 w L)(hbig:xs.length<=1000000000)
  (hf:∀(y:Wt)(w:Y)(ae5:W->Pw),Ow B w0 w L->(∀w',Ow B w0 w' L->ae5 (p y) w')->cT qe f [.agg ⟨ja.enc y⟩] w λen w'=>∃r:W,en= .returned (.bool r)/\ae5 r w')
  (hK:∀w',Ow B w0 w' L->K (dH p xs) w'):Vg s f K w:=by
 apply aaC;have hlen:=h.aL s;intro l hl;have loop:∀(rest:J Wt)(j:X)(w:Y),xs.drop j=rest->j<=xs.length->(∀i,i<j->∀y,xs[i]?=S y->p y=Z)->Ow B w0 w L->l (j:O) w:=by
  intro rest;induction rest with
  |nil=>
   intro j w hj hjl hno h;have:xs.length<=j:=by have:=qw PI hj;simp at this;omega
   apply hl;refine aw om ?_;have hn:xs.findIdx? p=none:=by rw[Pa];intro y hy;obtain⟨i,hi⟩:=O5.1 hy;exact hno i (by have:=(Om.1 hi).1;omega) y hi
   have e:dH p xs= -1:=by unfold dH;rw[hn]
   rw[<-e];exact hK _ h
  |cons y rest ih=>
   intro j w hj hjl hno h;have hjl2:j<xs.length:=by have:=qw PI hj;simp at this;omega
   have hx:xs[j]?=S y:=by have:=qw (λl=>l[0]?) hj;simpa using this
   apply hl;refine az om ?_;refine h.bX U hx λa ha h0 hc=>?_;refine G6 hc ?_;refine hf y w _ h λw h=>?_;cases hp:p y with
   |true=>
    refine aU U ?_;have hn:xs.findIdx? p=S j:=by
     rw[OT];refine⟨hjl2,?_,λi hi=>?_⟩
     .rw[gE hjl2]at hx;cases hx;exact hp
     .have:=hno i hi xs[i] (gE om)
      simp[this]
    have e:dH p xs=(j:O):=by unfold dH;rw[hn]
    rw[<-e];exact hK _ h
   |false=>
    refine aW U ?_;rw[wr om om];refine ih (j+1) w (by rw[<-Pz,hj];rfl) om (λi hi z hz=>?_) h;by_cases e:i=j
    .subst e;rw[hx]at hz;cases hz;exact hp
    .exact hno i om z hz
 exact loop xs 0 w U om (λi hi=>by omega) h
theorem tU{p:Wt->W}{f:N}{K:W->Pw}[ae4:bY s L Wt ja xs](h:Ow B w0 w L)(hbig:xs.length<=1000000000)
  (hf:∀(y:Wt)(w:Y)(ae5:W->Pw),Ow B w0 w L->(∀w',Ow B w0 w' L->ae5 (p y) w')->cT qe f [.agg ⟨ja.enc y⟩] w λen w'=>∃r:W,en= .returned (.bool r)/\ae5 r w')
  (hK:∀w',Ow B w0 w' L->K (xs.any p) w'):XY s f K w:=by
 apply aaw;refine ra h hbig hf λw h=>?_;rw[jT];exact hK w h
theorem IE{y:Wt}{c:X}{k:Sl->Pw}[ae4:bY s L Wt ja xs][aeX:eD (af ja s xs) L R](h:Ow B w0 w (aa c (ja.enc y)::L))(hbig:xs.length<=1000000000)
  (hk:∀s' w',s'.len=xs.length+1->Ow B w0 w' (af ja s' (xs++ [y])::R)->k s' w'):
  ∃s' w',aP qe [328,328] 328 s.v (.slice (S c.p) 1 1) w s' w'/\k s' w':=
 Ow.eR (E:=ja) (y:=y) aea GO (zv:= .agg ⟨ja.enc JL⟩) qa qa U qb h (by rw[IM];omega) hk
theorem lv{α:Type}{xs:J α}{i j:X}{z:α}(hij:i<j)(hj:j<=xs.length):
  Sk (i+(xs.length-j)) (Sk (i+(xs.length-j)) (xs.take i++xs.drop j++xs.drop (i+(xs.length-j)))++Oq ((xs.take i++xs.drop j++xs.drop (i+(xs.length-j))).length-(i+(xs.length-j))) z)=xs.take i++xs.drop j:=by
 have hl2:(xs.take i++xs.drop j).length=i+(xs.length-j):=by simp;omega
 rw[PR (by simp;omega),QL,R3,<-hl2,List.take_left]
theorem Eh{i j:X}{K:Sl->Pw}(h:Ow B w0 w (af ja s xs::R))(hij:i<j)(hj:j<=xs.length)(hbig:xs.length<=1000000000)
  (hK:∀s' w',Ow B w0 w' (af ja s' (xs.take i++xs.drop j)::R)->K s' w'):XZ s (i:O) (j:O) K w:=by
 apply aax;have hlen:=h.aL s;have hcap:=h.kG.fK;refine⟨om,om,om,om,om,om,jf om (h.dr λw h=>?_)⟩;refine⟨om,om,om,om,a2 ?_⟩;simp only[Oo];refine h.u7 (E:=ja) aea GO qa om hj om λw h=>?_;dsimp only;refine⟨om,om,om,om,Ow.clear (E:=ja) (z0:=JL) (n:=i+(xs.length-j)) aea Im U h 0 U (by simp;omega) λw h=>?_⟩;have hp:=h.pre 0 U (n:=i+(xs.length-j)) (by simp;omega);refine hK _ w ?_;rw[lv hij hj]at hp;exact hp
theorem ny(xs:J Wt)(q:Wt->W)(j:X)(x:Wt)(hx:xs[j]?=S x):(xs.take (j+1)).filter q=(xs.take j).filter q++if q x then [x]else []:=by rw[OG,hx,List.filter_append];congr 1;simp only[Option.toList_some,List.filter_cons,List.filter_nil]
theorem wP{fv:N}{p:Wt->W}{K:Sl->Pw}(h:Ow B w0 w (af ja s xs::L))(hbig:xs.length<=1000000000)
  (hf:∀(ae6:J aH)(y:Wt)(w:Y)(ae5:W->Pw),Ow B w0 w (ae6++L)->(∀w',Ow B w0 w' (ae6++L)->ae5 (p y) w')->cT qe fv [.agg ⟨ja.enc y⟩] w λen w'=>∃r:W,en= .returned (.bool r)/\ae5 r w')
  (hK:∀s' w',Ow B w0 w' (af ja s' (xs.filter λx=> !p x)::L)->K s' w'):XX s fv K w:=by
 apply aav;have hlen:=h.aL s;have hspot:=(h.wN 0 U).spot;refine ra h hbig (λy w ae5 h hQ=>hf [af ja s xs] y w ae5 h hQ) λw1 h=>?_;unfold dH;cases hfi:xs.findIdx? p with
 |none=>
  refine aU U ?_;have:xs.filter (λx=> !p x)=xs:=by rw[Py];intro x hx;rw[Pa]at hfi;simp[hfi x hx]
  have h2:=hK s w1;rw[this]at h2;exact h2 h
 |some i0=>
  obtain⟨hi0,hp0,hbefore⟩:=OT.1 hfi;refine aW qc ?_;intro l hl;have hcap:=(h.wN 0 U).fK;have key:∀(m j q:X)(ys:J Wt)(w:Y),j+m=xs.length->ys.length=xs.length->ys.take q=(xs.take j).filter (λx=> !p x)->q<j->q<=ys.length->ys.drop j=xs.drop j->
    Ow B w0 w (af ja s ys::L)->l (q:O) (j:O) w:=by
   intro m;induction m with
   |zero=>
    intro j q ys w hj hys hq hqj hqy hd h;apply hl;refine aw om ?_;refine⟨om,om,?_⟩;rw[Oo];refine Ow.clear (E:=ja) (z0:=JL) (n:=q) aea Im U h 0 U om λw2 h=>?_;refine⟨om,om,?_⟩;have h3:=h.pre 0 U (n:=q) (by simp;omega);have e1:(ys.take q++Oq (ys.length-q) JL).take q=xs.filter (λx=> !p x):=by rw[PR (by simp;omega),QL,R3,hq,List.take_of_length_le om]
    rw[e1]at h3;rw[FH _ _ _ hspot];exact hK _ _ h3
   |succ m ih=>
    intro j q ys w hj hys hq hqj hqy hd h;have hjlt:j<xs.length:=om
    have hyj:ys[j]?=S xs[j]:=by have:=qw (λl=>l[0]?) hd;simp only[List.getElem?_drop,QD]at this;rw[this,gE hjlt]
    apply hl;refine az om ?_;refine h.bX (s:=s) U hyj λa ha h0 hc=>?_;refine G6 hc ?_;have hft:=ny xs (λx=> !p x) j _ (gE hjlt);have hd1:∀zs:J Wt,zs.drop j=xs.drop j->zs.drop (j+1)=xs.drop (j+1):=λzs hz=>by rw[<-Pz (i:=1) (j:=j),<-Pz (i:=1) (j:=j),hz]
    generalize xs[j]=x at hyj hft hc;refine h.a λd w' h=>?_;refine h.ay U U λw h=>?_;refine h.I8 U ?_;refine hf [aa d (ja.enc x),af ja s ys] x w _ h λw h=>?_;have h:Ow B w0 w (aa d (ja.enc x)::af ja s ys::L):=h;rw[wI j om];cases hp:p x with
    |true=>
     refine aW U ?_;refine ih (j+1) q ys w om hys ?_ om hqy (hd1 ys hd) h.drop;rw[hq,hft,hp];simp
    |false=>
     refine aU U ?_;refine h.I8 U ?_;refine⟨a,ha,om,om,h.cw.rW (s:=s) x U om ha λw h=>?_⟩;rw[wI q om];refine ih (j+1) (q+1) (ys.set q x) w om (by simpa using hys) ?_ om (by simp;omega) ?_ h.vU
     .rw[hft,hp,OG,List.getElem?_set_self om,List.take_set_of_le (Nat.le_refl _),hq];simp
     .rw[List.drop_set_of_lt om];exact hd1 ys hd
  have h0:xs.take i0=(xs.take (i0+1)).filter (λx=> !p x):=by
   rw[ny xs _ i0 _ (gE hi0),hp0];simp only[PK,qx,List.append_nil,OF]
   symm
   rw[Py];intro x hx;obtain⟨q,hq⟩:=O5.1 hx;rw[List.getElem?_take]at hq;split at hq
   .rename_i hlt
    have:=hbefore q hlt;rw[gE om]at hq;cases hq;simpa using this
   .cases hq
  rw[show qd.wrap (((i0:X):O)+1)=((i0+1:X):O)from by rw[wr om om];omega];exact key (xs.length-(i0+1)) (i0+1) i0 xs w1 om U h0 om om U h
end
end Go.Vc
