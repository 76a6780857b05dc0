/- What the row rests on: the declarations that it needs, out of my texts (part 2). -/
import Derived.Test.YtfgikfglabdeoaaGreatZy1
import Derived.Test.YtfgikfglabdeoaaGreatProg
open Bool renaming false->G,true->Z
open Decidable renaming decide->V
open Go renaming Addr->qg,Program->qq,TypeId->qi,TypeInfo->qL,Value->Q,World->J,zeroValue->qK
open Go.IntKind renaming i64->qf,u64->qv
open Go.Proofs.Tryz renaming prog->qe,t276->aaY,t3->qF,t331->aaW,t39->aaG,underlying22->qG,underlying269->aaZ,underlying278->aaX,underlying328->qZ,zeroValue3->qR
open Option renaming none->N,some->S
open _root_ renaming Array->qo,Bool->W,False->qk,Int->O,List->Y,Nat->X,Option->qh,True->I,beq_iff_eq->qH,cond_false->qp,cond_true->ql,congrArg->qz,if_false->qy,if_neg->F,if_pos->qd,if_true->qC,or_false->qI,rfl->U
open Go.Proofs.Tryz
open Bool renaming false_eq_true->LK,not_false->MK,not_true->MM
open Int renaming natCast_nonneg->Nr,toNat_natCast->Lw
open List renaming all_eq_true->NT,any_eq_false->Ny,any_eq_true->Na,append_assoc->LN,append_nil->LQ,drop_drop->ML,drop_set_of_lt->PK,eraseIdx_append_of_lt_length->Ni,filter_append->Mi,filter_cons->Mc,filter_eq_self->Mv,filter_nil->M8,findIdx?_eq_none_iff->Mu,findIdx?_eq_some_iff_getElem->L9,foldl_append->P1,getElem?_drop->LR,getElem?_eq_some_iff->Lu,getElem?_set_self->Nb,getElem?_take->LS,getElem_mem->Mq,length->Nc,length_cons->LL,length_filter_le->L6,length_map->L3,length_take->LX,map_append->LU,mem_cons->LD,mem_iff_getElem?->Mp,not_mem_nil->MB,replicate->Ly,set_set->Pd,take->O5,take_add_one->LJ,take_append_of_le_length->MW,take_of_length_le->Lz,take_set_of_le->PM,take_take->NU,zipWith->Lx
open Nat renaming add_zero->NB,div_lt_of_lt_mul->Om,le_refl->Lv,le_trans->LY,log2_eq_iff->Pm,min_eq_left->Ms,min_self->Ph,pow_add->P4,two_pow_pos->MD,zero_le->MN
open Option renaming toList_some->Nj
set_option maxRecDepth 100000
set_option maxHeartbeats 4000000
set_option linter.all false
namespace Go.Vc
open Go.Proofs
def oe(f:Func):Code:=f.body.getD .skip
theorem jx{P:qq}{f:FuncId}{fn:Func}{c:Code}{p:Prop}(hf:P.funcs[f]?=S fn)(hb:fn.body=S c)(h:p):okF P f p:=by unfold okF;rw[hf];simp only[hb];exact h
theorem xH{P:qq}{f:FuncId}{p:Prop}(h:okF P f p):p:=by unfold okF at h;split at h<;>first|exact h.elim|(split at h<;>first|exact h.elim|exact h)
theorem mH:∀(f:X) (fn:Func),qe.funcs[f]?=S fn->(fn.name== "runtime.NumGoroutine")=false:=by
 have h:qe.funcs.toList.all (λfn=> !(fn.name== "runtime.NumGoroutine"))=true:=qa
 intro f fn hf;have:=NT.1 h fn (by rw[Array.mem_toList_iff];exact Array.mem_of_getElem? hf);simpa using this
theorem jo:qe.follows .mixedOrders=true:=qa
theorem KD{f:FuncId}{fn:Func}(hf:qe.funcs[f]?=S fn)(an:An)(cs:Y (X × Sh))(args:Y Q)(K:vN cs){w:J}{p:Prop}(hb:fn.body=S (oe fn))(hok:GQ qe fn (oe fn) an cs args.length=Z)(e:p=JN qe fn (oe fn) an cs args K w)(h:p):okF qe f (Calls qe f ⟨args⟩ w (EK cs K [])):=
 jx hf hb (EV mH jo hf hb hok (Eq.mp e h))
abbrev _root_.Go.Value.z(n:O):Q:= .int .i64 n
abbrev _root_.Go.Value.y(n:O):Q:= .int .u64 n
abbrev Sl.v(s:Sl):Q:= .slice s.a s.len s.cap
abbrev Sc.o:Sc:= .i .i64
abbrev Sc.u:Sc:= .i .u64
abbrev _root_.Go.Value.q(b:X):Q:= .pointer (S ⟨b,0,N⟩)
abbrev _root_.Nat.o(b:X):qh qg:=S ⟨b,0,N⟩
abbrev z0:Sl:=⟨N,0,0⟩
abbrev _root_.Go.World.z(w:J)(a:qg)(d:O):Prop:=w.cell? a=S (.int .i64 d)
abbrev _root_.Go.World.y(w:J)(a:qg)(d:O):Prop:=w.cell? a=S (.int .u64 d)
abbrev _root_.Go.World.q(w:J)(a:qg)(d:qh qg):Prop:=w.cell? a=S (.pointer d)
abbrev _root_.Go.World.b(w:J)(a:qg)(d:W):Prop:=w.cell? a=S (.bool d)
abbrev _root_.Go.World.m(w:J)(a:qg)(d:qh X):Prop:=w.cell? a=S (.map d)
abbrev _root_.Go.World.s(w:J)(a:qg)(d:Sl):Prop:=w.cell? a=S (.slice d.a d.len d.cap)
abbrev Pw:=J->Prop
abbrev Fr(q p:Prop):Prop:=p->q
theorem Ow.l1{B:X}{w0 w:J}{L:Y aH}{b o:X}{l:Y Q}{α:Type}{κ:α->Q}{f:α->Prop}{d:α}[abw:fL b L l](h:Ow B w0 w L)(hv:l[o]?=S (κ d))(hf:f d):∃d,w.cell? ⟨b,o,N⟩=S (κ d)/\f d:=⟨d,h.aF hv,hf⟩
theorem Ow.l2{B:X}{w0 w:J}{L:Y aH}{b o n:X}{l:Y Q}{α:Type}{κ:α->Q}{f:α->Prop}{d:α}[abw:fL b L l](h:Ow B w0 w L)(hv:l[o+n]?=S (κ d))(hf:f d):∃d,w.cell? ((Addr.mk b o N).add n)=S (κ d)/\f d:=⟨d,h.aE hv,hf⟩
theorem _root_.Eq.k{α:Type}{x:qh α}{f g:α}(h:x=S f)(e:f=g:=by kernel_rfl):x=S g:=e▸h
abbrev KC(f:FuncId)(a:Y Q)(w:J)(cs:Y (X × Sh))(K:vN cs):Prop:=okF qe f (Calls qe f ⟨a⟩ w (EK cs K []))
abbrev oG(f:FuncId)(a:Y Q)(cs:Y (X × Sh))(K:vN cs)(w:J):Prop:=KC f a w cs K
abbrev r0:Y (X × Sh):=[(0,.c (.i .i64))]
abbrev r1:Y (X × Sh):=[(0,.c (.b))]
abbrev r2:Y (X × Sh):=[(0,.c (.s))]
abbrev r3:Y (X × Sh):=[]
abbrev r4:Y (X × Sh):=[(0,.c (.p))]
abbrev r5:Y (X × Sh):=[(0,.c (.i .i64)),(1,.c (.b))]
abbrev r6:Y (X × Sh):=[(0,.c (.i .i64)),(1,.c (.i .i64))]
abbrev r7:Y (X × Sh):=[(0,.c (.p)),(1,.c (.i .i64))]
abbrev r8:Y (X × Sh):=[(0,.a [.o,.o,.o,.u,.u,.o]),(1,.c (.i .i64))]
abbrev r9:Y (X × Sh):=[(0,.c (.i .u64)),(1,.c (.b))]
abbrev HS:Y (X × Sh):=[(0,.c (.i .i64)),(1,.c (.i .u64)),(2,.c (.b)),(3,.c (.i .i64))]
abbrev HT:Y (X × Sh):=[(0,.a [.b,.o,.o,.o,.u,.u,.u,.u,.u,.b]),(1,.c (.i .i64))]
abbrev IX:Y (X × Sh):=[(0,.a [.o,.o]),(1,.c (.i .i64))]
abbrev IY:Y (X × Sh):=[(0,.a [.o,.o,.o,.o,.u,.u,.u,.u,.u,.u,.u,.u]),(1,.c (.i .i64))]
abbrev JB:Y (X × Sh):=[(0,.c (.s)),(1,.c (.b))]
abbrev JC:Y (X × Sh):=[(0,.c (.s)),(1,.c (.i .i64))]
abbrev KF:Y (X × Sh):=[(0,.c (.i .u64)),(1,.c (.i .i64))]
theorem aj{f:FuncId}{fn:Func}(hf:qe.funcs[f]?=S fn)(an:An){cs:Y (X × Sh)}{args:Y Q}{K:vN cs}{w:J}{p:Prop}(hb:fn.body=S (oe fn):=by rfl)(hok:GQ qe fn (oe fn) an cs args.length=true:=by kernel_rfl)(e:p=JN qe fn (oe fn) an cs args K w:=by kernel_rfl):Fr (KC f args w cs K) p:=
 by unfold Fr KC;exact KD hf an cs args K hb hok e
def An.w:An:= .t N .u .u
def An.v(a:An):An:= .t N .u a
def An.x(a:An):An:= .t N a .u
def An.y(a b:An):An:= .t N a b
def An.z(p:bB):An:= .r N p
def bB.o(a b:X)(p:bB):bB:= .one a b p
def bB.e(a:X)(p:bB):bB:= .alt a p .none
def bB.f(a:X)(p q:bB):bB:= .alt a p q
def An.AQ:An:= .v (.y (.v (.x .w)) .w)
def An.Ji:An:= .v (.t (S []) .u .u)
def An.Ed:An:= .v (.y .w (.x (.x .w)))
def An.H9:An:= .y (.v (.x .w)) (.v .w)
def bB.Jj:bB:= .o 13 0 (.o 14 0 .done)
def bB.JS:bB:= .e 7 (.e 10 (.e 11 .done))
def bB.Kn:bB:= .o 6 0 (.o 7 0 (.e 8 .done))
def An.IV:An:= .x (.v (.y .w (.v (.x .w))))
def An.IW:An:= .v .AQ
def bB.Ko:bB:= .o 7 0 (.o 8 0 (.e 9 .done))
def An.HN:An:= .y (.v .w) (.x (.x (.v .w)))
def An.Kq:An:= .r (S [(42,.c .b)]) .done
def An.Kr:An:= .r (S [(18,.c .b)]) .done
def bB.Ks:bB:= .o 5 0 (.o 6 0 (.e 7 .done))
def bB.IT:bB:= .e 18 (.e 19 (.o 20 0 .done))
def bB.IU:bB:= .e 16 (.e 17 (.o 18 0 .done))
def bB.Kl:bB:= .o 9 0 (.e 10 (.o 11 0 .done))
def bB.Km:bB:= .o 9 0 (.o 10 0 (.e 11 .done))
def bB.Ki:bB:= .o 10 0 (.o 11 0 (.e 12 .done))
def An.Kj:An:= .y .w (.v (.y .w (.v (.x .w))))
def bB.Jh:bB:= .o 10 0 (.e 11 (.o 12 0 .done))
def bB.Kk:bB:= .e 19 (.o 20 0 (.o 21 0 .done))
def An.JQ:An:= .y (.v .w) (.x (.x (.v (.x .w))))
def An.JR:An:= .v (.y (.v (.x .w)) (.v (.v .w)))
def bB.Kg:bB:= .o 5 0 .Kn
def bB.Kh:bB:= .o 5 0 (.o 6 0 (.e 7 (.o 8 0 .done)))
def bB.Kf:bB:= .e 7 .Jh
def bB.Ke:bB:= .o 4 64 (.o 5 64 (.o 6 0 (.e 7 .done)))
def An.Kc:An:= .y (.r (S [(17,.c .b)]) .done) (.x .w)
def An.Jg:An:= .y (.r (S [(14,.c .b)]) .done) (.x .w)
def An.Kd:An:= .y (.r (S [(26,.c .b)]) .done) (.x .w)
def An.JP:An:= .y (.r (S [(19,.c .b)]) .done) (.x .w)
def bB.Kb:bB:= .e 9 (.e 10 (.o 11 0 (.o 12 0 (.e 13 .done))))
def An.Ld:An:= .v (.v (.y .IV (.v .w)))
def bB.Lb:bB:= .e 1 (.e 6 .Kf)
def bB.Lc:bB:= .o 9 0 (.o 10 0 (.o 11 0 (.o 12 0 (.o 13 0 .done))))
def An.Ka:An:= .v (.y (.y (.r (S [(9,.c .b)]) .done) (.x .w)) .w)
def bB.La:bB:= .e 8 .Kb
def bB.K8:bB:= .o 4 128 (.o 5 128 (.o 6 128 (.o 7 0 (.o 8 0 .done))))
def An.K9:An:= .v (.y (.y (.r (S [(15,.c .b)]) .done) (.x .w)) .w)
def An.K7:An:= .v (.v (.v (.v (.v (.v (.v (.v (.v (.v (.v .w))))))))))
def bB.J9:bB:= .o 4 0 (.o 5 0 (.o 6 0 .Ko))
def An.J8:An:= .v (.t (S [(0,.c (.i .u64)),(2,.c (.i .i64))]) .w .u)
def An.K4:An:= .v (.y (.v (.x .w)) (.y (.v (.v (.x .w))) (.y (.v .w) .w)))
def bB.K5:bB:= .o 1 32 (.o 2 32 (.o 3 32 (.o 4 32 (.o 5 0 (.e 6 .done)))))
def bB.K6:bB:= .o 8 0 (.o 9 0 (.o 10 0 (.o 11 0 (.e 12 (.o 13 0 .done)))))
def bB.K3:bB:= .o 7 256 (.o 8 0 (.o 9 0 .Ki))
def An.K1:An:= .v (.x (.t (S [(5,.c (.i .i64))]) (.y (.v .w) (.x .w)) .u))
def An.JO:An:= .z (.o 0 16 (.o 1 16 (.o 2 16 (.o 3 16 (.o 4 0 (.e 5 .done))))))
def bB.KZ:bB:= .f 7 (.e 9 (.e 10 (.e 11 .done))) (.e 9 .JS)
def bB.K0:bB:= .f 7 (.e 8 (.e 10 (.e 11 .done))) (.e 8 .JS)
def bB.KY:bB:= .o 5 0 (.e 6 (.o 7 0 (.o 8 512 (.o 9 1024 (.o 10 0 (.o 11 0 .done))))))
def An.KX:An:= .y .JO .w
def An.KW:An:= .z (.o 0 48 (.o 1 48 (.o 2 48 (.o 3 48 (.o 4 0 (.o 5 0 (.e 6 .done)))))))
def An.KU:An:= .v (.x (.t (S [(5,.c (.i .i64))]) .JQ .u))
def bB.KV:bB:= .o 10 16384 (.o 11 16384 (.o 12 16384 (.o 13 16384 (.o 14 0 (.e 15 .done)))))
def An.J6:An:= .v (.x (.t (S [(5,.c .s),(6,.c (.i .i64))]) .HN .u))
def An.J7:An:= .y (.z (.o 0 48 (.o 1 48 (.o 2 48 (.o 3 48 (.o 4 32 (.o 5 0 (.e 6 .done)))))))) .w
def An.KT:An:= .z (.o 0 48 (.o 1 48 (.o 2 48 (.o 3 48 (.o 4 32 .Ks)))))
def An.KS:An:= .y (.v (.x (.t (S [(6,.c (.i .i64))]) .JQ .u))) .w
def bB.KR:bB:= .e 9 (.o 10 0 (.o 11 12288 (.o 12 73728 (.o 13 196608 .IU))))
def An.KQ:An:= .v .KS
def bB.KP:bB:= .e 11 (.o 12 0 (.o 13 49152 (.o 14 294912 (.o 15 786432 .IT))))
def An.KO:An:= .x (.x (.v (.x (.t (S [(3,.c .s),(5,.c (.i .i64))]) .HN .u))))
def An.GR:An:= .v (.y (.v (.x (.t (S [(8,.c (.i .i64))]) (.v (.y .w (.x (.x (.v (.v (.x .w))))))) .u))) .w)
def An.g24:An:= .v (.v (.y (.v (.x (.t (S [(5,.c .s),(10,.c (.i .i64))]) .Ed .u))) .w))
def An.g23:An:= .z (.o 0 240 (.o 1 240 (.o 2 240 (.o 3 240 (.o 4 224 .Kg)))))
def An.g21:An:= .z (.o 0 238 (.o 1 228 (.o 2 224 (.o 3 224 (.o 4 224 (.o 5 64 .Kn))))))
def An.g22:An:= .z (.o 0 240 (.o 1 240 (.o 2 240 (.o 3 240 (.o 4 224 (.o 5 64 .Kn))))))
def An.g19:An:= .z (.o 0 112 (.o 1 112 (.o 2 112 (.o 3 112 .J9))))
def An.g20:An:= .z (.o 0 496 (.o 1 496 (.o 2 496 (.o 3 496 .J9))))
def An.g18:An:= .x (.z (.o 0 126 (.o 1 128 (.o 2 128 (.o 3 128 .K8)))))
def An.g17:An:= .y (.v (.x (.v (.x (.z (.o 0 12 (.o 1 12 (.o 2 16 (.o 3 16 (.o 4 0 (.o 5 0 (.o 6 0 (.o 7 0 .done))))))))))))) (.v .w)
def An.g16:An:= .v (.v (.y (.v (.x .w)) (.v (.y (.z (.o 0 58 (.o 1 56 (.o 2 56 (.o 3 16 (.o 4 0 (.o 5 0 (.e 6 (.o 7 0 .done))))))))) (.v .w)))))
def An.g15:An:= .z (.o 0 1022 (.o 1 480 (.o 2 480 (.o 3 480 (.o 4 480 (.o 5 64 (.o 6 0 (.o 7 0 (.e 8 (.e 9 .Ki))))))))))
def An.g14:An:= .z (.o 0 1920 (.o 1 1920 (.o 2 1920 (.o 3 1920 (.o 4 1920 (.o 5 1920 (.o 6 1920 (.o 7 0 (.o 8 0 .Km)))))))))
def An.g13:An:= .v (.v (.y (.v (.x .w)) (.y (.v (.x (.t (S [(5,.c (.i .i64)),(6,.c (.i .i64))]) (.y (.v .w) (.x (.x (.v (.v (.x .w)))))) .u))) (.v .w))))
def An.g12:An:= .z (.o 0 480 (.o 1 480 (.o 2 480 (.o 3 480 (.o 5 16 (.o 6 16 (.o 7 16 (.hold 8 16 5631 (.e 4 (.e 9 .Jh))))))))))
def An.g11:An:= .v (.x (.z (.o 0 240 (.o 1 240 (.o 2 240 (.o 3 240 (.o 4 256 (.o 5 256 (.o 6 256 (.o 7 256 (.o 8 0 (.o 9 0 (.o 10 0 (.o 11 0 .done))))))))))))))
def An.g10:An:= .y (.z (.o 0 1840 (.o 1 1840 (.o 2 1840 (.o 3 1840 (.o 4 1792 (.o 5 1792 (.o 6 1792 (.o 7 1792 (.o 8 1024 (.o 9 1024 .Ki))))))))))) .w
def An.g9:An:= .y (.z (.o 0 816 (.o 1 816 (.o 2 816 (.o 3 816 (.o 4 768 (.o 5 768 (.o 6 768 (.o 7 768 (.o 8 0 .Lc)))))))))) (.x .w)
def bB.g8:bB:= .o 9 32768 (.o 10 32768 (.f 11 (.o 12 32768 (.o 13 49152 (.o 14 98304 (.e 15 (.e 16 (.o 17 0 .done)))))) (.e 15 (.e 11 (.o 12 0 (.o 13 16384 (.o 14 65536 (.e 16 (.o 17 0 .done)))))))))
def An.g7:An:= .z (.o 0 16256 (.o 1 16256 (.o 2 16256 (.o 3 16256 (.o 4 16256 (.o 5 16256 (.o 6 16256 (.o 7 14336 (.o 8 14336 (.o 9 14336 (.o 10 14336 (.o 11 0 (.o 12 0 (.o 13 0 (.e 14 .done)))))))))))))))
def bB.g6:bB:= .o 0 528 (.o 1 528 (.o 2 528 (.o 3 528 (.o 4 512 (.f 5 (.o 6 512 (.o 7 768 (.o 8 1536 (.e 9 (.e 10 (.o 11 0 .done)))))) (.e 9 (.e 5 (.o 6 0 (.o 7 256 (.o 8 1024 (.e 10 (.o 11 0 .done))))))))))))
def An.g5:An:= .y .g23 .g23
def An.g4:An:= .v (.y (.v (.x .w)) (.y (.v (.x (.t (S [(5,.c (.i .i64))]) (.y (.v .w) (.x (.x (.y (.z (.o 0 242 (.o 1 240 (.o 2 240 (.o 3 240 (.o 4 32 (.o 5 0 (.o 6 0 (.o 7 0 (.o 8 0 .done)))))))))) (.x .w))))) .u))) .w))
def An.g3:An:= .y (.z (.o 0 16368 (.o 1 16368 (.o 2 16368 (.o 4 6152 (.o 5 6152 (.o 6 6152 (.hold 3 16256 65535 (.hold 7 6144 57343 (.o 8 6144 (.o 9 6144 (.hold 10 6144 57343 (.e 11 (.e 12 (.e 13 (.o 14 0 (.o 15 0 (.e 16 .done)))))))))))))))))) .w
def An.g2:An:= .r (S [(4,.c .q)]) (.o 0 4224 (.o 1 4224 (.o 2 4224 (.o 3 4224 (.o 4 4224 (.o 5 4224 (.o 6 4224 (.o 7 4096 (.f 8 (.o 9 4096 (.o 10 6144 (.o 11 12288 (.e 12 (.e 13 (.o 14 0 .done)))))) (.e 12 (.e 8 (.o 9 0 (.o 10 2048 (.o 11 8192 (.e 13 (.o 14 0 .done))))))))))))))))
def An.g1:An:= .r (S [(54,.c .b)]) (.o 0 0 (.o 1 0 (.o 2 0 (.o 3 0 (.o 4 0 (.o 5 2089472 (.o 6 2089472 (.o 7 2089472 (.o 8 2089472 (.o 9 2088960 (.o 10 2088960 (.o 11 2088960 (.o 12 2088960 (.o 13 131072 (.o 14 131072 (.o 15 131072 (.o 16 131072 (.o 17 0 (.o 18 0 (.o 19 0 (.o 20 0 (.o 21 0 (.o 22 0 (.o 23 0 .done))))))))))))))))))))))))
def An.g0:An:= .r (S [(4,.c .q),(5,.c .b)]) (.o 0 49648 (.o 1 49648 (.o 2 49648 (.o 3 49648 (.o 4 49152 (.o 5 49152 (.o 6 49152 (.o 7 49152 (.o 8 49152 (.f 9 (.o 10 49152 (.o 11 61440 (.o 12 122880 (.o 13 245760 (.f 14 (.e 15 .IU) (.e 15 (.e 14 .IU))))))) (.f 14 (.f 9 (.o 10 32768 (.o 11 45056 (.o 12 106496 (.o 13 229376 (.e 15 .IU))))) (.e 15 .KR)) (.e 15 (.f 9 (.o 10 16384 (.o 11 28672 (.o 12 90112 (.o 13 212992 (.e 14 .IU))))) (.e 14 .KR))))))))))))))
def R6:=λa b c(d e:Sl)(K:W->Pw)=>oG 3 [.agg #[.z a,.z b,.z c,d.v],e.v] r1 K
def R7:=λa b c(d:Sl)(K:O->O->O->Sl->Pw)=>oG 6 [.agg #[.z a,.z b,.z c,d.v]] [(0,.a [.o,.o,.o,.s])] K
def Qq:=λa b c(d:Sl)(K:qh qg->O->Pw)=>oG 7 [.agg #[.z a,.z b,.z c,d.v]] r7 K
def R8:=λa b c(d:Sl)(K:qh qg->O->Pw)=>oG 8 [.agg #[.z a,.z b,.z c,d.v]] r7 K
def Q5:=λa b c(K:W->Pw)=>oG 9 [.pointer a,.pointer b,.z c] r1 K
def OF:=λa b c d e f g h(K:O->O->O->Sl->Pw)=>oG 10 [.pointer a,.z b,.agg #[.z c,.z d,.z e,.z f,.z g,.z h]] [(0,.a [.o,.u,.o,.s])] K
def R9:=λa b c(d:Sl)e f g(h:Sl)(K:W->Pw)=>oG 11 [.agg #[.z a,.y b,.z c,d.v],.agg #[.z e,.y f,.z g,h.v]] r1 K
def Sa:=λa b c d e f g h(K:O->O->O->Sl->Pw)=>oG 12 [.pointer a,.z b,.agg #[.z c,.z d,.z e,.z f,.z g,.z h]] [(0,.a [.o,.u,.o,.s])] K
def Sb:=λa b(K:O->O->Pw)=>oG 13 [.pointer a,.z b] r6 K
def Sd:=λa b(K:O->O->Pw)=>oG 14 [.pointer a,.z b] r6 K
def Se:=λa b(K:W->Pw)=>oG 15 [.pointer a,.z b] r1 K
def Q6:=λa b(K:W->Pw)=>oG 16 [.pointer a,.z b] r1 K
def Sf:=λa(K:qh qg->Pw)=>oG 17 [.pointer a] r4 K
def Sg:=λ(K:W->Pw)=>oG 18 [] r1 K
def Si:=λ(a b:Sl)(K:W->Pw)=>oG 22 [a.v,b.v] r1 K
def Q7:=λa(K:Sl->Pw)=>oG 24 [.pointer a] r2 K
def Sj:=λ(a b:Sl)(K:W->Pw)=>oG 25 [a.v,b.v] r1 K
def Qr:=λa(K:Sl->Pw)=>oG 27 [.pointer a] r2 K
def Sk:=λa b c(d:Sl)(K:W->Pw)=>oG 34 [.agg #[.z a,.z b,.z c,d.v]] r1 K
def Q8:=λ(K:qh qg->Pw)=>oG 35 [] r4 K
def Qt:=λ(K:qh qg->Pw)=>oG 36 [] r4 K
def Px:=λ(K:qh qg->Pw)=>oG 37 [] r4 K
def Sm:=λa(K:qh qg->O->Pw)=>oG 38 [.z a] r7 K
def Sn:=λa(K:qh qg->O->Pw)=>oG 39 [.z a] r7 K
def Q9:=λa b(K:O->O->Pw)=>oG 40 [.pointer a,.z b] r6 K
def PB:=λa b c d(K:O->Pw)=>oG 41 [.pointer a,.z b,.z c,.z d] r0 K
def PY:=λa b c(K:O->O->Pw)=>oG 42 [.pointer a,.z b,.z c] r6 K
def PZ:=λa b(K:O->Pw)=>oG 43 [.pointer a,.z b] r0 K
def P2:=λa b(K:O->W->Pw)=>oG 44 [.pointer a,.z b] r5 K
def Sp:=λa(K:qh qg->O->Pw)=>oG 45 [.z a] r7 K
def Sq:=λa(K:qh qg->O->Pw)=>oG 46 [.z a] r7 K
def Ra:=λa b(K:O->O->Pw)=>oG 47 [.pointer a,.z b] r6 K
def PG:=λa b c(K:Pw)=>oG 48 [.pointer a,.z b,.z c] r3 K
def Rb:=λa b c(K:O->O->Pw)=>oG 49 [.pointer a,.z b,.z c] r6 K
def Qu:=λa b(K:O->Pw)=>oG 50 [.pointer a,.z b] r0 K
def P3:=λa b(K:O->W->Pw)=>oG 51 [.pointer a,.z b] r5 K
def Qv:=λa(K:Sl->Pw)=>oG 52 [.pointer a] r2 K
def P5:=λ(a b:Sl)(K:W->Pw)=>oG 53 [a.v,b.v] r1 K
def Qw:=λa(K:Sl->Pw)=>oG 54 [.pointer a] r2 K
def Sr:=λa b(K:O->O->O->O->O->O->O->O->O->O->O->O->O->Pw)=>oG 55 [.pointer a,.z b] IY K
def Rc:=λa b(K:O->O->O->O->O->O->O->O->O->O->O->O->O->Pw)=>oG 56 [.pointer a,.z b] IY K
def Re(k1:qh qg)(n2:O)(K:O->O->O->W->Pw)(w:J):Prop:=okF qe 57 (Calls qe 57 #[.pointer k1,.z n2] w λen w'=>∃r3,∃r4,∃r5,∃r6,en= .returned (.tuple #[.agg #[.y r3,.z r4,.y r5],.bool r6])/\K r3 r4 r5 r6 w')
def Ss:=λa b(K:Sl->W->Pw)=>oG 58 [.pointer a,.z b] JB K
def Su:=λa(K:Sl->W->Pw)=>oG 59 [.pointer a] JB K
def Sv:=λ(a b:Sl)(K:W->Pw)=>oG 60 [a.v,b.v] r1 K
def Sw:=λa b(K:O->W->Pw)=>oG 61 [.pointer a,.z b] r9 K
def Rf:=λa(K:O->W->Pw)=>oG 62 [.pointer a] r9 K
def Sx:=λa b(K:Sl->Pw)=>oG 63 [.pointer a,.z b] r2 K
def Rg:=λa b(K:O->W->Pw)=>oG 64 [.pointer a,.z b] r5 K
def OZ:=λa b(K:O->W->Pw)=>oG 65 [.pointer a,.z b] r5 K
def Rh:=λa b(K:W->Pw)=>oG 66 [.pointer a,.z b] r1 K
def Sy:=λa(K:O->Pw)=>oG 67 [.pointer a] r0 K
def Sz:=λ(a b:Sl)(K:W->Pw)=>oG 68 [a.v,b.v] r1 K
def Qy:=λa b(K:W->Pw)=>oG 69 [.pointer a,.z b] r1 K
def SA:=λa b c d e f g(K:W->Pw)=>oG 70 [.pointer a,.agg #[.z b,.z c,.z d,.z e,.z f,.z g]] r1 K
def SB:=λa b c d e f g h(K:O->Pw)=>oG 71 [.pointer a,.z b,.agg #[.z c,.z d,.z e,.z f,.z g,.z h]] r0 K
def SC:=λa b c d e f g(K:O->Pw)=>oG 72 [.pointer a,.agg #[.z b,.z c,.z d,.z e,.z f,.z g]] r0 K
def SD:=λa b c d e f g h i(K:O->Pw)=>oG 73 [.pointer a,.z b,.z c,.agg #[.z d,.z e,.z f,.z g,.z h,.z i]] r0 K
def SE:=λa b c d e f g(K:O->Pw)=>oG 74 [.pointer a,.agg #[.z b,.z c,.z d,.z e,.z f,.z g]] r0 K
def SF:=λa b(K:O->O->W->O->Pw)=>oG 75 [.pointer a,.z b] HS K
def Qz:=λa b c(K:O->Pw)=>oG 76 [.pointer a,.z b,.y c] r0 K
def SG:=λa b(K:O->O->W->O->Pw)=>oG 77 [.pointer a,.z b] HS K
def P6:=λa b c(K:O->Pw)=>oG 78 [.pointer a,.z b,.y c] r0 K
def SH:=λa b(K:W->Pw)=>oG 79 [.pointer a,.z b] r1 K
def SI:=λa(K:qh qg->Pw)=>oG 80 [.pointer a] r4 K
def SJ:=λa(K:qh qg->Pw)=>oG 81 [.pointer a] r4 K
def SL:=λa(K:qh qg->Pw)=>oG 82 [.pointer a] r4 K
def SM:=λa(K:qh qg->Pw)=>oG 83 [.pointer a] r4 K
def SN:=λ(a:Sl)(K:Sl->Pw)=>oG 84 [a.v] r2 K
def UU:=λ(a:Sl)(b:Q)(K:Sl->Pw)=>oG 85 [a.v,b] r2 K
def SO:=λa(K:qh qg->Pw)=>oG 86 [.pointer a] r4 K
def UW:=λ(a:Sl)(b:Q)(K:Sl->Pw)=>oG 87 [a.v,b] r2 K
def SP:=λa(K:qh qg->Pw)=>oG 88 [.pointer a] r4 K
def UX:=λ(a:Sl)(b:Q)(K:Sl->Pw)=>oG 89 [a.v,b] r2 K
def SQ:=λa(K:qh qg->Pw)=>oG 90 [.pointer a] r4 K
def UY:=λ(K:O->O->O->Sl->Pw)=>oG 91 [] [(0,.a [.o,.o,.o,.s])] K
def UZ:=λa(K:W->Pw)=>oG 116 [.z a] r1 K
def U0:=λ(a:Sl)(b:Q)(K:W->Pw)=>oG 117 [a.v,b] r1 K
def SR:=λ(a:Sl)b(K:Sl->Pw)=>oG 118 [a.v,.z b] r2 K
def Ri:=λ(K:qh qg->Pw)=>oG 119 [] r4 K
def Rj:=λa b c d e f g h i(K:O->Pw)=>oG 120 [.pointer a,.agg #[.z b,.z c],.agg #[.z d,.z e,.z f,.y g,.y h,.z i]] r0 K
def SS:=λa b c(K:O->Pw)=>oG 121 [.pointer a,.agg #[.z b,.z c]] r0 K
def Rk:=λa(K:W->Pw)=>oG 122 [.z a] r1 K
def QA:=λa b(K:W->Pw)=>oG 123 [.pointer a,.z b] r1 K
def OT:=λa b(K:qh qg->Pw)=>oG 124 [.pointer a,.z b] r4 K
def Qc:=λa b(K:Pw)=>oG 125 [.pointer a,.z b] r3 K
def Qe:=λa b(K:O->W->Pw)=>oG 126 [.pointer a,.z b] r5 K
def SU:=λa(K:O->W->Pw)=>oG 127 [.pointer a] r5 K
def OY:=λa b c(K:Pw)=>oG 128 [.pointer a,.z b,.z c] r3 K
def ON:=λa(K:O->Pw)=>oG 129 [.z a] [(0,.c (.i .u64))] K
def Rl:=λa b c d e f g h i(K:O->Pw)=>oG 130 [.pointer a,.agg #[.z b,.z c],.agg #[.z d,.z e,.z f,.y g,.y h,.z i]] r0 K
def SV:=λa b c(K:O->Pw)=>oG 131 [.pointer a,.agg #[.z b,.z c]] r0 K
def Rm:=λa(K:W->Pw)=>oG 132 [.z a] r1 K
def Rn:=λa b(K:W->Pw)=>oG 133 [.pointer a,.z b] r1 K
def Pq:=λa b(K:W->Pw)=>oG 134 [.pointer a,.z b] r1 K
def Qh:=λa b(K:Pw)=>oG 135 [.pointer a,.z b] r3 K
def SX:=λa(K:O->W->Pw)=>oG 136 [.pointer a] r5 K
def Qi:=λa b(K:Pw)=>oG 137 [.pointer a,.z b] r3 K
def Ro:=λa(K:Sl->Pw)=>oG 138 [.pointer a] r2 K
def SY:=λa(K:Sl->Pw)=>oG 139 [.pointer a] r2 K
def QB:=λa b(K:O->O->O->O->O->O->O->O->O->O->O->O->O->Pw)=>oG 140 [.pointer a,.z b] IY K
def U1:=λ(a:Sl)b(K:W->Pw)=>oG 141 [a.v,.z b] r1 K
def U2:=λ(a:Sl)b(K:W->Pw)=>oG 142 [a.v,.z b] r1 K
def SZ:=λa(K:Sl->W->Pw)=>oG 143 [.pointer a] JB K
def U3:=λ(a:Sl)b(K:W->Pw)=>oG 144 [a.v,.z b] r1 K
def S0:=λa(K:O->W->Pw)=>oG 145 [.pointer a] r9 K
def U4:=λ(a:Sl)b(K:W->Pw)=>oG 146 [a.v,.z b] r1 K
def Rp:=λa(K:Sl->Pw)=>oG 147 [.pointer a] r2 K
def S1:=λa(K:O->O->Pw)=>oG 148 [.z a] [(0,.a [.o,.o])] K
def OE:=λa b c(K:O->O->O->O->O->O->O->O->W->Pw)=>oG 149 [.pointer a,.z b,.z c] [(0,.a [.o,.o]),(1,.a [.o,.o,.o,.u,.u,.o]),(2,.c (.b))] K
def S2:=λa(K:O->Pw)=>oG 150 [.pointer a] r0 K
def S3:=λa(K:O->Pw)=>oG 151 [.pointer a] r0 K
def S4:=λa(K:O->Pw)=>oG 152 [.pointer a] r0 K
def S5:=λa(K:O->Pw)=>oG 153 [.pointer a] r0 K
def S6(d1:qh qg)(K:O->Pw)(w:J):Prop:=okF qe 154 (Calls qe 154 #[.pointer d1] w λen w'=>∃r2,en= .returned (.z r2)/\K r2 w')
def S7:=λa(K:O->Pw)=>oG 155 [.pointer a] r0 K
def S8:=λa(K:O->Pw)=>oG 156 [.pointer a] r0 K
def S9:=λa(K:O->Pw)=>oG 157 [.pointer a] r0 K
def Ta:=λa(K:O->Pw)=>oG 158 [.pointer a] r0 K
def Tc:=λa(K:O->Pw)=>oG 159 [.pointer a] r0 K
def Td:=λa(K:O->Pw)=>oG 160 [.pointer a] r0 K
def Te:=λa(K:O->Pw)=>oG 161 [.pointer a] r0 K
def Tf:=λa(K:O->Pw)=>oG 162 [.pointer a] r0 K
def Tg:=λa(K:O->Pw)=>oG 163 [.pointer a] r0 K
def Ti:=λa(K:O->Pw)=>oG 164 [.pointer a] r0 K
def Tj:=λa(K:O->Pw)=>oG 165 [.pointer a] r0 K
def Tk:=λa(K:O->Pw)=>oG 166 [.pointer a] r0 K
def Oo:=λa b(K:O->O->O->O->O->O->Pw)=>oG 167 [.pointer a,.z b] [(0,.a [.o,.o,.o,.u,.u,.o])] K
def QC:=λa(K:O->Pw)=>oG 168 [.z a] r0 K
def Tl:=λa b c d e f g h i(K:O->Pw)=>oG 169 [.pointer a,.z b,.agg #[.z c,.z d,.z e,.z f,.z g,.z h],.z i] r0 K
def PI:=λa b c(K:O->Pw)=>oG 170 [.pointer a,.z b,.z c] r0 K
def Tm:=λa b c d e f g h(K:O->O->O->O->O->O->O->Pw)=>oG 171 [.agg #[.z a,.z b,.z c,.y d,.y e,.z f],.z g,.y h] r8 K
def Rq:=λa b c d e f g h i(K:Pw)=>oG 172 [.pointer a,.z b,.z c,.agg #[.z d,.z e,.z f,.y g,.y h,.z i]] r3 K
def Tn:=λa b c d e(K:O->Pw)=>oG 173 [.pointer a,.agg #[.z b,.z c],.agg #[.z d,.z e]] r0 K
def To:=λa b c d e(K:O->Pw)=>oG 174 [.pointer a,.agg #[.z b,.z c],.agg #[.z d,.z e]] r0 K
def Rr:=λa b c(K:Pw)=>oG 175 [.pointer a,.agg #[.z b,.z c]] r3 K
def Tp:=λa b c(K:Sl->Pw)=>oG 176 [.pointer a,.agg #[.z b,.z c]] r2 K
def QD:=λa b(K:Pw)=>oG 177 [.pointer a,.z b] r3 K
def Pt:=λa b(K:O->Pw)=>oG 178 [.pointer a,.z b] r0 K
def Rs:=λa b(K:O->Pw)=>oG 179 [.pointer a,.z b] r0 K
def Tq:=λa b c(K:O->Pw)=>oG 180 [.pointer a,.z b,.z c] r0 K
def Ts:=λa b c(K:O->W->O->Pw)=>oG 181 [.pointer a,.z b,.bool c] [(0,.c (.i .u64)),(1,.c (.b)),(2,.c (.i .i64))] K
def Rt:=λa b c d e f g h i(K:Pw)=>oG 182 [.pointer a,.z b,.z c,.agg #[.z d,.z e,.z f,.z g,.z h,.z i]] r3 K
def Tt:=λa b c d e f g h i j(K:W->O->O->O->O->O->O->O->O->W->O->Pw)=>oG 183 [.pointer a,.z b,.agg #[.z c,.y d,.y e,.y f,.y g,.y h,.bool i],.bool j] HT K
def Tu:=λa b c(K:W->O->O->O->O->O->O->O->O->W->O->Pw)=>oG 184 [.pointer a,.z b,.bool c] HT K
def Tv:=λa b c d e f g h i(K:Pw)=>oG 185 [.pointer a,.z b,.agg #[.z c,.y d,.y e,.y f,.y g,.y h,.bool i]] r3 K
def Tw:=λa b c(K:O->Pw)=>oG 186 [.pointer a,.z b,.z c] r0 K
def Tx:=λa b c d(K:O->Pw)=>oG 187 [.pointer a,.z b,.agg #[.z c,.z d]] r0 K
def Qj:=λa b(K:O->O->O->Pw)=>oG 188 [.pointer a,.z b] IX K
def QE:=λa b c d e(K:Pw)=>oG 189 [.pointer a,.z b,.z c,.agg #[.z d,.z e]] r3 K
def Ty:=λa b c d(K:O->Pw)=>oG 190 [.pointer a,.z b,.z c,.y d] r0 K
def Tz:=λa b(K:O->O->W->O->Pw)=>oG 191 [.pointer a,.z b] HS K
def QF:=λa b(K:qh qg->Pw)=>oG 192 [.pointer a,.z b] r4 K
def TA:=λa b(K:O->O->W->Pw)=>oG 193 [.pointer a,.y b] [(0,.c (.i .i64)),(1,.c (.i .u64)),(2,.c (.b))] K
def QG:=λa b c d(K:O->Pw)=>oG 194 [.pointer a,.z b,.z c,.y d] r0 K
def QH:=λa b(K:W->Pw)=>oG 195 [.pointer a,.z b] r1 K
def TB:=λa b(K:O->O->W->Pw)=>oG 196 [.pointer a,.y b] [(0,.c (.i .i64)),(1,.c (.i .u64)),(2,.c (.b))] K
def Ql:=λa b c d(K:O->Pw)=>oG 197 [.pointer a,.z b,.z c,.y d] r0 K
def Pv:=λ(a:Sl)(K:Sl->Pw)=>oG 198 [a.v] r2 K
def TC(m1:qh X)(K:qh X->Pw)(w:J):Prop:=okF qe 199 (Calls qe 199 #[.map m1] w λen w'=>∃r2,en= .returned (.map r2)/\K r2 w')
def TD:=λ(a:Sl)(K:Sl->Pw)=>oG 200 [a.v] r2 K
def TE:=λ(a:Sl)(K:Sl->Pw)=>oG 201 [a.v] r2 K
def Ru:=λa(K:qh qg->Pw)=>oG 202 [.pointer a] r4 K
def TF:=λ(a:Sl)(K:Sl->Pw)=>oG 203 [a.v] r2 K
def TG:=λ(a:Sl)(K:Sl->Pw)=>oG 204 [a.v] r2 K
def QI(m1:qh X)(K:qh X->Pw)(w:J):Prop:=okF qe 205 (Calls qe 205 #[.map m1] w λen w'=>∃r2,en= .returned (.map r2)/\K r2 w')
def QJ:=λ(a:Sl)(b:Q)(K:O->Pw)=>oG 227 [a.v,b] r0 K
def TH:=λa b(K:O->O->Pw)=>oG 228 [.y a,.y b] [(0,.c (.i .u64)),(1,.c (.i .u64))] K
def QK:=λa b c d e f(K:O->Pw)=>oG 229 [.agg #[.z a,.z b,.z c,.y d,.y e,.z f]] r0 K
def PO:=λa b c(K:W->Pw)=>oG 230 [.pointer a,.agg #[.z b,.z c]] r1 K
def Pb:=λa b c(K:O->Pw)=>oG 231 [.pointer a,.agg #[.z b,.z c]] r0 K
def TI:=λa b c(K:O->Pw)=>oG 232 [.pointer a,.z b,.z c] r0 K
def TJ:=λa b c d(K:O->Pw)=>oG 233 [.agg #[.y a,.y b,.y c,.y d]] r0 K
def TK:=λa b(K:O->Pw)=>oG 234 [.pointer a,.z b] r0 K
def PS:=λa b c(K:W->Pw)=>oG 235 [.pointer a,.agg #[.z b,.z c]] r1 K
def Rv:=λa b c d e f(K:O->Pw)=>oG 236 [.agg #[.z a,.z b,.z c,.y d,.y e,.z f]] r0 K
def Pe:=λa b c(K:O->Pw)=>oG 237 [.pointer a,.agg #[.z b,.z c]] r0 K
def QL:=λa b c d e(K:Pw)=>oG 238 [.pointer a,.z b,.agg #[.z c,.z d],.z e] r3 K
def TL:=λa b c(K:O->Pw)=>oG 239 [.pointer a,.z b,.z c] r0 K
def TM:=λa b(K:Sl->Pw)=>oG 240 [.pointer a,.z b] r2 K
def TN:=λa b(K:O->Pw)=>oG 241 [.pointer a,.z b] r0 K
def Rw:=λ(a b:Q)(K:Sl->Pw)=>oG 242 [a,b] r2 K
def TO:=λa(K:Q->Pw)=>oG 243 [.map a] [(0,.c (.v))] K
def U5(a1:O)(a2:O)(b3:O)(b4:O)(K:O->Pw)(w:J):Prop:=okF qe 244 (Calls qe 244 #[.agg #[.z a1,.z a2],.agg #[.z b3,.z b4]] w λen w'=>∃r5,en= .returned (.z r5)/\K r5 w')
def Qm:=λ(a:Sl)(K:Sl->Pw)=>oG 245 [a.v] r2 K
def Qn:=λa b(K:Sl->Pw)=>oG 246 [.agg #[.z a,.map b]] r2 K
def QM:=λa b(K:O->O->W->Pw)=>oG 247 [.pointer a,.z b] [(0,.a [.o,.o]),(1,.c (.b))] K
def Pk:=λa b c(K:O->O->O->O->O->O->O->Pw)=>oG 248 [.pointer a,.agg #[.z b,.z c]] r8 K
def Ry:=λa b c d e f(K:Sl->O->O->O->O->Pw)=>oG 249 [.agg #[.y a,.z b,.y c],.z d,.z e,.z f] [(0,.c (.s)),(1,.a [.u,.o,.u]),(2,.c (.i .i64))] K
def QN:=λa b(K:Sl->O->Pw)=>oG 250 [.pointer a,.z b] JC K
def Rz:=λa b c d e f g h i(K:Pw)=>oG 251 [.pointer a,.agg #[.z b,.z c],.agg #[.z d,.z e,.z f,.y g,.y h,.z i]] r3 K
def TP:=λa b(K:O->Pw)=>oG 252 [.pointer a,.y b] r0 K
def RA:=λa b c d e f g h(K:O->O->O->O->O->O->O->Pw)=>oG 253 [.agg #[.z a,.z b,.z c,.y d,.y e,.z f],.z g,.y h] r8 K
def TQ:=λa b c d e(K:O->Pw)=>oG 254 [.pointer a,.agg #[.z b,.z c],.agg #[.z d,.z e]] r0 K
def TR:=λa b c d e(K:O->Pw)=>oG 255 [.pointer a,.agg #[.z b,.z c],.agg #[.z d,.z e]] r0 K
def QO:=λa b c(K:Pw)=>oG 256 [.pointer a,.agg #[.z b,.z c]] r3 K
def TS:=λa b c(K:Sl->Pw)=>oG 257 [.pointer a,.agg #[.z b,.z c]] r2 K
def U6:=λ(a:Sl)(K:Q->Pw)=>oG 258 [a.v] [(0,.c (.v))] K
def TT:=λa b c(K:O->O->O->Pw)=>oG 259 [.agg #[.y a,.z b,.y c]] [(0,.a [.u,.o,.u])] K
def QP:=λa b(K:Pw)=>oG 260 [.pointer a,.z b] r3 K
def QQ:=λa b(K:O->Pw)=>oG 261 [.pointer a,.z b] r0 K
def QR:=λa b(K:O->Pw)=>oG 262 [.pointer a,.z b] r0 K
def TU:=λa b c(K:O->Pw)=>oG 263 [.pointer a,.z b,.z c] r0 K
def RB:=λa b c d e f g h i j(K:W->O->O->O->O->O->O->O->O->W->O->Pw)=>oG 264 [.pointer a,.z b,.agg #[.z c,.y d,.y e,.y f,.y g,.y h,.bool i],.bool j] HT K
def QS:=λa(K:Pw)=>oG 265 [.pointer a] r3 K
def RC:=λa b c d e f g h i(K:Pw)=>oG 266 [.pointer a,.z b,.agg #[.z c,.y d,.y e,.y f,.y g,.y h,.bool i]] r3 K
def RD:=λa b c(K:W->O->O->O->O->O->O->O->O->W->O->Pw)=>oG 267 [.pointer a,.z b,.bool c] HT K
def TV:=λa b c(K:O->W->O->Pw)=>oG 268 [.pointer a,.z b,.bool c] [(0,.c (.i .u64)),(1,.c (.b)),(2,.c (.i .i64))] K
def TW:=λa b c(K:O->Pw)=>oG 269 [.pointer a,.z b,.z c] r0 K
def RE:=λa b c d(K:O->Pw)=>oG 270 [.pointer a,.z b,.agg #[.z c,.z d]] r0 K
def QT:=λa b(K:O->O->O->Pw)=>oG 271 [.pointer a,.z b] IX K
def QU:=λa b c d e(K:Pw)=>oG 272 [.pointer a,.z b,.agg #[.z c,.z d,.z e]] r3 K
def TX:=λa b c d(K:O->Pw)=>oG 273 [.pointer a,.z b,.z c,.y d] r0 K
def TY:=λa b(K:O->O->W->O->Pw)=>oG 274 [.pointer a,.z b] HS K
def TZ:=λa b c(K:O->O->O->O->O->O->O->Pw)=>oG 275 [.pointer a,.agg #[.z b,.z c]] r8 K
def RF:=λa b c d e f(K:Sl->O->O->O->O->Pw)=>oG 276 [.agg #[.y a,.z b,.y c],.z d,.z e,.z f] [(0,.c (.s)),(1,.a [.u,.o,.u]),(2,.c (.i .i64))] K
def T0:=λa b c d e f g h i(K:O->Pw)=>oG 277 [.pointer a,.z b,.agg #[.z c,.z d,.z e,.z f,.z g,.z h],.y i] r0 K
def QV:=λa(K:W->Pw)=>oG 278 [.z a] r1 K
def RG:=λa(K:W->Pw)=>oG 279 [.z a] r1 K
def T1:=λa b c d e(K:O->Pw)=>oG 280 [.pointer a,.agg #[.z b,.z c],.agg #[.z d,.z e]] r0 K
def T2:=λa b c(K:O->Pw)=>oG 281 [.pointer a,.agg #[.z b,.z c]] r0 K
def RH:=λa b c(K:O->O->O->O->O->O->O->Pw)=>oG 282 [.pointer a,.agg #[.z b,.z c]] r8 K
def T3:=λa b c d e f g h i j k l(K:W->Pw)=>oG 283 [.agg #[.z a,.z b,.z c,.y d,.y e,.z f],.agg #[.z g,.z h,.z i,.y j,.y k,.z l]] r1 K
def T4:=λa b(K:Sl->Pw)=>oG 284 [.pointer a,.z b] r2 K
def QW:=λa b(K:O->W->Pw)=>oG 285 [.pointer a,.z b] r5 K
def T5:=λa b(K:Sl->O->Pw)=>oG 286 [.pointer a,.z b] JC K
def QX:=λa b(K:O->Pw)=>oG 287 [.pointer a,.z b] r0 K
def T6:=λa b(K:W->Pw)=>oG 288 [.pointer a,.z b] r1 K
def T8:=λa b(K:W->Pw)=>oG 289 [.pointer a,.z b] r1 K
def T9:=λa b(K:O->Pw)=>oG 290 [.pointer a,.z b] r0 K
def QY:=λa b(K:W->Pw)=>oG 291 [.pointer a,.z b] r1 K
def RI:=λa b(K:O->Pw)=>oG 292 [.pointer a,.z b] r0 K
def Ua:=λ(a:Sl)b c(K:Sl->Pw)=>oG 293 [a.v,.z b,.z c] r2 K
def Qo:=λ(a:Sl)(K:O->Pw)=>oG 294 [a.v] r0 K
def PW:=λa b(K:O->Pw)=>oG 295 [.bool a,.z b] r0 K
def U7:=λa b(K:O->O->Pw)=>oG 313 [.y a,.y b] [(0,.c (.i .u64)),(1,.c (.i .u64))] K
def RJ:=λa(K:W->Pw)=>oG 314 [.z a] r1 K
def Ub:=λa b(K:W->Pw)=>oG 315 [.y a,.z b] r1 K
def RK:=λa(K:W->Pw)=>oG 316 [.z a] r1 K
def RL:=λa(K:W->Pw)=>oG 317 [.z a] r1 K
def RM:=λa b(K:O->W->Pw)=>oG 318 [.pointer a,.z b] r5 K
def Uc:=λ(a:Sl)(b:Q)(K:O->Pw)=>oG 319 [a.v,b] r0 K
def U8:=λa b c(d:qg)(K:W->Pw)=>oG 320 [.agg #[.z a,.z b,.z c],.pointer (S d)] r1 K
def RN:=λa b(K:Pw)=>oG 321 [.pointer a,.z b] r3 K
def Ud:=λa(K:O->Pw)=>oG 322 [.y a] r0 K
def RO:=λ(a:Sl)(b:Q)(K:Sl->Pw)=>oG 323 [a.v,b] r2 K
def U9:=λa(b:qg)(K:W->Pw)=>oG 324 [.z a,.pointer (S b)] r1 K
def RP:=λa b(K:W->Pw)=>oG 325 [.y a,.z b] r1 K
def Ue:=λa b(K:O->W->Pw)=>oG 326 [.pointer a,.z b] r5 K
def Va:=λa(K:Sl->Pw)=>oG 327 [a] r2 K
def Uf(x1:Sl)(cmp2:Q)(K:Pw)(w:J):Prop:=okF qe 328 (Calls qe 328 #[x1.v,cmp2] w λen w'=>en= .returned (.tuple #[])/\K w')
def Ug:=λ(a:Sl)(K:O->Pw)=>oG 330 [a.v] r0 K
def RQ:=λa b(K:O->Pw)=>oG 331 [.z a,.z b] r0 K
def QZ(seq1:Q)(K:Sl->Pw)(w:J):Prop:=okF qe 332 (Calls qe 332 #[seq1] w λen w'=>∃r2:Sl,en= .returned r2.v/\K r2 w')
def Q0(m1:qh X)(K:Q->Pw)(w:J):Prop:=okF qe 333 (Calls qe 333 #[.map m1] w λen w'=>∃r2:Q,en= .returned (r2)/\K r2 w')
def RR:=λa b c d e f g h i(K:O->O->O->Pw)=>oG 334 [.pointer a,.agg #[.z b,.z c,.z d,.y e,.y f,.z g],.y h,.z i] IX K
def Uh:=λa b c(K:O->Pw)=>oG 335 [.agg #[.y a,.z b,.y c]] r0 K
def Ui:=λa b(K:O->O->Pw)=>oG 336 [.z a,.z b] r6 K
def RS:=λa b(K:O->O->Pw)=>oG 337 [.y a,.z b] KF K
def Uj:=λa b(c:qg)(K:W->Pw)=>oG 338 [.agg #[.z a,.z b],.pointer (S c)] r1 K
def Uk:=λ(a:Sl)(b:Q)(K:W->Pw)=>oG 339 [a.v,b] r1 K
def Ul:=λa b c d e(K:O->Pw)=>oG 340 [.pointer a,.agg #[.z b,.z c],.agg #[.z d,.z e]] r0 K
def Um:=λ(K:qh qg->Pw)=>oG 341 [] r4 K
def Un:=λ(K:qh qg->Pw)=>oG 342 [] r4 K
def Uo:=λa b c(K:O->Pw)=>oG 343 [.pointer a,.agg #[.z b,.z c]] r0 K
def RT:=λa b c(K:O->O->O->O->O->O->O->Pw)=>oG 344 [.pointer a,.agg #[.z b,.z c]] r8 K
def Up:=λ(a:Sl)(b:Q)(K:W->Pw)=>oG 345 [a.v,b] r1 K
def Uq:=λa b c d e f g h(i:qg)(K:W->Pw)=>oG 346 [.agg #[.z a,.z b,.z c,.z d,.z e,.y f,.y g,.z h],.pointer (S i)] r1 K
def Ur:=λa b c d e f g h i j k l(K:W->Pw)=>oG 347 [.agg #[.z a,.z b,.z c,.y d,.y e,.z f],.agg #[.z g,.z h,.z i,.y j,.y k,.z l]] r1 K
def Us:=λa b c d e f g(K:Pw)=>oG 348 [.pointer a,.agg #[.z b,.z c,.z d,.y e,.y f,.z g]] r3 K
def RU:=λa b(K:O->Pw)=>oG 349 [.pointer a,.z b] r0 K
def Ut:=λa b(K:W->Pw)=>oG 351 [.pointer a,.z b] r1 K
def Uu:=λa b(K:W->Pw)=>oG 352 [.pointer a,.z b] r1 K
def RV:=λa b(K:W->Pw)=>oG 353 [.pointer a,.z b] r1 K
def RW:=λa b(K:O->O->O->O->O->O->O->W->W->Pw)=>oG 354 [.pointer a,.bool b] [(0,.a [.o,.o,.u,.u,.u,.u,.u,.b]),(1,.c (.b))] K
def RX:=λa b c d e f g h i j(K:Pw)=>oG 355 [.pointer a,.agg #[.z b,.z c,.y d,.y e,.y f,.y g,.y h,.bool i],.bool j] r3 K
def RY:=λa b(K:O->Pw)=>oG 356 [.pointer a,.z b] r0 K
def Uv:=λ(a:Sl)b(K:W->Pw)=>oG 357 [a.v,.z b] r1 K
def Q1:=λa(K:W->Pw)=>oG 358 [.z a] r1 K
def Vb:=λa b(c:qg)(K:W->Pw)=>oG 359 [.agg #[.z a,.map b],.pointer (S c)] r1 K
def Uw:=λ(a:Sl)(b:Q)(K:W->Pw)=>oG 360 [a.v,b] r1 K
def Q2:=λa(K:W->Pw)=>oG 361 [.z a] r1 K
def Ux:=λa(K:W->Pw)=>oG 362 [.z a] r1 K
def Q3:=λa b(K:qh qg->W->Pw)=>oG 363 [.pointer a,.z b] [(0,.c (.p)),(1,.c (.b))] K
def Uy:=λa b(K:O->O->W->Pw)=>oG 364 [.pointer a,.z b] [(0,.a [.o,.o]),(1,.c (.b))] K
def Uz:=λa b c(K:O->Pw)=>oG 365 [.agg #[.y a,.z b,.y c]] r0 K
def UA:=λa b(K:O->O->Pw)=>oG 366 [.z a,.z b] r6 K
def Vd:=λ(a:Sl)(b:Q)(K:O->Pw)=>oG 367 [a.v,b] r0 K
def Ve:=λa(K:W->Pw)=>oG 368 [.z a] r1 K
def UB:=λa(K:O->O->Pw)=>oG 382 [.z a] KF K
def UC:=λa b c d e f(K:O->O->O->O->O->Pw)=>oG 383 [.agg #[.y a,.y b,.y c,.y d],.z e,.bool f] [(0,.a [.u,.u,.u,.u]),(1,.c (.i .i64))] K
def Vf(s1:Sl)(seq2:Q)(K:Sl->Pw)(w:J):Prop:=okF qe 384 (Calls qe 384 #[s1.v,seq2] w λen w'=>∃r3:Sl,en= .returned r3.v/\K r3 w')
def RZ:=λa(K:W->Pw)=>oG 387 [.z a] r1 K
def UD:=λa b c d e f g h(K:O->O->O->Pw)=>oG 391 [.pointer a,.agg #[.z b,.z c,.z d,.y e,.y f,.z g],h] IX K
def Vg:=λa b(K:O->W->Pw)=>oG 392 [.pointer a,.z b] r9 K
def R0:=λa b c d(K:O->O->Pw)=>oG 393 [.z a,.z b,.z c,.z d] r6 K
def R1:=λ(K:O->O->O->O->O->O->O->O->O->O->Pw)=>oG 394 [] [(0,.a [.o,.o,.o,.o,.o,.o,.o,.o,.o,.o])] K
def Qp:=λa(K:O->Pw)=>oG 395 [.z a] [(0,.c (.i .u64))] K
def UE:=λ(a:Sl)(b:Q)(K:O->Pw)=>oG 397 [a.v,b] r0 K
def R2:=λ(a:Sl)b(c:Sl)(K:Sl->Pw)=>oG 398 [a.v,.z b,c.v] r2 K
def R3:=λ(a:Sl)b c(K:Sl->Pw)=>oG 399 [a.v,.z b,.z c] r2 K
def UF:=λ(a:Sl)(b:Q)(K:O->Pw)=>oG 400 [a.v,b] r0 K
def UG:=λa b(K:Sl->Pw)=>oG 401 [.pointer a,.z b] r2 K
def UH:=λa b(K:O->W->Pw)=>oG 402 [.pointer a,.z b] r5 K
def UI:=λa b(K:Sl->O->Pw)=>oG 403 [.pointer a,.z b] JC K
def UJ:=λ(a:Sl)(b:Q)(K:Sl->Pw)=>oG 404 [a.v,b] r2 K
def Vh:=λa b c d e f g h(i:qg)(K:W->Pw)=>oG 405 [.agg #[.z a,.z b,.y c,.y d,.y e,.y f,.y g,.bool h],.pointer (S i)] r1 K
def Vi:=λa(b:qg)(K:W->Pw)=>oG 406 [.z a,.pointer (S b)] r1 K
def UK:=λ(a:Sl)(b:Q)(K:W->Pw)=>oG 407 [a.v,b] r1 K
def Vj:=λa b c d e f g h(i:qg)(K:W->Pw)=>oG 408 [.agg #[.z a,.z b,.y c,.y d,.y e,.y f,.y g,.bool h],.pointer (S i)] r1 K
def UL:=λ(a:Sl)b c(K:Sl->Pw)=>oG 409 [a.v,.z b,.z c] r2 K
def UM:=λ(a:Sl)b(K:O->Pw)=>oG 410 [a.v,.z b] r0 K
def Vk:=λ(a:Sl)(b:Q)(K:O->Pw)=>oG 411 [a.v,b] r0 K
def Q4:=λa b c(K:O->O->Pw)=>oG 412 [.y a,.z b,.z c] KF K
def UN:=λa(K:W->Pw)=>oG 420 [.z a] r1 K
def UO:=λa b c d e f g(K:O->W->Pw)=>oG 432 [.pointer a,.agg #[.z b,.z c,.z d,.y e,.y f,.z g]] r5 K
def Vt(s1:Sl)(r2:O)(K:Pw)(w:J):Prop:=okF qe 434 (Calls qe 434 #[s1.v,.z r2] w λen w'=>en= .returned (.tuple #[])/\K w')
def R4:=λ(a:Sl)(b:Q)(K:O->Pw)=>oG 435 [a.v,b] r0 K
def R5:=λa b(K:W->Pw)=>oG 436 [.z a,.z b] r1 K
theorem Vu{a K w}:Fr (SN a K w) (bif a.a.isNone then K z0 w else A2 w [] 98 λb c=>∃d e,aM qe [52,52] 52 (.slice (S b.p) 0 0) a.v c d e/\K d e):=aj func84 .AQ
theorem Vv{a b K w}:Fr (U0 a b K w) (QJ a b (λa b=>K (V (a>=0)) b) w):=aj func117 (.v .w)
theorem Vw{a b K w}:Fr (SR a b K w) (∀c:Pw,(∀d:J,(TH (qv.wrap (a.len:O)) (qv.wrap b) (λb c d=>∀e:W->Pw,(∀(b:W)(d:J),(∀e:Pw,(∀b:J,(∃(d:Sl)(e:J),km qe 22 (.z (qf.wrap c)) (.z (qf.wrap c)) b d e/\∃(b:O)(c:J),ki qe [22,22] 3 d.v a.v e b c/\∀a:O->Pw,(∀(b:O)(c:J),(bif V (b<(d.len:O))then Dr c λe=>0<=b/\b<=(d.len:O)/\0<=b/\b<=(d.cap:O)/\(∃(c:O)(f:J),ki qe [22,22] 3 (.slice (eU d.a b.toNat d.cap 1) (d.len-b.toNat) (d.cap-b.toNat)) (.slice (eU d.a 0 d.cap 1) (b.toNat-0) (d.cap-0)) e c f/\a (qf.wrap (b+c)) f)/\I else K d c)->a b c)->a b c)->e b)->(bif b then qk else e d))->e b d)->(bif V (b>0)then e Z d else e (V (c>9223372036854775807)) d)) d)->c d)->(bif V (b<0)then qk else c w)):=aj func118 (.v (.y .Ji (.v (.y (.y (.r (S [(26,.c .b)]) .done) (.t (S []) .u .u)) (.v (.v (.y (.x (.t (S [(8,.c (.i .i64))]) (.y (.v .w) (.x (.z (.o 0 254 (.o 1 116 (.o 2 112 (.o 3 112 (.o 4 32 (.o 5 0 (.o 6 0 (.e 7 (.o 8 0 (.o 9 0 .done))))))))))))) .u)) .w)))))))
theorem UP{a K w}:Fr (Pv a K w) (bif a.a.isNone then K z0 w else A2 w [] 3 λb c=>∃d e,aM qe [22,22] 22 (.slice (S b.p) 0 0) a.v c d e/\K d e):=aj func198 .AQ
theorem Vx{a K w}:Fr (TD a K w) (bif a.a.isNone then K z0 w else A2 w [] 325 λb c=>∃d e,aM qe [235,235] 235 (.slice (S b.p) 0 0) a.v c d e/\K d e):=aj func200 .AQ
theorem Vy{a K w}:Fr (TE a K w) (bif a.a.isNone then K z0 w else A2 w [] 139 λb c=>∃d e,aM qe [133,133] 133 (.slice (S b.p) 0 0) a.v c d e/\K d e):=aj func201 .AQ
theorem Vz{a K w}:Fr (TF a K w) (bif a.a.isNone then K z0 w else A2 w [] 316 λb c=>∃d e,aM qe [250,250] 250 (.slice (S b.p) 0 0) a.v c d e/\K d e):=aj func203 .AQ
theorem VA{a K w}:Fr (TG a K w) (bif a.a.isNone then K z0 w else A2 w [] 331 λb c=>∃d e,aM qe [328,328] 328 (.slice (S b.p) 0 0) a.v c d e/\K d e):=aj func204 .AQ
theorem Vl{a b K w}:Fr (QJ a b K w) (∀c:O->Pw,(∀(d:O)(e:J),(bif V (d<(a.len:O))then ∃f,a.a=S f/\0<=d/\d<(a.len:O)/\∃a,e.z (f.add (d.toNat*1)) a/\dU qe (b) [.z a] e λa b=>∃f,a= .returned (.bool f)/\bif f then K d b else c (qf.wrap (d+1)) b else K (-1) e)->c d e)->c 0 w):=aj func227 .GR
theorem VB{a b K w}:Fr (Rw a b K w) (Va a (λa c=>Uf a b (λb=>K a b) c) w):=aj func242 (.v (.v (.v .w)))
theorem VC{a K w}:Fr (U6 a K w) (A2 w [a.v] 124 λa b=>K (.func (.func 350) #[] #[.pointer (S a.p)]) b):=aj func258 (.v .w)
theorem VD{a b c K w}:Fr (Ua a b c K w) (0<=(a.len:O)/\(a.len:O)<=(a.cap:O)/\0<=c/\c<=(((a.len:O).toNat:X):O)/\0<=b/\b<=(c.toNat:O)/\bif b==c then K a w else Dr w λd=>0<=b/\b<=(a.cap:O)/\0<=c/\c<=(a.len:O)/\(∃e f,aM qe [22,22] 22 (.slice (eU a.a 0 a.cap 1) (b.toNat-0) (a.cap-0)) (.slice (eU a.a c.toNat a.cap 1) (a.len-c.toNat) (a.cap-c.toNat)) d e f/\0<=(a.len:O)/\(a.len:O)<=(e.cap:O)/\0<=(e.len:O)/\(e.len:O)<=(((a.len:O).toNat:X):O)/\∃b:J,kL qe [22] 0 (.slice (eU e.a ((e.len:O).toNat) e.cap 1) (((a.len:O).toNat)-((e.len:O).toNat)) (e.cap-((e.len:O).toNat))) f b/\K e b)/\I):=aj func293 .g16
theorem VE{a b K w}:Fr (Uc a b K w) (∀c:O->Pw,(∀(d:O)(e:J),(bif V (d<(a.len:O))then ∃f,a.a=S f/\0<=d/\d<(a.len:O)/\ax e (f.add (d.toNat*3)) 0 [.o,.o,.o] λ(a f g:O)=>dU qe (b) [.agg #[.z a,.z f,.z g]] e λa b=>∃f,a= .returned (.bool f)/\bif f then K d b else c (qf.wrap (d+1)) b else K (-1) e)->c d e)->c 0 w):=aj func319 .GR
theorem VF{a b K w}:Fr (RO a b K w) (QJ a b (λc d=>bif c==(-1)then K a d else ∀e:O->O->Pw,(∀(c d:O)(f:J),(bif V (d<(a.len:O))then ∃g,a.a=S g/\0<=d/\d<(a.len:O)/\∃h,f.z (g.add (d.toNat*1)) h/\dU qe (b) [.z h] f λb g=>∃i,b= .returned (.bool i)/\bif !i then ∃b,a.a=S b/\0<=c/\c<(a.len:O)/\St g (b.add (c.toNat*1)) (.z h) λb=>e (qf.wrap (c+1)) (qf.wrap (d+1)) b else e c (qf.wrap (d+1)) g else 0<=c/\c<=(a.len:O)/\∃b:J,kL qe [22] 0 (.slice (eU a.a c.toNat a.cap 1) (a.len-c.toNat) (a.cap-c.toNat)) f b/\0<=c/\c<=(a.cap:O)/\K ⟨eU a.a 0 a.cap 1,c.toNat-0,a.cap-0⟩ b)->e c d f)->e c (qf.wrap (c+1)) d) w):=aj func323 .g13
theorem VG{a K w}:Fr (Va a K w) (Vf z0 a (λa b=>K a b) w):=aj func327 (.v .w)
theorem VH{a b K w}:Fr (Uk a b K w) (UE a b (λa b=>K (V (a>=0)) b) w):=aj func339 (.v .w)
theorem VI{a b K w}:Fr (Up a b K w) (UF a b (λa b=>K (V (a>=0)) b) w):=aj func345 (.v .w)
theorem VJ{a b K w}:Fr (Uv a b K w) (UM a b (λa b=>K (V (a>=0)) b) w):=aj func357 (.v .w)
theorem VK{a b K w}:Fr (Uw a b K w) (Vk a b (λa b=>K (V (a>=0)) b) w):=aj func360 (.v .w)
theorem VL{a b K w}:Fr (Vd a b K w) (∀c:O->Pw,(∀(d:O)(e:J),(bif V (d<(a.len:O))then ∃f,a.a=S f/\0<=d/\d<(a.len:O)/\∃a,e.z (f.add (d.toNat*1)) a/\dU qe (b) [.z a] e λa b=>∃f,a= .returned (.bool f)/\bif f then K d b else c (qf.wrap (d+1)) b else K (-1) e)->c d e)->c 0 w):=aj func367 .GR
theorem VM{a b K w}:Fr (UE a b K w) (∀c:O->Pw,(∀(d:O)(e:J),(bif V (d<(a.len:O))then ∃f,a.a=S f/\0<=d/\d<(a.len:O)/\ax e (f.add (d.toNat*2)) 0 [.o,.o] λ(a f:O)=>dU qe (b) [.agg #[.z a,.z f]] e λa b=>∃f,a= .returned (.bool f)/\bif f then K d b else c (qf.wrap (d+1)) b else K (-1) e)->c d e)->c 0 w):=aj func397 .GR
theorem VN{a b c K w}:Fr (R2 a b c K w) (0<=b/\b<=(a.len:O)/\bif (c.len:O)==0 then K a w else bif b==(a.len:O)then ∃d e,aM qe [235,235] 235 a.v c.v w d e/\K d e else bif V ((qf.wrap ((a.len:O)+(c.len:O)))>(a.cap:O))then 0<=b/\b<=(a.cap:O)/\∃d e,aM qe [235,3] 235 (.slice (eU a.a 0 a.cap 3) (b.toNat-0) (a.cap-0)) (.z (qf.wrap ((qf.wrap ((a.len:O)+(c.len:O)))-b))) w d e/\0<=b/\b<=(d.len:O)/\∃(f:O)(g:J),ki qe [235,235] 3 (.slice (eU d.a b.toNat d.cap 3) (d.len-b.toNat) (d.cap-b.toNat)) c.v e f g/\Dr g λe=>0<=qf.wrap (b+(c.len:O))/\qf.wrap (b+(c.len:O))<=(d.len:O)/\0<=b/\b<=(a.len:O)/\(∃(f:O)(g:J),ki qe [235,235] 3 (.slice (eU d.a ((qf.wrap (b+(c.len:O))).toNat) d.cap 3) (d.len-((qf.wrap (b+(c.len:O))).toNat)) (d.cap-((qf.wrap (b+(c.len:O))).toNat))) (.slice (eU a.a b.toNat a.cap 3) (a.len-b.toNat) (a.cap-b.toNat)) e f g/\K d g)/\I else 0<=qf.wrap ((a.len:O)+(c.len:O))/\qf.wrap ((a.len:O)+(c.len:O))<=(a.cap:O)/\0<=qf.wrap (b+(c.len:O))/\qf.wrap (b+(c.len:O))<=((((qf.wrap ((a.len:O)+(c.len:O))).toNat)-0:X):O)/\∃d,∃e:J,yp qe 433 #[c.v,.slice (eU (eU a.a 0 a.cap 3) ((qf.wrap (b+(c.len:O))).toNat) (a.cap-0) 3) ((((qf.wrap ((a.len:O)+(c.len:O))).toNat)-0)-((qf.wrap (b+(c.len:O))).toNat)) ((a.cap-0)-((qf.wrap (b+(c.len:O))).toNat))] w (.bool d) e/\bif !d then Dr e λd=>0<=qf.wrap (b+(c.len:O))/\qf.wrap (b+(c.len:O))<=((((qf.wrap ((a.len:O)+(c.len:O))).toNat)-0:X):O)/\0<=b/\b<=((((qf.wrap ((a.len:O)+(c.len:O))).toNat)-0:X):O)/\(∃(e:O)(f:J),ki qe [235,235] 3 (.slice (eU (eU a.a 0 a.cap 3) ((qf.wrap (b+(c.len:O))).toNat) (a.cap-0) 3) ((((qf.wrap ((a.len:O)+(c.len:O))).toNat)-0)-((qf.wrap (b+(c.len:O))).toNat)) ((a.cap-0)-((qf.wrap (b+(c.len:O))).toNat))) (.slice (eU (eU a.a 0 a.cap 3) b.toNat (a.cap-0) 3) ((((qf.wrap ((a.len:O)+(c.len:O))).toNat)-0)-b.toNat) ((a.cap-0)-b.toNat)) d e f/\0<=b/\b<=((((qf.wrap ((a.len:O)+(c.len:O))).toNat)-0:X):O)/\∃(d:O)(e:J),ki qe [235,235] 3 (.slice (eU (eU a.a 0 a.cap 3) b.toNat (a.cap-0) 3) ((((qf.wrap ((a.len:O)+(c.len:O))).toNat)-0)-b.toNat) ((a.cap-0)-b.toNat)) c.v f d e/\K ⟨eU a.a 0 a.cap 3,((qf.wrap ((a.len:O)+(c.len:O))).toNat)-0,a.cap-0⟩ e)/\I else 0<=(a.len:O)/\(a.len:O)<=((((qf.wrap ((a.len:O)+(c.len:O))).toNat)-0:X):O)/\∃(d:O)(f:J),ki qe [235,235] 3 (.slice (eU (eU a.a 0 a.cap 3) ((a.len:O).toNat) (a.cap-0) 3) ((((qf.wrap ((a.len:O)+(c.len:O))).toNat)-0)-((a.len:O).toNat)) ((a.cap-0)-((a.len:O).toNat))) c.v e d f/\0<=b/\b<=((((qf.wrap ((a.len:O)+(c.len:O))).toNat)-0:X):O)/\Vt ⟨eU (eU a.a 0 a.cap 3) b.toNat (a.cap-0) 3,(((qf.wrap ((a.len:O)+(c.len:O))).toNat)-0)-b.toNat,(a.cap-0)-b.toNat⟩ (c.len:O) (λb=>K ⟨eU a.a 0 a.cap 3,((qf.wrap ((a.len:O)+(c.len:O))).toNat)-0,a.cap-0⟩ b) f):=aj func398 (.v (.v (.v (.y (.v (.x .w)) (.v (.y (.v (.x .w)) (.y (.v (.x (.v (.v (.y .g21 .w))))) (.v (.y (.v (.x (.y .g21 (.v .w)))) (.v (.v .w)))))))))))
theorem VO{a b c K w}:Fr (R3 a b c K w) (0<=(a.len:O)/\(a.len:O)<=(a.cap:O)/\0<=c/\c<=(((a.len:O).toNat:X):O)/\0<=b/\b<=(c.toNat:O)/\bif b==c then K a w else Dr w λd=>0<=b/\b<=(a.cap:O)/\0<=c/\c<=(a.len:O)/\(∃e f,aM qe [235,235] 235 (.slice (eU a.a 0 a.cap 3) (b.toNat-0) (a.cap-0)) (.slice (eU a.a c.toNat a.cap 3) (a.len-c.toNat) (a.cap-c.toNat)) d e f/\0<=(a.len:O)/\(a.len:O)<=(e.cap:O)/\0<=(e.len:O)/\(e.len:O)<=(((a.len:O).toNat:X):O)/\∃b:J,kL qe [235] 0 (.slice (eU e.a ((e.len:O).toNat) e.cap 3) (((a.len:O).toNat)-((e.len:O).toNat)) (e.cap-((e.len:O).toNat))) f b/\K e b)/\I):=aj func399 .g16
theorem VP{a b K w}:Fr (UF a b K w) (∀c:O->Pw,(∀(d:O)(e:J),(bif V (d<(a.len:O))then ∃f,a.a=S f/\0<=d/\d<(a.len:O)/\ax e (f.add (d.toNat*8)) 0 [.o,.o,.o,.o,.o,.u,.u,.o] λ(a f g h i j k l:O)=>dU qe (b) [.agg #[.z a,.z f,.z g,.z h,.z i,.y j,.y k,.z l]] e λa b=>∃f,a= .returned (.bool f)/\bif f then K d b else c (qf.wrap (d+1)) b else K (-1) e)->c d e)->c 0 w):=aj func400 .GR
theorem VQ{a b K w}:Fr (UJ a b K w) (R4 a b (λc d=>bif c==(-1)then K a d else ∀e:O->O->Pw,(∀(c d:O)(f:J),(bif V (d<(a.len:O))then ∃g,a.a=S g/\0<=d/\d<(a.len:O)/\ax f (g.add (d.toNat*8)) 0 [.o,.o,.u,.u,.u,.u,.u,.b] λ(g h i j k l m:O)(n:W)=>A2 f [.z 0,.z 0,.y 0,.y 0,.y 0,.y 0,.y 0,.bool G] 331 λo p=>aB p o.p 0 [.z g,.z h,.y i,.y j,.y k,.y l,.y m,.bool n] λg=>ax g o.p 0 [.o,.o,.u,.u,.u,.u,.u,.b] λ(h i j k l m n:O)(p:W)=>dU qe (b) [.agg #[.z h,.z i,.y j,.y k,.y l,.y m,.y n,.bool p]] g λb g=>∃h,b= .returned (.bool h)/\bif !h then ax g o.p 0 [.o,.o,.u,.u,.u,.u,.u,.b] λ(b h i j k l m:O)(n:W)=>∃o,a.a=S o/\0<=c/\c<(a.len:O)/\aB g (o.add (c.toNat*8)) 0 [.z b,.z h,.y i,.y j,.y k,.y l,.y m,.bool n] λb=>e (qf.wrap (c+1)) (qf.wrap (d+1)) b else e c (qf.wrap (d+1)) g else 0<=c/\c<=(a.len:O)/\∃b:J,kL qe [328] 0 (.slice (eU a.a c.toNat a.cap 8) (a.len-c.toNat) (a.cap-c.toNat)) f b/\0<=c/\c<=(a.cap:O)/\K ⟨eU a.a 0 a.cap 8,c.toNat-0,a.cap-0⟩ b)->e c d f)->e c (qf.wrap (c+1)) d) w):=aj func404 .g13
theorem VR{a b K w}:Fr (UK a b K w) (R4 a b (λa b=>K (V (a>=0)) b) w):=aj func407 (.v .w)
theorem VS{a b c K w}:Fr (UL a b c K w) (0<=(a.len:O)/\(a.len:O)<=(a.cap:O)/\0<=c/\c<=(((a.len:O).toNat:X):O)/\0<=b/\b<=(c.toNat:O)/\bif b==c then K a w else Dr w λd=>0<=b/\b<=(a.cap:O)/\0<=c/\c<=(a.len:O)/\(∃e f,aM qe [328,328] 328 (.slice (eU a.a 0 a.cap 8) (b.toNat-0) (a.cap-0)) (.slice (eU a.a c.toNat a.cap 8) (a.len-c.toNat) (a.cap-c.toNat)) d e f/\0<=(a.len:O)/\(a.len:O)<=(e.cap:O)/\0<=(e.len:O)/\(e.len:O)<=(((a.len:O).toNat:X):O)/\∃b:J,kL qe [328] 0 (.slice (eU e.a ((e.len:O).toNat) e.cap 8) (((a.len:O).toNat)-((e.len:O).toNat)) (e.cap-((e.len:O).toNat))) f b/\K e b)/\I):=aj func409 .g16
theorem VT{a b K w}:Fr (UM a b K w) (∀c:O->Pw,(∀(d:O)(e:J),(bif V (d<(a.len:O))then ∃f,a.a=S f/\0<=d/\d<(a.len:O)/\∃a,e.z (f.add (d.toNat*1)) a/\bif b==a then K d e else c (qf.wrap (d+1)) e else K (-1) e)->c d e)->c 0 w):=aj func410 .GR
theorem VU{a b K w}:Fr (Vk a b K w) (∀c:O->Pw,(∀(d:O)(e:J),(bif V (d<(a.len:O))then ∃f,a.a=S f/\0<=d/\d<(a.len:O)/\ax e (f.add (d.toNat*2)) 0 [.o,.m] λ(a:O)(f:qh X)=>dU qe (b) [.agg #[.z a,.map f]] e λa b=>∃f,a= .returned (.bool f)/\bif f then K d b else c (qf.wrap (d+1)) b else K (-1) e)->c d e)->c 0 w):=aj func411 .GR
theorem VV{a b K w}:Fr (R4 a b K w) (∀c:O->Pw,(∀(d:O)(e:J),(bif V (d<(a.len:O))then ∃f,a.a=S f/\0<=d/\d<(a.len:O)/\ax e (f.add (d.toNat*8)) 0 [.o,.o,.u,.u,.u,.u,.u,.b] λ(a f g h i j k:O)(l:W)=>dU qe (b) [.agg #[.z a,.z f,.y g,.y h,.y i,.y j,.y k,.bool l]] e λa b=>∃f,a= .returned (.bool f)/\bif f then K d b else c (qf.wrap (d+1)) b else K (-1) e)->c d e)->c 0 w):=aj func435 .GR
structure Eb where
 label:O
 w0:O
 w1:O
 w2:O
 w3:O
 ay:O
 calls:W
deriving DecidableEq
structure Wt where
 who:O
 m:Eb
deriving DecidableEq
def gj:dT Wt:=⟨8,λo=>[.z o.who,.z o.m.label,.y o.m.w0,.y o.m.w1,.y o.m.w2,.y o.m.w3,.y o.m.ay,.bool o.m.calls],λ_=>rfl,λx v h=>by simp only[LD,MB,qI]at h;rcases h with rfl|rfl|rfl|rfl|rfl|rfl|rfl|rfl<;>rfl,qb⟩
theorem Dh{w:J}{a:qg}{x:Wt}{f:O->O->O->O->O->O->O->W->Prop}(g:∀c v,(gj.enc x)[c]?=S v->w.cell? (a.add c)=S v)(hf:f x.who x.m.label x.m.w0 x.m.w1 x.m.w2 x.m.w3 x.m.ay x.m.calls):
  ax w a 0 [.o,.o,.u,.u,.u,.u,.u,.b] f:=⟨_,g 0 _ U,_,g 1 _ U,_,g 2 _ U,_,g 3 _ U,_,g 4 _ U,_,g 5 _ U,_,g 6 _ U,_,g 7 _ U,hf⟩
theorem AU:qe.info? 331=S aaW:=qa
theorem B0:aaW.bytes=64:=qa
def Ad:Eb:=⟨0,0,0,0,0,0,G⟩
def GB:Wt:=⟨0,Ad⟩
theorem Gv(w:J):(qK 331).run qe w= .ok (.agg ⟨gj.enc GB⟩) w:=zeroValue331 w
def fj{α:Type}(p:α->W)(xs:Y α):O:=match xs.findIdx? p with|some i=>(i:O)|none=> -1
theorem mC{α:Type}(p:α->W)(xs:Y α):V (fj p xs>=0)=xs.any p:=by
 unfold fj;cases h:xs.findIdx? p with
 |none=>
  rw[Mu]at h;have:xs.any p=false:=by rw[Ny];intro x hx;simp[h x hx]
  rw[this];rfl
 |some i=>
  obtain⟨hi,hp,_⟩:=L9.1 h;have:xs.any p=true:=Na.2 ⟨_,Mq hi,hp⟩;rw[this];simp
section
variable{B:X}{w0 w:J}{R L:Y aH}{s:Sl}{xs:Y Wt}
theorem oZ{p:Wt->W}{f:Q}{K:O->Pw}[abw:cu s L Wt gj xs](h:Ow B w0 w L)(hbig:xs.length<=1000000000)
  (hf:∀(y:Wt)(w:J)(aby:W->Pw),Ow B w0 w L->(∀w',Ow B w0 w' L->aby (p y) w')->dU qe f [.agg ⟨gj.enc y⟩] w λen w'=>∃r:W,en= .returned (.bool r)/\aby r w')
  (hK:∀w',Ow B w0 w' L->K (fj p xs) w'):R4 s f K w:=by
 apply VV;have hlen:=h.aL s;intro l hl;have loop:∀(rest:Y Wt)(j:X)(w:J),xs.drop j=rest->j<=xs.length->(∀i,i<j->∀y,xs[i]?=S y->p y=G)->Ow B w0 w L->l (j:O) w:=by
  intro rest;induction rest with
  |nil=>
   intro j w hj hjl hno h;have:xs.length<=j:=by have:=qz Nc hj;simp at this;omega
   apply hl;refine aw om ?_;have hn:xs.findIdx? p=none:=by rw[Mu];intro y hy;obtain⟨i,hi⟩:=Mp.1 hy;exact hno i (by have:=(Lu.1 hi).1;omega) y hi
   have e:fj p xs= -1:=by unfold fj;rw[hn]
   rw[<-e];exact hK _ h
  |cons y rest ih=>
   intro j w hj hjl hno h;have hjl2:j<xs.length:=by have:=qz Nc hj;simp at this;omega
   have hx:xs[j]?=S y:=by have:=qz (λl=>l[0]?) hj;simpa using this
   apply hl;refine az om ?_;refine h.cz U hx λa ha h0 hc=>?_;refine Dh hc ?_;refine hf y w _ h λw h=>?_;cases hp:p y with
   |true=>
    refine bh U ?_;have hn:xs.findIdx? p=S j:=by
     rw[L9];refine⟨hjl2,?_,λi hi=>?_⟩
     .rw[gE hjl2]at hx;cases hx;exact hp
     .have:=hno i hi xs[i] (gE om)
      simp[this]
    have e:fj p xs=(j:O):=by unfold fj;rw[hn]
    rw[<-e];exact hK _ h
   |false=>
    refine bc U ?_;rw[wr om om];refine ih (j+1) w (by rw[<-ML,hj];rfl) om (λi hi z hz=>?_) h;by_cases e:i=j
    .subst e;rw[hx]at hz;cases hz;exact hp
    .exact hno i om z hz
 exact loop xs 0 w U om (λi hi=>by omega) h
theorem sX{p:Wt->W}{f:Q}{K:W->Pw}[abw:cu s L Wt gj xs](h:Ow B w0 w L)(hbig:xs.length<=1000000000)
  (hf:∀(y:Wt)(w:J)(aby:W->Pw),Ow B w0 w L->(∀w',Ow B w0 w' L->aby (p y) w')->dU qe f [.agg ⟨gj.enc y⟩] w λen w'=>∃r:W,en= .returned (.bool r)/\aby r w')
  (hK:∀w',Ow B w0 w' L->K (xs.any p) w'):UK s f K w:=by
 apply VR;refine oZ h hbig hf λw h=>?_;rw[mC];exact hK w h
theorem GG{y:Wt}{c:X}{k:Sl->Pw}[abw:cu s L Wt gj xs][abq:fh (af gj s xs) L R](h:Ow B w0 w (aa c (gj.enc y)::L))(hbig:xs.length<=1000000000)
  (hk:∀s' w',s'.len=xs.length+1->Ow B w0 w' (af gj s' (xs++ [y])::R)->k s' w'):
  ∃s' w',aM qe [328,328] 328 s.v (.slice (S c.p) 1 1) w s' w'/\k s' w':=
 Ow.eL (E:=gj) (y:=y) qZ AU (zv:= .agg ⟨gj.enc GB⟩) qa qa U qb h (by rw[B0];omega) hk
theorem po{α:Type}{xs:Y α}{i j:X}{z:α}(hij:i<j)(hj:j<=xs.length):
  O5 (i+(xs.length-j)) (O5 (i+(xs.length-j)) (xs.take i++xs.drop j++xs.drop (i+(xs.length-j)))++Ly ((xs.take i++xs.drop j++xs.drop (i+(xs.length-j))).length-(i+(xs.length-j))) z)=xs.take i++xs.drop j:=by
 have hl2:(xs.take i++xs.drop j).length=i+(xs.length-j):=by simp;omega
 rw[MW (by simp;omega),NU,Ph,<-hl2,List.take_left]
theorem CH{i j:X}{K:Sl->Pw}(h:Ow B w0 w (af gj s xs::R))(hij:i<j)(hj:j<=xs.length)(hbig:xs.length<=1000000000)
  (hK:∀s' w',Ow B w0 w' (af gj s' (xs.take i++xs.drop j)::R)->K s' w'):UL s (i:O) (j:O) K w:=by
 apply VS;have hlen:=h.aL s;have hcap:=h.lK.gu;refine⟨om,om,om,om,om,om,nQ om (h.dr λw h=>?_)⟩;refine⟨om,om,om,om,a2 ?_⟩;simp only[Lw];refine h.AE (E:=gj) qZ AU qa om hj om λw h=>?_;dsimp only;refine⟨om,om,om,om,Ow.clear (E:=gj) (z0:=GB) (n:=i+(xs.length-j)) qZ Gv U h 0 U (by simp;omega) λw h=>?_⟩;have hp:=h.pre 0 U (n:=i+(xs.length-j)) (by simp;omega);refine hK _ w ?_;rw[po hij hj]at hp;exact hp
theorem mw(xs:Y Wt)(q:Wt->W)(j:X)(x:Wt)(hx:xs[j]?=S x):(xs.take (j+1)).filter q=(xs.take j).filter q++if q x then [x]else []:=by rw[LJ,hx,Mi];congr 1;simp only[Nj,Mc,M8]
theorem vr{fv:Q}{p:Wt->W}{K:Sl->Pw}(h:Ow B w0 w (af gj s xs::L))(hbig:xs.length<=1000000000)
  (hf:∀(abz:Y aH)(y:Wt)(w:J)(aby:W->Pw),Ow B w0 w (abz++L)->(∀w',Ow B w0 w' (abz++L)->aby (p y) w')->dU qe fv [.agg ⟨gj.enc y⟩] w λen w'=>∃r:W,en= .returned (.bool r)/\aby r w')
  (hK:∀s' w',Ow B w0 w' (af gj s' (xs.filter λx=> !p x)::L)->K s' w'):UJ s fv K w:=by
 apply VQ;have hlen:=h.aL s;have hspot:=(h.sR 0 U).spot;refine oZ h hbig (λy w aby h hQ=>hf [af gj s xs] y w aby h hQ) λw1 h=>?_;unfold fj;cases hfi:xs.findIdx? p with
 |none=>
  refine bh U ?_;have:xs.filter (λx=> !p x)=xs:=by rw[Mv];intro x hx;rw[Mu]at hfi;simp[hfi x hx]
  have h2:=hK s w1;rw[this]at h2;exact h2 h
 |some i0=>
  obtain⟨hi0,hp0,hbefore⟩:=L9.1 hfi;refine bc qc ?_;intro l hl;have hcap:=(h.sR 0 U).gu;have key:∀(m j q:X)(ys:Y Wt)(w:J),j+m=xs.length->ys.length=xs.length->ys.take q=(xs.take j).filter (λx=> !p x)->q<j->q<=ys.length->ys.drop j=xs.drop j->
    Ow B w0 w (af gj s ys::L)->l (q:O) (j:O) w:=by
   intro m;induction m with
   |zero=>
    intro j q ys w hj hys hq hqj hqy hd h;apply hl;refine aw om ?_;refine⟨om,om,?_⟩;rw[Lw];refine Ow.clear (E:=gj) (z0:=GB) (n:=q) qZ Gv U h 0 U om λw2 h=>?_;refine⟨om,om,?_⟩;have h3:=h.pre 0 U (n:=q) (by simp;omega);have e1:(ys.take q++Ly (ys.length-q) GB).take q=xs.filter (λx=> !p x):=by rw[MW (by simp;omega),NU,Ph,hq,Lz om]
    rw[e1]at h3;rw[Ge _ _ _ hspot];exact hK _ _ h3
   |succ m ih=>
    intro j q ys w hj hys hq hqj hqy hd h;have hjlt:j<xs.length:=om
    have hyj:ys[j]?=S xs[j]:=by have:=qz (λl=>l[0]?) hd;simp only[LR,NB]at this;rw[this,gE hjlt]
    apply hl;refine az om ?_;refine h.cz (s:=s) U hyj λa ha h0 hc=>?_;refine Dh hc ?_;have hft:=mw xs (λx=> !p x) j _ (gE hjlt);have hd1:∀zs:Y Wt,zs.drop j=xs.drop j->zs.drop (j+1)=xs.drop (j+1):=λzs hz=>by rw[<-ML (i:=1) (j:=j),<-ML (i:=1) (j:=j),hz]
    generalize xs[j]=x at hyj hft hc;refine h.a λd w' h=>?_;refine h.aA U U λw h=>?_;refine h.GV U ?_;refine hf [aa d (gj.enc x),af gj s ys] x w _ h λw h=>?_;have h:Ow B w0 w (aa d (gj.enc x)::af gj s ys::L):=h;rw[wI j om];cases hp:p x with
    |true=>
     refine bc U ?_;refine ih (j+1) q ys w om hys ?_ om hqy (hd1 ys hd) h.drop;rw[hq,hft,hp];simp
    |false=>
     refine bh U ?_;refine h.GV U ?_;refine⟨a,ha,om,om,h.cq.sU (s:=s) x U om ha λw h=>?_⟩;rw[wI q om];refine ih (j+1) (q+1) (ys.set q x) w om (by simpa using hys) ?_ om (by simp;omega) ?_ h.uN
     .rw[hft,hp,LJ,Nb om,PM (Lv _),hq];simp
     .rw[PK om];exact hd1 ys hd
  have h0:xs.take i0=(xs.take (i0+1)).filter (λx=> !p x):=by
   rw[mw xs _ i0 _ (gE hi0),hp0];simp only[MM,qy,LQ,LK]
   symm
   rw[Mv];intro x hx;obtain⟨q,hq⟩:=Mp.1 hx;rw[LS]at hq;split at hq
   .rename_i hlt
    have:=hbefore q hlt;rw[gE om]at hq;cases hq;simpa using this
   .cases hq
  rw[show qf.wrap (((i0:X):O)+1)=((i0+1:X):O)from by rw[wr om om];omega];exact key (xs.length-(i0+1)) (i0+1) i0 xs w1 om U h0 om om U h
theorem nv:qe.info? 3=S qF:=qa
theorem ml:qF.bytes=8:=qa
end
section
variable{B:X}{w0 w:J}{R L:Y aH}{s:Sl}{xs:Y O}
theorem CJ{v:O}{K:O->Pw}[abw:cu s L O aq xs](h:Ow B w0 w L)(hbig:xs.length<=1000000000)(hK:∀w',Ow B w0 w' L->K (fj (λx=>v==x) xs) w'):UM s v K w:=by
 apply VT;have hlen:=h.aL s;intro l hl;have loop:∀(m j:X)(w:J),j+m=xs.length->(∀i,i<j->∀y,xs[i]?=S y->(v==y)=G)->Ow B w0 w L->l (j:O) w:=by
  intro m;induction m with
  |zero=>
   intro j w hj hno h;apply hl;refine aw om ?_;have hn:xs.findIdx? (λx=>v==x)=none:=by rw[Mu];intro y hy;obtain⟨i,hi⟩:=Mp.1 hy;exact hno i (by have:=(Lu.1 hi).1;omega) y hi
   have e:fj (λx=>v==x) xs= -1:=by unfold fj;rw[hn]
   rw[<-e];exact hK _ h
  |succ m ih=>
   intro j w hj hno h;have hx:xs[j]?=S xs[j]:=gE om;apply hl;refine az om ?_;refine h.cz (s:=s) U hx λa ha h0 hc=>⟨_,h0 _ U,?_⟩
   cases hp:(v==xs[j])with
   |true=>
    refine bh U ?_;have hn:xs.findIdx? (λx=>v==x)=S j:=by rw[L9];refine⟨om,hp,λi hi=>?_⟩;have:=hno i hi xs[i] (gE om);simp[this]
    have e:fj (λx=>v==x) xs=(j:O):=by unfold fj;rw[hn]
    rw[<-e];exact hK _ h
   |false=>
    refine bc U ?_;rw[wr om om];refine ih (j+1) w om (λi hi z hz=>?_) h;by_cases e:i=j
    .subst e;rw[hx]at hz;cases hz;exact hp
    .exact hno i om z hz
 exact loop xs.length 0 w om (λi hi=>by omega) h
theorem wR{v:O}{K:W->Pw}[abw:cu s L O aq xs](h:Ow B w0 w L)(hbig:xs.length<=1000000000)(hK:∀w',Ow B w0 w' L->K (xs.any λx=>v==x) w'):Uv s v K w:=by
 apply VJ;refine CJ h hbig λw h=>?_;rw[mC];exact hK w h
theorem eo{y:O}{c:X}{k:Sl->Pw}[abw:cu s L O aq xs][abq:fh (af aq s xs) L R](h:Ow B w0 w (aa c [.z y]::L))(hbig:xs.length<=1000000000)
  (hk:∀s' w',s'.len=xs.length+1->Ow B w0 w' (af aq s' (xs++ [y])::R)->k s' w'):
  ∃s' w',aM qe [22,22] 22 s.v (.slice (S c.p) 1 1) w s' w'/\k s' w':=
 Ow.eL (E:=aq) (y:=y) qG nv (zv:= .z 0) qa qa U qb h (by rw[ml];omega) hk
theorem Am{i j:X}{K:Sl->Pw}(h:Ow B w0 w (af aq s xs::R))(hij:i<j)(hj:j<=xs.length)(hbig:xs.length<=1000000000)
  (hK:∀s' w',Ow B w0 w' (af aq s' (xs.take i++xs.drop j)::R)->K s' w'):Ua s (i:O) (j:O) K w:=by
 apply VD;have hlen:=h.aL s;have hcap:=h.lK.gu;refine⟨om,om,om,om,om,om,nQ om (h.dr λw h=>?_)⟩;refine⟨om,om,om,om,a2 ?_⟩;simp only[Lw];refine h.AE (E:=aq) qG nv qa om hj om λw h=>?_;dsimp only;refine⟨om,om,om,om,h.clear (P:=qe) (T:=22) (t:=0) (n:=i+(xs.length-j)) (zv:= .z 0) (z0:=0) qG (λw=>qR w) U 0 U (by simp;omega) λw h=>?_⟩;have hp:=h.pre 0 U (n:=i+(xs.length-j)) (by simp;omega);refine hK _ w ?_;rw[po hij hj]at hp;exact hp
theorem VW{a K w}:Fr (TO a K w) (A2 w [.map a] 232 λa b=>K (.func (.func 329) #[] #[.pointer (S a.p)]) b):=aj func243 (.v .w)
theorem VX{a b K w}:Fr (TH a b K w) (U7 a b (λa b c=>K a b c) w):=aj func228 (.v (.y (.x (.v .w)) (.v .w)))
theorem VY{a b K w}:Fr (U7 a b K w) ((0:O)<=32/\(0:O)<=32/\(0:O)<=32/\(0:O)<=32/\(0:O)<=32/\K (qv.wrap ((qv.wrap ((qv.wrap ((kd .u64 a 32)*(kd .u64 b 32)))+(kd .u64 (qv.wrap ((qv.wrap ((kd .u64 a 32)*(di .u64 b 4294967295)))+(kd .u64 (qv.wrap ((di .u64 a 4294967295)*(di .u64 b 4294967295))) 32))) 32)))+(kd .u64 (qv.wrap ((di .u64 (qv.wrap ((qv.wrap ((kd .u64 a 32)*(di .u64 b 4294967295)))+(kd .u64 (qv.wrap ((di .u64 a 4294967295)*(di .u64 b 4294967295))) 32))) 4294967295)+(qv.wrap ((di .u64 a 4294967295)*(kd .u64 b 32))))) 32))) (qv.wrap (a*b)) w):=aj func313 .K7
theorem VZ{a K w}:Fr (Ud a K w) (∀b:O->O->Pw,(∀(a c:O)(d:J),(∀b:O->O->Pw,(∀(a c:O)(d:J),(∀b:O->O->Pw,(∀(a c:O)(d:J),(∃b,Ep ⟨#[0,1,2,2,3,3,3,3,4,4,4,4,4,4,4,4,5,5,5,5,5,5,5,5,5,5,5,5,5,5,5,5,6,6,6,6,6,6,6,6,6,6,6,6,6,6,6,6,6,6,6,6,6,6,6,6,6,6,6,6,6,6,6,6,7,7,7,7,7,7,7,7,7,7,7,7,7,7,7,7,7,7,7,7,7,7,7,7,7,7,7,7,7,7,7,7,7,7,7,7,7,7,7,7,7,7,7,7,7,7,7,7,7,7,7,7,7,7,7,7,7,7,7,7,7,7,7,7,8,8,8,8,8,8,8,8,8,8,8,8,8,8,8,8,8,8,8,8,8,8,8,8,8,8,8,8,8,8,8,8,8,8,8,8,8,8,8,8,8,8,8,8,8,8,8,8,8,8,8,8,8,8,8,8,8,8,8,8,8,8,8,8,8,8,8,8,8,8,8,8,8,8,8,8,8,8,8,8,8,8,8,8,8,8,8,8,8,8,8,8,8,8,8,8,8,8,8,8,8,8,8,8,8,8,8,8,8,8,8,8,8,8,8,8,8,8,8,8,8,8,8,8,8,8,8,8]⟩ (IntKind.u8.wrap a) b/\K (qf.wrap (c+(qf.wrap b))) d)->b a c d)->(bif V (a>=256)then(0:O)<=8/\b (kd .u64 a 8) (qf.wrap (c+8)) d else b a c d))->b a c d)->(bif V (a>=65536)then(0:O)<=16/\b (kd .u64 a 16) (qf.wrap (c+16)) d else b a c d))->b a c d)->(bif V (a>=4294967296)then(0:O)<=32/\b (kd .u64 a 32) 32 w else b a 0 w)):=aj func322 (.v (.y .J8 (.y .J8 (.y .J8 .w))))
theorem V0{a K w}:Fr (SP a K w) (Dr w λb=>∃c,a=S c/\∃d,a=S d/\∃e,a=S e/\∃a,b.s (e.add 2) a/\∃e,b.y c e/\∃f,b.b (d.add 1) f/\(Pv a (λa b=>b.b (d.add 1) f/\b.y c e/\(A2 b [.y e,.bool f,a.v] 335 λa b=>K (S a.p) b)/\I) b)/\I):=aj func88 (.v (.x (.z (.o 0 8176 (.o 1 8176 (.o 2 8176 (.o 4 7944 (.o 5 7944 (.o 6 7944 (.o 8 136 (.o 9 136 (.o 10 136 (.o 11 136 (.hold 3 4224 49151 (.hold 7 4096 49151 (.e 12 (.o 13 0 (.e 14 (.o 15 0 .done)))))))))))))))))))
theorem V1{a K w}:Fr (S0 a K w) (Dr w λb=>∃c,a=S c/\∃d,b.y c d/\∃c,a=S c/\∃a,b.b (c.add 1) a/\K d a b):=aj func145 (.v (.x (.z (.o 0 240 (.o 1 240 (.o 2 240 (.o 3 240 (.o 4 256 (.o 5 256 (.o 6 256 (.o 7 256 (.o 8 0 (.o 9 0 .done)))))))))))))
theorem V3{a b K w}:Fr (TA a b K w) (∃c,a=S c/\∃d,w.s (c.add 2) d/\bif V ((d.len:O)>0)then ∃c,a=S c/\∃d,w.s (c.add 2) d/\∃c,d.a=S c/\(0:O)<=0/\0<(d.len:O)/\∃d,w.z (c.add ((0:O).toNat*1)) d/\∃c,a=S c/\∃e,w.s (c.add 2) e/\Ua e 0 1 (λc e=>∃f,a=S f/\St e (f.add 2) c.v λa=>K d b Z a) w else ∃c,a=S c/\∃d,w.y c d/\∃c,a=S c/\St w c (.y (FD .u64 d b)) λb=>∃c,a=S c/\St b (c.add 1) (.bool Z) λa=>K 0 0 G a):=aj func193 (.v (.y (.v (.x (.v (.v .w)))) (.v .w)))
theorem V4{a b c K w}:Fr (TV a b c K w) (∃d,a=S d/\∃e,w.s (d.add 2) e/\Uv e b (λd e=>bif d then K 0 G 120 e else ∃d,a=S d/\∃f,e.b (d.add 1) f/\bif f then ∃d,a=S d/\∃f,e.y d f/\∃d,a=S d/\St e d (.y 0) λd=>∃g,a=S g/\St d (g.add 1) (.bool G) λd=>K f Z 0 d else bif c then ∃c,a=S c/\∃d,e.s (c.add 2) d/\A2 e [.z b] 3 λb c=>∃f g,aM qe [22,22] 22 d.v (.slice (S b.p) 1 1) c f g/\∃b,a=S b/\St g (b.add 2) f.v λa=>K 0 G 0 a else K 0 G 0 e) w):=aj func268 (.v (.y (.x (.v (.y .w (.v (.y (.v (.v .w)) (.v .w)))))) .w))
theorem V5{K w}:Fr (Un K w) (A2 w [.y 0,.bool G,.slice N 0 0] 335 λa b=>K (S a.p) b):=aj func342 (.v .w)
theorem V6{a b K w}:Fr (Uu a b K w) (A2 w [.z b] 3 λb c=>∃d,a=S d/\∃e,c.s (d.add 2) e/\∃d,a=S d/\∃f,c.s (d.add 2) f/\RO f (.func (.func 406) #[] #[.pointer (S b.p)]) (λb c=>∃d,a=S d/\St c (d.add 2) b.v λb=>∃c,a=S c/\∃a,b.s (c.add 2) a/\K (V ((a.len:O)<(e.len:O))) b) c):=aj func352 (.v (.v (.v .w)))
theorem V7{a b K w}:Fr (Vi a b K w) (∃c,w.z b c/\K (a==c) w):=aj func406 (.v .w)
structure nO where
 word:O
 is:W
 l:Y O
deriving DecidableEq
def nO.bm(n:nO)(ay:O):qh O × nO:=match n.l with
 |x::r=>(S x,{ n with l:=r})
 | []=>(N,⟨FD .u64 n.word ay,Z,[]⟩)
def nO.wait(n:nO)(who:O)(waits:W):(O × W × O)× nO:=
 if n.l.any (λx=>who==x)then((0,G,120),n)
 else if n.is then((n.word,Z,0),{ n with word:=0,is:=G})
 else((0,G,0),if waits then { n with l:=n.l++ [who]}else n)
def nO.cancel(n:nO)(who:O):nO:={ n with l:=n.l.filter λx=> !(x==who)}
def bL(b:X)(n:nO):aH:=sB λs:Sl=>cj [dh (n.l.length<=1000000),aa b [.y n.word,.bool n.is,s.v],af aq s n.l]
end
section
variable{B:X}{w0 w:J}{R:Y aH}{α:Type}{A:X->α->aH}{ps:Y X}{xs:Y α}{L:Y aH}{b:X}{n:nO}
theorem Ow.note(h:Ow B w0 w (bL b n::R)):∃s:Sl,n.l.length<=1000000/\Ow B w0 w (aa b [.y n.word,.bool n.is,s.v]::af aq s n.l::R):=by obtain⟨s,h⟩:=h.ex;obtain⟨h1,h⟩:=Ow.pure h.star;exact⟨s,h1,h⟩
theorem Ow.gw{s:Sl}{wd:O}{is:W}{l:Y O}(h1:l.length<=1000000)(h:Ow B w0 w (aa b [.y wd,.bool is,s.v]::af aq s l::R)):Ow B w0 w (bL b ⟨wd,is,l⟩::R):=
 Ow.fk s (Ow.bW (Ow.cT h1 h))
theorem s7{K:qh qg->Pw}(h:Ow B w0 w R)(hK:∀b w',Ow B w0 w' (bL b ⟨0,G,[]⟩::R)->K b.o w'):Un K w:=by
 apply V5;refine h.al λw1 h=>?_;exact hK _ w1 (Ow.gw (s:=z0) qc ((Ow.cZ h).perm (List.Perm.swap _ _ _)))
theorem oE{g:O}{K:O->O->W->Pw}(h:Ow B w0 w (bL b n::R))
  (hK:∀w',Ow B w0 w' (bL b (n.bm g).2::R)->K ((n.bm g).1.getD 0) (if(n.bm g).1.isSome then g else 0) (n.bm g).1.isSome w'):TA b.o g K w:=by
 apply V3;obtain⟨s,hl,h⟩:=h.note;have hlen:=h.aL s;unfold nO.bm at hK;refine⟨_,U,s,h.aF U,?_⟩;cases hn:n.l with
 |nil=>
  rw[hn]at hK hlen;refine aw (by simp at hlen;omega) ?_;refine⟨_,U,_,h.aF U,_,U,h.jH U U λw h=>⟨_,U,?_⟩⟩
  refine h.jH U U λw h=>?_;rw[hn]at h;exact hK w (Ow.gw (s:=s) qc h)
 |cons x r=>
  rw[hn]at hK hlen;simp only[LL]at hlen;refine az om ?_;refine⟨_,U,s,h.aF U,?_⟩;have h0:n.l[0]?=S x:=by rw[hn];rfl
  refine h.cz (s:=s) (i:=0) (j:=0) U h0 λa ha hc0 hc=>⟨_,hc0 _ U,?_⟩
  refine⟨_,U,s,h.aF U,?_⟩;rw[hn]at h;refine Am (i:=0) (j:=1) h.cq om qc (by rw[hn]at hl;simp at hl|-;omega) λs' w h=>⟨_,U,?_⟩
  refine h.jH U U λw h=>?_;have h:Ow B w0 w (af aq s' r::_):=h;exact hK w (Ow.gw (s:=s') (by rw[hn]at hl;simp at hl|-;omega) h.sub)
theorem rN{who:O}{wt:W}{K:O->W->O->Pw}(hbig:n.l.length<1000000)(h:Ow B w0 w (bL b n::R))
  (hK:∀w',Ow B w0 w' (bL b (n.wait who wt).2::R)->K (n.wait who wt).1.1 (n.wait who wt).1.2.1 (n.wait who wt).1.2.2 w'):TV b.o who wt K w:=by
 apply V4;obtain⟨s,hl,h⟩:=h.note;unfold nO.wait at hK;refine⟨_,U,s,h.aF U,wR (s:=s) (xs:=n.l) h om λw h=>?_⟩;cases ht:(n.l.any λx=>who==x)with
 |true=>
  rw[ht]at hK;exact bh U (hK w (Ow.gw (s:=s) hl h))
 |false=>
  rw[ht]at hK;refine bc U ⟨_,U,h.l1 U ?_⟩;cases hi:n.is with
  |true=>
   rw[hi]at hK;refine bh U ⟨_,U,_,h.aF U,_,U,?_⟩;refine h.jH U U λw h=>⟨_,U,?_⟩
   refine h.jH U U λw h=>?_;exact hK w (Ow.gw (s:=s) hl h)
  |false=>
   rw[hi]at hK;refine bc U ?_;cases wt with
   |true=>
    refine bh U ⟨_,U,s,h.aF U,?_⟩;refine h.a λd w2 h=>?_;refine eo (s:=s) (y:=who) h om λs' w hs' h=>⟨_,U,?_⟩
    refine h.jH U U λw h=>?_;exact hK w (Ow.gw (s:=s') (by simp;omega) (by rw[hi]at h;exact h.sub))
   |false=>
    refine bc U ?_;exact hK w (Ow.gw (s:=s) hl h)
theorem rO{K:O->W->Pw}(h:Ow B w0 w (bL b n::R))(hK:∀w',Ow B w0 w' (bL b n::R)->K n.word n.is w'):S0 b.o K w:=by
 apply V1;obtain⟨s,hl,h⟩:=h.note;refine h.dr λw h=>?_;exact⟨_,U,_,h.aF U,_,U,_,h.aF U,hK w (Ow.gw (s:=s) hl h)⟩
def bS:dT X:=⟨1,λp=>[.q p],λ_=>rfl,λx v h=>by simp only[LD,MB,qI]at h;subst h;rfl,qb⟩
def au{α:Type}(A:X->α->aH)(ps:Y X)(xs:Y α):aH:=sB λ_:Unit=>cj (dh (ps.length=xs.length)::Lx A ps xs)
theorem Ow.Ha(h:Ow B w0 w (au A ps xs::R)):ps.length=xs.length/\Ow B w0 w (Lx A ps xs++R):=by obtain⟨_,h⟩:=h.ex;exact Ow.pure h.star
theorem Ow.jX(hl:ps.length=xs.length)(h:Ow B w0 w (Lx A ps xs++R)):Ow B w0 w (au A ps xs::R):=
 Ow.fk () (Ow.bW (Ow.cT hl h))
theorem Gw{p:X}{x:α}{j:X}(hp:ps[j]?=S p)(hx:xs[j]?=S x)(R:Y aH):(Lx A ps xs++R)[j]?=S (A p x):=by have h1:=(Lu.1 hp).1;have h2:=(Lu.1 hx).1;rw[List.getElem?_append_left (by simp;omega),List.getElem?_zipWith,hp,hx]
theorem Ow.pt(h:Ow B w0 w (au A ps xs::R)){j:X}{p:X}{x:α}(hp:ps[j]?=S p)(hx:xs[j]?=S x):
  Ow B w0 w (A p x::((Lx A ps xs).eraseIdx j++R)):=by
 obtain⟨hl,h⟩:=h.Ha;have h1:=(Lu.1 hp).1;have:=h.take j (Gw hp hx R)
 rwa [Ni (by simp;omega)]at this
theorem Af{p:X}{x':α}:∀(ps:Y X)(xs:Y α)(j:X),ps[j]?=S p->Lx A ps (xs.set j x')=(Lx A ps xs).set j (A p x')
 | [],xs,j,h=>by simp at h
 |_::_,[],j,_=>by cases j<;>simp
 |s::ps,r::xs,0,h=>by simp at h;subst h;simp
 |s::ps,r::xs,j+1,h=>by simp[Af ps xs j (by simpa using h)]
theorem Ow.xK{j:X}{p:X}{x':α}(hl:ps.length=xs.length)(hp:ps[j]?=S p)(h:Ow B w0 w (A p x'::((Lx A ps xs).eraseIdx j++R))):
  Ow B w0 w (au A ps (xs.set j x')::R):=by
 have hj:=(Lu.1 hp).1;refine Ow.jX (by simp[hl]) ?_;rw[Af _ _ _ hp];have hj':j<(Lx A ps xs).length:=by simp;omega
 have h2:Ow B w0 w (A p x'::(Lx A ps xs++R).eraseIdx j):=by rwa [Ni hj']
 have:=h2.put (by simp;omega)
 rwa [List.set_append_left _ _ hj']at this
theorem wQ{p:X}{x:α}:∀(ps:Y X)(xs:Y α),ps.length=xs.length->Lx A (ps++ [p]) (xs++ [x])=Lx A ps xs++ [A p x]
 | [],[],_=>rfl
 | [],_::_,h=>by simp at h
 |_::_,[],h=>by simp at h
 |a::ps,b::xs,h=>by simp[wQ ps xs (by simpa using h)]
theorem Ow.oI{p:X}{x:α}(h:Ow B w0 w (A p x::au A ps xs::R)):Ow B w0 w (au A (ps++ [p]) (xs++ [x])::R):=by have h2:Ow B w0 w (au A ps xs::A p x::R):=h.perm (List.Perm.swap _ _ _);obtain⟨hl,h3⟩:=h2.Ha;refine Ow.jX (by simp[hl]) ?_;rw[wQ _ _ hl,LN];exact h3
theorem Ow.cA(h:Ow B w0 w (au A ps xs::R)):ps.length=xs.length:=h.Ha.1
end
section
variable{B:X}{w0 w:J}{R L:Y aH}{α β:Type}{A:X->α->aH}{E:dT α}{s:Sl}{xs:Y α}
theorem tw{T el t:qi}{inf:qL}{zv:Q}{K:Sl->J->Prop}[abw:cu s L α E xs]
  (hu:qe.underlying T=S (.slice el)) (hi:qe.info? el=S inf) (hz:inf.zero=S zv) (hsz:inf.size=E.z) (hzc:zv.cells.size=E.z) (hb:1<=inf.bytes)
  (h:Ow B w0 w L) (hbig:(17*xs.length+16000)*inf.bytes<=2^48) (hK:∀s' w',Ow B w0 w' (af E s' xs::L)->K s' w'):
  bif s.a.isNone then(K z0 w)else(Al w (.cells #[] t) λw2=>∃(t3:Sl)(w4:J),aM qe [T,T] T (.slice (S w.heap.size.p) 0 0) s.v w2 t3 w4/\K t3 w4):=by
 have hlen:=h.aL s;cases hn:s.a with
 |none=>
  refine bh U ?_;have hx:xs= []:=by
   cases xs with
   |nil=>rfl
   |cons x xs=>obtain⟨_,_,ha,_⟩:=h.get abw.i abw.at_ (j:=0) (x:=x) U;rw[hn]at ha;cases ha
  subst hx;exact hK _ w (Ow.cZ h)
 |some a=>
  refine bc U ?_;refine h.al λw' h=>?_;generalize w.heap.size=b at h|-;have h2:Ow B w0 w' (af E ⟨S b.p,0,0⟩ []::L):=Ow.empty h;have hx2:=h2.sR (abw.i+1) (by simpa using abw.at_)
  (try rw[<-hn])
  exact Ow.app (s:=⟨S b.p,0,0⟩) (xs:=[]) (ys:=xs) hu hi hz hsz hzc hb h2 0 U hx2 hlen (by simpa using hbig) λs' w _ h=>hK _ w h
theorem dG{s:Sl}{ps:Y X}{j p:X}{i:O}{abx:qg->Prop}[abw:cu s L X bS ps](h:Ow B w0 w L)(hij:i=(j:O))(hj:ps[j]?=S p)
  (hG:∀a,s.a=S a->w.cell? (a.add (i.toNat*1))=S (.q p)->abx a):∃a,s.a=S a/\0<=i/\i<(s.len:O)/\abx a:=
 h.cz (s:=s) hij hj λa ha h0 _=>hG a ha (h0 _ U)
theorem V8{a b c d e f K w}:Fr (Ry a b c d e f K w) (A2 w [.y a,.z b,.y c] 98 λa b=>A2 b [.y 0,.z 0,.y 0] 98 λb c=>ax c a.p 0 [.u,.o,.u] λ(g h i:O)=>Uh g h i (λc g=>Ui d e (λd e g=>bif c !=0 then aB g b.p 0 [.y 0,.z 0,.y 0] λh=>ax h b.p 0 [.u,.o,.u] λ(i j k:O)=>K z0 i j k c h else bif e !=0 then aB g b.p 0 [.y 0,.z 0,.y 0] λc=>ax c b.p 0 [.u,.o,.u] λ(h i j:O)=>K z0 h i j e c else ∀c:W->Pw,(∀(e:W)(g:J),(bif e then aB g b.p 0 [.y 0,.z 0,.y 0] λc=>ax c b.p 0 [.u,.o,.u] λ(e h i:O)=>K z0 e h i 1 c else ∃c,g.y a.p c/\∃e,g.y (a.p.add 2) e/\RS (qv.wrap (c+e)) d (λc _ e=>Dr e λe=>∃g,e.y a.p g/\∃h,e.z (a.p.add 1) h/\0<=h/\0<=d/\bif V ((qv.wrap (c+(ic .u64 (qv.wrap f) d)))>(qv.wrap (g+(ic .u64 1 h))))then aB e b.p 0 [.y 0,.z 0,.y 0] λg=>ax g b.p 0 [.u,.o,.u] λ(h i j:O)=>K z0 h i j 81 g else ∀g:O->Sl->O->Pw,(∀(c:O)(e:Sl)(h:O)(i:J),(bif V (h<f)then A2 i [.y c] 39 λf j=>∃k l,aM qe [278,278] 278 e.v (.slice (S f.p) 1 1) j k l/\0<=d/\g (qv.wrap (c+(ic .u64 1 d))) k (qf.wrap (h+1)) l else ∃d,i.y a.p d/\St i (a.p.add 2) (.y (qv.wrap (c-d))) λc=>Dr c λc=>ax c a.p 0 [.u,.o,.u] λ(a d f:O)=>(aB c b.p 0 [.y a,.z d,.y f] λa=>ax a b.p 0 [.u,.o,.u] λ(b c d:O)=>K e b c d 0 a)/\I)->g c e h i)->g c z0 0 e) g)->c e g)->(bif V (f<1)then c Z g else c (V (f>64)) g)) g) c):=aj func249 (.v (.v (.v (.y (.x (.v (.y .w (.v (.y .w (.y (.r (S [(36,.c .b)]) .done) (.x .w))))))) (.v (.y (.z (.o 0 28 (.o 1 28 (.o 2 0 (.o 3 0 (.o 4 0 (.o 5 0 (.o 6 0 .done)))))))) (.y (.v (.x .w)) (.v (.y (.v (.x (.t (S [(14,.c (.i .u64)),(17,.c .s),(70,.c (.i .i64))]) .Ed .u))) (.v (.x (.z (.o 0 2 (.o 1 4 (.o 2 0 (.e 3 (.o 4 0 .done)))))))))))))))))
theorem V9{a b c K w}:Fr (TT a b c K w) (A2 w [.y a,.z b,.y c] 98 λa b=>A2 b [.y 0,.z 0,.y 0] 98 λb c=>St c (a.p.add 2) (.y 0) λc=>ax c a.p 0 [.u,.o,.u] λ(a d e:O)=>aB c b.p 0 [.y a,.z d,.y e] λa=>ax a b.p 0 [.u,.o,.u] λ(b c d:O)=>K b c d a):=aj func259 (.v (.v .w))
theorem Wa{a b c K w}:Fr (Uh a b c K w) (A2 w [.y a,.z b,.y c] 98 λa b=>∀c:W->Pw,(∀(b:W)(d:J),(bif b then K 1 d else ∃b,d.y a.p b/\∃c,d.z (a.p.add 1) c/\RS b c (λb c d=>Dr d λd=>bif c !=0 then K 1 d else ∃c,d.y a.p c/\bif b !=c then K 1 d else ∃b,d.y (a.p.add 2) b/\∃c,d.z (a.p.add 1) c/\0<=c/\bif V (b>(ic .u64 1 c))then K 1 d else K 0 d) d)->c b d)->(∃d,b.z (a.p.add 1) d/\bif V (d<0)then c Z b else ∃d,b.z (a.p.add 1) d/\bif V (d>20)then c Z b else ∃d,b.y a.p d/\c (V (d>1099511627776)) b)):=aj func335 (.v (.y .Kc (.v (.y (.y (.z (.o 0 0 (.o 1 0 (.o 2 0 (.o 3 48 (.o 4 0 (.o 5 0 (.o 6 0 (.o 7 0 (.o 8 0 (.o 9 14336 (.o 10 14336 (.o 11 0 (.o 12 0 (.o 13 0 (.o 14 0 (.o 15 0 .done))))))))))))))))) (.x .w)) .w))))
theorem Wb{a b K w}:Fr (Ui a b K w) (bif a==1 then R0 b 4 20 0 (λa b c=>K a b c) w else bif a==2 then R0 b 1 8 2 (λa b c=>K a b c) w else ∀b:W->Pw,(∀(c:W)(d:J),(bif c then K 0 80 d else R1 (λb c d e f g h i j k l=>0<=a/\a<10/\∃m,(#[.z b,.z c,.z d,.z e,.z f,.z g,.z h,.z i,.z j,.z k]:qo Q)[a.toNat*1]?=S (.z m)/\K m 0 l) d)->b c d)->(bif V (a<0)then b Z w else bif V (a>=10)then b Z w else R1 (λc d e f g h i j k l m=>0<=a/\a<10/\∃n,(#[.z c,.z d,.z e,.z f,.z g,.z h,.z i,.z j,.z k,.z l]:qo Q)[a.toNat*1]?=S (.z n)/\b (n==0) m) w)):=aj func336 (.v (.y (.v .IV) (.y (.y (.r (S [(30,.c .b)]) .done) (.x .w)) .w)))
theorem Wc{a b c d K w}:Fr (R0 a b c d K w) (∀e:W->Pw,(∀(b:W)(c:J),(bif b then K 0 1 c else K (qf.wrap (a+d)) 0 c)->e b c)->(bif V (a<b)then e Z w else e (V (a>c)) w)):=aj func393 (.v (.y .Kc .w))
theorem Wd{K w}:Fr (R1 K w) (A2 w [.z 0,.z 0,.z 0,.z 0,.z 0,.z 0,.z 0,.z 0,.z 0,.z 0] 490 λa b=>aB b a.p 0 [.z 0,.z 0,.z 0,.z 5,.z 2,.z 2,.z 6,.z 6,.z 6,.z 0] λb=>ax b a.p 0 [.o,.o,.o,.o,.o,.o,.o,.o,.o,.o] λ(a c d e f g h i j k:O)=>K a c d e f g h i j k b):=aj func394 (.v .w)
theorem We{a b c d K w}:Fr (TJ a b c d K w) (A2 w [.y a,.y b,.y c,.y d] 372 λa b=>∀c:O->Pw,(∀(b:O)(d:J),(bif V (b<4)then 0<=qf.wrap (3-b)/\qf.wrap (3-b)<4/\∃e,d.cell? (a.p.add ((qf.wrap (3-b)).toNat*1))=S (.y e)/\bif e !=0 then 0<=qf.wrap (3-b)/\qf.wrap (3-b)<4/\∃e,d.cell? (a.p.add ((qf.wrap (3-b)).toNat*1))=S (.y e)/\Ud e (λa c=>K (qf.wrap ((qf.wrap ((qf.wrap ((qf.wrap (3-b))*64))+a))-1)) c) d else c (qf.wrap (b+1)) d else K (-1) d)->c b d)->c 0 b):=aj func233 (.v (.y (.v (.x (.t (S [(5,.c (.i .i64))]) (.v (.y .w (.x (.x (.v (.v (.v (.x .w)))))))) .u))) .w))
theorem Wf{a b K w}:Fr (RS a b K w) (∀c:W->Pw,(∀(d:W)(e:J),(bif d then K 0 1 e else Qp b (λb c=>∃d,∃e,∃f:J,yp qe 396 #[.y a,.y b,.y 0] c (.tuple #[.y d,.y e]) f/\bif e !=0 then K 0 2 f else K (fE .u64 d b) 0 f) e)->c d e)->(bif V (b<0)then c Z w else c (V (b>=64)) w)):=aj func337 (.v (.y .Jg .IW))
theorem Wg{a K w}:Fr (UB a K w) (∀b:W->Pw,(∀(c:W)(d:J),(bif c then K 0 1 d else Qp a (λa b=>K a 0 b) d)->b c d)->(bif V (a<0)then b Z w else b (V (a>64)) w)):=aj func382 .Ka
theorem Wh{a b c d e f K w}:Fr (UC a b c d e f K w) (A2 w [.y a,.y b,.y c,.y d] 372 λa b=>A2 b [.y 0,.y 0,.y 0,.y 0] 372 λb c=>UN e (λc d=>bif !c then aB d b.p 0 [.y 0,.y 0,.y 0,.y 0] λc=>ax c b.p 0 [.u,.u,.u,.u] λ(g h i j:O)=>K g h i j 1 c else Dr d λc=>(64:O)≠0/\0<=qf.wrap (e.tdiv 64)/\qf.wrap (e.tdiv 64)<4/\∃d,c.cell? (a.p.add ((qf.wrap (e.tdiv 64)).toNat*1))=S (.y d)/\(64:O)≠0/\0<=(e.tmod 64)/\0<=qf.wrap (e.tdiv 64)/\qf.wrap (e.tdiv 64)<4/\(St c (a.p.add ((qf.wrap (e.tdiv 64)).toNat*1)) (.y (fE .u64 d (ic .u64 1 (e.tmod 64)))) λc=>bif f then Dr c λd=>(64:O)≠0/\0<=qf.wrap (e.tdiv 64)/\qf.wrap (e.tdiv 64)<4/\∃f,d.cell? (a.p.add ((qf.wrap (e.tdiv 64)).toNat*1))=S (.y f)/\(64:O)≠0/\0<=(e.tmod 64)/\0<=qf.wrap (e.tdiv 64)/\qf.wrap (e.tdiv 64)<4/\(St d (a.p.add ((qf.wrap (e.tdiv 64)).toNat*1)) (.y (FD .u64 f (ic .u64 1 (e.tmod 64)))) λc=>ax c a.p 0 [.u,.u,.u,.u] λ(a d e f:O)=>aB c b.p 0 [.y a,.y d,.y e,.y f] λa=>ax a b.p 0 [.u,.u,.u,.u] λ(b c d e:O)=>K b c d e 0 a)/\I else ax c a.p 0 [.u,.u,.u,.u] λ(a d e f:O)=>aB c b.p 0 [.y a,.y d,.y e,.y f] λa=>ax a b.p 0 [.u,.u,.u,.u] λ(b c d e:O)=>K b c d e 0 a)/\I) c):=aj func383 (.v (.y (.v (.x .w)) (.y .g19 (.y (.v (.x .g19)) .w))))
theorem Vm{a K w}:Fr (Qp a K w) (0<=a/\K (qv.wrap ((ic .u64 1 a)-1)) w):=aj func395 (.v .w)
theorem Vn{a b c K w}:Fr (Q4 a b c K w) (R5 b c (λd e=>bif !d then K 0 1 e else Dr e λd=>0<=b/\(Qp c (λc d=>K (di .u64 (kd .u64 a b) c) 0 d) d)/\I) w):=aj func412 (.v (.y (.v (.x .w)) (.x (.z (.o 0 26 (.o 1 24 (.o 2 24 (.o 3 0 (.e 4 (.o 5 0 (.o 6 0 (.o 7 0 .done))))))))))))
theorem Wi{a K w}:Fr (UN a K w) (bif V (a>=0)then K (V (a<256)) w else K G w):=aj func420 (.v .w)
theorem Vo{a b K w}:Fr (R5 a b K w) (bif V (a>=0)then bif V (b>=0)then bif V (a<=64)then K (V (b<=(qf.wrap (64-a)))) w else K G w else K G w else K G w):=aj func436 (.v .w)
end
namespace Th
theorem vM{n:O}{K:W->Pw}{w:J}(h:K (V (0<=n/\n<256)) w):UN n K w:=by
 apply Wi;by_cases h0:0<=n
 .have e:V (n>=0)=true:=by simpa using h0
  have e2:V (0<=n/\n<256)=V (n<256):=by simp[h0]
  rw[e,ql];rw[e2]at h;exact h
 .have e:V (n>=0)=false:=by simpa using h0
  have e2:V (0<=n/\n<256)=false:=by simp[h0]
  rw[e,qp];rw[e2]at h;exact h
def Ix(b:O)(i:X)(on:W):O:=if on then FD .u64 (fE .u64 b (ic .u64 1 i)) (ic .u64 1 i)else fE .u64 b (ic .u64 1 i)
def nG(l:Y O)(n:X)(on:W):Y O:=l.set (n / 64) (Ix (l.getD (n / 64) 0) (n%64) on)
theorem vf{B:X}{w0 w:J}{R:Y aH}{b1 b2 b3 b4 n:O}{on:W}{K:O->O->O->O->O->Pw}(h:Ow B w0 w R)(hn0:0<=n)(hn:n<256)
  (hK:∀r1 r2 r3 r4 w',Ow B w0 w' R->[r1,r2,r3,r4]=nG [b1,b2,b3,b4] n.toNat on->K r1 r2 r3 r4 0 w'):UC b1 b2 b3 b4 n on K w:=by
 apply Wh;refine h.al λw7 h=>?_;refine h.al λw8 h=>?_;apply vM;rw[show V (0<=n/\n<256)=Z from by simp[hn0,hn]];simp only[MM,qp];refine h.dr λw9 h=>?_;obtain⟨m,rfl⟩:=Int.eq_ofNat_of_zero_le hn0;have hq:qf.wrap (((m:X):O).tdiv 64)=((m / 64:X):O):=by rw[Int.tdiv_eq_ediv_of_nonneg om,wr om om];omega
 have hr:((m:X):O).tmod 64=((m%64:X):O):=by rw[Int.tmod_eq_emod_of_nonneg om];omega
 have hq4:m / 64<4:=om
 simp only[Lw]at hK;rw[hq,hr];generalize hQ:m / 64=q at*
 generalize hr':m%64=r at*
 have hq5:q=0\/q=1\/q=2\/q=3:=om
 clear hq hq4;rcases hq5 with rfl|rfl|rfl|rfl<;>
 .refine ⟨qb,qb,qb,_,h.ld 1 U U,qb,om,qb,qb,?_,trivial⟩
  refine h.fK U U λw10 h=>?_;cases on
  .rw[qp]
   refine h.nT U ?_;refine h.aA U U λw11 h=>?_;refine h.nT U ?_;refine hK _ _ _ _ _ h.drop.drop ?_;simp only[nG,hQ,hr'];rfl
  .rw[ql]
   refine h.dr λw11 h=>?_;refine⟨qb,qb,qb,_,h.ld 1 U U,qb,om,qb,qb,?_,trivial⟩;refine h.fK U U λw10 h=>?_;refine h.nT U ?_;refine h.aA U U λw11 h=>?_;refine h.nT U ?_;refine hK _ _ _ _ _ h.drop.drop ?_;simp only[nG,hQ,hr'];rfl
def eH(x:X):X:=if x=0 then 0 else x.log2+1
theorem Fh{x n:X}(h1:x<2^n)(h2:n=0\/2^(n-1)<=x):eH x=n:=by
 unfold eH;rcases h2 with rfl|h2
 .have:x=0:=by simpa using h1
  rw[qd this]
 .by_cases hn:n=0
  .subst hn;have:x=0:=by simpa using h1
   rw[qd this]
  .have hp:0<2^(n-1):=MD _
   rw[F om,(Pm om).2 ⟨h2,by rw[Nat.sub_add_cancel om];exact h1⟩];omega
theorem wg(x:X):x<2^eH x/\(eH x=0\/2^(eH x-1)<=x):=by
 unfold eH;by_cases h:x=0
 .subst h;simp
 .rw[F h]
  have:=(Pm h).1 U;exact⟨this.2,.inr this.1⟩
theorem rG{x k:X}(h:2^k<=x):eH (x / 2^k)+k=eH x:=by
 obtain⟨h1,h2⟩:=wg (x / 2^k);have hp:0<2^k:=MD _;have hd:1<=x / 2^k:=(Nat.one_le_div_iff hp).2 h
 symm
 apply Fh
 .rw[P4];exact(Nat.div_lt_iff_lt_mul hp).1 h1
 .right
  rcases h2 with h2|h2
  .rw[h2]at h1;omega
  .have h3:eH (x / 2^k)≠0:=λe=>by rw[e]at h1;omega
   rw[show eH (x / 2^k)+k-1=(eH (x / 2^k)-1)+k from by omega,P4];exact(Nat.le_div_iff_mul_le hp).1 h2
theorem Fi{x n:X}(h:x<2^n):eH x<=n:=by
 rcases (wg x).2 with h1|h1
 .omega
 .have h2:2^(eH x-1)<2^n:=Nat.lt_of_le_of_lt h1 h
  have:=(Nat.pow_lt_pow_iff_right (by omega:1<2)).1 h2;omega
theorem Ho(x:X)(h:x<256):Ep ⟨#[0,1,2,2,3,3,3,3,4,4,4,4,4,4,4,4,5,5,5,5,5,5,5,5,5,5,5,5,5,5,5,5,6,6,6,6,6,6,6,6,6,6,6,6,6,6,6,6,6,6,6,6,6,6,6,6,6,6,6,6,6,6,6,6,7,7,7,7,7,7,7,7,7,7,7,7,7,7,7,7,7,7,7,7,7,7,7,7,7,7,7,7,7,7,7,7,7,7,7,7,7,7,7,7,7,7,7,7,7,7,7,7,7,7,7,7,7,7,7,7,7,7,7,7,7,7,7,7,8,8,8,8,8,8,8,8,8,8,8,8,8,8,8,8,8,8,8,8,8,8,8,8,8,8,8,8,8,8,8,8,8,8,8,8,8,8,8,8,8,8,8,8,8,8,8,8,8,8,8,8,8,8,8,8,8,8,8,8,8,8,8,8,8,8,8,8,8,8,8,8,8,8,8,8,8,8,8,8,8,8,8,8,8,8,8,8,8,8,8,8,8,8,8,8,8,8,8,8,8,8,8,8,8,8,8,8,8,8,8,8,8,8,8,8,8,8,8,8,8,8,8,8,8,8,8,8]⟩ (x:O) ((eH x:X):O):=by
 have hc:(List.range 256).all (λx=>((⟨#[0,1,2,2,3,3,3,3,4,4,4,4,4,4,4,4,5,5,5,5,5,5,5,5,5,5,5,5,5,5,5,5,6,6,6,6,6,6,6,6,6,6,6,6,6,6,6,6,6,6,6,6,6,6,6,6,6,6,6,6,6,6,6,6,7,7,7,7,7,7,7,7,7,7,7,7,7,7,7,7,7,7,7,7,7,7,7,7,7,7,7,7,7,7,7,7,7,7,7,7,7,7,7,7,7,7,7,7,7,7,7,7,7,7,7,7,7,7,7,7,7,7,7,7,7,7,7,7,8,8,8,8,8,8,8,8,8,8,8,8,8,8,8,8,8,8,8,8,8,8,8,8,8,8,8,8,8,8,8,8,8,8,8,8,8,8,8,8,8,8,8,8,8,8,8,8,8,8,8,8,8,8,8,8,8,8,8,8,8,8,8,8,8,8,8,8,8,8,8,8,8,8,8,8,8,8,8,8,8,8,8,8,8,8,8,8,8,8,8,8,8,8,8,8,8,8,8,8,8,8,8,8,8,8,8,8,8,8,8,8,8,8,8,8,8,8,8,8,8,8,8,8,8,8,8,8]⟩:ByteArray)[x]?).map UInt8.toNat==S (eH x))=true:=qa
 have:=NT.1 hc x (List.mem_range.2 h);have:=eq_of_beq this;obtain⟨u,h1,h2⟩:=Option.map_eq_some_iff.1 this;exact⟨om,u,by rw[Lw];exact h1,by rw[h2]⟩
theorem lh(x k:X)(hk:k<=64):kd .u64 (x:O) (k:O)=((x / 2^k:X):O):=by unfold kd;rw[Lw,show qv.bits=64 from U,Ms hk];rw[show((2:O)^k)=((2^k:X):O)from by simp];rw[Int.fdiv_eq_ediv_of_nonneg _ (Nr _)];simp
theorem Lt{x:O}(h1:0<=x)(h2:x<256):IntKind.u8.wrap x=x:=by
 have e1:(2:O)^8=256:=qb
 simp only[IntKind.wrap,IntKind.bits,IntKind.signed,e1,Bool.false_and,LK,qy];omega
theorem mF{x:X}{K:O->Pw}{w:J}(hx:x<2^64)(h:K ((eH x:X):O) w):Ud (x:O) K w:=by
 apply VZ;intro k2 h2;have hk2:∀(y n:X),y<2^32->eH y+n=eH x->n<=32->k2 (y:O) (n:O) w:=by
  intro y n hy hn hle;apply h2;intro k6 h6;have hk6:∀(y n:X),y<2^16->eH y+n=eH x->n<=48->k6 (y:O) (n:O) w:=by
   intro y n hy hn hle;apply h6;intro k10 h10;have hk10:∀(y n:X),y<2^8->eH y+n=eH x->n<=56->k10 (y:O) (n:O) w:=by intro y n hy hn hle;apply h10;have hl:=Fi hy;rw[Lt om om];refine⟨_,Ho y hy,?_⟩;rw[wr (x:=((eH y:X):O)) om om,wr om om];rw[show(n:O)+((eH y:X):O)=((eH x:X):O)from by omega];exact h
   by_cases hc:y>=256
   .rw[show V ((y:O)>=256)=Z from by simp;omega,ql]
    refine⟨qb,?_⟩;rw[wr om om,show(8:O)=((8:X):O)from U,lh y 8 om];refine hk10 (y / 2^8) (n+8) ?_ ?_ om
    .have:y<2^8*2^8:=by simpa using hy
     exact Om this
    .have:=rG (x:=y) (k:=8) (by simpa using hc);omega
   .rw[show V ((y:O)>=256)=G from by simp;omega,qp]
    exact hk10 y n (by simp;omega) hn om
  by_cases hc:y>=65536
  .rw[show V ((y:O)>=65536)=Z from by simp;omega,ql]
   refine⟨qb,?_⟩;rw[wr om om,show(16:O)=((16:X):O)from U,lh y 16 om];refine hk6 (y / 2^16) (n+16) ?_ ?_ om
   .have:y<2^16*2^16:=by simpa using hy
    exact Om this
   .have:=rG (x:=y) (k:=16) (by simpa using hc);omega
  .rw[show V ((y:O)>=65536)=G from by simp;omega,qp]
   exact hk6 y n (by simp;omega) hn om
 by_cases hc:x>=4294967296
 .rw[show V ((x:O)>=4294967296)=Z from by simp;omega,ql]
  refine⟨qb,?_⟩;rw[show(32:O)=((32:X):O)from U,lh x 32 om];refine hk2 (x / 2^32) 32 ?_ ?_ om
  .have:x<2^32*2^32:=by simpa using hx
   exact Om this
  .have:=rG (x:=x) (k:=32) (by simpa using hc);omega
 .rw[show V ((x:O)>=4294967296)=G from by simp;omega,qp]
  exact hk2 x 0 (by simp;omega) om om
theorem DV(x i:X)(on:W)(hx:x<2^64)(hi:i<64):∃y:X,Ix (x:O) i on=(y:O)/\y<2^64/\∀j,j<64->y.testBit j=if j=i then on else x.testBit j:=by
 have hs:ic .u64 1 (i:O)=((2^i:X):O):=by
  unfold ic;rw[Lw,show qv.bits=64 from U,Ms om,Int.one_mul,show((2:O)^i)=((2^i:X):O)from by simp];have hp:(2:X)^64=18446744073709551616:=qb
  have:2^i<2^64:=Nat.pow_lt_pow_right om hi;rw[hp]at this;generalize 2^i=y at*
  exact IJ (Nr _) om
 have hbv:∀z:X,BitVec.ofInt qv.bits (z:O)=BitVec.ofNat 64 z:=λz=>by apply BitVec.eq_of_toNat_eq;simp[IntKind.bits,BitVec.toNat_ofInt]
 have hwrap:∀z:BitVec 64,qv.wrap ((z.toNat:X):O)=((z.toNat:X):O):=λz=>by
  have hp:(2:X)^64=18446744073709551616:=qb
  have:=z.isLt;rw[hp]at this;exact IJ om om
 have hand:fE .u64 (x:O) ((2^i:X):O)=(((BitVec.ofNat 64 x &&& ~~~ BitVec.ofNat 64 (2^i)).toNat:X):O):=by unfold fE;rw[hbv,hbv];exact hwrap _
 have hgl:∀(z j:X),j<64->(BitVec.ofNat 64 z).getLsbD j=z.testBit j:=λz j hj=>by rw[BitVec.getLsbD_ofNat];simp[hj]
 have htb:∀j,(2^i).testBit j=V (j=i):=λj=>by rw[Nat.testBit_two_pow];exact decide_eq_decide.2 ⟨λh=>h.symm,λh=>h.symm⟩
 unfold Ix;rw[hs,hand];cases on with
 |false=>
  refine⟨_,U,(BitVec.ofNat 64 x &&& ~~~ BitVec.ofNat 64 (2^i)).isLt,λj hj=>?_⟩;rw[BitVec.testBit_toNat,BitVec.getLsbD_and,BitVec.getLsbD_not,hgl _ _ hj,hgl _ _ hj,htb];by_cases e:j=i<;>simp[e,hj]
 |true=>
  refine⟨(BitVec.ofNat 64 (BitVec.ofNat 64 x &&& ~~~ BitVec.ofNat 64 (2^i)).toNat ||| BitVec.ofNat 64 (2^i)).toNat,?_,BitVec.isLt _,λj hj=>?_⟩
  .simp only[qC];unfold FD;rw[hbv,hbv];exact hwrap _
  .rw[BitVec.testBit_toNat,BitVec.getLsbD_or,BitVec.ofNat_toNat,BitVec.setWidth_eq,BitVec.getLsbD_and,BitVec.getLsbD_not,hgl _ _ hj,hgl _ _ hj,htb]
   by_cases e:j=i<;>simp[e,hj]
def gQ(f:X->W)(ws:Y O):Prop:=ws.length=4/\∀j,j<4->∃x:X,ws[j]?=S (x:O)/\x<2^64/\∀i,i<64->x.testBit i=f (64*j+i)
theorem gQ.congr{f g:X->W}{ws:Y O}(h:gQ f ws)(hfg:∀i,i<256->f i=g i):gQ g ws:=
 ⟨h.1,λj hj=>by obtain⟨x,h1,h2,h3⟩:=h.2 j hj;exact⟨x,h1,h2,λi hi=>by rw[h3 i hi,hfg _ om]⟩⟩
theorem gQ.set{f:X->W}{ws:Y O}(h:gQ f ws){n:X}(hn:n<256)(on:W):gQ (λi=>if i=n then on else f i) (nG ws n on):=by
 unfold nG;refine⟨by simpa using h.1,λj hj=>?_⟩;obtain⟨x,h1,h2,h3⟩:=h.2 j hj;by_cases e:n / 64=j
 .subst e
  obtain⟨y,h4,h5,h6⟩:=DV x (n%64) on h2 om;refine⟨y,?_,h5,λi hi=>?_⟩
  .rw[Nb (by rw[h.1];exact hj),List.getD_eq_getElem?_getD,h1]
   simp only[Option.getD_some,h4]
  .rw[h6 i hi,h3 i hi]
   show _=if 64*(n / 64)+i=n then on else f (64*(n / 64)+i)
   by_cases e:i=n%64
   .rw[qd e,qd om]
   .rw[F e,F om]
 .refine ⟨x,by rw[List.getElem?_set_ne e];exact h1,h2,λi hi=>?_⟩
  rw[h3 i hi];show _=if 64*j+i=n then on else f (64*j+i)
  rw[F om]
theorem gQ.zero:gQ (λ_=>G) [0,0,0,0]:=by
 refine⟨U,λj hj=>⟨0,?_,qb,λi _=>by simp⟩⟩
 match j,hj with
 |0,_|1,_|2,_|3,_=>rfl
def nc(f:X->W):X->qh X
 |0=>N
 |n+1=>if f n then S n else nc f n
theorem sm(f:X->W)(a:X):∀(d:X),(∀q,a<=q->q<a+d->f q=G)->nc f (a+d)=nc f a
 |0,_=>rfl
 |d+1,h=>by show nc f ((a+d)+1)=_;simp only[nc,h (a+d) om om,LK,qy];exact sm f a d λq h1 h2=>h q h1 om
theorem Hu{f:X->W}{p n:X}(hp:p<n)(hf:f p=Z)(h:∀q,p<q->q<n->f q=G):nc f n=S p:=by
 have:=sm f (p+1) (n-(p+1)) λq h1 h2=>h q om om;rw[show p+1+(n-(p+1))=n from by omega]at this;rw[this];simp[nc,hf]
theorem zX{f:X->W}:∀{n p:X},nc f n=S p->p<n/\f p=Z/\∀q,p<q->q<n->f q=G
 |n+1,p,h=>by
  simp only[nc]at h;split at h
  .rename_i hf;cases h;exact⟨om,hf,λq h1 h2=>by omega⟩
  .rename_i hf
   obtain⟨h1,h2,h3⟩:=zX h;refine⟨om,h2,λq h4 h5=>?_⟩;by_cases e:q=n
   .subst e;simpa using hf
   .exact h3 q h4 om
def D3(f:X->W):O:=match nc f 256 with|some p=>(p:O)|none=> -1
theorem Fl{x:X}(hx:x≠0):x.testBit x.log2=Z/\∀j,x.log2<j->x.testBit j=false:=by
 have h:=(Pm hx).1 U;refine⟨?_,λj hj=>Nat.testBit_lt_two_pow (Nat.lt_of_lt_of_le h.2 (Nat.pow_le_pow_right om hj))⟩;rw[Nat.testBit_eq_decide_div_mod_eq];have:x / 2^x.log2=1:=by
  apply Nat.div_eq_of_lt_le
  .simpa using h.1
  .have:=h.2;rw[Nat.pow_succ]at this;omega
 rw[this];rfl
theorem vg{B:X}{w0 w:J}{R:Y aH}{b1 b2 b3 b4:O}{f:X->W}{K:O->Pw}(h:Ow B w0 w R)(hb:gQ f [b1,b2,b3,b4])
  (hK:∀w',Ow B w0 w' R->K (D3 f) w'):TJ b1 b2 b3 b4 K w:=by
 apply We;refine h.al λw1 h=>?_;intro l hl;have key:∀(m t:X),t+m=4->nc f 256=nc f (64*m)->l (t:O) w1:=by
  intro m;induction m with
  |zero=>
   intro t ht hf;apply hl;rw[show V ((t:O)<4)=G from by simp;omega,qp];have:D3 f= -1:=by unfold D3;rw[hf];rfl
   rw[<-this];exact hK _ h.drop
  |succ m ih=>
   intro t ht hf;apply hl;rw[show V ((t:O)<4)=Z from by simp;omega,ql];have hi:qf.wrap (3-(t:O))=(m:O):=by rw[wr om om];omega
   rw[hi];obtain⟨x,h1,h2,h3⟩:=hb.2 m om;have hcell: [Value.int .u64 b1,.y b2,.y b3,.y b4][0+((m:O).toNat*1)]?=S (.y (x:O)):=by rw[Lw,Nat.mul_one,Nat.zero_add];have:=qz (Option.map (Value.int .u64)) h1;rw[<-List.getElem?_map]at this;exact this
   refine⟨om,om,_,h.ld 0 U hcell,?_⟩;by_cases hx:x=0
   .subst hx
    rw[show(((0:X):O) !=0)=G from U,qp,wr om om];have h4:=ih (t+1) om (by
     rw[hf,show 64*(m+1)=64*m+64 from by omega];refine sm f (64*m) 64 λq h5 h6=>?_;have:=h3 (q-64*m) om;rw[show 64*m+(q-64*m)=q from by omega]at this;rw[<-this];simp)
    exact h4
   .rw[show((x:O) !=0)=Z from by simp[hx],ql]
    refine⟨om,om,_,h.ld 0 U hcell,?_⟩;apply mF h2;obtain⟨h4,h5⟩:=Fl hx;have hlt:x.log2<64:=(Nat.log2_lt hx).2 h2;have htop:nc f 256=S (64*m+x.log2):=by
     rw[hf];refine Hu om (by rw[<-h3 _ hlt];exact h4) λq h6 h7=>?_;have:=h3 (q-64*m) om;rw[show 64*m+(q-64*m)=q from by omega]at this;rw[<-this];exact h5 _ om
    have hl64:eH x=x.log2+1:=by unfold eH;rw[F hx]
    rw[hl64,wr (x:=(m:O)*64) om om,wr (x:=(m:O)*64+((x.log2+1:X):O)) om om,wr om om];have:(m:O)*64+((x.log2+1:X):O)-1=D3 f:=by unfold D3;rw[htop];simp;omega
    rw[this];exact hK _ h.drop
 exact key 4 0 U U
theorem Ez{B:X}{w0 w:J}{L:Y aH}{s x:Sl}{xs ys:Y O}{k:Sl->Pw}(h:Ow B w0 w L)(i:X)(hL:L[i]?=S (af aq s xs))(hx:jN 1 w x (ys.flatMap aq.enc))(hxl:x.len=ys.length)
  (hbig:xs.length+ys.length<=1000000000000) (hk:∀s' w',s'.len=xs.length+ys.length->Ow B w0 w' (L.set i (af aq s' (xs++ys)))->k s' w'):
  ∃s' w',aM qe [22,22] 22 s.v x.v w s' w'/\k s' w':=
 h.app qG (show qe.info? 3=S qF from by kernel_rfl) (zv:= .z 0) qa qa U qb i hL hx hxl (by
  have e:qF.bytes=8:=qa
  rw[e];omega) hk
theorem vR{B:X}{w0 w:J}{L:Y aH}{s:Sl}{xs:Y O}{y:O}{c:X}{k:Sl->Pw}(h:Ow B w0 w (aa c [.z y]::L))(i:X)(hL:L[i]?=S (af aq s xs))
  (hbig:xs.length<=1000000000000) (hk:∀s' w',s'.len=xs.length+1->Ow B w0 w' (L.set i (af aq s' (xs++ [y])))->k s' w'):
  ∃s' w',aM qe [22,22] 22 s.v (.slice (S c.p) 1 1) w s' w'/\k s' w':=
 Ow.GF (E:=aq) (y:=y) qG (show qe.info? 3=S qF from by kernel_rfl) (zv:= .z 0) qa qa U qb h i hL (by
  have e:qF.bytes=8:=qa
  rw[e];omega) hk
theorem fJ{B:X}{w0 w:J}{R:Y aH}{s:Sl}{xs:Y O}{K:Sl->Pw}(h:Ow B w0 w R)(hx:jN 1 w s (xs.flatMap aq.enc))(hl:s.len=xs.length)
  (hbig:xs.length<=1000000000000) (hK:∀s' w',Ow B w0 w' (af aq s' xs::R)->K s' w'):Pv s K w:=by
 apply UP;cases ha:s.a with
 |none=>
  simp only[Option.isNone_none,ql];cases hx with
  |nil _ h1 h2 h3=>
   have:xs= []:=List.eq_nil_of_length_eq_zero om;subst this;exact hK _ _ h.cZ
  |mk b o l h1 _ _ _ _=>rw[h1]at ha;cases ha
 |some a=>
  simp only[Option.isNone_some,qp];refine h.Li λw1 u h=>?_
  (try rw[<-ha])
  exact Ez (s:=⟨S w.heap.size.p,0,0⟩) (xs:=[]) (ys:=xs) (x:=s) h.empty 0 U (hx.no u) hl (by simpa using hbig) λs' w' _ h=>hK s' w' h
def Er(B:X)(w0:J)(L:Y aH)(fv:Q)(p:O->W):Prop:=
 ∀(x:O)(w:J)(aby:W->Pw),Ow B w0 w L->(∀w',Ow B w0 w' L->aby (p x) w')->dU qe fv [.z x] w λen w'=>∃r:W,en= .returned (.bool r)/\aby r w'
theorem iC{B:X}{w0 w:J}{L:Y aH}{s:Sl}{xs:Y O}{fv:Q}{p:O->W}{K:O->Pw}(h:Ow B w0 w L)(i:X)(hi:L[i]?=S (af aq s xs))
  (hbig:xs.length<=1000000000000) (hf:Er B w0 L fv p)
  (hK:∀w',Ow B w0 w' L->K (match xs.findIdx? p with|some j=>(j:O)|none=> -1) w'):QJ s fv K w:=by
 apply Vl;intro l hl;have hlen:=h.len i hi;have key:∀(m j:X)(w:J),j+m=xs.length->(∀q,q<j->∀x,xs[q]?=S x->p x=G)->Ow B w0 w L->l (j:O) w:=by
  intro m;induction m with
  |zero=>
   intro j w hj hno h;apply hl;rw[hlen,show V ((j:O)<(xs.length:O))=G from by simp;omega,qp];have:xs.findIdx? p=none:=by rw[Mu];intro x hx;obtain⟨q,hq⟩:=Mp.1 hx;exact hno q (by have:=(Lu.1 hq).1;omega) x hq
   have:=hK w h
   rwa [‹xs.findIdx? p=N›]at this
  |succ m ih=>
   intro j w hj hno h;apply hl;rw[hlen,show V ((j:O)<(xs.length:O))=Z from by simp;omega,ql];have hlt:j<xs.length:=om
   obtain⟨a,ha,hc⟩:=h.E0 i hi (gE hlt);refine⟨a,ha,om,om,_,by rw[Lw];exact hc,?_⟩;refine hf _ _ _ h λw' h=>?_;cases hp:p xs[j]with
   |true=>
    rw[ql];have:xs.findIdx? p=S j:=by rw[L9];refine⟨hlt,hp,λq hq=>?_⟩;simp[hno q hq _ (gE om)]
    have h2:=hK w' h
    rwa [this]at h2
   |false=>
    rw[qp,wr om om];refine ih (j+1) w' om (λq hq x hx=>?_) h;by_cases e:q=j
    .subst e;rw[gE hlt]at hx;cases hx;exact hp
    .exact hno q om x hx
 exact key xs.length 0 w om (λq hq=>by omega) h
theorem kB(xs:Y O)(q:O->W)(j:X)(x:O)(hx:xs[j]?=S x):(xs.take (j+1)).filter q=(xs.take j).filter q++if q x then [x]else []:=by rw[LJ,hx,Mi];congr 1;simp only[Nj,Mc,M8]
theorem eJ{B:X}{w0 w:J}{L:Y aH}{s:Sl}{xs:Y O}{fv:Q}{p:O->W}{K:Sl->Pw}(h:Ow B w0 w L)(i:X)(hi:L[i]?=S (af aq s xs))
  (hbig:xs.length<=1000000000000) (hf:∀ys,ys.length=xs.length->Er B w0 (L.set i (af aq s ys)) fv p)
  (hK:∀s' w',Ow B w0 w' (L.set i (af aq s' (xs.filter λx=> !p x)))->K s' w'):RO s fv K w:=by
 apply VF;have hself:∀A,L[i]?=S A->L.set i A=L:=by
  intro A hA;apply List.ext_getElem?;intro j;rw[List.getElem?_set];by_cases e:i=j
  .subst e;rw[qd U,qd (cp hA),hA]
  .simp[e]
 have hf0:Er B w0 L fv p:=by have:=hf xs U;rwa [hself _ hi]at this
 have hlen:=h.len i hi;have hspot:=(h.sR i hi).spot;refine iC h i hi hbig hf0 λw1 h=>?_;cases hfi:xs.findIdx? p with
 |none=>
  rw[show((-1:O)== -1)=Z from U,ql];have:xs.filter (λx=> !p x)=xs:=by rw[Mv];intro x hx;rw[Mu]at hfi;simp[hfi x hx]
  have h2:=hK s w1;rw[this,hself _ hi]at h2;exact h2 h
 |some i0=>
  obtain⟨hi0,hp0,hbefore⟩:=L9.1 hfi;rw[show(((i0:X):O)== -1)=G from by simp,qp];intro l hl;have hcap:=(h.sR i hi).gu;have key:∀(m j q:X)(ys:Y O)(w:J),j+m=xs.length->ys.length=xs.length->ys.take q=(xs.take j).filter (λx=> !p x)->q<j->q<=ys.length->ys.drop j=xs.drop j->
    Ow B w0 w (L.set i (af aq s ys))->l (q:O) (j:O) w:=by
   intro m;induction m with
   |zero=>
    intro j q ys w hj hys hq hqj hqy hd h;have hi':(L.set i (af aq s ys))[i]?=S (af aq s ys):=by rw[Nb (cp hi)]
    apply hl;rw[hlen,show V ((j:O)<(xs.length:O))=G from by simp;omega,qp];refine⟨om,om,?_⟩;rw[Lw,<-hlen];have hn:q<=ys.length:=hqy;refine h.clear (P:=qe) (T:=22) (t:=0) (zv:= .z 0) (z0:=0) qG (λw=>qR w) U i hi' hn λw2 h=>?_;refine⟨om,om,?_⟩;have hi2:=Nb (a:=af aq s (ys.take q++Ly (ys.length-q) 0)) (cp hi');have h3:=h.pre i hi2 (n:=q) (by simp;omega);rw[Ge _ _ _ hspot];have e1:(ys.take q++Ly (ys.length-q) 0).take q=xs.filter (λx=> !p x):=by rw[MW (by simp;omega),NU,Ph,hq,Lz om]
    rw[e1]at h3;simp only[Pd]at h3;exact hK _ _ h3
   |succ m ih=>
    intro j q ys w hj hys hq hqj hqy hd h;have hi':(L.set i (af aq s ys))[i]?=S (af aq s ys):=by rw[Nb (cp hi)]
    have hjlt:j<xs.length:=om
    have hyj:ys[j]?=S xs[j]:=by have:=qz (λl=>l[0]?) hd;simp only[LR,NB]at this;rw[this,gE hjlt]
    apply hl;rw[hlen,show V ((j:O)<(xs.length:O))=Z from by simp;omega,ql];obtain⟨a,ha,hc⟩:=h.E0 i hi' hyj;refine⟨a,ha,om,om,_,by rw[Lw];exact hc,?_⟩;refine hf ys hys _ _ _ h λw2 h=>?_;have hft:=kB xs (λx=> !p x) j _ (gE hjlt);have hd1:∀zs:Y O,zs.drop j=xs.drop j->zs.drop (j+1)=xs.drop (j+1):=λzs hz=>by rw[<-ML (i:=1) (j:=j),<-ML (i:=1) (j:=j),hz]
    cases hp:p xs[j]with
    |true=>
     simp only[MM,qp];rw[wr om om];refine ih (j+1) q ys w2 om hys ?_ om hqy (hd1 ys hd) h;rw[hq,hft,hp];simp
    |false=>
     simp only[MK,ql];obtain⟨b,o,hb,_⟩:=h.get i hi' hyj;rw[ha]at hb;cases hb;refine⟨_,ha,om,om,?_⟩;rw[Lw,aI];refine h.Lf i hi' (j:=q) om xs[j] ha U λw3 h=>?_;simp only[Pd]at h;rw[wr om om,wr om om];refine ih (j+1) (q+1) _ w3 om (by simpa using hys) ?_ om (by simp;omega) ?_ h
     .rw[hft,hp]
      simp only[MK,qC];rw[LJ,Nb om,PM om,hq];rfl
     .rw[PK om]
      exact hd1 ys hd
  refine key (xs.length-(i0+1)) (i0+1) i0 xs w1 om U ?_ om om U (by rw[hself _ hi];exact h) |> λh=>?_;rw[wI i0 om]
  .exact h
  .rw[kB xs _ i0 _ (gE hi0),hp0]
   simp only[MM,LK,qy,LQ]
   symm
   rw[Mv];intro x hx;obtain⟨q,hq⟩:=Mp.1 hx;rw[LS]at hq;split at hq
   .rename_i hlt
    obtain⟨h4,h5⟩:=Lu.1 hq;have:=hbefore q hlt;rw[h5]at this;simpa using this
   .cases hq
end Th
section
variable{P:qq}{B:X}{w0 w:J}{R L:Y aH}{α:Type}{E:dT α}{s:Sl}{xs r:Y α}{x:α}{b:X}{n:nO}
theorem oD{who:O}{K:W->Pw}(h:Ow B w0 w (bL b n::R))(hK:∀r w',Ow B w0 w' (bL b (n.cancel who)::R)->K r w'):Uu b.o who K w:=by
 apply V6;obtain⟨s,hl,h⟩:=h.note;refine h.a λc w1 h=>?_;refine⟨_,U,s,h.aF U,_,U,s,h.aF U,Th.eJ (p:=λx=>x==who) h 2 U om (λys hys x w aby h hQ=>?_) λs' w h=>?_⟩
 .refine bq ?_
  show Vi x c.p aby w;apply V7;have h2:Ow B w0 w (aa c [.z who]::aa b [.y n.word,.bool n.is,s.v]::af aq s ys::R):=h;exact⟨_,h2.aF U,hQ _ h⟩
 .have h:Ow B w0 w (aa c [.z who]::aa b [.y n.word,.bool n.is,s.v]::af aq s' (n.l.filter λx=> !(x==who))::R):=h
  refine⟨_,U,h.jH U U λw h=>?_⟩;exact⟨_,U,s',h.aF U,hK _ w (Ow.gw (s:=s') (LY (L6 _ _) hl) (h.sub:Ow B w0 w (aa b [.y n.word,.bool n.is,s'.v]::af aq s' (n.l.filter λx=> !(x==who))::R)))⟩
theorem CC{s:Sl}{xs:Y O}{K:Sl->Pw}[abw:cu s L O aq xs](h:Ow B w0 w L)(hbig:xs.length<=1000000)(hK:∀s' w',Ow B w0 w' (af aq s' xs::L)->K s' w'):Pv s K w:=by apply UP;exact tw (s:=s) (E:=aq) (xs:=xs) (zv:= .z 0) qG nv qa qa U qb h (by rw[ml];omega) hK
theorem rM{K:qh qg->Pw}(h:Ow B w0 w (bL b n::R))(hK:∀b' w',Ow B w0 w' (bL b' n::bL b n::R)->K b'.o w'):SP b.o K w:=by
 apply V0;obtain⟨s,hl,h⟩:=h.note;refine h.dr λw h=>?_;refine⟨_,U,_,U,_,U,s,h.aF U,_,h.aF U,_,h.aF U,CC (s:=s) h hl λs' w h=>?_,trivial⟩;refine⟨h.aF U,h.aF U,h.a λd w2 h=>?_,trivial⟩;refine hK d _ (Ow.gw (s:=s') hl (Ow.sub (L:=bL b n::aa d [.y n.word,.bool n.is,s'.v]::af aq s' n.l::R) ?_));exact Ow.gw (s:=s) hl h.sub
theorem Wj{a K w}:Fr (Su a K w) (A2 w [] 3 λb c=>∃d,a=S d/\∃e,c.s (d.add 1) e/\∃d f,aM qe [22,22] 22 (.slice (S b.p) 0 0) e.v c d f/\∀b:Sl->O->Pw,(∀(c:Sl)(d:O)(e:J),(∃f,a=S f/\∃g,e.s f g/\bif V (d<(g.len:O))then ∃f,a=S f/\∃g,e.s f g/\∃f,g.a=S f/\0<=d/\d<(g.len:O)/\∃g,e.z (f.add (d.toNat*8)) g/\A2 e [.z g] 3 λf g=>∃h i,aM qe [22,22] 22 c.v (.slice (S f.p) 1 1) g h i/\b h (qf.wrap (d+1)) i else Dr e λb=>∃d,a=S d/\∃a,b.s d a/\K c (V ((a.len:O)>0)) b)->b c d e)->b d 0 f):=aj func59 (.v (.v (.y (.v (.x (.t (S [(4,.c .s),(5,.c (.i .i64))]) (.y (.v .w) (.x .w)) .u))) .g18)))
theorem Wk{a b c d e f g h i j K w}:Fr (Tt a b c d e f g h i j K w) (A2 w [.z c,.y d,.y e,.y f,.y g,.y h,.bool i] 274 λc d=>A2 d [.bool G,.z 0,.z 0,.z 0,.y 0,.y 0,.y 0,.y 0,.y 0,.bool G] 303 λd e=>QY a b (λe f=>bif e then aB f d.p 0 [.bool G,.z 0,.z 0,.z 0,.y 0,.y 0,.y 0,.y 0,.y 0,.bool G] λe=>ax e d.p 0 [.b,.o,.o,.o,.u,.u,.u,.u,.u,.b] λ(g:W)(h i k l m n o p:O)(q:W)=>K g h i k l m n o p q 110 e else ∃e,a=S e/\∃g,f.s (e.add 1) g/\bif V ((g.len:O)>0)then ∃e,a=S e/\∃g,f.s (e.add 1) g/\∃e,g.a=S e/\(0:O)<=0/\0<(g.len:O)/\∃g,f.z (e.add ((0:O).toNat*1)) g/\A2 f [] 3 λe h=>∃i,a=S i/\∃k,h.s (i.add 1) k/\(0:O)<=1/\1<=(k.len:O)/\∃i l,aM qe [22,22] 22 (.slice (S e.p) 0 0) (.slice (eU k.a ((1:O).toNat) k.cap 1) (k.len-((1:O).toNat)) (k.cap-((1:O).toNat))) h i l/\∃e,a=S e/\St l (e.add 1) i.v λe=>ax e c.p 0 [.o,.u,.u,.u,.u,.u,.b] λ(h i k l m n:O)(o:W)=>aB e d.p 0 [.bool Z,.z b,.z g,.z h,.y i,.y k,.y l,.y m,.y n,.bool o] λe=>ax e d.p 0 [.b,.o,.o,.o,.u,.u,.u,.u,.u,.b] λ(g:W)(h i k l m n o p:O)(q:W)=>K g h i k l m n o p q 0 e else bif j then Dr f λe=>∃g,a=S g/\∃h,e.s g h/\ax e c.p 0 [.o,.u,.u,.u,.u,.u,.b] λ(c g i j k l:O)(m:W)=>(A2 e [.z b,.z c,.y g,.y i,.y j,.y k,.y l,.bool m] 276 λb c=>(∃e f,aM qe [269,269] 269 h.v (.slice (S b.p) 1 1) c e f/\∃b,a=S b/\(St f b e.v λa=>aB a d.p 0 [.bool G,.z 0,.z 0,.z 0,.y 0,.y 0,.y 0,.y 0,.y 0,.bool G] λa=>ax a d.p 0 [.b,.o,.o,.o,.u,.u,.u,.u,.u,.b] λ(b:W)(c d e f g h i j:O)(k:W)=>K b c d e f g h i j k 0 a)/\I)/\I)/\I else aB f d.p 0 [.bool G,.z 0,.z 0,.z 0,.y 0,.y 0,.y 0,.y 0,.y 0,.bool G] λa=>ax a d.p 0 [.b,.o,.o,.o,.u,.u,.u,.u,.u,.b] λ(b:W)(c d e f g h i j:O)(k:W)=>K b c d e f g h i j k 0 a) e):=aj func183 (.v (.y (.v (.x .w)) (.y (.v (.x (.v (.v .w)))) (.y (.v (.x .g15)) .w))))
theorem Wl{a b c K w}:Fr (Tu a b c K w) (A2 w [.bool G,.z 0,.z 0,.z 0,.y 0,.y 0,.y 0,.y 0,.y 0,.bool G] 303 λd e=>QY a b (λe f=>bif e then aB f d.p 0 [.bool G,.z 0,.z 0,.z 0,.y 0,.y 0,.y 0,.y 0,.y 0,.bool G] λe=>ax e d.p 0 [.b,.o,.o,.o,.u,.u,.u,.u,.u,.b] λ(g:W)(h i j k l m n o:O)(p:W)=>K g h i j k l m n o p 110 e else ∃e,a=S e/\∃g,f.s e g/\bif V ((g.len:O)>0)then ∃e,a=S e/\∃g,f.s e g/\∃e,g.a=S e/\(0:O)<=0/\0<(g.len:O)/\ax f (e.add ((0:O).toNat*8)) 0 [.o,.o,.u,.u,.u,.u,.u,.b] λ(e g h i j k l:O)(m:W)=>A2 f [.z 0,.z 0,.y 0,.y 0,.y 0,.y 0,.y 0,.bool G] 276 λn o=>aB o n.p 0 [.z e,.z g,.y h,.y i,.y j,.y k,.y l,.bool m] λe=>A2 e [] 276 λe g=>∃h,a=S h/\∃i,g.s h i/\(0:O)<=1/\1<=(i.len:O)/\∃h j,aM qe [269,269] 269 (.slice (S e.p) 0 0) (.slice (eU i.a ((1:O).toNat) i.cap 8) (i.len-((1:O).toNat)) (i.cap-((1:O).toNat))) g h j/\∃e,a=S e/\St j e h.v λe=>∃g,e.z n.p g/\ax e (n.p.add 1) 0 [.o,.u,.u,.u,.u,.u,.b] λ(h i j k l m:O)(n:W)=>aB e d.p 0 [.bool Z,.z g,.z b,.z h,.y i,.y j,.y k,.y l,.y m,.bool n] λe=>ax e d.p 0 [.b,.o,.o,.o,.u,.u,.u,.u,.u,.b] λ(g:W)(h i j k l m n o:O)(p:W)=>K g h i j k l m n o p 0 e else bif c then ∃c,a=S c/\∃e,f.s (c.add 1) e/\A2 f [.z b] 3 λb c=>∃g h,aM qe [22,22] 22 e.v (.slice (S b.p) 1 1) c g h/\∃b,a=S b/\St h (b.add 1) g.v λa=>aB a d.p 0 [.bool G,.z 0,.z 0,.z 0,.y 0,.y 0,.y 0,.y 0,.y 0,.bool G] λa=>ax a d.p 0 [.b,.o,.o,.o,.u,.u,.u,.u,.u,.b] λ(b:W)(c e g h i j k l:O)(m:W)=>K b c e g h i j k l m 0 a else aB f d.p 0 [.bool G,.z 0,.z 0,.z 0,.y 0,.y 0,.y 0,.y 0,.y 0,.bool G] λa=>ax a d.p 0 [.b,.o,.o,.o,.u,.u,.u,.u,.u,.b] λ(b:W)(c d e f g h i j:O)(k:W)=>K b c d e f g h i j k 0 a) e):=aj func184 (.v (.y (.v (.x .w)) (.y (.v (.x (.v (.v .w)))) (.y (.v .w) .w))))
theorem Wm{a b K w}:Fr (T6 a b K w) (QY a b (λc d=>bif !c then K G d else A2 d [] 276 λc d=>A2 d [] 3 λd e=>∀f:Sl->O->Pw,(∀(c:Sl)(e:O)(g:J),(∃h,a=S h/\∃i,g.s h i/\bif V (e<(i.len:O))then ∃h,a=S h/\∃i,g.s h i/\∃h,i.a=S h/\0<=e/\e<(i.len:O)/\∃i,g.z (h.add (e.toNat*8)) i/\bif i !=b then ∃h,a=S h/\∃i,g.s h i/\∃h,i.a=S h/\0<=e/\e<(i.len:O)/\ax g (h.add (e.toNat*8)) 0 [.o,.o,.u,.u,.u,.u,.u,.b] λ(h i j k l m n:O)(o:W)=>A2 g [.z h,.z i,.y j,.y k,.y l,.y m,.y n,.bool o] 276 λh i=>∃j k,aM qe [269,269] 269 c.v (.slice (S h.p) 1 1) i j k/\f j (qf.wrap (e+1)) k else f c (qf.wrap (e+1)) g else ∀e:Sl->O->Pw,(∀(d:Sl)(f:O)(g:J),(∃h,a=S h/\∃i,g.s (h.add 1) i/\bif V (f<(i.len:O))then ∃h,a=S h/\∃i,g.s (h.add 1) i/\∃h,i.a=S h/\0<=f/\f<(i.len:O)/\∃i,g.z (h.add (f.toNat*1)) i/\bif i !=b then ∃b,a=S b/\∃h,g.s (b.add 1) h/\∃b,h.a=S b/\0<=f/\f<(h.len:O)/\∃h,g.z (b.add (f.toNat*1)) h/\A2 g [.z h] 3 λb h=>∃i j,aM qe [22,22] 22 d.v (.slice (S b.p) 1 1) h i j/\e i (qf.wrap (f+1)) j else e d (qf.wrap (f+1)) g else ∃b,a=S b/\St g b c.v λb=>∃c,a=S c/\St b (c.add 1) d.v λa=>K Z a)->e d f g)->e ⟨S d.p,0,0⟩ 0 g)->f c e g)->f ⟨S c.p,0,0⟩ 0 e) w):=aj func288 (.v (.y (.v (.x .w)) (.v (.y (.v (.x (.t (S [(5,.c .s),(7,.c (.i .i64))]) .HN .u))) (.y (.v (.x (.t (S [(6,.c .s),(8,.c (.i .i64))]) .HN .u))) (.v (.v .w)))))))
theorem Wn{a b K w}:Fr (QY a b K w) (∀c:O->Pw,(∀(d:O)(e:J),(∃f,a=S f/\∃g,e.s f g/\bif V (d<(g.len:O))then ∃f,a=S f/\∃g,e.s f g/\∃f,g.a=S f/\0<=d/\d<(g.len:O)/\∃g,e.z (f.add (d.toNat*8)) g/\bif g==b then K Z e else c (qf.wrap (d+1)) e else ∀c:O->Pw,(∀(d:O)(e:J),(∃f,a=S f/\∃g,e.s (f.add 1) g/\bif V (d<(g.len:O))then ∃f,a=S f/\∃a,e.s (f.add 1) a/\∃f,a.a=S f/\0<=d/\d<(a.len:O)/\∃a,e.z (f.add (d.toNat*1)) a/\bif a==b then K Z e else c (qf.wrap (d+1)) e else K G e)->c d e)->c 0 e)->c d e)->c 0 w):=aj func291 (.v (.y .KU .KS))
theorem Wo{a K w}:Fr (Rf a K w) (∀b:O->O->Pw,(∀(c d:O)(e:J),(∃f,a=S f/\∃g,e.s f g/\bif V (d<(g.len:O))then ∃f,a=S f/\∃g,e.s f g/\∃f,g.a=S f/\0<=d/\d<(g.len:O)/\∃g,e.y (f.add (d.toNat*1)) g/\b (FD .u64 c g) (qf.wrap (d+1)) e else Dr e λb=>∃d,a=S d/\∃a,b.s d a/\K c (V ((a.len:O)>0)) b)->b c d e)->b 0 0 w):=aj func62 (.v (.v (.y (.v (.x (.t (S [(4,.c (.i .u64)),(5,.c (.i .i64))]) (.y (.v .w) (.x .w)) .u))) .g18)))
theorem Wp{a b c K w}:Fr (Ts a b c K w) (∀d:O->Pw,(∀(e:O)(f:J),(∃g,a=S g/\∃h,f.s (g.add 1) h/\bif V (e<(h.len:O))then ∃g,a=S g/\∃h,f.s (g.add 1) h/\∃g,h.a=S g/\0<=e/\e<(h.len:O)/\∃h,f.z (g.add (e.toNat*1)) h/\bif h==b then K 0 G 120 f else d (qf.wrap (e+1)) f else Rf a (λd e f=>bif e then ∃e,a=S e/\St f e (.slice N 0 0) λe=>K d Z 0 e else bif c then ∃c,a=S c/\∃d,f.s (c.add 1) d/\A2 f [.z b] 3 λb c=>∃e g,aM qe [22,22] 22 d.v (.slice (S b.p) 1 1) c e g/\∃b,a=S b/\St g (b.add 1) e.v λa=>K 0 G 0 a else K 0 G 0 f) f)->d e f)->d 0 w):=aj func181 (.v (.y (.v (.x (.t (S [(9,.c (.i .i64))]) .JQ .u))) (.v (.y (.v (.x (.v .w))) (.y (.v .w) .w)))))
theorem Wq{a b K w}:Fr (TB a b K w) (∃c,a=S c/\∃d,w.s (c.add 1) d/\bif V ((d.len:O)>0)then ∃c,a=S c/\∃d,w.s (c.add 1) d/\∃c,d.a=S c/\(0:O)<=0/\0<(d.len:O)/\∃d,w.z (c.add ((0:O).toNat*1)) d/\A2 w [] 3 λc e=>∃f,a=S f/\∃g,e.s (f.add 1) g/\(0:O)<=1/\1<=(g.len:O)/\∃f h,aM qe [22,22] 22 (.slice (S c.p) 0 0) (.slice (eU g.a ((1:O).toNat) g.cap 1) (g.len-((1:O).toNat)) (g.cap-((1:O).toNat))) e f h/\∃c,a=S c/\St h (c.add 1) f.v λc=>K d b Z c else ∃c,a=S c/\∃d,w.s c d/\A2 w [.y b] 39 λb c=>∃e f,aM qe [278,278] 278 d.v (.slice (S b.p) 1 1) c e f/\∃b,a=S b/\St f b e.v λa=>K 0 0 G a):=aj func196 (.v (.y (.v (.x (.v (.v .w)))) (.v .w)))
theorem Wr{a b K w}:Fr (T8 a b K w) (A2 w [] 3 λc d=>∀e:Sl->O->Pw,(∀(c:Sl)(d:O)(f:J),(∃g,a=S g/\∃h,f.s (g.add 1) h/\bif V (d<(h.len:O))then ∃g,a=S g/\∃h,f.s (g.add 1) h/\∃g,h.a=S g/\0<=d/\d<(h.len:O)/\∃h,f.z (g.add (d.toNat*1)) h/\bif h !=b then ∃b,a=S b/\∃g,f.s (b.add 1) g/\∃b,g.a=S b/\0<=d/\d<(g.len:O)/\∃g,f.z (b.add (d.toNat*1)) g/\A2 f [.z g] 3 λb g=>∃h i,aM qe [22,22] 22 c.v (.slice (S b.p) 1 1) g h i/\e h (qf.wrap (d+1)) i else e c (qf.wrap (d+1)) f else ∃b,a=S b/\∃d,f.s (b.add 1) d/\∃b,a=S b/\St f (b.add 1) c.v λa=>K (V ((c.len:O)<(d.len:O))) a)->e c d f)->e ⟨S c.p,0,0⟩ 0 d):=aj func289 (.v (.v (.y .J6 (.v (.v .w)))))
theorem Ws{a K w}:Fr (Sq a K w) (∀b:W->Pw,(∀(c:W)(d:J),(bif c then K N 1 d else ∃(b:Sl)(c:J),km qe 263 (.z a) (.z a) d b c/\A2 c [b.v] 265 λa b=>K (S a.p) 0 b)->b c d)->(bif V (a<1)then b Z w else b (V (a>64)) w)):=aj func46 .Ka
theorem Wu{a b K w}:Fr (SG a b K w) (QH a b (λc d=>bif !c then K 0 0 G 130 d else ∃c,a=S c/\∃e,d.s c e/\∃c,e.a=S c/\0<=b/\b<(e.len:O)/\ax d (c.add (b.toNat*5)) 0 [.b,.o,.u,.b,.b] λ(c:W)(e f:O)(g h:W)=>A2 d [.bool G,.z 0,.y 0,.bool G,.bool G] 320 λd i=>aB i d.p 0 [.bool c,.z e,.y f,.bool g,.bool h] λc=>∃e,c.b d.p e/\bif !e then K 0 0 G 0 c else ∃e,c.b (d.p.add 3) e/\bif e then ∃e,a=S e/\∃f,c.s e f/\∃e,f.a=S e/\0<=b/\b<(f.len:O)/\St c ((e.add (b.toNat*5)).add 3) (.bool G) λe=>Dr e λe=>∃f,e.z (d.p.add 1) f/\∃g,e.y (d.p.add 2) g/\K f g Z 0 e else ∃d,a=S d/\∃a,c.s d a/\∃d,a.a=S d/\0<=b/\b<(a.len:O)/\St c ((d.add (b.toNat*5)).add 4) (.bool Z) λa=>K 0 0 G 0 a) w):=aj func77 (.v (.y (.v (.x .w)) (.v (.y (.v (.x .w)) .g17))))
theorem Wv{a b c d K w}:Fr (Ty a b c d K w) (QH a b (λe f=>bif !e then K 130 f else bif V (c<0)then K 1 f else ∃e,a=S e/\∃g,f.s e g/\∃e,g.a=S e/\0<=b/\b<(g.len:O)/\∃g,f.b (e.add (b.toNat*5)) g/\bif g then K 131 f else ∃e,a=S e/\∃a,f.s e a/\∃e,a.a=S e/\0<=b/\b<(a.len:O)/\aB f (e.add (b.toNat*5)) 0 [.bool Z,.z c,.y d,.bool Z,.bool G] λa=>K 0 a) w):=aj func190 (.v (.y (.v (.x .w)) (.y (.v (.x .w)) .H9)))
theorem Ww{a b K w}:Fr (Tz a b K w) (QH a b (λc d=>bif !c then K 0 0 G 130 d else ∃c,a=S c/\∃e,d.s c e/\∃c,e.a=S c/\0<=b/\b<(e.len:O)/\ax d (c.add (b.toNat*5)) 0 [.b,.o,.u,.b,.b] λ(c:W)(e f:O)(g h:W)=>A2 d [.bool G,.z 0,.y 0,.bool G,.bool G] 320 λd i=>aB i d.p 0 [.bool c,.z e,.y f,.bool g,.bool h] λc=>∀e:W->Pw,(∀(c:W)(f:J),(bif c then K 0 0 G 0 f else ∃c,f.b (d.p.add 4) c/\bif c then ∃c,a=S c/\∃e,f.s c e/\∃c,e.a=S c/\0<=b/\b<(e.len:O)/\St f ((c.add (b.toNat*5)).add 4) (.bool G) λc=>Dr c λc=>∃e,c.z (d.p.add 1) e/\∃g,c.y (d.p.add 2) g/\K e g Z 0 c else ∃c,a=S c/\∃a,f.s c a/\∃c,a.a=S c/\0<=b/\b<(a.len:O)/\St f ((c.add (b.toNat*5)).add 3) (.bool Z) λa=>K 0 0 G 0 a)->e c f)->(∃a,c.b d.p a/\bif !a then e Z c else ∃a,c.b (d.p.add 3) a/\e a c)) w):=aj func191 (.v (.y (.v (.x .w)) (.v (.y .Kd .g17))))
theorem Wx{a b K w}:Fr (QH a b K w) (bif V (b>=0)then ∃c,a=S c/\∃a,w.s c a/\K (V (b<(a.len:O))) w else K G w):=aj func195 (.v .w)
theorem CV{T el:qi}{inf:qL}{zv:Q}{c:X}{k:Sl->Pw}[abw:cu s L α E xs]
  (hu:P.underlying T=S (.slice el)) (hi:P.info? el=S inf) (hz:inf.zero=S zv) (hsz:inf.size=E.z) (hzc:zv.cells.size=E.z) (hb:1<=inf.bytes)
  (h:Ow B w0 w (aa c []::L)) (hbig:(17*xs.length+16000)*inf.bytes<=2^48) (hk:∀s' w',Ow B w0 w' (af E s' xs::L)->k s' w'):
  ∃s' w',aM P [T,T] T (.slice (S c.p) 0 0) s.v w s' w'/\k s' w':=by
 have hlen:=h.aL s;have h2:Ow B w0 w (af E ⟨S c.p,0,0⟩ []::L):=Ow.empty h;exact Ow.app (s:=⟨S c.p,0,0⟩) (xs:=[]) (ys:=xs) hu hi hz hsz hzc hb h2 0 U (h2.sR (abw.i+1) (by simpa using abw.at_)) hlen (by simpa using hbig) λs' w _ h=>hk _ w h
theorem tX{T el:qi}{inf:qL}{zv:Q}{c:X}{k:Sl->Pw}[abw:cu s L α E (x::r)]
  (hu:P.underlying T=S (.slice el)) (hi:P.info? el=S inf) (hz:inf.zero=S zv) (hsz:inf.size=E.z) (hzc:zv.cells.size=E.z) (hb:1<=inf.bytes)
  (h:Ow B w0 w (aa c []::L)) (hbig:(17*r.length+16000)*inf.bytes<=2^48) (hk:∀s' w',Ow B w0 w' (af E s' r::L)->k s' w'):
  ∃s' w',aM P [T,T] T (.slice (S c.p) 0 0) (.slice (eU s.a ((1:O).toNat) s.cap E.z) (s.len-((1:O).toNat)) (s.cap-((1:O).toNat))) w s' w'/\k s' w':=by
 have hlen:=h.aL s;simp only[LL]at hlen;have h2:Ow B w0 w (af E ⟨S c.p,0,0⟩ []::L):=Ow.empty h;have hy:=(h2.sR (abw.i+1) (by simpa using abw.at_)).sub (l:=1) (hh:=s.len) om (Lv _);rw[Lz (by rw[aN,hlen];simp),List.flatMap_cons,Nat.one_mul,<-E.len x,List.drop_left]at hy;rw[E.len x]at hy;show ∃s' w',aM P [T,T] T (.slice (S c.p) 0 0) (.slice (eU s.a 1 s.cap E.z) (s.len-1) (s.cap-1)) w s' w'/\k s' w';exact Ow.app (s:=⟨S c.p,0,0⟩) (x:=⟨eU s.a 1 s.cap E.z,s.len-1,s.cap-1⟩) (xs:=[]) (ys:=r) hu hi hz hsz hzc hb h2 0 U hy (by show s.len-1=_;omega) (by simpa using hbig) λs' w _ h=>hk _ w h
abbrev rl(s:Sl):Q:= s.v
def vw:dT O:=⟨1,λo=>[.y o],λ_=>rfl,λx v h=>by simp at h;subst h;rfl,Lv _⟩
def wD(l:Y O):O:=l.foldl (λa b=>FD .u64 a b) 0
structure Ap(abz:X)(n:nO)(D:Y O):Prop where
 word:n.word=wD D
 is:n.is= !D.isEmpty
 eC:D.length<=abz
 GX:n.l.length<=1000000
def bQ(abz b:X)(n:nO):aH:=sB λx:(Sl × Sl)× Y O=>cj [dh (Ap abz n x.2),aa b [rl x.1.1,rl x.1.2],af vw x.1.1 x.2,af aq x.1.2 n.l]
end
section
variable{abz B:X}{w0 w:J}{R L:Y aH}{b:X}{n:nO}{s t:Sl}{D:Y O}
theorem rX(h:Ow B w0 w (bQ abz b n::R)):∃s t D,Ap abz n D/\Ow B w0 w (aa b [rl s,rl t]::af vw s D::af aq t n.l::R):=by obtain⟨⟨⟨s,t⟩,D⟩,h⟩:=h.ex;obtain⟨h1,h⟩:=Ow.pure h.star;exact⟨s,t,D,h1,h⟩
theorem fm(h1:Ap abz n D)(h:Ow B w0 w (aa b [rl s,rl t]::af vw s D::af aq t n.l::R)):Ow B w0 w (bQ abz b n::R):=Ow.fk ((s,t),D) (Ow.bW (Ow.cT h1 h))
theorem uO{M:X}(hm:abz<=M)(h:Ow B w0 w (bQ abz b n::R)):Ow B w0 w (bQ M b n::R):=by obtain⟨s,t,D,h1,h⟩:=rX h;exact fm ⟨h1.word,h1.is,by have:=h1.eC;omega,h1.GX⟩ h
theorem DP(h:Ow B w0 w (aa b [.slice N 0 0,.slice N 0 0]::R)):Ow B w0 w (bQ abz b ⟨0,G,[]⟩::R):=
 fm (s:=z0) (t:=z0) (D:=[]) ⟨U,U,MN _,MN _⟩ (Ow.sub (Ow.cZ (E:=vw) (Ow.cZ (E:=aq) h)))
theorem uH{K:O->W->Pw}(hN:abz<=1000000)(h:Ow B w0 w (bQ abz b n::R))(hK:∀w',Ow B w0 w' (bQ abz b n::R)->K n.word n.is w'):Rf b.o K w:=by
 apply Wo;obtain⟨s,t,D,h1,h⟩:=rX h;have hl:=h.aL s;have hf:=h1.eC;intro l hL;have loop:∀(m j:X)(w:J),j+m=D.length->Ow B w0 w (aa b [rl s,rl t]::af vw s D::af aq t n.l::R)->l (wD (D.take j)) (j:O) w:=by
  intro m;induction m with
  |zero=>
   intro j w hj h;apply hL;refine⟨_,U,s,h.aF U,aw om (h.dr λw h=>⟨_,U,s,h.aF U,?_⟩)⟩
   have hK2:=hK w (fm h1 h);rw[h1.word,h1.is]at hK2;rw[Lz om,show V ((s.len:O)>0)= !D.isEmpty from by rw[hl];cases D<;>simp];exact hK2
  |succ m ih=>
   intro j w hj h;have hx:D[j]?=S D[j]:=gE om;apply hL;refine⟨_,U,s,h.aF U,az om ⟨_,U,s,h.aF U,h.cz (s:=s) U hx λa ha h0 hc=>⟨_,h0 _ U,?_⟩⟩⟩;rw[wr om om];have e:FD .u64 (wD (D.take j)) D[j]=wD (D.take (j+1)):=by unfold wD;rw[LJ,hx,P1];rfl
   rw[e];exact ih (j+1) w om h
 exact loop D.length 0 w om h
theorem By{who:O}{wt:W}{K:O->W->O->Pw}(hN:abz<=1000000)(hbig:n.l.length<1000000)(h:Ow B w0 w (bQ abz b n::R))
  (hK:∀w',Ow B w0 w' (bQ abz b (n.wait who wt).2::R)->K (n.wait who wt).1.1 (n.wait who wt).1.2.1 (n.wait who wt).1.2.2 w'):Ts b.o who wt K w:=by
 apply Wp;obtain⟨s,t,D,h1,h⟩:=rX h;have hl:=h.aL t;unfold nO.wait at hK;intro l hL;have loop:∀(m j:X)(w:J),j+m=n.l.length->(∀i y,i<j->n.l[i]?=S y->y≠who)->Ow B w0 w (aa b [rl s,rl t]::af vw s D::af aq t n.l::R)->l (j:O) w:=by
  intro m;induction m with
  |zero=>
   intro j w hj hno h;apply hL;refine⟨_,U,t,h.aF U,aw om ?_⟩;have ht:(n.l.any λx=>who==x)=false:=by rw[Ny];intro y hy;obtain⟨i,hi⟩:=Mp.1 hy;have:=hno i y (by have:=(Lu.1 hi).1;omega) hi;simp only[qH];omega
   rw[ht,F qc]at hK;refine uH hN (fm h1 h) λw h=>?_;obtain⟨s,t,D,h1,h⟩:=rX h;cases hi:n.is with
   |true=>
    rw[hi]at hK;refine bh U ⟨_,U,?_⟩;refine h.jH U U λw h=>?_;have hK:∀w',Ow B w0 w' (bQ abz b { n with word:=0,is:=G}::R)->K n.word Z 0 w':=hK;exact hK w (fm (n:={ n with word:=0,is:=G}) (s:=z0) (t:=t) (D:=[]) ⟨U,U,MN _,h1.GX⟩ (Ow.sub (Ow.cZ (E:=vw) h)))
   |false=>
    rw[hi]at hK;refine bc U ?_;cases wt with
    |true=>
     refine bh U ⟨_,U,t,h.aF U,?_⟩;refine h.a λd w2 h=>?_;have hK:∀w',Ow B w0 w' (bQ abz b ⟨n.word,G,n.l++ [who]⟩::R)->K 0 G 0 w':=hK;refine eo (s:=t) (y:=who) h om λt' w ht' h=>⟨_,U,?_⟩
     refine h.jH U U λw h=>?_;exact hK w (fm (s:=s) (t:=t') (D:=D) (n:=⟨n.word,G,n.l++ [who]⟩) ⟨h1.word,hi▸h1.is,h1.eC,by simp;omega⟩ h.sub)
    |false=>exact bc U (hK w (fm h1 h))
  |succ m ih=>
   intro j w hj hno h;have hx:n.l[j]?=S n.l[j]:=gE om;apply hL;refine⟨_,U,t,h.aF U,az om ⟨_,U,t,h.aF U,h.cz (s:=t) U hx λa ha h0 hc=>⟨_,h0 _ U,?_⟩⟩⟩;by_cases e:n.l[j]=who
   .have ht:(n.l.any λx=>who==x)=true:=Na.2 ⟨n.l[j],Mq _,by simp[e]⟩
    rw[ht]at hK;exact og e (hK w (fm h1 h))
   .refine nQ e ?_
    rw[wr om om];refine ih (j+1) w om (λi y hi hy=>?_) h;by_cases e2:i=j
    .subst e2;rw[hx]at hy;cases hy;exact e
    .exact hno i y om hy
 exact loop n.l.length 0 w om (λi y hi=>by omega) h
theorem xP{g:O}{K:O->O->W->Pw}(hN:abz<1000000)(h:Ow B w0 w (bQ abz b n::R))
  (hK:∀w',Ow B w0 w' (bQ (abz+1) b (n.bm g).2::R)->K ((n.bm g).1.getD 0) (if(n.bm g).1.isSome then g else 0) (n.bm g).1.isSome w'):TB b.o g K w:=by
 apply Wq;obtain⟨s,t,D,h1,h⟩:=rX h;have hl:=h.aL t;have hf:=h1.eC;have hlf:=h1.GX;unfold nO.bm at hK;refine⟨_,U,t,h.aF U,?_⟩;cases hn:n.l with
 |nil=>
  rw[hn]at hK hl;refine aw (by simp at hl;omega) ⟨_,rfl,s,h.aF U,?_⟩;refine h.a λd w2 h=>?_;refine Ow.eL (s:=s) (E:=vw) (y:=g) aaX (el:=39) (inf:=aaG) qa (zv:= .y 0) qa qa U qb h (by rw[show aaG.bytes=8 from by kernel_rfl];omega) λs' w hs' h=>⟨_,U,?_⟩
  refine h.jH U U λw h=>?_;refine hK w (fm (s:=s') (t:=t) (D:=D++ [g]) (n:=⟨FD .u64 n.word g,Z,[]⟩) ⟨?_,?_,?_,?_⟩ ?_)
  .unfold wD
   rw[P1,h1.word];rfl
  .show Z=_
   simp
  .simp;omega
  .simp
  .rw[hn]at h;exact h.sub
 |cons x r=>
  rw[hn]at hK hl h;simp only[LL]at hl;rw[hn]at hlf;simp only[LL]at hlf;refine az om ⟨_,U,t,h.aF U,?_⟩;refine h.cz (s:=t) (i:=0) (j:=0) U U λa ha hc0 hc=>⟨_,hc0 _ U,?_⟩
  refine h.a λd w2 h=>?_;refine⟨_,U,t,h.aF U,om,om,tX (s:=t) (E:=aq) (x:=x) (r:=r) qG nv (zv:= .z 0) qa qa U qb h (by rw[ml];omega) λt' w h=>⟨_,U,?_⟩⟩
  refine h.jH U U λw h=>?_;exact hK w (fm (s:=s) (t:=t') (D:=D) (n:={ n with l:=r}) ⟨h1.word,h1.is,om,by show r.length<=_;omega⟩ h.sub)
theorem vF{who:O}{K:W->Pw}(h:Ow B w0 w (bQ abz b n::R))(hK:∀r w',Ow B w0 w' (bQ abz b (n.cancel who)::R)->K r w'):T8 b.o who K w:=by
 apply Wr;obtain⟨s,t,D,h1,h⟩:=rX h;have hl:=h.aL t;have hlf:=h1.GX;refine h.a λc w1 h=>?_;have h:Ow B w0 w1 (af aq ⟨S c.p,0,0⟩ []::_):=Ow.empty h;intro l hL;have loop:∀(m j:X)(o:Sl)(w:J),j+m=n.l.length->Ow B w0 w (af aq o ((n.l.take j).filter λx=> !(x==who))::aa b [rl s,rl t]::af vw s D::af aq t n.l::R)->l o (j:O) w:=by
  intro m;induction m with
  |zero=>
   intro j o w hj h;apply hL;refine⟨_,U,t,h.aF U,aw om ⟨_,U,t,h.aF U,_,U,?_⟩⟩;rw[Lz om]at h;refine h.jH U U λw h=>?_;exact hK _ w (fm (s:=s) (t:=o) (D:=D) (n:=n.cancel who) ⟨h1.word,h1.is,h1.eC,LY (L6 _ _) hlf⟩ (h.sub:Ow B w0 w (aa b [rl s,rl o]::af vw s D::af aq o (n.l.filter λx=> !(x==who))::R)))
  |succ m ih=>
   intro j o w hj h;have hx:n.l[j]?=S n.l[j]:=gE om;have ht:n.l.take (j+1)=n.l.take j++ [n.l[j]]:=by rw[LJ,hx];rfl
   apply hL;refine⟨_,U,t,h.aF U,az om ⟨_,U,t,h.aF U,h.cz (s:=t) U hx λa ha h0 hc=>⟨_,h0 _ U,?_⟩⟩⟩;rw[wr om om];by_cases e:n.l[j]=who
   .refine fa e ?_
    refine ih (j+1) o w om ?_;rw[ht,Mi,Mc,show(!(n.l[j]==who))=G from by simp[e]];simpa using h
   .refine iv e ⟨_,U,t,h.aF U,a,ha,om,om,_,h0 _ U,?_⟩
    refine h.a λd w2 h=>?_;refine eo (s:=o) (y:=n.l[j]) h (LY (L6 _ _) (by rw[LX];omega)) λo' w ho' h=>?_;refine ih (j+1) o' w om ?_;rw[ht,Mi,Mc,show(!(n.l[j]==who))=Z from by simp[e],qd U,M8];exact h.sub
 exact loop n.l.length 0 _ w1 om h
theorem Wy{a b c d e f K w}:Fr (QK a b c d e f K w) (A2 w [.z a,.z b,.z c,.y d,.y e,.z f] 157 λa b=>∀c:W->Pw,(∀(b:W)(d:J),(ax d a.p 0 [.o,.o,.o,.u,.u,.o] λ(c e f g h i:O)=>∃j,vl qe .eql 157 (.tmp 35) (.tmp 36) (.agg #[.z c,.z e,.z f,.y g,.y h,.z i]) (.agg #[.z 0,.z 0,.z 0,.y 0,.y 0,.z 0]) j/\bif j then K 0 d else ∀c:W->Pw,(∀(b:W)(d:J),(bif b then K 40 d else ∀b:W->Pw,(∀(c:W)(d:J),(bif c then bif c then K 40 d else K 0 d else ∃b,d.z (a.p.add 5) b/\bif b !=0 then ∃b,d.z a.p b/\bif b !=2 then K 40 d else K 0 d else K 0 d)->b c d)->(∃c,d.y (a.p.add 3) c/\bif c !=0 then ∃c,d.z a.p c/\RL c (λa c=>b (!a) c) d else b G d))->c b d)->(bif !b then c (!b) d else ∃b,d.z a.p b/\RK b (λb d=>bif !b then ∃b,d.z (a.p.add 2) b/\c (b !=7) d else c G d) d))->c b d)->(∃d,b.z a.p d/\bif V (d>0)then ∃d,b.z a.p d/\bif V (d<10)then ∃d,b.z (a.p.add 1) d/\bif V (d>=0)then ∃d,b.z (a.p.add 1) d/\bif V (d<2147483648)then ∃d,b.z (a.p.add 2) d/\RJ d (λb d=>bif b then ∃b,d.y (a.p.add 4) b/\∃e,d.z (a.p.add 5) e/\Ub b e (λa b=>c a b) d else c G d) b else c G b else c G b else c G b else c G b)):=aj func229 (.v (.y (.r (S [(3,.c .b)]) .done) (.y (.x (.v (.y .w (.y (.v (.t (S [(38,.c .b)]) .u .u)) (.y .w (.y (.y (.r (S [(50,.c .b)]) .done) .w) (.x .w))))))) .w)))
theorem Wz{a b c d e f g h K w}:Fr (RA a b c d e f g h K w) (A2 w [.z a,.z b,.z c,.y d,.y e,.z f] 157 λa b=>A2 b [.z 0,.z 0,.z 0,.y 0,.y 0,.z 0] 157 λb c=>ax c a.p 0 [.o,.o,.o,.u,.u,.o] λ(d e f i j k:O)=>QK d e f i j k (λc d=>bif c !=0 then aB d b.p 0 [.z 0,.z 0,.z 0,.y 0,.y 0,.z 0] λe=>ax e b.p 0 [.o,.o,.o,.u,.u,.o] λ(f i j k l m:O)=>K f i j k l m c e else RJ g (λc d=>bif !c then aB d b.p 0 [.z 0,.z 0,.z 0,.y 0,.y 0,.z 0] λc=>ax c b.p 0 [.o,.o,.o,.u,.u,.o] λ(e f i j k l:O)=>K e f i j k l 1 c else ∃c,d.z a.p c/\∀e:W->Pw,(∀(c:W)(d:J),(bif c then aB d b.p 0 [.z 0,.z 0,.z 0,.y 0,.y 0,.z 0] λc=>ax c b.p 0 [.o,.o,.o,.u,.u,.o] λ(e f i j k l:O)=>K e f i j k l 41 c else ∃c,d.z a.p c/\RK c (λc d=>∀e:Pw,(∀c:J,(bif h !=0 then St c (a.p.add 3) (.y h) λd=>ax d a.p 0 [.o,.o,.o,.u,.u,.o] λ(e f g h i j:O)=>aB d b.p 0 [.z e,.z f,.z g,.y h,.y i,.z j] λd=>ax d b.p 0 [.o,.o,.o,.u,.u,.o] λ(e f g h i j:O)=>K e f g h i j 0 d else ax c a.p 0 [.o,.o,.o,.u,.u,.o] λ(a d e f g h:O)=>aB c b.p 0 [.z a,.z d,.z e,.y f,.y g,.z h] λa=>ax a b.p 0 [.o,.o,.o,.u,.u,.o] λ(b c d e f g:O)=>K b c d e f g 0 a)->e c)->(bif c then ∃b,d.z (a.p.add 2) b/\St d (a.p.add 2) (.z (di .i64 b g)) λa=>e a else e d)) d)->e c d)->(bif c==0 then e (c==0) d else bif h !=0 then ∃b,d.z a.p b/\RL b (λb c=>bif !b then e Z c else ∃b,c.y (a.p.add 3) b/\e (b !=0) c) d else e G d)) d) c):=aj func253 (.v (.v (.y (.x (.v (.y .w (.v (.y .w (.y (.v (.t (S [(21,.c .b)]) .u .u)) (.x .w))))))) (.y .Ji (.y (.v .w) .w)))))
theorem WA{a K w}:Fr (RJ a K w) (bif V (a>=0)then K (V (a<=7)) w else K G w):=aj func314 (.v .w)
theorem WB{a b K w}:Fr (Ub a b K w) (UB b (λb c d=>bif c==0 then K ((fE .u64 a b)==0) d else K G d) w):=aj func315 (.v (.v .w))
theorem WC{a K w}:Fr (RK a K w) (bif a==4 then K Z w else bif a==5 then K Z w else K (a==6) w):=aj func316 (.v .w)
theorem WD{a K w}:Fr (RL a K w) (bif a==4 then K Z w else K (a==5) w):=aj func317 (.v .w)
theorem WE{a b c d e f g h i j k l K w}:Fr (Ur a b c d e f g h i j k l K w) (A2 w [.z a,.z b,.z c,.y d,.y e,.z f] 157 λa b=>A2 b [.z g,.z h,.z i,.y j,.y k,.z l] 157 λb c=>∃d,c.z a.p d/\bif d !=0 then ∃d,c.z a.p d/\∃e,c.z b.p e/\bif d==e then ∃d,c.z (a.p.add 1) d/\∃a,c.z (b.p.add 1) a/\K (d==a) c else K G c else K G c):=aj func347 (.v .w)
theorem WG{a K w}:Fr (Ug a K w) (∀b:O->Pw,(∀(c:O)(d:J),(bif V (c<(a.len:O))then ∃e,a.a=S e/\0<=c/\c<(a.len:O)/\∃a,d.z (e.add (c.toNat*1)) a/\bif a !=0 then K a d else b (qf.wrap (c+1)) d else K 0 d)->b c d)->b 0 w):=aj func330 (.v .GR)
theorem WH{a b K w}:Fr (RQ a b K w) (RZ a (λc d=>RZ b (λd e=>bif c then bif d then K 0 e else K (-1) e else bif d then K 1 e else bif V (a<b)then K (-1) e else bif V (a>b)then K 1 e else K 0 e) d) w):=aj func331 (.v (.v (.v (.y (.v (.x (.y (.v (.x .w)) .w))) (.y (.v (.x .w)) (.y (.v (.x .w)) (.y (.v (.x .w)) .w)))))))
theorem WI{a K w}:Fr (RZ a K w) (K (a !=a) w):=aj func387 (.v .w)
theorem WJ{a K w}:Fr (SO a K w) (Dr w λb=>∃c,a=S c/\∃d,b.s c d/\∃c,a=S c/\∃a,b.b (c.add 1) a/\(TG d (λb d=>d.b (c.add 1) a/\(A2 d [b.v,.bool a] 333 λa b=>K (S a.p) b)/\I) b)/\I):=aj func86 (.v (.x (.z (.o 0 480 (.o 1 480 (.o 2 480 (.o 3 480 (.o 5 16 (.o 6 16 (.o 7 16 (.hold 8 16 3071 (.e 4 .Kl))))))))))))
theorem WK{a K w}:Fr (SZ a K w) (∃b,a=S b/\∃c,w.s b c/\∀b:Sl->O->Pw,(∀(d:Sl)(e:O)(f:J),(bif V (e<(c.len:O))then ∃g,c.a=S g/\0<=e/\e<(c.len:O)/\ax f (g.add (e.toNat*8)) 0 [.o,.o,.u,.u,.u,.u,.u,.b] λ(c g h i j k l:O)(m:W)=>A2 f [.z 0,.z 0,.y 0,.y 0,.y 0,.y 0,.y 0,.bool G] 331 λn o=>aB o n.p 0 [.z c,.z g,.y h,.y i,.y j,.y k,.y l,.bool m] λc=>∃g,c.z n.p g/\A2 c [.z g] 3 λc g=>∃h i,aM qe [22,22] 22 d.v (.slice (S c.p) 1 1) g h i/\b h (qf.wrap (e+1)) i else ∃b,a=S b/\∃a,f.b (b.add 1) a/\bif a then K d (V ((d.len:O)>0)) f else K d G f)->b d e f)->b z0 0 w):=aj func143 (.v (.v (.y (.v (.x (.t (S [(4,.c .s),(12,.c (.i .i64))]) .Ed .u))) .w)))
theorem WL{a b c d e f g h i j K w}:Fr (RB a b c d e f g h i j K w) (A2 w [.z c,.y d,.y e,.y f,.y g,.y h,.bool i] 274 λc d=>A2 d [.bool G,.z 0,.z 0,.z 0,.y 0,.y 0,.y 0,.y 0,.y 0,.bool G] 303 λd e=>RV a b (λe f=>bif e then aB f d.p 0 [.bool G,.z 0,.z 0,.z 0,.y 0,.y 0,.y 0,.y 0,.y 0,.bool G] λe=>ax e d.p 0 [.b,.o,.o,.o,.u,.u,.u,.u,.u,.b] λ(g:W)(h i k l m n o p:O)(q:W)=>K g h i k l m n o p q 110 e else RW a G (λe f g h i k l m n o=>A2 o [.z 0,.z 0,.y 0,.y 0,.y 0,.y 0,.y 0,.bool G] 331 λo p=>aB p o.p 0 [.z e,.z f,.y g,.y h,.y i,.y k,.y l,.bool m] λe=>bif n then ∃f,e.z o.p f/\ax e c.p 0 [.o,.u,.u,.u,.u,.u,.b] λ(g h i k l m:O)(n:W)=>aB e d.p 0 [.bool Z,.z b,.z f,.z g,.y h,.y i,.y k,.y l,.y m,.bool n] λf=>ax f d.p 0 [.b,.o,.o,.o,.u,.u,.u,.u,.u,.b] λ(g:W)(h i k l m n o p:O)(q:W)=>K g h i k l m n o p q 0 f else bif j then ax e c.p 0 [.o,.u,.u,.u,.u,.u,.b] λ(c f g h i j:O)(k:W)=>RX a b c f g h i j k Z (λa=>aB a d.p 0 [.bool G,.z 0,.z 0,.z 0,.y 0,.y 0,.y 0,.y 0,.y 0,.bool G] λa=>ax a d.p 0 [.b,.o,.o,.o,.u,.u,.u,.u,.u,.b] λ(b:W)(c d e f g h i j:O)(k:W)=>K b c d e f g h i j k 0 a) e else aB e d.p 0 [.bool G,.z 0,.z 0,.z 0,.y 0,.y 0,.y 0,.y 0,.y 0,.bool G] λa=>ax a d.p 0 [.b,.o,.o,.o,.u,.u,.u,.u,.u,.b] λ(b:W)(c d e f g h i j:O)(k:W)=>K b c d e f g h i j k 0 a) f) e):=aj func264 .K4
theorem WM{a b c K w}:Fr (RD a b c K w) (A2 w [.bool G,.z 0,.z 0,.z 0,.y 0,.y 0,.y 0,.y 0,.y 0,.bool G] 303 λd e=>RV a b (λe f=>bif e then aB f d.p 0 [.bool G,.z 0,.z 0,.z 0,.y 0,.y 0,.y 0,.y 0,.y 0,.bool G] λe=>ax e d.p 0 [.b,.o,.o,.o,.u,.u,.u,.u,.u,.b] λ(g:W)(h i j k l m n o:O)(p:W)=>K g h i j k l m n o p 110 e else RW a Z (λe f g h i j k l m n=>A2 n [.z 0,.z 0,.y 0,.y 0,.y 0,.y 0,.y 0,.bool G] 331 λn o=>aB o n.p 0 [.z e,.z f,.y g,.y h,.y i,.y j,.y k,.bool l] λe=>bif m then ∃f,e.z n.p f/\ax e (n.p.add 1) 0 [.o,.u,.u,.u,.u,.u,.b] λ(g h i j k l:O)(m:W)=>aB e d.p 0 [.bool Z,.z f,.z b,.z g,.y h,.y i,.y j,.y k,.y l,.bool m] λf=>ax f d.p 0 [.b,.o,.o,.o,.u,.u,.u,.u,.u,.b] λ(g:W)(h i j k l m n o:O)(p:W)=>K g h i j k l m n o p 0 f else bif c then RX a b 0 0 0 0 0 0 G G (λa=>aB a d.p 0 [.bool G,.z 0,.z 0,.z 0,.y 0,.y 0,.y 0,.y 0,.y 0,.bool G] λa=>ax a d.p 0 [.b,.o,.o,.o,.u,.u,.u,.u,.u,.b] λ(b:W)(c d e f g h i j:O)(k:W)=>K b c d e f g h i j k 0 a) e else aB e d.p 0 [.bool G,.z 0,.z 0,.z 0,.y 0,.y 0,.y 0,.y 0,.y 0,.bool G] λa=>ax a d.p 0 [.b,.o,.o,.o,.u,.u,.u,.u,.u,.b] λ(b:W)(c d e f g h i j:O)(k:W)=>K b c d e f g h i j k 0 a) f) e):=aj func267 .K4
theorem WN{K w}:Fr (Um K w) (A2 w [.slice N 0 0,.bool G] 333 λa b=>K (S a.p) b):=aj func341 (.v .w)
theorem WO{a b K w}:Fr (Ut a b K w) (A2 w [.z b] 3 λb c=>∃d,a=S d/\∃e,c.s d e/\∃d,a=S d/\∃f,c.s d f/\UJ f (.func (.func 405) #[] #[.pointer (S b.p)]) (λb c=>∃d,a=S d/\St c d b.v λb=>∃c,a=S c/\∃a,b.s c a/\K (V ((a.len:O)<(e.len:O))) b) c):=aj func351 (.v (.v (.v .w)))
theorem WQ{a b K w}:Fr (RV a b K w) (A2 w [.z b] 3 λb c=>∃d,a=S d/\∃a,c.s d a/\UK a (.func (.func 408) #[] #[.pointer (S b.p)]) (λa b=>K a b) c):=aj func353 (.v .w)
theorem WR{a b K w}:Fr (RW a b K w) (A2 w [.z 0,.z 0,.y 0,.y 0,.y 0,.y 0,.y 0,.bool G] 331 λc d=>∀e:W->Pw,(∀(b:W)(d:J),(bif b then aB d c.p 0 [.z 0,.z 0,.y 0,.y 0,.y 0,.y 0,.y 0,.bool G] λb=>ax b c.p 0 [.o,.o,.u,.u,.u,.u,.u,.b] λ(e f g h i j k:O)(l:W)=>K e f g h i j k l G b else ∃b,a=S b/\∃e,d.s b e/\∃b,e.a=S b/\(0:O)<=0/\0<(e.len:O)/\ax d (b.add ((0:O).toNat*8)) 0 [.o,.o,.u,.u,.u,.u,.u,.b] λ(b e f g h i j:O)(k:W)=>A2 d [.z 0,.z 0,.y 0,.y 0,.y 0,.y 0,.y 0,.bool G] 331 λd l=>aB l d.p 0 [.z b,.z e,.y f,.y g,.y h,.y i,.y j,.bool k] λb=>∃e,a=S e/\∃f,b.s e f/\UL f 0 1 (λb e=>∃f,a=S f/\St e f b.v λa=>ax a d.p 0 [.o,.o,.u,.u,.u,.u,.u,.b] λ(b d e f g h i:O)(j:W)=>aB a c.p 0 [.z b,.z d,.y e,.y f,.y g,.y h,.y i,.bool j] λa=>ax a c.p 0 [.o,.o,.u,.u,.u,.u,.u,.b] λ(b c d e f g h:O)(i:W)=>K b c d e f g h i Z a) b)->e b d)->(∃c,a=S c/\∃f,d.s c f/\bif (f.len:O)==0 then e Z d else ∃c,a=S c/\∃a,d.b (c.add 1) a/\e (!(a==b)) d)):=aj func354 (.v (.y (.y (.r (S [(20,.c .b)]) .done) (.x .w)) (.v (.v .w))))
theorem WS{a b c d e f g h i j K w}:Fr (RX a b c d e f g h i j K w) (A2 w [.z b,.z c,.y d,.y e,.y f,.y g,.y h,.bool i] 331 λb c=>Dr c λc=>∃d,a=S d/\∃e,c.s d e/\ax c b.p 0 [.o,.o,.u,.u,.u,.u,.u,.b] λ(b d f g h i k:O)(l:W)=>(A2 c [.z b,.z d,.y f,.y g,.y h,.y i,.y k,.bool l] 331 λb c=>(∃d f,aM qe [328,328] 328 e.v (.slice (S b.p) 1 1) c d f/\∃b,a=S b/\(St f b d.v λb=>∃c,a=S c/\(St b (c.add 1) (.bool j) λa=>K a)/\I)/\I)/\I)/\I):=aj func355 (.v (.z (.o 0 1022 (.o 1 8188 (.o 2 704 (.o 3 704 (.o 4 704 (.o 5 704 (.o 6 512 (.o 9 7552 (.e 7 (.e 8 (.o 10 0 (.o 11 0 (.e 12 (.o 13 0 (.o 14 0 (.e 15 .done))))))))))))))))))
theorem WT{a b c d e f g h i K w}:Fr (Vh a b c d e f g h i K w) (A2 w [.z a,.z b,.y c,.y d,.y e,.y f,.y g,.bool h] 331 λa b=>∃c,b.z a.p c/\∃a,b.z i a/\K (c==a) b):=aj func405 (.v .w)
theorem WU{a b c d e f g h i K w}:Fr (Vj a b c d e f g h i K w) (A2 w [.z a,.z b,.y c,.y d,.y e,.y f,.y g,.bool h] 331 λa b=>∃c,b.z a.p c/\∃a,b.z i a/\K (c==a) b):=aj func408 (.v .w)
structure eB where
 l:Y Wt
 dJ:W
deriving DecidableEq
structure Met where
 is:W
 EY:O
 to:O
 m:Eb
deriving DecidableEq
def iV:Met:=⟨G,0,0,Ad⟩
def eB.there(p:eB)(n:O):W:=p.l.any λo=>o.who==n
def eB.first(p:eB)(s:W):qh Wt × eB:=match p.l with
 | []=>(N,p)
 |o::r=>if p.dJ=s then(S o,{ p with l:=r})else(N,p)
def eB.send(p:eB)(n:O)(m:Eb)(waits:W):Met × O × eB:=
 if p.there n then(iV,110,p)else match p.first G with
 |(S o,p')=>(⟨Z,n,o.who,m⟩,0,p')
 |(N,_)=>(iV,0,if waits then⟨p.l++ [⟨n,m⟩],Z⟩else p)
def eB.recv(p:eB)(n:O)(waits:W):Met × O × eB:=
 if p.there n then(iV,110,p)else match p.first Z with
 |(S o,p')=>(⟨Z,o.who,n,o.m⟩,0,p')
 |(N,_)=>(iV,0,if waits then⟨p.l++ [⟨n,Ad⟩],G⟩else p)
def eB.cancel(p:eB)(n:O):eB:={ p with l:=p.l.filter λo=> !(o.who==n)}
def ck(b:X)(p:eB):aH:=sB λs:Sl=>cj [dh (p.l.length<=1000000),aa b [s.v,.bool p.dJ],af gj s p.l]
end
section
variable{B:X}{w0 w:J}{R L:Y aH}{b:X}{p:eB}{s t:Sl}
theorem Ow.C4(h:Ow B w0 w (ck b p::R)):∃s:Sl,p.l.length<=1000000/\Ow B w0 w (aa b [s.v,.bool p.dJ]::af gj s p.l::R):=by obtain⟨s,h⟩:=h.ex;obtain⟨h1,h⟩:=Ow.pure h.star;exact⟨s,h1,h⟩
theorem Ow.iZ{s:Sl}(h1:p.l.length<=1000000)(h:Ow B w0 w (aa b [s.v,.bool p.dJ]::af gj s p.l::R)):Ow B w0 w (ck b p::R):=
 Ow.fk s (Ow.bW (Ow.cT h1 h))
theorem IC{abz:Y aH}{c o:X}{l:Y Q}{v:Q}(h:Ow B w0 w (abz++aa c l::L))(hv:l[o]?=S v):w.cell? ⟨c,o,N⟩=S v:=by exact Ow.gr (b:=c) (o:=o) (l:=l) h abz.length (by rw[List.getElem?_append_right (Lv _),Nat.sub_self];rfl) hv
theorem pv{K:qh qg->Pw}(h:Ow B w0 w R)(hK:∀b w',Ow B w0 w' (ck b ⟨[],G⟩::R)->K b.o w'):Um K w:=by
 apply WN;refine h.al λw1 h=>?_;exact hK _ w1 (Ow.iZ (s:=z0) qc ((Ow.cZ h).perm (List.Perm.swap _ _ _)))
theorem iU{n:O}{K:W->Pw}(h:Ow B w0 w (ck b p::R))(hK:∀w',Ow B w0 w' (ck b p::R)->K (p.there n) w'):RV b.o n K w:=by
 apply WQ;obtain⟨s,hl,h⟩:=h.C4;refine h.a λc w1 h=>?_;refine⟨_,U,s,h.aF U,sX (s:=s) (xs:=p.l) (p:=λo=>o.who==n) h om (λy w aby h hQ=>?_) λw h=>?_⟩
 .refine bq ?_
  show Vj y.who y.m.label y.m.w0 y.m.w1 y.m.w2 y.m.w3 y.m.ay y.m.calls c.p aby w;apply WU;refine h.a λd w1 h=>?_;exact⟨_,h.aF U,_,h.aF U,hQ _ h.drop⟩
 .exact hK w (Ow.iZ (s:=s) hl h.sub)
theorem iS{t:W}{K:O->O->O->O->O->O->O->W->W->Pw}(h:Ow B w0 w (ck b p::R))
  (hK:∀w' o,o=((p.first t).1.getD GB)->Ow B w0 w' (ck b (p.first t).2::R)->K o.who o.m.label o.m.w0 o.m.w1 o.m.w2 o.m.w3 o.m.ay o.m.calls (p.first t).1.isSome w'):RW b.o t K w:=by
 apply WR;obtain⟨s,hl,h⟩:=h.C4;have hlen:=h.aL s;refine h.a λc w1 h=>?_;intro k4 hk4;have no:∀w,(p.first t)=(N,p)->Ow B w0 w (aa c [.z 0,.z 0,.y 0,.y 0,.y 0,.y 0,.y 0,.bool G]::aa b [s.v,.bool p.dJ]::af gj s p.l::R)->k4 Z w:=λw e h=>by
  rw[e]at hK;apply hk4;refine bh U ?_;refine h.aA U U λw h=>?_;refine h.GV U ?_;exact hK w GB U (Ow.iZ (s:=s) hl h.sub)
 refine⟨_,U,s,h.aF U,?_⟩;cases hp:p.l with
 |nil=>
  have e:p.first t=(N,p):=by unfold eB.first;rw[hp]
  rw[hp]at hlen;refine og (by simp at hlen;omega) ?_;exact no _ e h
 |cons o r=>
  rw[hp]at hlen;simp only[LL]at hlen;refine nQ om ?_;refine⟨_,U,p.dJ,h.aF U,?_⟩;by_cases e:p.dJ=t
  .have ef:p.first t=(S o,{ p with l:=r}):=by unfold eB.first;rw[hp];simp[e]
   rw[ef]at hK;rw[show(!(p.dJ==t))=G from by simp[e]];apply hk4;refine bc U ?_;refine⟨_,U,s,h.aF U,?_⟩;have h0:p.l[0]?=S o:=by rw[hp];rfl
   refine h.cz (s:=s) (i:=0) (j:=0) U h0 λa ha hc0 hc=>Dh hc ?_;repeat first|refine h.al λw h=>?_|refine h.l1 U ?_|refine h.aA U U λw h=>?_|refine eE ?_
   rw[hp]at h;refine CH (i:=0) (j:=1) (h.pick (A:=af gj s (o::r))) om qc (by rw[hp]at hl;simp at hl|-;omega) λs' w h=>?_;repeat first|refine h.aR U ?_|refine h.aA U U λw h=>?_|refine eE ?_|refine h.jH U U λw h=>?_
   have h:Ow B w0 _ (af gj s' r::_):=h;have h:Ow B w0 _ (aa b [s'.v,.bool p.dJ]::af gj s' r::R):=h.sub;refine hK _ o U (Ow.iZ (s:=s') (by rw[hp]at hl;simp at hl|-;omega) h)
  .have ef:p.first t=(N,p):=by unfold eB.first;rw[hp];simp[e]
   rw[show(!(p.dJ==t))=Z from by simp[e]];exact no _ ef h
theorem jn{o:Wt}{t:W}{K:Pw}(hbig:p.l.length<1000000)(h:Ow B w0 w (ck b p::R))(hK:∀w',Ow B w0 w' (ck b ⟨p.l++ [o],t⟩::R)->K w'):
  RX b.o o.who o.m.label o.m.w0 o.m.w1 o.m.w2 o.m.w3 o.m.ay o.m.calls t K w:=by
 apply WS;obtain⟨s,hl,h⟩:=h.C4;refine h.a λc w1 h=>?_;refine h.dr λw h=>?_;refine⟨_,U,s,h.aF U,h.GV U ⟨h.al λw2 h=>⟨?_,trivial⟩,trivial⟩⟩
 generalize w.heap.size=d at h|-;refine GG (s:=s) (y:=o) h om λs' w hs' h=>⟨_,U,?_⟩
 refine⟨h.jH U U λw h=>⟨_,U,?_⟩,trivial⟩
 refine⟨h.jH U U λw h=>?_,trivial⟩;exact hK w (Ow.iZ (s:=s') (by simp;omega) h.sub)
theorem jm{n:O}{m:Eb}{wt:W}{K:W->O->O->O->O->O->O->O->O->W->O->Pw}(hbig:p.l.length<1000000)(h:Ow B w0 w (ck b p::R))
  (hK:∀w' x,x=(p.send n m wt).1->Ow B w0 w' (ck b (p.send n m wt).2.2::R)->K x.is x.EY x.to x.m.label x.m.w0 x.m.w1 x.m.w2 x.m.w3 x.m.ay x.m.calls (p.send n m wt).2.1 w'):
  RB b.o n m.label m.w0 m.w1 m.w2 m.w3 m.ay m.calls wt K w:=by
 apply WL;refine h.a λc w1 h=>?_;refine h.a λd w2 h=>?_;refine iU (n:=n) h.kh λw h=>?_;unfold eB.send at hK;cases ht:p.there n with
 |true=>
  rw[ht]at hK;simp only[qC]at hK;refine bh U ?_;repeat first|refine h.aR U ?_|refine h.aA U U λw h=>?_
  exact hK _ iV U h.sub
 |false=>
  rw[ht]at hK;simp only[LK,qy]at hK;refine bc U ?_;refine iS (t:=G) h λw o ho h=>?_;refine h.a λe w3 h=>?_;refine h.aA U U λw h=>?_;cases hf:p.first G with
  |mk x p'=>
   rw[hf]at hK h ho;dsimp only at hK h ho;cases x with
   |some o'=>
    have ho:o=o':=ho;subst ho;refine bh U ?_;repeat first|refine h.aR U ?_|refine h.l1 U ?_|refine h.aA U U λw h=>?_
    exact hK _ _ U (h.sub:Ow B w0 _ (ck b p'::R))
   |none=>
    have hp':p'=p:=by
     unfold eB.first at hf
     split at hf
     .cases hf;rfl
     .split at hf
      .cases hf
      .cases hf;rfl
    rw[hp']at h;refine bc U ?_;cases wt with
    |true=>
     refine bh U ?_;repeat first|refine h.aR U ?_|refine h.l1 U ?_
     refine jn (o:=⟨n,m⟩) (t:=Z) hbig h.cq λw h=>?_;repeat first|refine h.aR U ?_|refine h.aA U U λw h=>?_
     exact hK _ iV U (h.sub:Ow B w0 _ (ck b ⟨p.l++ [⟨n,m⟩],Z⟩::R))
    |false=>
     refine bc U ?_;repeat first|refine h.aR U ?_|refine h.aA U U λw h=>?_
     exact hK _ iV U (h.sub:Ow B w0 _ (ck b p::R))
theorem jl{n:O}{wt:W}{K:W->O->O->O->O->O->O->O->O->W->O->Pw}(hbig:p.l.length<1000000)(h:Ow B w0 w (ck b p::R))
  (hK:∀w' x,x=(p.recv n wt).1->Ow B w0 w' (ck b (p.recv n wt).2.2::R)->K x.is x.EY x.to x.m.label x.m.w0 x.m.w1 x.m.w2 x.m.w3 x.m.ay x.m.calls (p.recv n wt).2.1 w'):
  RD b.o n wt K w:=by
 apply WM;refine h.a λc w1 h=>?_;refine iU (n:=n) h.cq λw h=>?_;unfold eB.recv at hK;cases ht:p.there n with
 |true=>
  rw[ht]at hK;simp only[qC]at hK;refine bh U ?_;refine h.aA U U λw h=>?_;refine h.kC U ?_;exact hK _ iV U h.sub
 |false=>
  rw[ht]at hK;simp only[LK,qy]at hK;refine bc U ?_;refine iS (t:=Z) h λw o ho h=>?_;refine h.a λe w3 h=>?_;refine h.aA U U λw h=>?_;cases hf:p.first Z with
  |mk x p'=>
   rw[hf]at hK h ho;dsimp only at hK h ho;cases x with
   |some o'=>
    have ho:o=o':=ho;subst ho;refine bh U ?_;refine h.l1 U ?_;refine h.xw U ?_;refine h.aA U U λw h=>?_;refine h.kC U ?_;exact hK _ ⟨Z,o.who,n,o.m⟩ U (h.sub:Ow B w0 _ (ck b p'::R))
   |none=>
    have hp':p'=p:=by
     unfold eB.first at hf
     split at hf
     .cases hf;rfl
     .split at hf
      .cases hf
      .cases hf;rfl
    rw[hp']at h;refine bc U ?_;cases wt with
    |true=>
     refine bh U ?_;refine jn (o:=⟨n,Ad⟩) (t:=G) hbig h.cq λw h=>?_;refine h.aA U U λw h=>?_;refine h.kC U ?_;exact hK _ iV U (h.sub:Ow B w0 _ (ck b ⟨p.l++ [⟨n,Ad⟩],G⟩::R))
    |false=>
     refine bc U ?_;refine h.aA U U λw h=>?_;refine h.kC U ?_;exact hK _ iV U (h.sub:Ow B w0 _ (ck b p::R))
theorem mu{n:O}{K:W->Pw}(h:Ow B w0 w (ck b p::R))(hK:∀r w',Ow B w0 w' (ck b (p.cancel n)::R)->K r w'):Ut b.o n K w:=by
 apply WO;obtain⟨s,hl,h⟩:=h.C4;refine h.a λc w1 h=>?_;refine⟨_,U,s,h.aF U,_,U,s,h.aF U,vr (p:=λo=>o.who==n) h.kh om (λabz y w aby h hQ=>?_) λs' w h=>?_⟩
 .refine bq ?_
  show Vh y.who y.m.label y.m.w0 y.m.w1 y.m.w2 y.m.w3 y.m.ay y.m.calls c.p aby w;apply WT;refine h.a λd w1 h=>?_;exact⟨_,h.aF U,_,IC (abz:=aa d _::abz) h U,hQ _ h.drop⟩
 .refine ⟨_,U,?_⟩
  refine h.jH U U λw h=>?_;exact⟨_,U,s',h.aF U,hK _ w (Ow.iZ (s:=s') (p:=p.cancel n) (LY (L6 _ _) hl) (h.sub:Ow B w0 w (aa b [s'.v,.bool p.dJ]::af gj s' (p.l.filter λo=> !(o.who==n))::R)))⟩
theorem nR{K:Sl->W->Pw}(h:Ow B w0 w (ck b p::R))(hK:∀s w',Ow B w0 w' (af aq s (p.l.map (·.who))::ck b p::R)->K s (p.dJ&& !p.l.isEmpty) w'):SZ b.o K w:=by
 apply WK;obtain⟨s,hl,h⟩:=h.C4;have hlen:=h.aL s;refine⟨_,U,s,h.aF U,?_⟩;intro l hl';have loop:∀(m j:X)(o:Sl)(w:J),j+m=p.l.length->Ow B w0 w (af aq o ((p.l.take j).map (·.who))::aa b [s.v,.bool p.dJ]::af gj s p.l::R)->l o (j:O) w:=by
  intro m;induction m with
  |zero=>
   intro j o w hj h;apply hl';refine aw om ?_;rw[Lz om]at h;have hol:=h.aL o;refine⟨_,U,p.dJ,h.aF U,?_⟩;have hK2:=hK o w (Ow.cq (Ow.iZ (s:=s) hl h.sub));cases hs:p.dJ with
   |false=>rw[hs]at hK2;exact bc U hK2
   |true=>
    rw[hs]at hK2;refine bh U ?_;rw[show V ((o.len:O)>0)=(Z&& !p.l.isEmpty)from by rw[hol,L3];cases p.l<;>simp];exact hK2
  |succ m ih=>
   intro j o w hj h;have hx:p.l[j]?=S p.l[j]:=gE om;apply hl';refine az om ?_;refine h.cz (s:=s) U hx λa ha h0 hc=>Dh hc ?_;generalize p.l[j]=x at hx hc;refine h.a λd w2 h=>?_;refine h.aA U U λw h=>?_;refine h.l1 U ?_;refine h.a λe w3 h=>?_;refine eo (s:=o) (y:=x.who) h (by simp;omega) λs' w hs' h=>?_;rw[wI j om];refine ih (j+1) s' w om ?_;rw[LJ,hx,LU];have h2:Ow B w0 w (af aq s' ((p.l.take j).map (·.who)++ [x.who])::aa b [s.v,.bool p.dJ]::af gj s p.l::R):=h.sub;exact h2
 exact loop p.l.length 0 z0 w om (Ow.cZ h)
theorem Ek{s:Sl}{xs:Y Wt}{K:Sl->Pw}[abw:cu s L Wt gj xs](h:Ow B w0 w L)(hbig:xs.length<=1000000)(hK:∀s' w',Ow B w0 w' (af gj s' xs::L)->K s' w'):TG s K w:=by apply VA;exact tw (s:=s) (E:=gj) (xs:=xs) (zv:= .agg ⟨gj.enc GB⟩) qZ AU qa qa U qb h (by rw[B0];omega) hK
theorem oi{K:qh qg->Pw}(h:Ow B w0 w (ck b p::R))(hK:∀b' w',Ow B w0 w' (ck b' p::ck b p::R)->K b'.o w'):SO b.o K w:=by
 apply WJ;obtain⟨s,hl,h⟩:=h.C4;refine h.dr λw h=>?_;refine⟨_,U,s,h.aF U,_,U,p.dJ,h.aF U,Ek (s:=s) h hl λs' w h=>?_,trivial⟩;refine⟨h.aF U,h.a λd w2 h=>?_,trivial⟩;refine hK d _ (Ow.iZ (s:=s') hl (Ow.sub (L:=ck b p::aa d [s'.v,.bool p.dJ]::af gj s' p.l::R) ?_));exact Ow.iZ (s:=s) hl h.sub
theorem Ca:qe.info? 276=S aaY:=qa
theorem yR:aaY.bytes=64:=qa
def eB.sd(p:eB):Y Wt:=if p.dJ then p.l else []
def eB.rc(p:eB):Y O:=if p.dJ then []else p.l.map (·.who)
def cU(b:X)(p:eB):aH:=sB λx:Sl × Sl=>cj [dh (p.l.length<=1000000),aa b [rl x.1,rl x.2],af gj x.1 p.sd,af aq x.2 p.rc]
theorem DR(p:eB)(n:O):p.there n=(p.sd.any (λo=>o.who==n)||p.rc.any (λx=>x==n)):=by
 unfold eB.there eB.sd eB.rc;cases p.dJ with
 |true=>simp
 |false=>simp[List.any_map,Function.comp_def]
theorem BH(p:eB):p.sd.length<=p.l.length:=by unfold eB.sd;split<;>simp
theorem BB(p:eB):p.rc.length<=p.l.length:=by unfold eB.rc;split<;>simp
theorem zB(h:Ow B w0 w (cU b p::R)):∃s t,p.l.length<=1000000/\Ow B w0 w (aa b [rl s,rl t]::af gj s p.sd::af aq t p.rc::R):=by obtain⟨⟨s,t⟩,h⟩:=h.ex;obtain⟨h1,h⟩:=Ow.pure h.star;exact⟨s,t,h1,h⟩
theorem ja(h1:p.l.length<=1000000)(h:Ow B w0 w (aa b [rl s,rl t]::af gj s p.sd::af aq t p.rc::R)):Ow B w0 w (cU b p::R):=Ow.fk (s,t) (Ow.bW (Ow.cT h1 h))
theorem FT(h:Ow B w0 w (aa b [.slice N 0 0,.slice N 0 0]::R)):Ow B w0 w (cU b ⟨[],G⟩::R):=
 ja (s:=z0) (t:=z0) qc (Ow.sub (Ow.cZ (E:=gj) (Ow.cZ (E:=aq) h)):Ow B w0 w (aa b [.slice N 0 0,.slice N 0 0]::af gj z0 []::af aq z0 []::R))
theorem mT{n:O}{K:W->Pw}(h:Ow B w0 w (cU b p::R))(hK:K (p.there n) w):QY b.o n K w:=by
 apply Wn;obtain⟨s,t,h1,h⟩:=zB h;have hs:=h.aL s;have ht:=h.aL t;have d1:=BH p;have d2:=BB p;rw[DR]at hK;have no:∀{α:Type}(l:Y α)(q:α->W)(j:X),l.length<=j->(∀i y,i<j->l[i]?=S y->q y=G)->l.any q=false:=λl q j hj hno=>by rw[Ny];intro y hy;obtain⟨i,hi⟩:=Mp.1 hy;have:=hno i y (by have:=(Lu.1 hi).1;omega) hi;simp[this]
 intro l3 hL3;have loop:∀(m j:X),j+m=p.sd.length->(∀i y,i<j->p.sd[i]?=S y->(y.who==n)=G)->l3 (j:O) w:=by
  intro m;induction m with
  |zero=>
   intro j hj hno;apply hL3;refine⟨_,U,s,h.aF U,aw om ?_⟩;rw[no p.sd (λo=>o.who==n) j om hno,Bool.false_or]at hK;intro l12 hL12;have loop:∀(m j:X),j+m=p.rc.length->(∀i y,i<j->p.rc[i]?=S y->(y==n)=G)->l12 (j:O) w:=by
    intro m;induction m with
    |zero=>
     intro j hj hno;apply hL12;refine⟨_,U,t,h.aF U,aw om ?_⟩;rw[no p.rc (λo=>o==n) j om hno]at hK;exact hK
    |succ m ih=>
     intro j hj hno;have hx:p.rc[j]?=S p.rc[j]:=gE om;apply hL12;refine⟨_,U,t,h.aF U,az om ⟨_,U,t,h.aF U,h.cz (s:=t) U hx λa ha h0 hc=>⟨_,h0 _ U,?_⟩⟩⟩;cases e:(p.rc[j]==n)with
     |true=>
      rw[Na.2 ⟨p.rc[j],Mq _,e⟩]at hK;exact bh U hK
     |false=>
      refine bc U ?_;rw[wr om om];refine ih (j+1) om λi y hi hy=>?_;by_cases e2:i=j
      .subst e2;rw[hx]at hy;cases hy;exact e
      .exact hno i y om hy
   exact loop p.rc.length 0 om (λi y hi=>by omega)
  |succ m ih=>
   intro j hj hno;have hx:p.sd[j]?=S p.sd[j]:=gE om;apply hL3;refine⟨_,U,s,h.aF U,az om ⟨_,U,s,h.aF U,h.cz (s:=s) U hx λa ha h0 hc=>⟨_,h0 _ U,?_⟩⟩⟩;cases e:(p.sd[j].who==n)with
   |true=>
    rw[show p.sd.any (λo=>o.who==n)=Z from Na.2 ⟨p.sd[j],Mq _,e⟩]at hK;exact bh U hK
   |false=>
    refine bc U ?_;rw[wr om om];refine ih (j+1) om λi y hi hy=>?_;by_cases e2:i=j
    .subst e2;rw[hx]at hy;cases hy;exact e
    .exact hno i y om hy
 exact loop p.sd.length 0 om (λi y hi=>by omega)
theorem yB{xs:Y Wt}{y:Wt}{c:X}{k:Sl->Pw}[abw:cu s L Wt gj xs][abq:fh (af gj s xs) L R](h:Ow B w0 w (aa c (gj.enc y)::L))(hbig:xs.length<=1000000000)
  (hk:∀s' w',s'.len=xs.length+1->Ow B w0 w' (af gj s' (xs++ [y])::R)->k s' w'):
  ∃s' w',aM qe [269,269] 269 s.v (.slice (S c.p) 1 1) w s' w'/\k s' w':=
 Ow.eL (E:=gj) (y:=y) aaZ Ca (zv:= .agg ⟨gj.enc GB⟩) qa qa U qb h (by rw[yR];omega) hk
theorem sF(p:eB)(t:W):p.first t=(N,p)/\(p.l= []\/p.dJ≠t)\/∃o r,p.l=o::r/\p.dJ=t/\p.first t=(S o,{ p with l:=r}):=by
 unfold eB.first
 cases h:p.l with
 |nil=>exact .inl ⟨U,.inl U⟩
 |cons o r=>
  by_cases e:p.dJ=t
  .exact .inr ⟨o,r,U,e,by simp[e]⟩
  .exact .inl ⟨by simp[e],.inr e⟩
theorem Bt{n:O}{m:Eb}{wt:W}{K:W->O->O->O->O->O->O->O->O->W->O->Pw}(hbig:p.l.length<1000000)(h:Ow B w0 w (cU b p::R))
  (hK:∀w' x,x=(p.send n m wt).1->Ow B w0 w' (cU b (p.send n m wt).2.2::R)->K x.is x.EY x.to x.m.label x.m.w0 x.m.w1 x.m.w2 x.m.w3 x.m.ay x.m.calls (p.send n m wt).2.1 w'):
  Tt b.o n m.label m.w0 m.w1 m.w2 m.w3 m.ay m.calls wt K w:=by
 apply Wk;refine h.a λc w1 h=>?_;refine h.a λd w2 h=>?_;have h:Ow B w0 w2 (cU b p::aa d [.bool G,.z 0,.z 0,.z 0,.y 0,.y 0,.y 0,.y 0,.y 0,.bool G]::aa c [.z m.label,.y m.w0,.y m.w1,.y m.w2,.y m.w3,.y m.ay,.bool m.calls]::R):=h.sub;refine mT (n:=n) h ?_;unfold eB.send at hK;cases ht:p.there n with
 |true=>
  rw[ht]at hK;simp only[qC]at hK;refine bh U ?_;refine h.aA U U λw h=>?_;refine h.kC U ?_;exact hK _ iV U h.sub
 |false=>
  rw[ht]at hK;simp only[LK,qy]at hK;refine bc U ?_;obtain⟨s,t,h1,h⟩:=zB h;have hst:=h.aL t;rcases sF p G with⟨ef,hno⟩|⟨o,r,hl,hs,ef⟩
  .rw[ef]at hK
   dsimp only at hK;have hrc:p.rc= []:=by
    unfold eB.rc;rcases hno with e|e
    .rw[e];split<;>rfl
    .rw[qd (by simpa using e)]
   have hsd:p.sd=p.l:=by
    unfold eB.sd;rcases hno with e|e
    .rw[e];split<;>rfl
    .rw[qd (by simpa using e)]
   rw[hrc]at hst h;rw[hsd]at h;refine⟨_,U,t,h.aF U,aw (by simp at hst;omega) ?_⟩;cases wt with
   |true=>
    refine bh U ?_;refine h.dr λw h=>?_;refine⟨_,U,s,h.aF U,h.xw U ⟨h.al λw3 h=>⟨?_,trivial⟩,trivial⟩⟩
    generalize w.heap.size=e at h|-;refine yB (s:=s) (y:=⟨n,m⟩) h om λs' w hs' h=>⟨_,U,?_⟩
    refine⟨h.jH U U λw h=>?_,trivial⟩;refine h.aA U U λw h=>?_;refine h.kC U ?_;exact hK _ iV U (ja (p:=⟨p.l++ [⟨n,m⟩],Z⟩) (s:=s') (t:=t) (by simp;omega) (h.sub:Ow B w0 w (aa b [rl s',rl t]::af gj s' (p.l++ [⟨n,m⟩])::af aq t []::R)))
   |false=>
    refine bc U ?_;refine h.aA U U λw h=>?_;refine h.kC U ?_;exact hK _ iV U (ja (p:=p) (s:=s) (t:=t) h1 (by rw[hsd,hrc];exact h.sub))
  .rw[ef]at hK
   dsimp only at hK;have hrc:p.rc=o.who::r.map (·.who):=by unfold eB.rc;rw[hs,hl];rfl
   have hsd:p.sd= []:=by unfold eB.sd;rw[hs];rfl
   rw[hrc]at hst h;rw[hsd]at h;rw[hl]at h1;simp only[LL,L3]at hst h1;refine⟨_,U,t,h.aF U,az om ⟨_,U,t,h.aF U,h.cz (s:=t) (i:=0) (j:=0) U U λa ha hc0 hc=>⟨_,hc0 _ U,?_⟩⟩⟩
   refine h.a λe w3 h=>?_;refine⟨_,U,t,h.aF U,om,om,tX (s:=t) (E:=aq) (x:=o.who) (r:=r.map λo:Wt=>o.who) qG nv (zv:= .z 0) qa qa U qb h (by rw[ml,L3];omega) λt' w h=>⟨_,U,?_⟩⟩
   refine h.jH U U λw h=>?_;refine h.xw U ?_;refine h.aA U U λw h=>?_;refine h.kC U ?_;refine hK _ ⟨Z,n,o.who,m⟩ U (ja (p:={ p with l:=r}) (s:=s) (t:=t') (by show r.length<=_;omega) ?_);rw[show eB.sd { p with l:=r}= []from by unfold eB.sd;rw[hs];rfl,show eB.rc { p with l:=r}=r.map (·.who)from by unfold eB.rc;rw[hs];rfl];exact h.sub
theorem Bq{n:O}{wt:W}{K:W->O->O->O->O->O->O->O->O->W->O->Pw}(hbig:p.l.length<1000000)(h:Ow B w0 w (cU b p::R))
  (hK:∀w' x,x=(p.recv n wt).1->Ow B w0 w' (cU b (p.recv n wt).2.2::R)->K x.is x.EY x.to x.m.label x.m.w0 x.m.w1 x.m.w2 x.m.w3 x.m.ay x.m.calls (p.recv n wt).2.1 w'):
  Tu b.o n wt K w:=by
 apply Wl;refine h.a λc w1 h=>?_;have h:Ow B w0 w1 (cU b p::aa c [.bool G,.z 0,.z 0,.z 0,.y 0,.y 0,.y 0,.y 0,.y 0,.bool G]::R):=h.sub;refine mT (n:=n) h ?_;unfold eB.recv at hK;cases ht:p.there n with
 |true=>
  rw[ht]at hK;simp only[qC]at hK;refine bh U ?_;refine h.aA U U λw h=>?_;refine h.kC U ?_;exact hK _ iV U h.sub
 |false=>
  rw[ht]at hK;simp only[LK,qy]at hK;refine bc U ?_;obtain⟨s,t,h1,h⟩:=zB h;have hss:=h.aL s;rcases sF p Z with⟨ef,hno⟩|⟨o,r,hl,hs,ef⟩
  .rw[ef]at hK
   dsimp only at hK;have hsd:p.sd= []:=by
    unfold eB.sd;rcases hno with e|e
    .rw[e];split<;>rfl
    .rw[F (by simpa using e)]
   have hrc:p.rc=p.l.map (·.who):=by
    unfold eB.rc;rcases hno with e|e
    .rw[e];split<;>rfl
    .rw[F (by simpa using e)]
   rw[hsd]at hss h;rw[hrc]at h;refine⟨_,U,s,h.aF U,aw (by simp at hss;omega) ?_⟩;cases wt with
   |true=>
    refine bh U ⟨_,U,t,h.aF U,?_⟩;refine h.a λe w3 h=>?_;refine eo (s:=t) (y:=n) h (by simp;omega) λt' w ht' h=>⟨_,U,?_⟩
    refine h.jH U U λw h=>?_;refine h.aA U U λw h=>?_;refine h.kC U ?_;refine hK _ iV U (ja (p:=⟨p.l++ [⟨n,Ad⟩],G⟩) (s:=s) (t:=t') (by simp;omega) ?_);rw[show eB.sd ⟨p.l++ [⟨n,Ad⟩],G⟩= []from U,show eB.rc ⟨p.l++ [⟨n,Ad⟩],G⟩=p.l.map (·.who)++ [n]from by unfold eB.rc;simp];exact h.sub
   |false=>
    refine bc U ?_;refine h.aA U U λw h=>?_;refine h.kC U ?_;exact hK _ iV U (ja (p:=p) (s:=s) (t:=t) h1 (by rw[hsd,hrc];exact h.sub))
  .rw[ef]at hK
   dsimp only at hK;have hsd:p.sd=o::r:=by unfold eB.sd;rw[hs,hl];rfl
   have hrc:p.rc= []:=by unfold eB.rc;rw[hs];rfl
   rw[hsd]at hss h;rw[hrc]at h;rw[hl]at h1;simp only[LL]at hss h1;refine⟨_,U,s,h.aF U,az om ⟨_,U,s,h.aF U,h.cz (s:=s) (i:=0) (j:=0) U U λa ha hc0 hc=>Dh hc ?_⟩⟩;refine h.a λd w3 h=>?_;refine h.aA U U λw h=>?_;refine h.a λe w3 h=>?_;refine⟨_,U,s,h.aF U,om,om,tX (s:=s) (E:=gj) (x:=o) (r:=r) aaZ Ca (zv:= .agg ⟨gj.enc GB⟩) qa qa U qb h (by rw[yR];omega) λs' w h=>⟨_,U,?_⟩⟩
   refine h.jH U U λw h=>?_;refine h.l1 U ?_;refine h.xw U ?_;refine h.aA U U λw h=>?_;refine h.kC U ?_;refine hK _ ⟨Z,o.who,n,o.m⟩ U (ja (p:={ p with l:=r}) (s:=s') (t:=t) (by show r.length<=_;omega) ?_);rw[show eB.sd { p with l:=r}=r from by unfold eB.sd;rw[hs];rfl,show eB.rc { p with l:=r}= []from by unfold eB.rc;rw[hs];rfl];exact h.sub
theorem C1(p:eB)(n:O):(p.cancel n).sd=p.sd.filter λo=> !(o.who==n):=by unfold eB.cancel eB.sd;cases p.dJ<;>rfl
theorem C0(p:eB)(n:O):(p.cancel n).rc=p.rc.filter λx=> !(x==n):=by
 unfold eB.cancel eB.rc;cases p.dJ with
 |true=>rfl
 |false=>simp[List.filter_map,Function.comp_def]
theorem CZ{p:eB}{n:O}(h:p.there n=G):p.cancel n=p:=by unfold eB.there at h;unfold eB.cancel;rw[Mv.2];intro x hx;rw[Ny]at h;have:=h x hx;simpa using this
theorem vE{n:O}{K:W->Pw}(h:Ow B w0 w (cU b p::R))(hK:∀r w',Ow B w0 w' (cU b (p.cancel n)::R)->K r w'):T6 b.o n K w:=by
 apply Wm;refine mT (n:=n) h ?_;cases hth:p.there n with
 |false=>
  rw[CZ hth]at hK;exact bh U (hK _ w h)
 |true=>
 refine bc U ?_;obtain⟨s,t,h1,h⟩:=zB h;have hs:=h.aL s;have ht:=h.aL t;have d1:=BH p;have d2:=BB p;refine h.a λc w1 h=>?_;have h:Ow B w0 w1 (af gj ⟨S c.p,0,0⟩ []::_):=Ow.empty h;refine h.a λd w2 h=>?_;have h:Ow B w0 w2 (af aq ⟨S d.p,0,0⟩ []::_):=Ow.empty h;intro l7 hL7;have loop:∀(m j:X)(o:Sl)(w:J),j+m=p.sd.length->Ow B w0 w (af gj o ((p.sd.take j).filter λo=> !(o.who==n))::af aq ⟨S d.p,0,0⟩ []::aa b [rl s,rl t]::af gj s p.sd::af aq t p.rc::R)->l7 o (j:O) w:=by
  intro m;induction m with
  |zero=>
   intro j o w hj h;apply hL7;refine⟨_,U,s,h.aF U,aw om ?_⟩;rw[Lz om,<-C1]at h;intro l hL;have loop:∀(m j:X)(q:Sl)(w:J),j+m=p.rc.length->Ow B w0 w (af aq q ((p.rc.take j).filter λx=> !(x==n))::af gj o (p.cancel n).sd::aa b [rl s,rl t]::af gj s p.sd::af aq t p.rc::R)->l q (j:O) w:=by
    intro m;induction m with
    |zero=>
     intro j q w hj h;apply hL;refine⟨_,U,t,h.aF U,aw om ⟨_,U,?_⟩⟩;rw[Lz om,<-C0]at h;refine h.jH U U λw h=>⟨_,U,?_⟩
     refine h.jH U U λw h=>?_;exact hK _ w (ja (p:=p.cancel n) (s:=o) (t:=q) (LY (L6 _ _) h1) h.sub)
    |succ m ih=>
     intro j q w hj h;have hx:p.rc[j]?=S p.rc[j]:=gE om;have htk:p.rc.take (j+1)=p.rc.take j++ [p.rc[j]]:=by rw[LJ,hx];rfl
     apply hL;refine⟨_,U,t,h.aF U,az om ⟨_,U,t,h.aF U,h.cz (s:=t) U hx λa ha h0 hc=>⟨_,h0 _ U,?_⟩⟩⟩;rw[wr om om];by_cases e:p.rc[j]=n
     .refine fa e ?_
      refine ih (j+1) q w om ?_;rw[htk,Mi,Mc,show(!(p.rc[j]==n))=G from by simp[e]];simpa using h
     .refine iv e ⟨_,U,t,h.aF U,a,ha,om,om,_,h0 _ U,?_⟩
      refine h.a λf w2 h=>?_;refine eo (s:=q) (y:=p.rc[j]) h (LY (L6 _ _) (by rw[LX];omega)) λq' w ho' h=>?_;refine ih (j+1) q' w om ?_;rw[htk,Mi,Mc,show(!(p.rc[j]==n))=Z from by simp[e],qd U,M8];exact h.sub
   exact loop p.rc.length 0 _ w om h.cq
  |succ m ih=>
   intro j o w hj h;have hx:p.sd[j]?=S p.sd[j]:=gE om;have htk:p.sd.take (j+1)=p.sd.take j++ [p.sd[j]]:=by rw[LJ,hx];rfl
   apply hL7;refine⟨_,U,s,h.aF U,az om ⟨_,U,s,h.aF U,h.cz (s:=s) U hx λa ha h0 hc=>⟨_,h0 _ U,?_⟩⟩⟩;rw[wr om om];by_cases e:p.sd[j].who=n
   .refine fa e ?_
    refine ih (j+1) o w om ?_;rw[htk,Mi,Mc,show(!(p.sd[j].who==n))=G from by simp[e]];simpa using h
   .refine iv e ⟨_,U,s,h.aF U,a,ha,om,om,Dh hc ?_⟩
    refine h.a λf w2 h=>?_;refine yB (s:=o) (y:=p.sd[j]) h (LY (L6 _ _) (by rw[LX];omega)) λo' w ho' h=>?_;refine ih (j+1) o' w om ?_;rw[htk,Mi,Mc,show(!(p.sd[j].who==n))=Z from by simp[e],qd U,M8];exact h.sub
 exact loop p.sd.length 0 _ w2 om h.cq
theorem zy{K:Sl->W->Pw}(h:Ow B w0 w (cU b p::R))(hK:∀s w',Ow B w0 w' (af aq s (p.l.map (·.who))::cU b p::R)->K s (p.dJ&& !p.l.isEmpty) w'):Su b.o K w:=by
 apply Wj;obtain⟨s,t,h1,h⟩:=zB h;have hs:=h.aL s;have d1:=BH p;have d2:=BB p;refine h.a λc w1 h=>?_;refine⟨_,U,t,h.aF U,CV (s:=t) (E:=aq) (xs:=p.rc) qG nv (zv:= .z 0) qa qa U qb h (by rw[ml];omega) λo w h=>?_⟩;intro l hL;have loop:∀(m j:X)(o:Sl)(w:J),j+m=p.sd.length->Ow B w0 w (af aq o (p.rc++(p.sd.take j).map (·.who))::aa b [rl s,rl t]::af gj s p.sd::af aq t p.rc::R)->l o (j:O) w:=by
  intro m;induction m with
  |zero=>
   intro j o w hj h;apply hL;refine⟨_,U,s,h.aF U,aw om ?_⟩;rw[Lz om]at h;refine h.dr λw h=>⟨_,U,s,h.aF U,?_⟩
   rw[show p.rc++p.sd.map (·.who)=p.l.map (·.who)from by unfold eB.rc eB.sd;cases p.dJ<;>simp]at h;rw[show V ((s.len:O)>0)=(p.dJ&& !p.l.isEmpty)from by rw[hs];unfold eB.sd;cases p.dJ<;>cases p.l<;>simp];exact hK o w (Ow.cq (ja (s:=s) (t:=t) h1 h.sub))
  |succ m ih=>
   intro j o w hj h;have hx:p.sd[j]?=S p.sd[j]:=gE om;have htk:p.sd.take (j+1)=p.sd.take j++ [p.sd[j]]:=by rw[LJ,hx];rfl
   apply hL;refine⟨_,U,s,h.aF U,az om ⟨_,U,s,h.aF U,h.cz (s:=s) U hx λa ha h0 hc=>⟨_,h0 _ U,?_⟩⟩⟩;refine h.a λd w2 h=>?_;refine eo (s:=o) (y:=p.sd[j].who) h (by simp;omega) λo' w ho' h=>?_;rw[wr om om];refine ih (j+1) o' w om ?_;rw[htk,LU,<-LN];exact h
 exact loop p.sd.length 0 _ w om (by simpa using h)
end
end Go.Vc
