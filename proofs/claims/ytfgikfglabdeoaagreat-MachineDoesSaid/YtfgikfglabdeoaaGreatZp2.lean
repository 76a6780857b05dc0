/- What the row rests on: the declarations that it needs, out of my texts (part 2). -/
import Derived.Test.YtfgikfglabdeoaaGreatZp1
import Derived.Test.YtfgikfglabdeoaaGreatProg
open Bool renaming false->qd,true->G
open Decidable renaming decide->qe
open Go renaming Addr->qf,IntKind->qO,Oper->qx,Operand->qD,Program->qo,TypeId->qi,TypeInfo->qL,Value->V,World->W,zeroValue->qK
open Go.IntKind renaming i64->qj,u64->qA
open Go.Proofs.Tryz renaming prog->qh,t3->qI,t39->akf,underlying22->qJ,underlying232->qR,underlying278->akB,underlying3->qC
open Option renaming none->Q,some->X
open _root_ renaming Array->qw,Bool->I,False->qm,Int->U,List->J,Nat->S,Option->qg,True->qu,absurd->qk,beq_iff_eq->qN,cond_false->qv,cond_true->qq,decide_eq_decide->qP,decide_eq_false->ql,decide_eq_true->qp,decide_eq_true_eq->qF,if_false->qB,if_neg->Y,if_pos->Z,if_true->qE,or_false->qG,rfl->O
open Go.Proofs.Tryz
open Bool renaming and_eq_true->S4,and_true->Vp,eq_iff_iff->UF,false_and->Uj,false_or->Vq,not_false->T4,not_true->T1,true_and->Uo
open Int renaming eq_ofNat_of_zero_le->SI,natCast_add->Vs,natCast_nonneg->UJ,one_mul->WQ,toNat_natCast->SD
open List renaming eraseIdx_append_of_lt_length->Uz,getElem?_append_left->SM,getElem?_eq_some_iff->Sz,mem_cons->SH,mem_of_getElem?->SU,nodup_cons->Tx,not_mem_nil->TE,range->SF,zipWith->SC
open Nat renaming add_mul->TX,dvd_of_mod_eq_zero->WT,eq_of_testBit_eq->Wh,lor->T0,lt_of_le_of_lt->Vh,lt_of_lt_of_le->Ub,min_eq_left->TL,mod_eq_of_lt->Tn,mod_lt->VU,mul_le_mul_right->Ta,mul_mod_left->Xw,one_mul->V1,pow_le_pow_right->Ty,shiftLeft->TJ,testBit_lt_two_pow->UT,testBit_two_pow_sub_one->Wy,two_pow_pos->TW,zero_testBit->Xx
open Option renaming isSome_none->Vi,isSome_some->Vv
set_option maxRecDepth 100000
set_option maxHeartbeats 4000000
set_option linter.all false
namespace Go.Vc
open Go.Proofs
def kL(f:Func):Code:=f.body.getD .skip
theorem lk{P:qo}{f:FuncId}{fn:Func}{c:Code}{p:Prop}(hf:P.funcs[f]?=X fn)(hb:fn.body=X c)(h:p):okF P f p:=by unfold okF;rw[hf];simp only[hb];exact h
theorem BN{P:qo}{f:FuncId}{p:Prop}(h:okF P f p):p:=by unfold okF at h;split at h<;>first|exact h.elim|(split at h<;>first|exact h.elim|exact h)
theorem pk:∀(f:S) (fn:Func),qh.funcs[f]?=X fn->(fn.name== "runtime.NumGoroutine")=false:=by
 have h:qh.funcs.toList.all (λfn=> !(fn.name== "runtime.NumGoroutine"))=true:=qa
 intro f fn hf;have:=List.all_eq_true.1 h fn (by rw[Array.mem_toList_iff];exact Array.mem_of_getElem? hf);simpa using this
theorem kR:qh.follows .mixedOrders=true:=qa
theorem QY{f:FuncId}{fn:Func}(hf:qh.funcs[f]?=X fn)(an:An)(cs:J (S × Sh))(args:J V)(K:uk cs){w:W}{p:Prop}(hb:fn.body=X (kL fn))(hok:J7 qh fn (kL fn) an cs args.length=G)(e:p=Pv qh fn (kL fn) an cs args K w)(h:p):okF qh f (Calls qh f ⟨args⟩ w (J2 cs K [])):=
 lk hf hb (J8 pk kR hf hb hok (Eq.mp e h))
abbrev _root_.Go.Value.z(n:U):V:= .int .i64 n
abbrev _root_.Go.Value.y(n:U):V:= .int .u64 n
abbrev Sl.v(s:Sl):V:= .slice s.a s.len s.cap
abbrev Sc.o:Sc:= .i .i64
abbrev Sc.u:Sc:= .i .u64
abbrev _root_.Go.Value.q(b:S):V:= .pointer (X ⟨b,0,Q⟩)
abbrev _root_.Nat.o(b:S):qg qf:=X ⟨b,0,Q⟩
abbrev z0:Sl:=⟨Q,0,0⟩
abbrev _root_.Go.World.z(w:W)(a:qf)(d:U):Prop:=w.cell? a=X (.int .i64 d)
abbrev _root_.Go.World.y(w:W)(a:qf)(d:U):Prop:=w.cell? a=X (.int .u64 d)
abbrev _root_.Go.World.q(w:W)(a:qf)(d:qg qf):Prop:=w.cell? a=X (.pointer d)
abbrev _root_.Go.World.b(w:W)(a:qf)(d:I):Prop:=w.cell? a=X (.bool d)
abbrev _root_.Go.World.m(w:W)(a:qf)(d:qg S):Prop:=w.cell? a=X (.map d)
abbrev _root_.Go.World.s(w:W)(a:qf)(d:Sl):Prop:=w.cell? a=X (.slice d.a d.len d.cap)
abbrev Pw:=W->Prop
abbrev Fr(q p:Prop):Prop:=p->q
theorem Ow.l1{B:S}{w0 w:W}{L:J aG}{b o:S}{l:J V}{α:Type}{κ:α->V}{f:α->Prop}{d:α}[ale:eB b L l](h:Ow B w0 w L)(hv:l[o]?=X (κ d))(hf:f d):∃d,w.cell? ⟨b,o,Q⟩=X (κ d)/\f d:=⟨d,h.aE hv,hf⟩
theorem Ow.l2{B:S}{w0 w:W}{L:J aG}{b o n:S}{l:J V}{α:Type}{κ:α->V}{f:α->Prop}{d:α}[ale:eB b L l](h:Ow B w0 w L)(hv:l[o+n]?=X (κ d))(hf:f d):∃d,w.cell? ((Addr.mk b o Q).add n)=X (κ d)/\f d:=⟨d,h.aA hv,hf⟩
theorem _root_.Eq.k{α:Type}{x:qg α}{f g:α}(h:x=X f)(e:f=g:=by kernel_rfl):x=X g:=e▸h
abbrev O2(f:FuncId)(a:J V)(w:W)(cs:J (S × Sh))(K:uk cs):Prop:=okF qh f (Calls qh f ⟨a⟩ w (J2 cs K []))
abbrev oG(f:FuncId)(a:J V)(cs:J (S × Sh))(K:uk cs)(w:W):Prop:=O2 f a w cs K
abbrev r0:J (S × Sh):=[(0,.c (.i .i64))]
abbrev r1:J (S × Sh):=[(0,.c (.b))]
abbrev r2:J (S × Sh):=[(0,.c (.s))]
abbrev r3:J (S × Sh):=[]
abbrev r4:J (S × Sh):=[(0,.c (.p))]
abbrev r5:J (S × Sh):=[(0,.c (.p)),(1,.c (.i .i64))]
abbrev r6:J (S × Sh):=[(0,.c (.i .i64)),(1,.c (.b))]
abbrev r7:J (S × Sh):=[(0,.c (.i .i64)),(1,.c (.i .i64))]
abbrev r8:J (S × Sh):=[(0,.a [.o,.o,.o,.o,.u,.o,.s,.o,.o,.b]),(1,.c (.b))]
abbrev r9:J (S × Sh):=[(0,.a [.o,.o,.o,.u,.u,.o]),(1,.c (.i .i64))]
abbrev O3:J (S × Sh):=[(0,.a [.o,.o]),(1,.c (.b))]
abbrev Qe:J (S × Sh):=[(0,.c (.i .i64)),(1,.c (.i .u64)),(2,.c (.b)),(3,.c (.i .i64))]
abbrev O4:J (S × Sh):=[(0,.a [.b,.o,.o,.o,.u,.u,.u,.u,.u,.b]),(1,.c (.i .i64))]
abbrev OD:J (S × Sh):=[(0,.a [.o,.o]),(1,.c (.i .i64))]
abbrev O5:J (S × Sh):=[(0,.c (.v))]
abbrev PT:J (S × Sh):=[(0,.a [.o,.u,.o,.s])]
abbrev Q8:J (S × Sh):=[(0,.a [.o,.o,.o,.o,.u,.o,.s,.o,.o,.b])]
abbrev PU:J (S × Sh):=[(0,.c (.s)),(1,.c (.i .i64))]
abbrev OE:J (S × Sh):=[(0,.c (.i .u64)),(1,.c (.i .i64))]
theorem Su{f:FuncId}{fn:Func}(hf:qh.funcs[f]?=X fn)(an:An){cs:J (S × Sh)}{args:J V}{K:uk cs}{w:W}{p:Prop}(hb:fn.body=X (kL fn):=by rfl)(hok:J7 qh fn (kL fn) an cs args.length=true:=by kernel_rfl)(e:p=Pv qh fn (kL fn) an cs args K w:=by kernel_rfl):Fr (O2 f args w cs K) p:=
 by unfold Fr O2;exact QY hf an cs args K hb hok e
inductive dx:Type 1 where
 |ex(α:Type) (f:α->dx)
 |al(α:Type) (f:α->dx)
 |la(α:Type) (f:α->dx)
 |an(p:Prop) (t:dx)
 |aa(a b:dx)
 |im(a b:dx)
 |co(c:I) (a b:dx)
 |lf(p:Prop)
 |ap(α:Type) (q:α->Prop) (k:dx)
inductive kn{α:Type}(x:α)(t:dx):Prop|m
theorem kn.ex{α}{p:α->Prop}{f:α->dx}(_:∀d,kn (p d) (f d)):kn (Exists p) (.ex α f):=.m
theorem kn.al{α}{p:α->Prop}{f:α->dx}(_:∀d,kn (p d) (f d)):kn (∀d,p d) (.al α f):=.m
theorem kn.la{α β}{p:α->β}{f:α->dx}(_:∀d,kn (p d) (f d)):kn p (.la α f):=.m
theorem kn.an{p q}{t}(_:kn q t):kn (p∧q) (.an p t):=.m
theorem kn.aa{p q}{a b}(_:kn p a)(_:kn q b):kn (p∧q) (.aa a b):=.m
theorem kn.im{p q:Prop}{a b}(_:kn p a)(_:kn q b):kn (p->q) (.im a b):=.m
theorem kn.ct{p:Prop}{a b}(_:kn p a):kn p (.co G a b):=.m
theorem kn.cf{p:Prop}{a b}(_:kn p b):kn p (.co qd a b):=.m
theorem kn.co{c}{p q:Prop}{a b}(_:kn p a)(_:kn q b):kn (cond c p q) (.co c a b):=.m
theorem kn.lf{p}:kn p (.lf p):=.m
theorem kn.ap{α}{q:α->Prop}{p:α}{r}{k}(_:kn p k)(_:r=q p):kn r (.ap α q k):=.m
abbrev dx.F:dx:=.lf qm
def dx.o{α}:qg α->(α->dx)->dx
 |some v,k=>k v
 |none,_=>.F
def dx.n:S->(S->dx)->dx
 |0,k=>k 0
 |n+1,k=>k (n+1)
def dx.k:qO->(qO->dx)->dx
 |.i64,k=>k .i64
 |j,k=>k j
def dx.s:Sc->(Sc->dx)->dx
 |.i j,k=>.k j λj=>k (.i j)
 |.b,k=>k .b|.p,k=>k .p|.q,k=>k .q|.s,k=>k .s|.m,k=>k .m|.v,k=>k .v|.t,k=>k .t
def dx.l{α β}(f:α->(β->dx)->dx):J α->(J β->dx)->dx
 |[],k=>k []
 |x::l,k=>f x λx=>dx.l f l λl=>k (x::l)
abbrev dx.v{α}(x:α)(k:α->dx):dx:=k x
def dx.h:Sh->(Sh->dx)->dx
 |.c x,k=>.s x λx=>k (.c x)
 |.a l,k=>.l .s l λl=>k (.a l)
 |.big,k=>k .big
def By(b:(α:Type)->(α->dx)->dx):J Sc->J V->(J V->dx)->dx
 |[],acc,k=>.l .v acc.reverse k
 |c::l,acc,k=>b c.D λd=>By b l (c.mk d::acc) k
def wC(b:(α:Type)->(α->dx)->dx)(s:Sh)(k:V->dx):dx:=.h s λs=>match s with
 |.c x=>b x.D λd=>k (x.mk d)
 |.a l=>By b l [] λvs=>k (.agg vs.toArray)
 |.big=>b (qw V) λcs=>k (.agg cs)
def Bz(b:(α:Type)->(α->dx)->dx):J (S × Sh)->J V->(J V->dx)->dx
 |[],acc,k=>.l .v acc.reverse k
 |(_,s)::l,acc,k=>wC b s λv=>Bz b l (v::acc) k
def Gp:S->J Sh->(J (S × Sh)->dx)->dx
 |_,[],k=>k []
 |i,s::l,k=>.h s λs=>Gp (i+1) l λl=>k ((i,s)::l)
def NP(c:Sc)(v:V)(k:c.D->dx):dx:=
 match c,v,k with
 |.i _,.int _ n,k=>k n
 |.b,.bool x,k=>k x
 |.p,.pointer x,k=>k x
 |.q,.pointer (X x),k=>k x
 |.s,.slice a l c,k=>k ⟨a,l,c⟩
 |.m,.map r,k=>k r
 |.v,v,k=>k v
 |.t,.string x,k=>k x
 |_,_,_=>.F
def JB{r:Type}:(ss:J Sc)->J V->rQ ss r->(r->dx)->dx
 |[],[],g,k=>k g
 |c::ss,v::vs,g,k=>NP c v λd=>JB ss vs (g d) k
 |[],_::_,_,_=>.F
 |_::_,[],_,_=>.F
def oD:(cs:J (S × Sh))->uk cs->Env->W->dx
 |[],g,_,w=>.lf (g w)
 |(s,.c x)::l,g,e,w=>.o (e s) λv=>NP x v λd=>oD l (g d) e w
 |(s,.a ss)::l,g,e,w=>match e s with|some (.agg cs)=>JB ss cs.toList g λg=>oD l g e w|_=>.F
 |(s,.big)::l,g,e,w=>match e s with|some (.agg cs)=>oD l (g cs) e w|_=>.F
def ND{r:Type}:(ss:J Sc)->J V->rQ ss r->(J V->r->dx)->dx
 |[],acc,g,k=>k acc.reverse g
 |c::l,acc,g,k=>.al c.D λd=>ND l (c.mk d::acc) (g d) k
def Df:(cs:J (S × Sh))->(Env->W->dx)->Env->uk cs->dx
 |[],N,e,g=>.al W λw=>.im (N e w) (.lf (g w))
 |(s,.c x)::l,N,e,g=>.al x.D λd=>Df l N (e.set s (X (x.mk d))) (g d)
 |(s,.a ss)::l,N,e,g=>ND ss [] g λvs g=>Df l N (e.set s (X (.agg vs.toArray))) g
 |(s,.big)::l,N,e,g=>.al (qw V) λcs=>Df l N (e.set s (X (.agg cs))) (g cs)
def OF(l:J V)(k:V->dx):dx:=match l with|[v]=>k v|l=>k (.tuple l.toArray)
def Qo(P:qo)(t:qi)(k:V->dx):dx:=Gp 0 (AL P t) λcs=>Bz .ex cs [] λvs=>OF vs k
def KB(P:qo)(t:qi)(a:qf)(w:W)(k:V->dx):dx:=.h (pF P t) λs=>match s with
 |.c x=>.ex x.D λd=>.an (w.cell? a=X (x.mk d)) (k (x.mk d))
 |.a [x]=>.ex x.D λd=>.an (w.cell? a=X (x.mk d)) (k (.agg #[x.mk d]))
 |.a l=>.ap (rQ l Prop) (hI w a 0 l) (By .la l [] λvs=>k (.agg vs.toArray))
 |.big=>.n (sz P t) λn=>.ex (qw V) λcs=>.an (cs.size=n) (.an (∀i,i<n->w.cell? (a.add i)=cs[i]?) (k (.agg cs)))
def P3(P:qo)(t:qi)(a:qf)(v:V)(w:W)(k:W->dx):dx:=
 bif agg P t then .l .v v.cells.toList λl=>match l with
  |[]=>k w
  |[v]=>.ap (W->Prop) (St w a v) (.la W k)
  |l=>.ap (W->Prop) (oy w a 0 l) (.la W k)
 else .ap (W->Prop) (St w a v) (.la W k)
def GI(l:J V)(t:qi)(w:W)(k:qf->W->dx):dx:=.ap (S->W->Prop) (A2 w l t) (.la S λa=>.la W λw=>k ⟨a,0,Q⟩ w)
def Ov(P:qo)(t:qi)(x y:V)(k:I->dx):dx:=
 match P.underlying t,x,y with
 |some (.pointer _),.pointer a,.pointer Q=>k a.isNone
 |some (.slice _),.slice a _ _,.slice Q _ _=>k a.isNone
 |some (.map _ _),.map a,.map Q=>k a.isNone
 |_,_,_=>.F
def Oe(op:BinOp)(j:qO)(a b:U)(k:V->dx):dx:=
 match op with
 |.add=>k (.int j (j.wrap (a+b)))
 |.sub=>k (.int j (j.wrap (a-b)))
 |.mul=>k (.int j (j.wrap (a*b)))
 |.quo=>.an (b≠0) (k (.int j (j.wrap (a.tdiv b))))
 |.rem=>.an (b≠0) (k (.int j (a.tmod b)))
 |.and=>k (.int j (fE j a b))
 |.or=>k (.int j (MP j a b))
 |.xor=>k (.int j (Jb j a b))
 |.andNot=>k (.int j (iD j a b))
 |.eql=>k (.bool (a==b))
 |.neq=>k (.bool (a !=b))
 |.lss=>k (.bool (a<b))
 |.leq=>k (.bool (a<=b))
 |.gtr=>k (.bool (a>b))
 |.geq=>k (.bool (a>=b))
 |_=>.F
def NU(P:qo)(op:BinOp)(t:qi)(x y:qD)(vx vy:V)(k:V->dx):dx:=
 match op,vx,vy with
 |.shl,.int j a,.int _ b=>.an (0<=b) (k (.int j (mS j a b)))
 |.shr,.int j a,.int _ b=>.an (0<=b) (k (.int j (Ca j a b)))
 |op,.int j a,.int _ b=>Oe op j a b k
 |.eql,.bool a,.bool b=>k (.bool (a==b))
 |.neq,.bool a,.bool b=>k (.bool (!(a==b)))
 |.add,.string a,.string b=>.an (((a.size+b.size:S):U)<=qj.max) (k (.string (a++b)))
 |op,vx,vy=>bif isNil y then
   Ov P t vx vy λb=>match op with|.eql=>k (.bool b)|_=>k (.bool (!b))
  else .ex I λb=>.an (LY P op t x y vx vy b) (k (.bool b))
def OQ(op:UnOp)(v:V)(k:V->dx):dx:=
 match op,v with
 |.not,.bool b=>k (.bool (!b))
 |.neg,.int j n=>k (.int j (j.wrap (0-n)))
 |.xor,.int j n=>k (.int j (Jb j (if j.signed then -1 else j.max) n))
 |_,_=>.F
def PR(P:qo)(t:qi)(cs:J V)(off:S)(k:V->dx):dx:=
 bif agg P t then .l .v ((cs.drop off).take (sz P t)) λl=>k (.agg l.toArray)
 else .o (nth cs off) k
def K3:J Sc->qw V->S->S->J V->(V->dx)->dx
 |[],_,_,_,acc,k=>.l .v acc.reverse λl=>k (.agg l.toArray)
 |c::l,cs,o,i,acc,k=>.ex c.D λd=>.an (cs[o+i]?=X (c.mk d)) (K3 l cs o (i+1) (c.mk d::acc) k)
def PQ(P:qo)(t:qi)(cs:qw V)(off:S)(k:V->dx):dx:=.h (pF P t) λs=>
 match s with
 |.c x=>.ex x.D λd=>.an (cs[off]?=X (x.mk d)) (k (x.mk d))
 |.a l=>K3 l cs off 0 [] k
 |.big=>.F
def vo(e:Env)(x:qg qD)(dflt:S)(top:S)(k:S->dx):dx:=
 match x with
 |none=>k dflt
 |some x=>match ev e x with|some (.int _ n)=>.an (0<=n) (.an (n<=(top:U)) (k n.toNat))|_=>.F
def J1(e:Env)(l:J qD)(k:J V->dx):dx:=dx.l (λx k=>.o (ev e x) k) l k
def J0(e:Env)(l:J (S × qD))(k:J (S × V)->dx):dx:=dx.l (λx k=>.o (ev e x.2) λv=>k (x.1,v)) l k
def Ph(P:qo)(b:Builtin)(ts:J qi)(t:qi)(vs:J V)(w:W)(k:V->W->dx):dx:=
 match b,ts,vs with
 |.len,[ta],[v]=>(match P.underlying ta,v with
   |some (.slice _),.slice _ n _=>k (.int .i64 n) w
   |some (.array n _),_=>k (.int .i64 n) w
   |some (.map _ _),.map r=>.ex U λn=>.an (O8 P ta t r w n) (k (.int .i64 n) w)
   |some .string,.string s=>k (.int .i64 s.size) w
   |_,_=>.F)
 |.cap,_,[.slice _ _ n]=>k (.int .i64 n) w
 |.max,_,[.int j a,.int _ b]=>k (.int j (Oo a b)) w
 |.min,_,[.int j a,.int _ b]=>k (.int j (zl a b)) w
 |.append,_,[x,y]=>.ex Sl λs=>.ex W λw'=>.an (dO P ts t x y w s w') (k s.v w')
 |.copy,_,[x,y]=>.ex U λn=>.ex W λw'=>.an (wS P ts t x y w n w') (k (.int .i64 n) w')
 |.clear,_,[x]=>.ex W λw'=>.an (wQ P ts t x w w') (k undef w')
 |.delete,_,[x,y]=>.ex W λw'=>.an (He P ts t x y w w') (k undef w')
 |_,_,_=>.F
def Pb(P:qo)(t:qi)(v:V)(k:V->dx):dx:=match M5 P t with
 |.s=>(match v with|.slice a l c=>k (Sl.v ⟨a,l,c⟩)|_=>.F)
 |_=>k v
def JA(P:qo):J qi->J V->(J V->dx)->dx
 |t::ts,v::vs,k=>Pb P t v λv=>JA P ts vs λl=>k (v::l)
 |_,vs,k=>k vs
def NJ(b:I):J (S × V)->dx->dx
 |[],C=>C
 |(_,v)::l,C=>bif b then .an (v.oneCell'=G) (NJ b l C)else C
def PN(P:qo)(rest:J qx)(o:qx)(e:Env)(w:W)(k:V->W->dx):dx:=
 match o.op with
 |.move x=>.o (ev e x) λv=>k v w
 |.assign x=>.o (ev e x) λv=>k v w
 |.pick c a b=>(match ev e c with
  |some (.bool G)=>.o (ev e a) λv=>k v w
  |some (.bool qd)=>.o (ev e b) λv=>k v w
  |_=>.F)
 |.box t x=>.o (ev e x) λv=>bif agg P t then(.l .v v.cells.toList λl=>GI l t w λa=>k (.pointer (X a)))else GI [v] t w λa=>k (.pointer (X a))
 |.alloc t=>.o (rN P t) λz=>.l .v z λz=>GI z t w λa=>k (.pointer (X a))
 |.build t ps=>J0 e ps.toList λvs=>.o (rN P t) λz=>.o (nP (placeOf P t) z.length z vs) λcs=>.l .v cs λcs=>k (.agg cs.toArray) w
 |.buildSlice t len ps=>J0 e ps.toList λvs=>(match P.underlying t with
  |some (.slice el)=>.o (rN P el) λz=>NJ (H9 P el) vs <|.o (bif H9 P el then K9 len (rep len z) vs else nP (λi=>X (i*sz P el,sz P el)) (len*sz P el) (rep len z) vs) λcs=>.l .v cs λcs=>GI cs el w λa=>k (.slice (X a) len len)
  |_=>.F)
 |.load t a=>(match ev e a with|some (.pointer (X a))=>KB P t a w λv=>k v w|_=>.F)
 |.store t a x=>(match ev e a,ev e x with|some (.pointer (X a)),X v=>P3 P t a v w λw=>k undef w|_,_=>.F)
 |.nilCheck x=>(match ev e x with
  |some (.pointer p)=>.ex qf λa=>.an (p=X a) (k (.pointer (X a)) w)
  |some v=>k v w
  |_=>.F)
 |.fieldAddr s x f=>(match ev e x,jH P s f with
  |some (.pointer (X a)),X (_,off)=>(match off with|0=>k (.pointer (X a)) w|n+1=>k (.pointer (X (a.add (n+1)))) w)
  |_,_=>.F)
 |.field s x f=>(match ev e x,jH P s f with
  |some (.agg cs),X (ft,off)=>PR P ft cs.toList off λv=>k v w
  |_,_=>.F)
 |.indexAddr t x i=>(match P.underlying t,ev e x,ev e i with
  |some (.array len el),X (.pointer (X a)),X (.int _ n)=>.n (sz P el) λs=>.an (0<=n) (.an (n<(len:U)) (k (.pointer (X (a.add (n.toNat*s)))) w))
  |some (.slice el),X (.slice b len _),X (.int _ n)=>.n (sz P el) λs=>.ex qf λa=>.an (b=X a) (.an (0<=n) (.an (n<(len:U)) (k (.pointer (X (a.add (n.toNat*s)))) w)))
  |_,_,_=>.F)
 |.index t x i=>(match P.underlying t,ev e x,ev e i with
  |some (.array len el),X (.agg cs),X (.int _ n)=>.n (sz P el) λs=>.an (0<=n) (.an (n<(len:U)) (PQ P el cs (n.toNat*s) λv=>k v w))
  |some .string,X (.string s),X (.int _ n)=>.ex U λb=>.an (Js s n b) (k (.int .u8 b) w)
  |_,_,_=>.F)
 |.binOp op t x y _=>(match ev e x,ev e y with|some vx,X vy=>NU P op t x y vx vy λv=>k v w|_,_=>.F)
 |.unOp op _ x=>.o (ev e x) λv=>OQ op v λv=>k v w
 |.convert t d x=>(match P.underlying d,ev e x with
  |some (.int j),X (.int _ n)=>.k j λj=>k (.int j (j.wrap n)) w
  |some .string,X v=>.ex ByteArray λs=>.an (Jm P t d v w s) (k (.string s) w)
  |_,_=>.F)
 |.makeFunc fn a b=>J1 e a.toList λxs=>J1 e b.toList λys=>k (.func fn xs.toArray ys.toArray) w
 |.makeMap _ Q=>.ap (W->Prop) (Al w (.map #[] 0)) (.la W λw'=>k (.map (X w.heap.size)) w')
 |.makeSlice t l c=>(match ev e l,ev e c with
  |some x,X y=>.ex Sl λs=>.ex W λw'=>.an (sU P t x y w s w') (k s.v w')
  |_,_=>.F)
 |.slice t x lo hi mx=>(match P.underlying t,ev e x with
  |some (.slice el),X (.slice a len cap)=>vo e mx cap cap λm=>vo e hi len m λh=>vo e lo 0 h λl=>.n (sz P el) λs=>k (.slice (mn a l m s) (h-l) (m-l)) w
  |some (.array n el),X (.pointer (X a))=>vo e mx n n λm=>vo e hi n m λh=>vo e lo 0 h λl=>.n (sz P el) λs=>k (.slice (mn (X a) l m s) (h-l) (m-l)) w
  |some .string,X (.string s)=>vo e hi s.size s.size λh=>vo e lo 0 h λl=>k (.string (s.extract l h)) w
  |_,_=>.F)
 |.lookup t x i ok=>(match P.underlying t,ev e x,ev e i with
  |some (.map _ el),X m,X key=>wC .ex (pF P el) λv=>bif ok then .ex I λb=>.an (Ev P t m key v b w) (k (.tuple #[v,.bool b]) w)
    else .an (F9 P t m key v w) (k v w)
  |_,_,_=>.F)
 |.mapUpdate t m i x=>(match ev e m,ev e i,ev e x with
  |some m,X i,X x=>.ex W λw'=>.an (za P t m i x w w') (k undef w')
  |_,_,_=>.F)
 |.insert t m i x=>(match ev e m,ev e i,ev e x with
  |some m,X i,X x=>.ex W λw'=>.an (za P t m i x w w') (k undef w')
  |_,_,_=>.F)
 |.range t x=>.o (ev e x) λv=>.ex qf λa=>.ex W λw'=>.an (AY P t v w a w') (k (.pointer (X a)) w')
 |.next x b=>.o (ev e x) λv=>.ex I λy=>.ex (J V) λl=>.ex W λw'=>.an (Ga P v b o.type w y l w') (k (.tuple ⟨.bool y::l⟩) w')
 |.entry x=>.o (ev e x) λv=>wC .ex (Mp P o.dst 0 rest) λa=>wC .ex (Mp P o.dst 1 rest) λb=>.an (AW P v a b w) (k (.tuple #[a,b]) w)
 |.extract x i=>(match ev e x with|some (.tuple vs)=>.o (nth vs.toList i) λv=>k v w|_=>.F)
 |.call c=>J1 e c.args.toList λvs=>(match c.callee with
  |.value (.func f)=>.o P.funcs[f]? λfn=>JA P fn.params.toList vs λvs=>bif fn.body.isSome then
     Gp 0 (AL P o.type) λcs=>.ap (uk cs) (λK=>O2 f vs w cs K) (Bz .la cs [] λrs=>.la W λw=>OF rs λv=>k v w)
    else Qo P o.type λv=>.ex W λw'=>.an (Et P f vs.toArray w v w') (k v w')
  |.value f=>.o (ev e f) λfv=>Gp 0 (AL P o.type) λcs=>.ap (Ending->W->Prop) (fP P fv vs w) (.la Ending λen=>.la W λw=>Bz .ex cs [] λrs=>OF rs λv=>.an (en=.returned v) (k v w))
  |.builtin b=>Ph P b c.argTypes.toList o.type vs w k
  |_=>.F)
 |_=>.F
def Py(all:J qx)(o:qx)(e:Env)(run skip:dx):dx:=
 match o.guard with
 |none=>run
 |some (j,want)=>match nth all j with
  |some g=>.o g.dst λd=>(match e d with
    |some (.bool b)=>(match b,want with|true,G=>run|false,qd=>run|_,_=>skip)
    |some (.tuple _)=>skip
    |_=>.F)
  |none=>.F
def P2(b:I)(v:V)(k:V->dx):dx:=
 match b with
 |false=>k v
 |true=>match v with|.bool x=>.co x (k (.bool G)) (k (.bool qd))|v=>k v
def Lv(P:qo)(all rest:J qx)(gm i:S)(o:qx)(N:Env->W->dx)(e:Env)(w:W):dx:=
 Py all o e (PN P rest o e w λv w'=>P2 (bit gm i) v λv'=>N (e.put o.dst v') w') (N (e.put o.dst undef) w)
def NK(P:qo)(all:J qx)(gm:S):J qx->S->(Env->W->dx)->Env->W->dx
 |[],_,N,e,w=>N e w
 |o::rest,i,N,e,w=>Lv P all rest gm i o (NK P all gm rest (i+1) N) e w
def Dz(P:qo)(m:S):J rA->W->dx->dx
 |[],_,C=>C
 |⟨s,t,a,v⟩::l,w,C=>bif sub m s then(match pF P t with
  |.c _=>.an (w.cell? a=X v) (Dz P m l w C)
  |_=>.l .v v.cells.toList λz=>.ap Prop (Np w a 0 z) (Dz P m l w C))else Dz P m l w C
def xR(P:qo)(all:J qx)(gm:S):aT->S->J rA->(Env->W->dx)->Env->W->dx
 |.done,_,_,N,e,w=>N e w
 |.one i _ p,m,hs,N,e,w=>.o (nth all i) λo=>Lv P all all gm i o (λe w=>bif Fi P o then Dz P (T0 m (TJ 1 i)) hs w (xR P all gm p (T0 m (TJ 1 i)) hs N e w)else xR P all gm p (T0 m (TJ 1 i)) hs N e w) e w
 |.hold i _ s p,m,hs,N,e,w=>.o (nth all i) λo=>(match o.op,o.dst with
   |.load t x,X d=>(match ev e x with
    |some (.pointer (X a))=>KB P t a w λv=>xR P all gm p (T0 m (TJ 1 i)) (⟨s,t,a,v⟩::hs) N (e.put (X d) v) w
    |_=>.F)
   |_,_=>.F)
 |.alt i p q,m,hs,N,e,w=>.aa (.o (nth all i) λo=>Lv P all all gm i o (λe w=>bif Fi P o then Dz P (T0 m (TJ 1 i)) hs w (xR P all gm p (T0 m (TJ 1 i)) hs N e w)else xR P all gm p (T0 m (TJ 1 i)) hs N e w) e w)
   (xR P all gm q m hs N e w)
 |.none,_,_,_,_,_=>.lf qu
def LQ(j:qg (J (S × Sh)))(m:S)(N:Env->W->dx)(e:Env)(body:(Env->W->dx)->dx):dx:=
 match j with
 |none=>body N
 |some cs=>.al (uk cs) λk=>.im (Df cs N (e.forget m) k) (body (oD cs k))
def yR(P:qo):Code->An->(Env->W->dx)->(S->Env->W->dx)->(Env->W->dx)->Env->W->dx
 |.skip,_,N,_,_,e,w=>N e w
 |.region _ ops d,an,N,_,_,e,w=>
  LQ an.j (Mm ops.toList) N e λN=>bif d then .ap (W->Prop) (Dr w) (.la W λw=>xR P ops.toList (MA ops.toList) an.p 0 [] N e w)else NK P ops.toList (MA ops.toList) ops.toList 0 N e w
 |.seq a b,an,N,ak7,R,e,w=>yR P a an.a (yR P b an.b N ak7 R) ak7 R e w
 |.cond c a b,an,N,ak7,R,e,w=>
  LQ an.j (T0 (dm a) (dm b)) N e λN=>match ev e c with
   |some (.bool x)=>.co x (yR P a an.a N ak7 R e w) (yR P b an.b N ak7 R e w)
   |_=>.F
 |.block id b,an,N,ak7,R,e,w=>
  LQ an.j (dm b) N e λN=>yR P b an.a N (λi=>bif Nat.beq i id then N else ak7 i) R e w
 |.loop b,an,_,ak7,R,e,w=>.o an.j λcs=>.al (uk cs) λL=>.im (Df cs (yR P b an.a (oD cs L) ak7 R) (e.forget (dm b)) L) (oD cs L e w)
 |.exit id,_,_,ak7,_,e,w=>ak7 id e w
 |.ret,_,_,_,R,e,w=>R e w
 |_,_,_,_,_,_,_=>.F
def GV(P:qo):J ResultVar->Env->W->J V->(J V->dx)->dx
 |[],_,_,acc,k=>k acc.reverse
 |.tmp t::l,e,w,acc,k=>.o (e t) λv=>GV P l e w (v::acc) k
 |.cell a t::l,e,w,acc,k=>(match e a with|some (.pointer (X p))=>KB P t p w λv=>GV P l e w (v::acc) k|_=>.F)
def Pu(P:qo)(fn:Func)(c:Code)(an:An)(cs:J (S × Sh))(args:J V)(K:uk cs)(w:W):dx:=
 yR P c an (λe w=>GV P fn.results.toList e w [] λvs=>oD cs K (nth vs) w) (λ_ _ _=>.F)
  (λe w=>GV P fn.results.toList e w [] λvs=>oD cs K (nth vs) w) (nth args) w
theorem Sl.eta(s:Sl):Sl.mk s.a s.len s.cap=s:=rfl
theorem dx.ni(n:S):((no_index (OfNat.ofNat n):S):U)=OfNat.ofNat n:=rfl
inductive O9(t:dx):Prop where
 |m
theorem O9.nf{t:dx}{q p:Prop}(_:O9 t)(x:kn q t)(e:q=p):kn p t:=e▸x
abbrev O9.F(t:dx)(E p:Prop):=kn p t->p=E
theorem ah(F:Prop){f:FuncId}{fn:Func}{cs:J (S × Sh)}{args:J V}{K:uk cs}{w:W}{p:Prop}(hf:qh.funcs[f]?=X fn)(an:An)(hF:F=O2 f args w cs K:=by exact O)(hb:fn.body=X (kL fn):=by rfl)(hok:J7 qh fn (kL fn) an cs args.length=true:=by kernel_rfl)(e:O9 (Pu qh fn (kL fn) an cs args K w)->p=Pv qh fn (kL fn) an cs args K w:=by intro h;refine' (?f:O9.F _ _ _) (h.nf ?x ?y);(case x=>repeat' first|intro _|exact rfl|((conv=>arg 2;whnf);first|apply kn.ex|apply kn.an|apply kn.ap|apply kn.la|exact kn.lf|apply kn.ct|apply kn.cf|apply kn.co|apply kn.al|apply kn.im|apply kn.aa));(case y=>dsimp only[Sc.D,Sc.mk,rQ,uk,Sl.eta,dx.ni,Nat.reduceAdd];first|done|exact O);case f=>intro _;kernel_rfl):Fr F p:=by rw[hF];unfold Fr O2;exact QY hf an cs args K hb hok (e .m)
def An.w:An:= .t Q .u .u
def An.v(a:An):An:= .t Q .u a
def An.x(a:An):An:= .t Q a .u
def An.y(a b:An):An:= .t Q a b
def An.z(p:aT):An:= .r Q p
def aT.o(a b:S)(p:aT):aT:= .one a b p
def aT.e(a:S)(p:aT):aT:= .alt a p .none
def aT.f(a:S)(p q:aT):aT:= .alt a p q
def An.Kc:An:= .v (.t (X []) .u .u)
def An.xw:An:= .v (.y .w (.x (.x .w)))
def An.oe:An:= .v (.y (.v (.x .w)) .w)
def aT.Kd:aT:= .o 13 0 (.o 14 0 .done)
def An.EV:An:= .y (.v (.x .w)) (.v .w)
def aT.My:aT:= .e 7 (.e 10 (.e 11 .done))
def An.C6:An:= .x (.v (.y .w (.v (.x .w))))
def An.C7:An:= .v .oe
def aT.N5:aT:= .o 7 0 (.o 8 0 (.e 9 .done))
def An.N6:An:= .r (X [(26,.c .b)]) .done
def An.N7:An:= .r (X [(18,.c .b)]) .done
def An.N8:An:= .r (X [(16,.c .b)]) .done
def An.N9:An:= .r (X [(42,.c .b)]) .done
def aT.Mv:aT:= .o 5 0 (.o 6 0 (.e 7 .done))
def aT.Mw:aT:= .o 6 0 (.o 7 0 (.e 8 .done))
def An.Br:An:= .y (.v .w) (.x (.x (.v .w)))
def aT.Mu:aT:= .o 8 0 (.o 9 0 (.e 10 .done))
def aT.HI:aT:= .e 18 (.e 19 (.o 20 0 .done))
def aT.HJ:aT:= .e 16 (.e 17 (.o 18 0 .done))
def aT.Ms:aT:= .o 9 0 (.e 10 (.o 11 0 .done))
def aT.Kb:aT:= .o 9 0 (.o 10 0 (.e 11 .done))
def aT.Qb:aT:= .o 10 0 (.e 11 (.o 12 0 .done))
def An.QK:An:= .y .w (.v (.y .w (.v (.x .w))))
def aT.QL:aT:= .o 19 0 (.e 20 (.o 21 0 .done))
def aT.QM:aT:= .o 17 0 (.o 18 0 (.e 19 .done))
def aT.QN:aT:= .o 11 0 (.o 12 0 (.e 13 .done))
def aT.QO:aT:= .o 10 0 (.o 11 0 (.e 12 .done))
def An.P9:An:= .v (.y (.v (.x .w)) (.v (.v .w)))
def An.QJ:An:= .v (.y .w (.x (.x (.v (.v .w)))))
def An.Qa:An:= .y (.v .w) (.x (.x (.v (.x .w))))
def aT.P8:aT:= .e 8 .Ms
def aT.QI:aT:= .o 5 0 .Mw
def aT.QG:aT:= .e 9 .Qb
def aT.QH:aT:= .e 7 .Qb
def aT.QD:aT:= .o 4 0 (.o 5 0 (.o 6 0 (.o 7 0 .done)))
def aT.QE:aT:= .o 4 64 (.o 5 64 (.o 6 0 (.e 7 .done)))
def aT.QF:aT:= .e 44 (.e 45 (.o 46 0 (.o 47 0 .done)))
def An.QB:An:= .y (.r (X [(17,.c .b)]) .done) (.x .w)
def An.OY:An:= .y (.r (X [(14,.c .b)]) .done) (.x .w)
def An.P7:An:= .y (.r (X [(19,.c .b)]) .done) (.x .w)
def An.QC:An:= .y (.v (.x .w)) .EV
def aT.QA:aT:= .e 9 (.e 10 .QN)
def An.R2:An:= .v (.y .C6 (.v (.v .w)))
def An.R3:An:= .v (.v (.y .C6 (.v .w)))
def aT.R4:aT:= .o 15 0 (.o 16 0 .QM)
def aT.R0:aT:= .o 9 0 (.o 10 0 (.o 11 0 (.o 12 0 (.o 13 0 .done))))
def aT.R1:aT:= .e 1 (.e 6 .QH)
def An.Mz:An:= .v (.y (.y (.r (X [(9,.c .b)]) .done) (.x .w)) .w)
def aT.RZ:aT:= .e 8 .QA
def An.RX:An:= .v (.y (.y (.r (X [(15,.c .b)]) .done) (.x .w)) .w)
def aT.RY:aT:= .o 4 128 (.o 5 128 (.o 6 128 (.o 7 0 (.o 8 0 .done))))
def aT.Qz:aT:= .o 4 0 (.o 5 0 (.o 6 0 .N5))
def An.Qy:An:= .v (.t (X [(0,.c (.i .u64)),(2,.c (.i .i64))]) .w .u)
def An.RU:An:= .v (.y (.v (.x .w)) (.y (.v (.v (.x .w))) (.y (.v .w) .w)))
def aT.RV:aT:= .o 1 32 (.o 2 32 (.o 3 32 (.o 4 32 (.o 5 0 (.e 6 .done)))))
def aT.RW:aT:= .o 8 0 (.o 9 0 (.o 10 0 (.o 11 0 (.e 12 (.o 13 0 .done)))))
def aT.RT:aT:= .o 7 256 (.o 8 0 (.o 9 0 .QO))
def aT.RR:aT:= .o 8 0 .R0
def aT.RS:aT:= .o 14 0 (.o 15 0 (.o 16 0 (.o 17 0 (.e 18 (.o 19 0 .done)))))
def An.RQ:An:= .v (.x (.t (X [(5,.c (.i .i64))]) (.y (.v .w) (.x .w)) .u))
def An.P6:An:= .z (.o 0 16 (.o 1 16 (.o 2 16 (.o 3 16 (.o 4 0 (.e 5 .done))))))
def An.RP:An:= .v (.x (.t (X [(18,.c (.i .i64))]) .xw .u))
def aT.RM:aT:= .f 7 (.e 9 (.e 10 (.e 11 .done))) (.e 9 .My)
def aT.RN:aT:= .f 7 (.e 8 (.e 10 (.e 11 .done))) (.e 8 .My)
def aT.RO:aT:= .o 41 0 (.o 42 0 (.o 43 0 .QF))
def aT.RL:aT:= .o 4 8 (.o 5 8 (.hold 3 64 511 (.e 6 .N5)))
def aT.RJ:aT:= .o 5 0 (.e 6 (.o 7 0 (.o 8 512 (.o 9 1024 (.o 10 0 (.o 11 0 .done))))))
def aT.RK:aT:= .o 4 384 (.o 5 384 (.o 6 384 (.o 7 0 (.o 8 0 (.e 9 (.o 10 0 .done))))))
def An.RI:An:= .y .P6 .w
def An.RH:An:= .z (.o 0 48 (.o 1 48 (.o 2 48 (.o 3 48 (.o 4 0 (.o 5 0 (.e 6 .done)))))))
def aT.RE:aT:= .o 10 16384 (.o 11 16384 (.o 12 16384 (.o 13 16384 (.o 14 0 (.e 15 .done)))))
def An.RF:An:= .v (.x (.t (X [(5,.c (.i .i64))]) .Qa .u))
def An.RG:An:= .v (.y .OY .EV)
def aT.RD:aT:= .o 8 14336 (.o 9 14336 (.o 10 14336 (.o 11 0 (.o 12 0 (.o 13 0 (.e 14 .done))))))
def An.Qv:An:= .y (.z (.o 0 48 (.o 1 48 (.o 2 48 (.o 3 48 (.o 4 32 (.o 5 0 (.e 6 .done)))))))) .w
def An.Qw:An:= .v (.x (.t (X [(5,.c .s),(6,.c (.i .i64))]) .Br .u))
def An.RC:An:= .z (.o 0 48 (.o 1 48 (.o 2 48 (.o 3 48 (.o 4 32 .Mv)))))
def An.RB:An:= .y (.v (.x (.t (X [(6,.c (.i .i64))]) .Qa .u))) .w
def aT.RA:aT:= .e 9 (.o 10 0 (.o 11 12288 (.o 12 73728 (.o 13 196608 .HJ))))
def An.Ry:An:= .v .RB
def An.Rz:An:= .v (.y .RF .w)
def aT.Rv:aT:= .e 11 (.o 12 0 (.o 13 49152 (.o 14 294912 (.o 15 786432 .HI))))
def An.Rw:An:= .z (.o 0 48 (.o 1 48 (.o 2 48 (.o 3 48 (.o 4 0 .QI)))))
def An.Rs:An:= .y (.z (.o 0 62 (.o 1 0 (.o 2 0 (.o 3 0 (.o 4 0 (.o 5 0 (.e 6 (.o 7 0 .done))))))))) (.x .w)
def An.Rt:An:= .z (.o 0 48 (.o 1 48 (.o 2 48 (.o 3 48 (.o 4 32 .QI)))))
def An.Ru:An:= .x (.x (.v (.x (.t (X [(3,.c .s),(5,.c (.i .i64))]) .Br .u))))
def An.HK:An:= .v (.y (.v (.x (.t (X [(8,.c (.i .i64))]) (.v (.y .w (.x (.x (.v (.v (.x .w))))))) .u))) .w)
def An.Qu:An:= .v (.v (.y (.v (.x (.t (X [(5,.c .s),(10,.c (.i .i64))]) .xw .u))) .w))
def An.Rr:An:= .z (.o 0 240 (.o 1 240 (.o 2 240 (.o 3 240 (.o 4 224 .QI)))))
def An.Rp:An:= .z (.o 0 238 (.o 1 228 (.o 2 224 (.o 3 224 (.o 4 224 (.o 5 64 .Mw))))))
def An.Rq:An:= .z (.o 0 240 (.o 1 240 (.o 2 240 (.o 3 240 (.o 4 224 (.o 5 64 .Mw))))))
def An.Ro:An:= .v (.v (.y .Qw .w))
def An.Rm:An:= .z (.o 0 112 (.o 1 112 (.o 2 112 (.o 3 112 .Qz))))
def An.Rn:An:= .z (.o 0 496 (.o 1 496 (.o 2 496 (.o 3 496 .Qz))))
def An.Qt:An:= .z (.o 0 254 (.o 1 96 (.o 2 96 (.o 3 96 (.o 4 96 (.o 5 0 (.e 6 (.e 7 .Mu))))))))
def An.Rl:An:= .y (.v (.x (.v (.x (.z (.o 0 12 (.o 1 12 (.o 2 16 (.o 3 16 .QD))))))))) (.v .w)
def An.g24:An:= .v (.v (.y (.v (.x .w)) (.v (.y (.z (.o 0 58 (.o 1 56 (.o 2 56 (.o 3 16 (.o 4 0 (.o 5 0 (.e 6 (.o 7 0 .done))))))))) (.v .w)))))
def An.g23:An:= .y (.z (.o 0 48 (.o 1 48 (.o 2 48 (.o 3 48 (.o 4 0 .RJ)))))) .w
def An.g22:An:= .z (.o 0 1022 (.o 1 480 (.o 2 480 (.o 3 480 (.o 4 480 (.o 5 64 (.o 6 0 (.o 7 0 (.e 8 (.e 9 .QO))))))))))
def An.g21:An:= .z (.o 0 1920 (.o 1 1920 (.o 2 1920 (.o 3 1920 (.o 4 1920 (.o 5 1920 (.o 6 1920 (.o 7 0 (.o 8 0 .Kb)))))))))
def An.g20:An:= .v (.v (.y (.v (.x .w)) (.y (.v (.x (.t (X [(5,.c (.i .i64)),(6,.c (.i .i64))]) (.y (.v .w) (.x (.x (.v (.v (.x .w)))))) .u))) (.v .w))))
def An.g19:An:= .z (.o 0 480 (.o 1 480 (.o 2 480 (.o 3 480 (.o 5 16 (.o 6 16 (.o 7 16 (.hold 8 16 5631 (.e 4 .QG)))))))))
def An.g18:An:= .v (.x .g23)
def An.g16:An:= .v (.x (.z (.o 0 480 (.o 1 480 (.o 2 480 (.o 3 480 (.o 5 16 (.o 6 16 (.o 7 16 (.hold 8 16 3071 (.e 4 .Ms)))))))))))
def An.g17:An:= .v (.x (.z (.o 0 240 (.o 1 240 (.o 2 240 (.o 3 240 (.o 4 256 (.o 5 256 (.o 6 256 (.o 7 256 (.o 8 0 (.o 9 0 (.o 10 0 (.o 11 0 .done))))))))))))))
def An.g15:An:= .v (.y .w (.x (.x (.v (.z (.o 0 510 (.o 1 224 (.o 2 224 (.o 3 224 (.o 5 16 (.hold 4 192 1791 (.e 6 (.e 7 (.e 8 .Kb))))))))))))))
def An.g14:An:= .y (.z (.o 0 1840 (.o 1 1840 (.o 2 1840 (.o 3 1840 (.o 4 1792 (.o 5 1792 (.o 6 1792 (.o 7 1792 (.o 8 1024 (.o 9 1024 .QO))))))))))) .w
def An.g13:An:= .y (.z (.o 0 816 (.o 1 816 (.o 2 816 (.o 3 816 (.o 4 768 (.o 5 768 (.o 6 768 (.o 7 768 .RR))))))))) (.x .w)
def aT.g12:aT:= .o 9 32768 (.o 10 32768 (.f 11 (.o 12 32768 (.o 13 49152 (.o 14 98304 (.e 15 (.e 16 (.o 17 0 .done)))))) (.e 15 (.e 11 (.o 12 0 (.o 13 16384 (.o 14 65536 (.e 16 (.o 17 0 .done)))))))))
def An.g11:An:= .z (.o 0 16256 (.o 1 16256 (.o 2 16256 (.o 3 16256 (.o 4 16256 (.o 5 16256 (.o 6 16256 (.o 7 14336 .RD))))))))
def aT.g10:aT:= .o 0 528 (.o 1 528 (.o 2 528 (.o 3 528 (.o 4 512 (.f 5 (.o 6 512 (.o 7 768 (.o 8 1536 (.e 9 (.e 10 (.o 11 0 .done)))))) (.e 9 (.e 5 (.o 6 0 (.o 7 256 (.o 8 1024 (.e 10 (.o 11 0 .done))))))))))))
def An.g9:An:= .y .Rr .Rr
def An.g8:An:= .v (.y (.v (.x .w)) (.y (.v (.x (.t (X [(5,.c (.i .i64))]) (.y (.v .w) (.x (.x (.y (.z (.o 0 242 (.o 1 240 (.o 2 240 (.o 3 240 (.o 4 32 (.o 5 0 (.o 6 0 (.o 7 0 (.o 8 0 .done)))))))))) (.x .w))))) .u))) .w))
def An.g7:An:= .y (.z (.o 0 16368 (.o 1 16368 (.o 2 16368 (.o 4 6152 (.o 5 6152 (.o 6 6152 (.hold 3 16256 65535 (.hold 7 6144 57343 (.o 8 6144 (.o 9 6144 (.hold 10 6144 57343 (.e 11 (.e 12 (.e 13 (.o 14 0 (.o 15 0 (.e 16 .done)))))))))))))))))) .w
def An.g6:An:= .r (X [(4,.c .q)]) (.o 0 4224 (.o 1 4224 (.o 2 4224 (.o 3 4224 (.o 4 4224 (.o 5 4224 (.o 6 4224 (.o 7 4096 (.f 8 (.o 9 4096 (.o 10 6144 (.o 11 12288 (.e 12 (.e 13 (.o 14 0 .done)))))) (.e 12 (.e 8 (.o 9 0 (.o 10 2048 (.o 11 8192 (.e 13 (.o 14 0 .done))))))))))))))))
def An.g5:An:= .r (X [(54,.c .b)]) (.o 0 0 (.o 1 0 (.o 2 0 (.o 3 0 (.o 4 0 (.o 5 2089472 (.o 6 2089472 (.o 7 2089472 (.o 8 2089472 (.o 9 2088960 (.o 10 2088960 (.o 11 2088960 (.o 12 2088960 (.o 13 131072 (.o 14 131072 (.o 15 131072 (.o 16 131072 (.o 17 0 (.o 18 0 (.o 19 0 (.o 20 0 (.o 21 0 (.o 22 0 (.o 23 0 .done))))))))))))))))))))))))
def aT.g4:aT:= .e 29 (.e 30 (.o 31 0 (.o 32 0 (.o 33 17557826306048 (.o 35 17179869184 (.o 36 17179869184 (.o 37 17179869184 (.f 34 (.o 38 0 (.o 39 0 (.o 40 0 .RO))) (.e 38 (.o 39 17179869184 (.o 40 17179869184 (.f 34 .RO (.e 41 (.o 42 17179869184 (.f 34 (.o 43 0 .QF) (.e 43 (.e 34 .QF)))))))))))))))))
def aT.g3:aT:= .o 28 0 .g4
def An.g2:An:= .r (X [(4,.c .q),(5,.c .b)]) (.o 0 49648 (.o 1 49648 (.o 2 49648 (.o 3 49648 (.o 4 49152 (.o 5 49152 (.o 6 49152 (.o 7 49152 (.o 8 49152 (.f 9 (.o 10 49152 (.o 11 61440 (.o 12 122880 (.o 13 245760 (.f 14 (.e 15 .HJ) (.e 15 (.e 14 .HJ))))))) (.f 14 (.f 9 (.o 10 32768 (.o 11 45056 (.o 12 106496 (.o 13 229376 (.e 15 .HJ))))) (.e 15 .RA)) (.e 15 (.f 9 (.o 10 16384 (.o 11 28672 (.o 12 90112 (.o 13 212992 (.e 14 .HJ))))) (.e 14 .RA))))))))))))))
def aT.g1:aT:= .e 17 (.o 18 0 (.o 19 0 (.o 20 532676608 (.o 22 2097152 (.o 23 2097152 (.o 24 2097152 (.f 21 (.o 25 0 (.o 26 0 (.o 27 0 .g3))) (.e 25 (.o 26 2097152 (.o 27 2097152 (.f 21 .g3 (.e 28 (.e 21 .g4)))))))))))))
def aT.g0:aT:= .o 16 0 .g1
def W6:=λa b c(d e:Sl)f(g:Sl)(K:I->Pw)=>oG 5 [.agg #[.z a,.z b,.z c,d.v,e.v,.z f],g.v] r1 K
def Yi:=λa b c(d:Sl)(K:U->U->U->Sl->Pw)=>oG 6 [.agg #[.z a,.z b,.z c,d.v]] [(0,.a [.o,.o,.o,.s])] K
def Yj:=λa b c(d:Sl)(K:qg qf->U->Pw)=>oG 7 [.agg #[.z a,.z b,.z c,d.v]] r5 K
def Yk:=λa b c(d:Sl)(K:qg qf->U->Pw)=>oG 8 [.agg #[.z a,.z b,.z c,d.v]] r5 K
def Yl:=λa b c d e f g h(K:U->U->U->Sl->Pw)=>oG 10 [.pointer a,.z b,.agg #[.z c,.z d,.z e,.z f,.z g,.z h]] PT K
def Ym:=λa b c(d:Sl)e f g(h:Sl)(K:I->Pw)=>oG 11 [.agg #[.z a,.y b,.z c,d.v],.agg #[.z e,.y f,.z g,h.v]] r1 K
def Yn:=λa b c d e f g h(K:U->U->U->Sl->Pw)=>oG 12 [.pointer a,.z b,.agg #[.z c,.z d,.z e,.z f,.z g,.z h]] PT K
def Yo:=λa b(K:U->U->Pw)=>oG 13 [.pointer a,.z b] r7 K
def Yp:=λa b(K:U->U->Pw)=>oG 14 [.pointer a,.z b] r7 K
def Yq:=λa b(K:I->Pw)=>oG 15 [.pointer a,.z b] r1 K
def W7:=λa b(K:I->Pw)=>oG 16 [.pointer a,.z b] r1 K
def Yr:=λa(K:qg qf->Pw)=>oG 17 [.pointer a] r4 K
def Ys:=λa b c(d e:Sl)f(K:U->U->U->Sl->Sl->U->Pw)=>oG 19 [.agg #[.z a,.z b,.z c,d.v,e.v,.z f]] [(0,.a [.o,.o,.o,.s,.s,.o])] K
def W9:=λa b c(d e:Sl)f(K:qg qf->U->Pw)=>oG 20 [.agg #[.z a,.z b,.z c,d.v],e.v,.z f] r5 K
def Yt:=λa b c d e(K:U->U->U->U->U->U->Sl->U->U->I->I->Pw)=>oG 21 [.pointer a,.agg #[.z b,.z c,.z d,.z e]] r8 K
def VV:=λ(a b:Sl)(K:I->Pw)=>oG 22 [a.v,b.v] r1 K
def V8:=λa(K:Sl->Pw)=>oG 23 [.pointer a] r2 K
def VW:=λa(K:Sl->Pw)=>oG 24 [.pointer a] r2 K
def VH:=λ(a b:Sl)(K:I->Pw)=>oG 25 [a.v,b.v] r1 K
def VX:=λa b(K:Sl->Pw)=>oG 26 [.pointer a,.z b] r2 K
def VP:=λa(K:Sl->Pw)=>oG 27 [.pointer a] r2 K
def Yu:=λ(K:I->Pw)=>oG 28 [] r1 K
def Yv:=λa b c(d e:Sl)f(K:qg qf->U->Pw)=>oG 29 [.agg #[.z a,.z b,.z c,d.v],e.v,.z f] r5 K
def Yw:=λa(K:qg qf->Pw)=>oG 30 [.pointer a] r4 K
def Yx:=λa b c d e(K:U->U->U->U->U->U->Sl->U->U->I->I->Pw)=>oG 31 [.pointer a,.agg #[.z b,.z c,.z d,.z e]] r8 K
def Yy:=λa b c d e f(g:Sl)h i j k l m n o p(q:Sl)r s t(K:I->Pw)=>oG 32 [.agg #[.z a,.z b,.z c,.z d,.y e,.z f,g.v,.z h,.z i,.bool j],.agg #[.z k,.z l,.z m,.z n,.y o,.z p,q.v,.z r,.z s,.bool t]] r1 K
def Yz:=λa b(K:I->Pw)=>oG 33 [.pointer a,.pointer b] r1 K
def YA:=λa b c(d:Sl)(K:I->Pw)=>oG 34 [.agg #[.z a,.z b,.z c,d.v]] r1 K
def YB:=λ(K:qg qf->Pw)=>oG 35 [] r4 K
def YC:=λ(K:qg qf->Pw)=>oG 36 [] r4 K
def YD:=λ(K:qg qf->Pw)=>oG 37 [] r4 K
def YE:=λa(K:qg qf->U->Pw)=>oG 38 [.z a] r5 K
def YF:=λa(K:qg qf->U->Pw)=>oG 39 [.z a] r5 K
def YG:=λa b(K:U->U->Pw)=>oG 40 [.pointer a,.z b] r7 K
def YH:=λa b c d(K:U->Pw)=>oG 41 [.pointer a,.z b,.z c,.z d] r0 K
def Wg:=λa b c(K:U->U->Pw)=>oG 42 [.pointer a,.z b,.z c] r7 K
def Xd:=λa b(K:U->Pw)=>oG 43 [.pointer a,.z b] r0 K
def YI:=λa b(K:U->I->Pw)=>oG 44 [.pointer a,.z b] r6 K
def YJ:=λa(K:qg qf->U->Pw)=>oG 45 [.z a] r5 K
def YK:=λa(K:qg qf->U->Pw)=>oG 46 [.z a] r5 K
def YL:=λa b(K:U->U->Pw)=>oG 47 [.pointer a,.z b] r7 K
def YM:=λa b c(K:Pw)=>oG 48 [.pointer a,.z b,.z c] r3 K
def YN:=λa b c(K:U->U->Pw)=>oG 49 [.pointer a,.z b,.z c] r7 K
def YO:=λa b(K:U->Pw)=>oG 50 [.pointer a,.z b] r0 K
def YP:=λa b(K:U->I->Pw)=>oG 51 [.pointer a,.z b] r6 K
def YQ:=λa(K:Sl->Pw)=>oG 52 [.pointer a] r2 K
def YR:=λa b(K:U->U->U->U->U->U->U->U->U->U->U->U->U->Pw)=>oG 56 [.pointer a,.z b] [(0,.a [.o,.o,.o,.o,.u,.u,.u,.u,.u,.u,.u,.u]),(1,.c (.i .i64))] K
def Xg:=λ(a b:Sl)(K:I->Pw)=>oG 60 [a.v,b.v] r1 K
def YS:=λa(K:U->I->Pw)=>oG 62 [.pointer a] [(0,.c (.i .u64)),(1,.c (.b))] K
def YT:=λa b(K:Sl->Pw)=>oG 63 [.pointer a,.z b] r2 K
def Xk:=λa b(K:U->I->Pw)=>oG 65 [.pointer a,.z b] r6 K
def YU:=λa b(K:I->Pw)=>oG 66 [.pointer a,.z b] r1 K
def YV:=λa(K:U->Pw)=>oG 67 [.pointer a] r0 K
def YW:=λ(a b:Sl)(K:I->Pw)=>oG 68 [a.v,b.v] r1 K
def Xm:=λa b(K:I->Pw)=>oG 69 [.pointer a,.z b] r1 K
def YX:=λa b c d e f g(K:I->Pw)=>oG 70 [.pointer a,.agg #[.z b,.z c,.z d,.z e,.z f,.z g]] r1 K
def YY:=λa b c d e f g h(K:U->Pw)=>oG 71 [.pointer a,.z b,.agg #[.z c,.z d,.z e,.z f,.z g,.z h]] r0 K
def YZ:=λa b c d e f g(K:U->Pw)=>oG 72 [.pointer a,.agg #[.z b,.z c,.z d,.z e,.z f,.z g]] r0 K
def Y0:=λa b c d e f g h i(K:U->Pw)=>oG 73 [.pointer a,.z b,.z c,.agg #[.z d,.z e,.z f,.z g,.z h,.z i]] r0 K
def Y5:=λa b c d e f g(K:U->Pw)=>oG 74 [.pointer a,.agg #[.z b,.z c,.z d,.z e,.z f,.z g]] r0 K
def Y6:=λa b(K:U->U->I->U->Pw)=>oG 75 [.pointer a,.z b] Qe K
def Y7:=λa b c(K:U->Pw)=>oG 76 [.pointer a,.z b,.y c] r0 K
def Y8:=λa b(K:U->U->I->U->Pw)=>oG 77 [.pointer a,.z b] Qe K
def Xn:=λa b c(K:U->Pw)=>oG 78 [.pointer a,.z b,.y c] r0 K
def Y9:=λa b(K:I->Pw)=>oG 79 [.pointer a,.z b] r1 K
def Za:=λa(K:qg qf->Pw)=>oG 80 [.pointer a] r4 K
def Zb:=λa(K:qg qf->Pw)=>oG 81 [.pointer a] r4 K
def Zc:=λa(K:qg qf->Pw)=>oG 82 [.pointer a] r4 K
def Zd:=λa(K:qg qf->Pw)=>oG 83 [.pointer a] r4 K
def Ze:=λ(a:Sl)(K:Sl->Pw)=>oG 84 [a.v] r2 K
def adK:=λ(a:Sl)(b:V)(K:Sl->Pw)=>oG 85 [a.v,b] r2 K
def Xp:=λa(K:qg qf->Pw)=>oG 86 [.pointer a] r4 K
def adL:=λ(a:Sl)(b:V)(K:Sl->Pw)=>oG 87 [a.v,b] r2 K
def Xq:=λa(K:qg qf->Pw)=>oG 88 [.pointer a] r4 K
def adM:=λ(a:Sl)(b:V)(K:Sl->Pw)=>oG 89 [a.v,b] r2 K
def Xs:=λa(K:qg qf->Pw)=>oG 90 [.pointer a] r4 K
def Zf:=λ(K:U->U->U->Sl->Pw)=>oG 91 [] [(0,.a [.o,.o,.o,.s])] K
def Zg:=λ(a:Sl)(K:Sl->Pw)=>oG 92 [a.v] r2 K
def Zh:=λa(K:qg qf->U->Pw)=>oG 93 [.z a] r5 K
def Zi:=λa(K:qg qf->U->Pw)=>oG 94 [.z a] r5 K
def Zj:=λa(K:qg qf->U->Pw)=>oG 95 [.z a] r5 K
def Zk:=λa b c d e(K:I->Pw)=>oG 96 [.agg #[.z a,.z b,.z c,.z d],.z e] r1 K
def Zl:=λa b c d e(K:U->U->U->U->U->U->Sl->U->U->I->I->Pw)=>oG 97 [.pointer a,.agg #[.z b,.z c,.z d,.z e]] r8 K
def Zm:=λa b(K:U->U->U->U->U->U->Sl->U->U->I->I->Pw)=>oG 98 [.pointer a,.z b] r8 K
def Zn:=λa(K:I->Pw)=>oG 99 [.pointer a] r1 K
def Zo:=λa b(K:U->I->Pw)=>oG 100 [.pointer a,.z b] r6 K
def Zp:=λa(K:qg qf->U->Pw)=>oG 101 [.z a] r5 K
def Zq:=λa(K:qg qf->U->Pw)=>oG 102 [.z a] r5 K
def Zr:=λa(K:qg qf->U->Pw)=>oG 103 [.z a] r5 K
def Zs:=λa(K:qg qf->Pw)=>oG 104 [.pointer a] r4 K
def Zt:=λa(K:qg qf->Pw)=>oG 105 [.pointer a] r4 K
def Zu:=λa(K:qg qf->Pw)=>oG 106 [.pointer a] r4 K
def Zv:=λa b c(d:Sl)(K:U->U->U->Sl->Pw)=>oG 107 [.agg #[.z a,.y b,.z c,d.v]] PT K
def Zw:=λa b c d e(K:I->Pw)=>oG 108 [.agg #[.z a,.z b,.z c,.z d],.z e] r1 K
def Zx:=λa b c d e(K:U->U->U->U->U->U->Sl->U->U->I->I->Pw)=>oG 109 [.pointer a,.agg #[.z b,.z c,.z d,.z e]] r8 K
def Zy:=λa b(K:U->U->U->U->U->U->Sl->U->U->I->I->Pw)=>oG 110 [.pointer a,.z b] r8 K
def Zz:=λa b(K:Sl->Pw)=>oG 111 [.pointer a,.z b] r2 K
def ZA:=λa(K:Sl->Pw)=>oG 112 [.pointer a] r2 K
def ZB:=λ(a b:Sl)(K:I->Pw)=>oG 113 [a.v,b.v] r1 K
def ZC:=λa b(K:U->Pw)=>oG 114 [.pointer a,.z b] r0 K
def ZD:=λa b(K:U->Pw)=>oG 115 [.pointer a,.z b] r0 K
def ZE:=λa(K:I->Pw)=>oG 116 [.z a] r1 K
def adN:=λ(a:Sl)(b:V)(K:I->Pw)=>oG 117 [a.v,b] r1 K
def ZF:=λ(a:Sl)b(K:Sl->Pw)=>oG 118 [a.v,.z b] r2 K
def ZG:=λ(K:qg qf->Pw)=>oG 119 [] r4 K
def ZH:=λa b c d e f g h i(K:U->Pw)=>oG 120 [.pointer a,.agg #[.z b,.z c],.agg #[.z d,.z e,.z f,.y g,.y h,.z i]] r0 K
def ZI:=λa b c(K:U->Pw)=>oG 121 [.pointer a,.agg #[.z b,.z c]] r0 K
def ZJ:=λa(K:I->Pw)=>oG 122 [.z a] r1 K
def ZK:=λa b(K:I->Pw)=>oG 123 [.pointer a,.z b] r1 K
def ZL:=λa b(K:qg qf->Pw)=>oG 124 [.pointer a,.z b] r4 K
def ZM:=λa b(K:Pw)=>oG 125 [.pointer a,.z b] r3 K
def ZN:=λa b(K:U->I->Pw)=>oG 126 [.pointer a,.z b] r6 K
def ZO:=λa(K:U->I->Pw)=>oG 127 [.pointer a] r6 K
def Wm:=λa b c(K:Pw)=>oG 128 [.pointer a,.z b,.z c] r3 K
def ZP:=λa(K:U->Pw)=>oG 129 [.z a] [(0,.c (.i .u64))] K
def ZQ:=λa b c d e f g h i(K:U->Pw)=>oG 130 [.pointer a,.agg #[.z b,.z c],.agg #[.z d,.z e,.z f,.y g,.y h,.z i]] r0 K
def ZR:=λa b c(K:U->Pw)=>oG 131 [.pointer a,.agg #[.z b,.z c]] r0 K
def ZS:=λa(K:I->Pw)=>oG 132 [.z a] r1 K
def ZT:=λa b(K:I->Pw)=>oG 133 [.pointer a,.z b] r1 K
def ZU:=λa b(K:I->Pw)=>oG 134 [.pointer a,.z b] r1 K
def ZV:=λa b(K:Pw)=>oG 135 [.pointer a,.z b] r3 K
def ZW:=λa(K:U->I->Pw)=>oG 136 [.pointer a] r6 K
def Xu:=λa b(K:Pw)=>oG 137 [.pointer a,.z b] r3 K
def ZX:=λa(K:Sl->Pw)=>oG 138 [.pointer a] r2 K
def ZY:=λa b(K:U->U->U->U->U->U->U->U->U->U->U->U->U->Pw)=>oG 140 [.pointer a,.z b] [(0,.a [.o,.o,.o,.o,.u,.u,.u,.u,.u,.u,.u,.u]),(1,.c (.i .i64))] K
def adO:=λ(a:Sl)b(K:I->Pw)=>oG 146 [a.v,.z b] r1 K
def ZZ:=λa(K:Sl->Pw)=>oG 147 [.pointer a] r2 K
def Z0:=λa(K:U->U->Pw)=>oG 148 [.z a] [(0,.a [.o,.o])] K
def Z3:=λa b c(K:U->U->U->U->U->U->U->U->I->Pw)=>oG 149 [.pointer a,.z b,.z c] [(0,.a [.o,.o]),(1,.a [.o,.o,.o,.u,.u,.o]),(2,.c (.b))] K
def Xz:=λa(K:U->Pw)=>oG 150 [.pointer a] r0 K
def XA:=λa(K:U->Pw)=>oG 151 [.pointer a] r0 K
def XC:=λa(K:U->Pw)=>oG 152 [.pointer a] r0 K
def XD:=λa(K:U->Pw)=>oG 153 [.pointer a] r0 K
def XF(d1:qg qf)(K:U->Pw)(w:W):Prop:=okF qh 154 (Calls qh 154 #[.pointer d1] w λen w'=>∃r2,en= .returned (.z r2)/\K r2 w')
def XG:=λa(K:U->Pw)=>oG 155 [.pointer a] r0 K
def XH:=λa(K:U->Pw)=>oG 156 [.pointer a] r0 K
def XI:=λa(K:U->Pw)=>oG 157 [.pointer a] r0 K
def XJ:=λa(K:U->Pw)=>oG 158 [.pointer a] r0 K
def XK:=λa(K:U->Pw)=>oG 159 [.pointer a] r0 K
def XL:=λa(K:U->Pw)=>oG 160 [.pointer a] r0 K
def XM:=λa(K:U->Pw)=>oG 161 [.pointer a] r0 K
def XN:=λa(K:U->Pw)=>oG 162 [.pointer a] r0 K
def XO:=λa(K:U->Pw)=>oG 163 [.pointer a] r0 K
def XP:=λa(K:U->Pw)=>oG 164 [.pointer a] r0 K
def XQ:=λa(K:U->Pw)=>oG 165 [.pointer a] r0 K
def XR:=λa(K:U->Pw)=>oG 166 [.pointer a] r0 K
def Z4:=λa b(K:U->U->U->U->U->U->Pw)=>oG 167 [.pointer a,.z b] [(0,.a [.o,.o,.o,.u,.u,.o])] K
def Z5:=λa(K:U->Pw)=>oG 168 [.z a] r0 K
def Z6:=λa b c d e f g h i(K:U->Pw)=>oG 169 [.pointer a,.z b,.agg #[.z c,.z d,.z e,.z f,.z g,.z h],.z i] r0 K
def Wo:=λa b c(K:U->Pw)=>oG 170 [.pointer a,.z b,.z c] r0 K
def Z7:=λa b c d e f g h(K:U->U->U->U->U->U->U->Pw)=>oG 171 [.agg #[.z a,.z b,.z c,.y d,.y e,.z f],.z g,.y h] r9 K
def Z8:=λa b c d e f g h i(K:Pw)=>oG 172 [.pointer a,.z b,.z c,.agg #[.z d,.z e,.z f,.y g,.y h,.z i]] r3 K
def Z9:=λa b c d e(K:U->Pw)=>oG 173 [.pointer a,.agg #[.z b,.z c],.agg #[.z d,.z e]] r0 K
def aaa:=λa b c d e(K:U->Pw)=>oG 174 [.pointer a,.agg #[.z b,.z c],.agg #[.z d,.z e]] r0 K
def aab:=λa b c(K:Pw)=>oG 175 [.pointer a,.agg #[.z b,.z c]] r3 K
def aac:=λa b c(K:Sl->Pw)=>oG 176 [.pointer a,.agg #[.z b,.z c]] r2 K
def aad:=λa b(K:Pw)=>oG 177 [.pointer a,.z b] r3 K
def WC:=λa b(K:U->Pw)=>oG 178 [.pointer a,.z b] r0 K
def aae:=λa b(K:U->Pw)=>oG 179 [.pointer a,.z b] r0 K
def aaf:=λa b c(K:U->Pw)=>oG 180 [.pointer a,.z b,.z c] r0 K
def aag:=λa b c(K:U->I->U->Pw)=>oG 181 [.pointer a,.z b,.bool c] [(0,.c (.i .u64)),(1,.c (.b)),(2,.c (.i .i64))] K
def aah:=λa b c d e f g h i(K:Pw)=>oG 182 [.pointer a,.z b,.z c,.agg #[.z d,.z e,.z f,.z g,.z h,.z i]] r3 K
def aai:=λa b c d e f g h i j(K:I->U->U->U->U->U->U->U->U->I->U->Pw)=>oG 183 [.pointer a,.z b,.agg #[.z c,.y d,.y e,.y f,.y g,.y h,.bool i],.bool j] O4 K
def aaj:=λa b c(K:I->U->U->U->U->U->U->U->U->I->U->Pw)=>oG 184 [.pointer a,.z b,.bool c] O4 K
def aak:=λa b c d e f g h i(K:Pw)=>oG 185 [.pointer a,.z b,.agg #[.z c,.y d,.y e,.y f,.y g,.y h,.bool i]] r3 K
def aal:=λa b c(K:U->Pw)=>oG 186 [.pointer a,.z b,.z c] r0 K
def aam:=λa b c d(K:U->Pw)=>oG 187 [.pointer a,.z b,.agg #[.z c,.z d]] r0 K
def aan:=λa b(K:U->U->U->Pw)=>oG 188 [.pointer a,.z b] OD K
def aao:=λa b c d e(K:Pw)=>oG 189 [.pointer a,.z b,.z c,.agg #[.z d,.z e]] r3 K
def aap:=λa b c d(K:U->Pw)=>oG 190 [.pointer a,.z b,.z c,.y d] r0 K
def aaq:=λa b(K:U->U->I->U->Pw)=>oG 191 [.pointer a,.z b] Qe K
def aar:=λa b(K:qg qf->Pw)=>oG 192 [.pointer a,.z b] r4 K
def aas:=λa b(K:U->U->I->Pw)=>oG 193 [.pointer a,.y b] [(0,.c (.i .i64)),(1,.c (.i .u64)),(2,.c (.b))] K
def XS:=λa b c d(K:U->Pw)=>oG 194 [.pointer a,.z b,.z c,.y d] r0 K
def aat:=λa b(K:I->Pw)=>oG 195 [.pointer a,.z b] r1 K
def aau:=λa b(K:U->U->I->Pw)=>oG 196 [.pointer a,.y b] [(0,.c (.i .i64)),(1,.c (.i .u64)),(2,.c (.b))] K
def aav:=λa b c d(K:U->Pw)=>oG 197 [.pointer a,.z b,.z c,.y d] r0 K
def WE:=λ(a:Sl)(K:Sl->Pw)=>oG 198 [a.v] r2 K
def aaw(m1:qg S)(K:qg S->Pw)(w:W):Prop:=okF qh 199 (Calls qh 199 #[.map m1] w λen w'=>∃r2,en= .returned (.map r2)/\K r2 w')
def aax:=λ(a:Sl)(K:Sl->Pw)=>oG 200 [a.v] r2 K
def aay:=λ(a:Sl)(K:Sl->Pw)=>oG 201 [a.v] r2 K
def XT:=λa(K:qg qf->Pw)=>oG 202 [.pointer a] r4 K
def aaz:=λ(a:Sl)(K:Sl->Pw)=>oG 203 [a.v] r2 K
def aaA:=λ(a:Sl)(K:Sl->Pw)=>oG 204 [a.v] r2 K
def WG(m1:qg S)(K:qg S->Pw)(w:W):Prop:=okF qh 205 (Calls qh 205 #[.map m1] w λen w'=>∃r2,en= .returned (.map r2)/\K r2 w')
def aaB:=λa(K:I->Pw)=>oG 206 [.z a] r1 K
def aaC:=λa b c(K:U->U->U->U->U->U->Sl->U->U->I->I->Pw)=>oG 207 [.pointer a,.z b,.z c] r8 K
def aaD:=λa b(K:I->Pw)=>oG 208 [.pointer a,.z b] r1 K
def XU:=λa b(K:U->Pw)=>oG 209 [.pointer a,.z b] r0 K
def aaE:=λa b(K:I->U->Pw)=>oG 210 [.pointer a,.z b] [(0,.c (.b)),(1,.c (.i .i64))] K
def aaF:=λa b(K:U->U->U->U->U->U->Sl->U->U->I->Pw)=>oG 211 [.pointer a,.z b] Q8 K
def aaG:=λa b(K:U->Pw)=>oG 212 [.pointer a,.z b] r0 K
def XV:=λa b(K:U->Pw)=>oG 213 [.pointer a,.z b] r0 K
def aaH:=λa(K:U->I->Pw)=>oG 214 [.pointer a] r6 K
def aaI:=λa b(K:I->Pw)=>oG 215 [.pointer a,.z b] r1 K
def aaJ:=λa(K:Sl->Pw)=>oG 216 [.pointer a] r2 K
def aaK:=λ(a:Sl)(K:Sl->Pw)=>oG 217 [a.v] r2 K
def aaL:=λ(a:Sl)(K:Sl->Pw)=>oG 218 [a.v] r2 K
def aaM:=λa b c(K:U->U->U->U->U->U->Sl->U->U->I->Pw)=>oG 219 [.pointer a,.z b,.z c] Q8 K
def aaN:=λa b(K:U->U->U->I->Pw)=>oG 220 [.pointer a,.z b] [(0,.a [.o,.o,.o]),(1,.c (.b))] K
def aaO:=λa b c(K:I->Pw)=>oG 221 [.pointer a,.z b,.z c] r1 K
def aaP:=λa b(K:U->Pw)=>oG 222 [.pointer a,.z b] r0 K
def aaQ:=λa b(K:U->Pw)=>oG 223 [.pointer a,.z b] r0 K
def aaR:=λa b(K:U->U->U->U->U->U->Sl->U->U->I->Pw)=>oG 224 [.pointer a,.z b] Q8 K
def aaS:=λa b(K:U->Pw)=>oG 225 [.pointer a,.z b] r0 K
def aaT:=λa(K:Sl->Pw)=>oG 226 [.pointer a] r2 K
def XW:=λ(a:Sl)(b:V)(K:U->Pw)=>oG 227 [a.v,b] r0 K
def aaU:=λa b(K:U->U->Pw)=>oG 228 [.y a,.y b] [(0,.c (.i .u64)),(1,.c (.i .u64))] K
def aaV:=λa b c d e f(K:U->Pw)=>oG 229 [.agg #[.z a,.z b,.z c,.y d,.y e,.z f]] r0 K
def aaW:=λa b c(K:I->Pw)=>oG 230 [.pointer a,.agg #[.z b,.z c]] r1 K
def aaX:=λa b c(K:U->Pw)=>oG 231 [.pointer a,.agg #[.z b,.z c]] r0 K
def aaY:=λa b c(K:U->Pw)=>oG 232 [.pointer a,.z b,.z c] r0 K
def aaZ:=λa b c d(K:U->Pw)=>oG 233 [.agg #[.y a,.y b,.y c,.y d]] r0 K
def aa0:=λa b(K:U->Pw)=>oG 234 [.pointer a,.z b] r0 K
def aa1:=λa b c(K:I->Pw)=>oG 235 [.pointer a,.agg #[.z b,.z c]] r1 K
def aa2:=λa b c d e f(K:U->Pw)=>oG 236 [.agg #[.z a,.z b,.z c,.y d,.y e,.z f]] r0 K
def aa3:=λa b c(K:U->Pw)=>oG 237 [.pointer a,.agg #[.z b,.z c]] r0 K
def XX:=λa b c d e(K:Pw)=>oG 238 [.pointer a,.z b,.agg #[.z c,.z d],.z e] r3 K
def aa4:=λa b c(K:U->Pw)=>oG 239 [.pointer a,.z b,.z c] r0 K
def aa5:=λa b(K:Sl->Pw)=>oG 240 [.pointer a,.z b] r2 K
def aa6:=λa b(K:U->Pw)=>oG 241 [.pointer a,.z b] r0 K
def XY:=λ(a b:V)(K:Sl->Pw)=>oG 242 [a,b] r2 K
def aa7:=λa(K:V->Pw)=>oG 243 [.map a] O5 K
def aa8(a1:U)(a2:U)(b3:U)(b4:U)(K:U->Pw)(w:W):Prop:=okF qh 244 (Calls qh 244 #[.agg #[.z a1,.z a2],.agg #[.z b3,.z b4]] w λen w'=>∃r5,en= .returned (.z r5)/\K r5 w')
def WJ:=λ(a:Sl)(K:Sl->Pw)=>oG 245 [a.v] r2 K
def WM:=λa b(K:Sl->Pw)=>oG 246 [.agg #[.z a,.map b]] r2 K
def aa9:=λa b(K:U->U->I->Pw)=>oG 247 [.pointer a,.z b] O3 K
def WR:=λa b c(K:U->U->U->U->U->U->U->Pw)=>oG 248 [.pointer a,.agg #[.z b,.z c]] r9 K
def aba:=λa b c d e f(K:Sl->U->U->U->U->Pw)=>oG 249 [.agg #[.y a,.z b,.y c],.z d,.z e,.z f] [(0,.c (.s)),(1,.a [.u,.o,.u]),(2,.c (.i .i64))] K
def abb:=λa b(K:Sl->U->Pw)=>oG 250 [.pointer a,.z b] PU K
def abc:=λa b c d e f g h i(K:Pw)=>oG 251 [.pointer a,.agg #[.z b,.z c],.agg #[.z d,.z e,.z f,.y g,.y h,.z i]] r3 K
def abd:=λa b(K:U->Pw)=>oG 252 [.pointer a,.y b] r0 K
def abe:=λa b c d e f g h(K:U->U->U->U->U->U->U->Pw)=>oG 253 [.agg #[.z a,.z b,.z c,.y d,.y e,.z f],.z g,.y h] r9 K
def abf:=λa b c d e(K:U->Pw)=>oG 254 [.pointer a,.agg #[.z b,.z c],.agg #[.z d,.z e]] r0 K
def abg:=λa b c d e(K:U->Pw)=>oG 255 [.pointer a,.agg #[.z b,.z c],.agg #[.z d,.z e]] r0 K
def WS:=λa b c(K:Pw)=>oG 256 [.pointer a,.agg #[.z b,.z c]] r3 K
def XZ:=λa b c(K:Sl->Pw)=>oG 257 [.pointer a,.agg #[.z b,.z c]] r2 K
def abh:=λ(a:Sl)(K:V->Pw)=>oG 258 [a.v] O5 K
def X0:=λa b c(K:U->U->U->Pw)=>oG 259 [.agg #[.y a,.z b,.y c]] [(0,.a [.u,.o,.u])] K
def abi:=λa b(K:Pw)=>oG 260 [.pointer a,.z b] r3 K
def abj:=λa b(K:U->Pw)=>oG 261 [.pointer a,.z b] r0 K
def X1:=λa b(K:U->Pw)=>oG 262 [.pointer a,.z b] r0 K
def abk:=λa b c(K:U->Pw)=>oG 263 [.pointer a,.z b,.z c] r0 K
def abl:=λa b c d e f g h i j(K:I->U->U->U->U->U->U->U->U->I->U->Pw)=>oG 264 [.pointer a,.z b,.agg #[.z c,.y d,.y e,.y f,.y g,.y h,.bool i],.bool j] O4 K
def abm:=λa(K:Pw)=>oG 265 [.pointer a] r3 K
def abn:=λa b c d e f g h i(K:Pw)=>oG 266 [.pointer a,.z b,.agg #[.z c,.y d,.y e,.y f,.y g,.y h,.bool i]] r3 K
def abo:=λa b c(K:I->U->U->U->U->U->U->U->U->I->U->Pw)=>oG 267 [.pointer a,.z b,.bool c] O4 K
def abp:=λa b c(K:U->I->U->Pw)=>oG 268 [.pointer a,.z b,.bool c] [(0,.c (.i .u64)),(1,.c (.b)),(2,.c (.i .i64))] K
def abq:=λa b c(K:U->Pw)=>oG 269 [.pointer a,.z b,.z c] r0 K
def X2:=λa b c d(K:U->Pw)=>oG 270 [.pointer a,.z b,.agg #[.z c,.z d]] r0 K
def abr:=λa b(K:U->U->U->Pw)=>oG 271 [.pointer a,.z b] OD K
def abt:=λa b c d e(K:Pw)=>oG 272 [.pointer a,.z b,.agg #[.z c,.z d,.z e]] r3 K
def abu:=λa b c d(K:U->Pw)=>oG 273 [.pointer a,.z b,.z c,.y d] r0 K
def abv:=λa b(K:U->U->I->U->Pw)=>oG 274 [.pointer a,.z b] Qe K
def abw:=λa b c(K:U->U->U->U->U->U->U->Pw)=>oG 275 [.pointer a,.agg #[.z b,.z c]] r9 K
def abx:=λa b c d e f(K:Sl->U->U->U->U->Pw)=>oG 276 [.agg #[.y a,.z b,.y c],.z d,.z e,.z f] [(0,.c (.s)),(1,.a [.u,.o,.u]),(2,.c (.i .i64))] K
def aby:=λa b c d e f g h i(K:U->Pw)=>oG 277 [.pointer a,.z b,.agg #[.z c,.z d,.z e,.z f,.z g,.z h],.y i] r0 K
def abz:=λa(K:I->Pw)=>oG 278 [.z a] r1 K
def abA:=λa(K:I->Pw)=>oG 279 [.z a] r1 K
def abB:=λa b c d e(K:U->Pw)=>oG 280 [.pointer a,.agg #[.z b,.z c],.agg #[.z d,.z e]] r0 K
def abC:=λa b c(K:U->Pw)=>oG 281 [.pointer a,.agg #[.z b,.z c]] r0 K
def abD:=λa b c(K:U->U->U->U->U->U->U->Pw)=>oG 282 [.pointer a,.agg #[.z b,.z c]] r9 K
def abE:=λa b c d e f g h i j k l(K:I->Pw)=>oG 283 [.agg #[.z a,.z b,.z c,.y d,.y e,.z f],.agg #[.z g,.z h,.z i,.y j,.y k,.z l]] r1 K
def abF:=λa b(K:Sl->Pw)=>oG 284 [.pointer a,.z b] r2 K
def abG:=λa b(K:U->I->Pw)=>oG 285 [.pointer a,.z b] r6 K
def abH:=λa b(K:Sl->U->Pw)=>oG 286 [.pointer a,.z b] PU K
def abI:=λa b(K:U->Pw)=>oG 287 [.pointer a,.z b] r0 K
def abJ:=λa b(K:I->Pw)=>oG 288 [.pointer a,.z b] r1 K
def abK:=λa b(K:I->Pw)=>oG 289 [.pointer a,.z b] r1 K
def abL:=λa b(K:U->Pw)=>oG 290 [.pointer a,.z b] r0 K
def abM:=λa b(K:I->Pw)=>oG 291 [.pointer a,.z b] r1 K
def abN:=λa b(K:U->Pw)=>oG 292 [.pointer a,.z b] r0 K
def abO:=λ(a:Sl)b c(K:Sl->Pw)=>oG 293 [a.v,.z b,.z c] r2 K
def X3:=λ(a:Sl)(K:U->Pw)=>oG 294 [a.v] r0 K
def abP:=λa b(K:U->Pw)=>oG 295 [.bool a,.z b] r0 K
def abQ:=λa b c(K:U->U->I->Pw)=>oG 297 [.pointer a,.z b,.z c] O3 K
def abR:=λa b(K:U->U->I->Pw)=>oG 298 [.pointer a,.z b] O3 K
def abS:=λa b c d e(K:Pw)=>oG 299 [.pointer a,.agg #[.z b,.z c,.z d,.z e]] r3 K
def abT:=λa b(K:U->U->U->I->Pw)=>oG 300 [.pointer a,.z b] [(0,.a [.o,.o,.o]),(1,.c (.b))] K
def abU:=λa b c(K:I->Pw)=>oG 301 [.pointer a,.z b,.z c] r1 K
def abV:=λa b(K:I->Pw)=>oG 302 [.pointer a,.z b] r1 K
def abW:=λa(K:I->Pw)=>oG 303 [.pointer a] r1 K
def abX:=λa b c d(K:U->Pw)=>oG 304 [.pointer a,.z b,.z c,.z d] r0 K
def abY:=λ(a:Sl)(b:V)(K:U->Pw)=>oG 305 [a.v,b] r0 K
def abZ:=λa(K:I->Pw)=>oG 306 [.pointer a] r1 K
def ab0:=λ(a:Sl)(K:Pw)=>oG 307 [a.v] r3 K
def ab1:=λa b c(K:U->U->I->Pw)=>oG 308 [.pointer a,.z b,.z c] O3 K
def X4:=λa b(K:U->U->I->Pw)=>oG 309 [.pointer a,.z b] O3 K
def ab2:=λa b c d e(K:Pw)=>oG 310 [.pointer a,.agg #[.z b,.z c,.z d,.z e]] r3 K
def ab3:=λa b c d(K:U->Pw)=>oG 311 [.pointer a,.z b,.z c,.z d] r0 K
def adP:=λa b(K:U->U->Pw)=>oG 313 [.y a,.y b] [(0,.c (.i .u64)),(1,.c (.i .u64))] K
def ab4:=λa(K:I->Pw)=>oG 314 [.z a] r1 K
def ab5:=λa b(K:I->Pw)=>oG 315 [.y a,.z b] r1 K
def ab6:=λa(K:I->Pw)=>oG 316 [.z a] r1 K
def ab7:=λa(K:I->Pw)=>oG 317 [.z a] r1 K
def ab8:=λa b(K:U->I->Pw)=>oG 318 [.pointer a,.z b] r6 K
def ab9:=λ(a:Sl)(b:V)(K:U->Pw)=>oG 319 [a.v,b] r0 K
def aca:=λa b c(d:qf)(K:I->Pw)=>oG 320 [.agg #[.z a,.z b,.z c],.pointer (X d)] r1 K
def acb:=λa b(K:Pw)=>oG 321 [.pointer a,.z b] r3 K
def acd:=λa(K:U->Pw)=>oG 322 [.y a] r0 K
def ace:=λ(a:Sl)(b:V)(K:Sl->Pw)=>oG 323 [a.v,b] r2 K
def acf:=λa(b:qf)(K:I->Pw)=>oG 324 [.z a,.pointer (X b)] r1 K
def acg:=λa b(K:I->Pw)=>oG 325 [.y a,.z b] r1 K
def ach:=λa b(K:U->I->Pw)=>oG 326 [.pointer a,.z b] r6 K
def adQ:=λa(K:Sl->Pw)=>oG 327 [a] r2 K
def aci(x1:Sl)(cmp2:V)(K:Pw)(w:W):Prop:=okF qh 328 (Calls qh 328 #[x1.v,cmp2] w λen w'=>en= .returned (.tuple #[])/\K w')
def X5:=λ(a:Sl)(K:U->Pw)=>oG 330 [a.v] r0 K
def WV:=λa b(K:U->Pw)=>oG 331 [.z a,.z b] r0 K
def WZ(seq1:V)(K:Sl->Pw)(w:W):Prop:=okF qh 332 (Calls qh 332 #[seq1] w λen w'=>∃r2:Sl,en= .returned r2.v/\K r2 w')
def W4(m1:qg S)(K:V->Pw)(w:W):Prop:=okF qh 333 (Calls qh 333 #[.map m1] w λen w'=>∃r2:V,en= .returned (r2)/\K r2 w')
def acj:=λa b c d e f g h i(K:U->U->U->Pw)=>oG 334 [.pointer a,.agg #[.z b,.z c,.z d,.y e,.y f,.z g],.y h,.z i] OD K
def ack:=λa b c(K:U->Pw)=>oG 335 [.agg #[.y a,.z b,.y c]] r0 K
def acm:=λa b(K:U->U->Pw)=>oG 336 [.z a,.z b] r7 K
def acn:=λa b(K:U->U->Pw)=>oG 337 [.y a,.z b] OE K
def X6:=λa b(c:qf)(K:I->Pw)=>oG 338 [.agg #[.z a,.z b],.pointer (X c)] r1 K
def aco:=λ(a:Sl)(b:V)(K:I->Pw)=>oG 339 [a.v,b] r1 K
def acp:=λa b c d e(K:U->Pw)=>oG 340 [.pointer a,.agg #[.z b,.z c],.agg #[.z d,.z e]] r0 K
def acq:=λ(K:qg qf->Pw)=>oG 341 [] r4 K
def acr:=λ(K:qg qf->Pw)=>oG 342 [] r4 K
def acs:=λa b c(K:U->Pw)=>oG 343 [.pointer a,.agg #[.z b,.z c]] r0 K
def acu:=λa b c(K:U->U->U->U->U->U->U->Pw)=>oG 344 [.pointer a,.agg #[.z b,.z c]] r9 K
def acv:=λ(a:Sl)(b:V)(K:I->Pw)=>oG 345 [a.v,b] r1 K
def X7:=λa b c d e f g h(i:qf)(K:I->Pw)=>oG 346 [.agg #[.z a,.z b,.z c,.z d,.z e,.y f,.y g,.z h],.pointer (X i)] r1 K
def acw:=λa b c d e f g h i j k l(K:I->Pw)=>oG 347 [.agg #[.z a,.z b,.z c,.y d,.y e,.z f],.agg #[.z g,.z h,.z i,.y j,.y k,.z l]] r1 K
def acx:=λa b c d e f g(K:Pw)=>oG 348 [.pointer a,.agg #[.z b,.z c,.z d,.y e,.y f,.z g]] r3 K
def acy:=λa b(K:U->Pw)=>oG 349 [.pointer a,.z b] r0 K
def acz:=λa b(K:I->Pw)=>oG 351 [.pointer a,.z b] r1 K
def acA:=λa b(K:I->Pw)=>oG 352 [.pointer a,.z b] r1 K
def acB:=λa b(K:I->Pw)=>oG 353 [.pointer a,.z b] r1 K
def acC:=λa b(K:U->U->U->U->U->U->U->I->I->Pw)=>oG 354 [.pointer a,.bool b] [(0,.a [.o,.o,.u,.u,.u,.u,.u,.b]),(1,.c (.b))] K
def acD:=λa b c d e f g h i j(K:Pw)=>oG 355 [.pointer a,.agg #[.z b,.z c,.y d,.y e,.y f,.y g,.y h,.bool i],.bool j] r3 K
def X8:=λa b(K:U->Pw)=>oG 356 [.pointer a,.z b] r0 K
def acE:=λ(a:Sl)b(K:I->Pw)=>oG 357 [a.v,.z b] r1 K
def acF:=λa(K:I->Pw)=>oG 358 [.z a] r1 K
def acG:=λa b(c:qf)(K:I->Pw)=>oG 359 [.agg #[.z a,.map b],.pointer (X c)] r1 K
def acH:=λ(a:Sl)(b:V)(K:I->Pw)=>oG 360 [a.v,b] r1 K
def acI:=λa(K:I->Pw)=>oG 361 [.z a] r1 K
def acJ:=λa(K:I->Pw)=>oG 362 [.z a] r1 K
def acK:=λa b(K:qg qf->I->Pw)=>oG 363 [.pointer a,.z b] [(0,.c (.p)),(1,.c (.b))] K
def acL:=λa b(K:U->U->I->Pw)=>oG 364 [.pointer a,.z b] O3 K
def acM:=λa b c(K:U->Pw)=>oG 365 [.agg #[.y a,.z b,.y c]] r0 K
def acN:=λa b(K:U->U->Pw)=>oG 366 [.z a,.z b] r7 K
def adR:=λ(a:Sl)(b:V)(K:U->Pw)=>oG 367 [a.v,b] r0 K
def acO:=λa(K:I->Pw)=>oG 368 [.z a] r1 K
def acP:=λa b c d(e:Sl)(K:I->Pw)=>oG 369 [.agg #[.z a,.z b,.z c,.z d],e.v] r1 K
def acQ:=λa(K:V->Pw)=>oG 370 [.z a] O5 K
def acR:=λa(K:V->Pw)=>oG 371 [.z a] O5 K
def acS:=λ(a:Sl)(b:V)(K:U->Pw)=>oG 372 [a.v,b] r0 K
def acT:=λa b c(d:qf)(K:I->Pw)=>oG 373 [.agg #[.z a,.z b,.z c],.pointer (X d)] r1 K
def acU:=λa(b:Sl)(K:U->Pw)=>oG 374 [.pointer a,b.v] r0 K
def acV:=λ(a:Sl)b c(K:Sl->Pw)=>oG 375 [a.v,.z b,.z c] r2 K
def acW:=λa b(K:I->Pw)=>oG 376 [.pointer a,.z b] r1 K
def acX:=λ(a:Sl)b c(K:Sl->Pw)=>oG 377 [a.v,.z b,.z c] r2 K
def acY:=λa b c d(e:Sl)(K:U->Pw)=>oG 378 [.pointer a,.agg #[.z b,.z c,.z d],e.v] r0 K
def acZ:=λa b(K:I->Pw)=>oG 379 [.pointer a,.z b] r1 K
def ac0:=λa b(K:Sl->Pw)=>oG 380 [.pointer a,.z b] r2 K
def ac1:=λa b c d e(K:U->Pw)=>oG 381 [.pointer a,.z b,.z c,.z d,.z e] r0 K
def ac2:=λa(K:U->U->Pw)=>oG 382 [.z a] OE K
def ac3:=λa b c d e f(K:U->U->U->U->U->Pw)=>oG 383 [.agg #[.y a,.y b,.y c,.y d],.z e,.bool f] [(0,.a [.u,.u,.u,.u]),(1,.c (.i .i64))] K
def adS(s1:Sl)(seq2:V)(K:Sl->Pw)(w:W):Prop:=okF qh 384 (Calls qh 384 #[s1.v,seq2] w λen w'=>∃r3:Sl,en= .returned r3.v/\K r3 w')
def ac4:=λa(K:I->Pw)=>oG 387 [.z a] r1 K
def ac5:=λa b c d e f g h(K:U->U->U->Pw)=>oG 391 [.pointer a,.agg #[.z b,.z c,.z d,.y e,.y f,.z g],h] OD K
def ac6:=λa b(K:U->I->Pw)=>oG 392 [.pointer a,.z b] [(0,.c (.i .u64)),(1,.c (.b))] K
def ac7:=λa b c d(K:U->U->Pw)=>oG 393 [.z a,.z b,.z c,.z d] r7 K
def ac8:=λ(K:U->U->U->U->U->U->U->U->U->U->Pw)=>oG 394 [] [(0,.a [.o,.o,.o,.o,.o,.o,.o,.o,.o,.o])] K
def X9:=λa(K:U->Pw)=>oG 395 [.z a] [(0,.c (.i .u64))] K
def ac9:=λ(a:Sl)(b:V)(K:U->Pw)=>oG 397 [a.v,b] r0 K
def Ya:=λ(a:Sl)b(c:Sl)(K:Sl->Pw)=>oG 398 [a.v,.z b,c.v] r2 K
def Yb:=λ(a:Sl)b c(K:Sl->Pw)=>oG 399 [a.v,.z b,.z c] r2 K
def ada:=λ(a:Sl)(b:V)(K:U->Pw)=>oG 400 [a.v,b] r0 K
def adb:=λa b(K:Sl->Pw)=>oG 401 [.pointer a,.z b] r2 K
def ade:=λa b(K:U->I->Pw)=>oG 402 [.pointer a,.z b] r6 K
def adf:=λa b(K:Sl->U->Pw)=>oG 403 [.pointer a,.z b] PU K
def adg:=λ(a:Sl)(b:V)(K:Sl->Pw)=>oG 404 [a.v,b] r2 K
def adh:=λa b c d e f g h(i:qf)(K:I->Pw)=>oG 405 [.agg #[.z a,.z b,.y c,.y d,.y e,.y f,.y g,.bool h],.pointer (X i)] r1 K
def adi:=λa(b:qf)(K:I->Pw)=>oG 406 [.z a,.pointer (X b)] r1 K
def adj:=λ(a:Sl)(b:V)(K:I->Pw)=>oG 407 [a.v,b] r1 K
def adk:=λa b c d e f g h(i:qf)(K:I->Pw)=>oG 408 [.agg #[.z a,.z b,.y c,.y d,.y e,.y f,.y g,.bool h],.pointer (X i)] r1 K
def adl:=λ(a:Sl)b c(K:Sl->Pw)=>oG 409 [a.v,.z b,.z c] r2 K
def adm:=λ(a:Sl)b(K:U->Pw)=>oG 410 [a.v,.z b] r0 K
def adT:=λ(a:Sl)(b:V)(K:U->Pw)=>oG 411 [a.v,b] r0 K
def Yc:=λa b c(K:U->U->Pw)=>oG 412 [.y a,.z b,.z c] OE K
def adU:=λ(a:Sl)(b:V)(K:I->Pw)=>oG 413 [a.v,b] r1 K
def adn:=λa(b:qf)(K:I->Pw)=>oG 414 [a,.pointer (X b)] r1 K
def ado:=λa b c d(e:qf)(K:I->Pw)=>oG 415 [.agg #[.z a,.z b,.z c,.z d],.pointer (X e)] r1 K
def adp:=λa b c d(e:qf)(K:I->Pw)=>oG 416 [.agg #[.z a,.z b,.z c,.z d],.pointer (X e)] r1 K
def adq:=λ(a:Sl)(b:V)(K:Sl->Pw)=>oG 417 [a.v,b] r2 K
def adr:=λa b c d(e:qf)(K:I->Pw)=>oG 418 [.agg #[.z a,.z b,.z c,.z d],.pointer (X e)] r1 K
def ads:=λa(b:qf)(K:I->Pw)=>oG 419 [.z a,.pointer (X b)] r1 K
def adt:=λa(K:I->Pw)=>oG 420 [.z a] r1 K
def adu:=λa b c d e f g(K:U->I->Pw)=>oG 432 [.pointer a,.agg #[.z b,.z c,.z d,.y e,.y f,.z g]] r6 K
def aj3(s1:Sl)(r2:U)(K:Pw)(w:W):Prop:=okF qh 434 (Calls qh 434 #[s1.v,.z r2] w λen w'=>en= .returned (.tuple #[])/\K w')
def adv:=λ(a:Sl)(b:V)(K:U->Pw)=>oG 435 [a.v,b] r0 K
def Yd:=λa b(K:I->Pw)=>oG 436 [.z a,.z b] r1 K
def adV:=λ(a:Sl)(b:V)(K:U->Pw)=>oG 437 [a.v,b] r0 K
def adw:=λ(a:Sl)(b:V)(K:U->Pw)=>oG 438 [a.v,b] r0 K
def bw:dX S:=⟨1,λp=>[.q p],λ_=>rfl,λx v h=>by simp only[SH,TE,qG]at h;subst h;rfl,qb⟩
def aq{α:Type}(A:S->α->aG)(ps:J S)(xs:J α):aG:=oA λ_:Unit=>aQ (dw (ps.length=xs.length)::SC A ps xs)
section
variable{B:S}{w0 w:W}{R L:J aG}{α β:Type}{E:dX α}{s:Sl}{A:S->α->aG}{ps:J S}{xs:J α}
theorem Ow.Ij(h:Ow B w0 w (aq A ps xs::R)):ps.length=xs.length/\Ow B w0 w (SC A ps xs++R):=by obtain⟨_,h⟩:=h.ex;exact Ow.pure h.star
theorem Ow.ic(hl:ps.length=xs.length)(h:Ow B w0 w (SC A ps xs++R)):Ow B w0 w (aq A ps xs::R):=
 Ow.eu () (Ow.aR (Ow.cI hl h))
theorem LX{p:S}{x:α}{j:S}(hp:ps[j]?=X p)(hx:xs[j]?=X x)(R:J aG):(SC A ps xs++R)[j]?=X (A p x):=by have h1:=(Sz.1 hp).1;have h2:=(Sz.1 hx).1;rw[SM (by simp;omega),List.getElem?_zipWith,hp,hx]
theorem Ow.pt(h:Ow B w0 w (aq A ps xs::R)){j:S}{p:S}{x:α}(hp:ps[j]?=X p)(hx:xs[j]?=X x):
  Ow B w0 w (A p x::((SC A ps xs).eraseIdx j++R)):=by
 obtain⟨hl,h⟩:=h.Ij;have h1:=(Sz.1 hp).1;have:=h.take j (LX hp hx R)
 rwa [Uz (by simp;omega)]at this
theorem Ej{p:S}{x':α}:∀(ps:J S)(xs:J α)(j:S),ps[j]?=X p->SC A ps (xs.set j x')=(SC A ps xs).set j (A p x')
 | [],xs,j,h=>by simp at h
 |_::_,[],j,_=>by cases j<;>simp
 |s::ps,r::xs,0,h=>by simp at h;subst h;simp
 |s::ps,r::xs,j+1,h=>by simp[Ej ps xs j (by simpa using h)]
theorem Ow.BS{j:S}{p:S}{x':α}(hl:ps.length=xs.length)(hp:ps[j]?=X p)(h:Ow B w0 w (A p x'::((SC A ps xs).eraseIdx j++R))):
  Ow B w0 w (aq A ps (xs.set j x')::R):=by
 have hj:=(Sz.1 hp).1;refine Ow.ic (by simp[hl]) ?_;rw[Ej _ _ _ hp];have hj':j<(SC A ps xs).length:=by simp;omega
 have h2:Ow B w0 w (A p x'::(SC A ps xs++R).eraseIdx j):=by rwa [Uz hj']
 have:=h2.put (by simp;omega)
 rwa [List.set_append_left _ _ hj']at this
theorem AU{p:S}{x:α}:∀(ps:J S)(xs:J α),ps.length=xs.length->SC A (ps++ [p]) (xs++ [x])=SC A ps xs++ [A p x]
 | [],[],_=>rfl
 | [],_::_,h=>by simp at h
 |_::_,[],h=>by simp at h
 |a::ps,b::xs,h=>by simp[AU ps xs (by simpa using h)]
theorem Ow.ll{p:S}{x:α}(h:Ow B w0 w (A p x::aq A ps xs::R)):Ow B w0 w (aq A (ps++ [p]) (xs++ [x])::R):=by have h2:Ow B w0 w (aq A ps xs::A p x::R):=h.perm (List.Perm.swap _ _ _);obtain⟨hl,h3⟩:=h2.Ij;refine Ow.ic (by simp[hl]) ?_;rw[AU _ _ hl,List.append_assoc];exact h3
theorem Ow.cz(h:Ow B w0 w (aq A ps xs::R)):ps.length=xs.length:=h.Ij.1
theorem ng{T el t:qi}{inf:qL}{zv:V}{K:Sl->W->Prop}[ale:bG s L α E xs]
  (hu:qh.underlying T=X (.slice el)) (hi:qh.info? el=X inf) (hz:inf.zero=X zv) (hsz:inf.size=E.z) (hzc:zv.cells.size=E.z) (hb:1<=inf.bytes)
  (h:Ow B w0 w L) (hbig:(17*xs.length+16000)*inf.bytes<=2^48) (hK:∀s' w',Ow B w0 w' (ag E s' xs::L)->K s' w'):
  bif s.a.isNone then(K z0 w)else(Al w (.cells #[] t) λw2=>∃(t3:Sl)(w4:W),dO qh [T,T] T (.slice (X w.heap.size.p) 0 0) s.v w2 t3 w4/\K t3 w4):=by
 have hlen:=h.aF s;cases hn:s.a with
 |none=>
  refine aW O ?_;have hx:xs= []:=by
   cases xs with
   |nil=>rfl
   |cons x xs=>obtain⟨_,_,ha,_⟩:=h.get ale.i ale.at_ (j:=0) (x:=x) O;rw[hn]at ha;cases ha
  subst hx;exact hK _ w (Ow.cB h)
 |some a=>
  refine aV O ?_;refine h.al λw' h=>?_;generalize w.heap.size=b at h|-;have h2:Ow B w0 w' (ag E ⟨X b.p,0,0⟩ []::L):=Ow.empty h;have hx2:=h2.tX (ale.i+1) (by simpa using ale.at_)
  (try rw[<-hn])
  exact Ow.app (s:=⟨X b.p,0,0⟩) (xs:=[]) (ys:=xs) hu hi hz hsz hzc hb h2 0 O hx2 hlen (by simpa using hbig) λs' w _ h=>hK _ w h
theorem dG{s:Sl}{ps:J S}{j p:S}{i:U}{alc:qf->Prop}[ale:bG s L S bw ps](h:Ow B w0 w L)(hij:i=(j:U))(hj:ps[j]?=X p)
  (hG:∀a,s.a=X a->w.cell? (a.add (i.toNat*1))=X (.q p)->alc a):∃a,s.a=X a/\0<=i/\i<(s.len:U)/\alc a:=
 h.cd (s:=s) hij hj λa ha h0 _=>hG a ha (h0 _ O)
def adW{a b c d e f K w}:=ah (aaV a b c d e f K w) func229 (.v (.y (.r (X [(3,.c .b)]) .done) (.y (.x (.v (.y .w (.y (.v (.t (X [(38,.c .b)]) .u .u)) (.y .w (.y (.y (.r (X [(50,.c .b)]) .done) .w) (.x .w))))))) .w)))
def adX{a b c d e f g h K w}:=ah (abe a b c d e f g h K w) func253 (.v (.v (.y (.x (.v (.y .w (.v (.y .w (.y (.v (.t (X [(21,.c .b)]) .u .u)) (.x .w))))))) (.y .Kc (.y (.v .w) .w)))))
def adY{a K w}:=ah (ab4 a K w) func314 (.v .w)
def adZ{a b K w}:=ah (ab5 a b K w) func315 (.v (.v .w))
def ad0{a K w}:=ah (ab6 a K w) func316 (.v .w)
def ad1{a K w}:=ah (ab7 a K w) func317 (.v .w)
def ad2{a b c d e f g h i j k l K w}:=ah (acw a b c d e f g h i j k l K w) func347 (.v .w)
def ad3{a K w}:=ah (X5 a K w) func330 (.v .HK)
def ad4{a b K w}:=ah (WV a b K w) func331 (.v (.v (.v (.y (.v (.x (.y (.v (.x .w)) .w))) (.y (.v (.x .w)) (.y (.v (.x .w)) (.y (.v (.x .w)) .w)))))))
def ad5{a K w}:=ah (ac4 a K w) func387 (.v .w)
def ad6{a K w}:=ah (Xp a K w) func86 .g16
def ad7{a b c d e f g h i j K w}:=ah (abl a b c d e f g h i j K w) func264 .RU
def ad8{a b c K w}:=ah (abo a b c K w) func267 .RU
def ad9{K w}:=ah (acq K w) func341 (.v .w)
def aea{a b K w}:=ah (acz a b K w) func351 (.v (.v (.v .w)))
def aeb{a b K w}:=ah (acB a b K w) func353 (.v .w)
def aec{a b K w}:=ah (acC a b K w) func354 (.v (.y (.y (.r (X [(20,.c .b)]) .done) (.x .w)) (.v (.v .w))))
def aed{a b c d e f g h i j K w}:=ah (acD a b c d e f g h i j K w) func355 (.v (.z (.o 0 1022 (.o 1 8188 (.o 2 704 (.o 3 704 (.o 4 704 (.o 5 704 (.o 6 512 (.o 9 7552 (.e 7 (.e 8 (.o 10 0 (.o 11 0 (.e 12 (.o 13 0 (.o 14 0 (.e 15 .done))))))))))))))))))
def aee{a b c d e f g h i K w}:=ah (adh a b c d e f g h i K w) func405 (.v .w)
def aef{a b c d e f g h i K w}:=ah (adk a b c d e f g h i K w) func408 (.v .w)
def aeg{a b c d e f K w}:=ah (aba a b c d e f K w) func249 (.v (.v (.v (.y (.x (.v (.y .w (.v (.y .w (.y (.r (X [(36,.c .b)]) .done) (.x .w))))))) (.v (.y (.z (.o 0 28 (.o 1 28 (.o 2 0 (.o 3 0 (.o 4 0 (.o 5 0 (.o 6 0 .done)))))))) (.y (.v (.x .w)) (.v (.y (.v (.x (.t (X [(14,.c (.i .u64)),(17,.c .s),(70,.c (.i .i64))]) .xw .u))) (.v (.x (.z (.o 0 2 (.o 1 4 (.o 2 0 (.e 3 (.o 4 0 .done)))))))))))))))))
def aeh{a b c K w}:=ah (X0 a b c K w) func259 (.v (.v .w))
def aei{a b c K w}:=ah (ack a b c K w) func335 (.v (.y .QB (.v (.y (.y (.z (.o 0 0 (.o 1 0 (.o 2 0 (.o 3 48 (.o 4 0 (.o 5 0 (.o 6 0 (.o 7 0 (.o 8 0 (.o 9 14336 (.o 10 14336 (.o 11 0 (.o 12 0 (.o 13 0 (.o 14 0 (.o 15 0 .done))))))))))))))))) (.x .w)) .w))))
def aej{a b K w}:=ah (acm a b K w) func336 (.v (.y (.v .C6) (.y (.y (.r (X [(30,.c .b)]) .done) (.x .w)) .w)))
def aek{a b c d K w}:=ah (ac7 a b c d K w) func393 (.v (.y .QB .w))
def ael{K w}:=ah (ac8 K w) func394 (.v .w)
def aem{a b c d K w}:=ah (aaZ a b c d K w) func233 (.v (.y (.v (.x (.t (X [(5,.c (.i .i64))]) (.v (.y .w (.x (.x (.v (.v (.v (.x .w)))))))) .u))) .w))
def aen{a b K w}:=ah (acn a b K w) func337 (.v (.y .OY .C7))
def aeo{a K w}:=ah (ac2 a K w) func382 .Mz
def aep{a b c d e f K w}:=ah (ac3 a b c d e f K w) func383 (.v (.y (.v (.x .w)) (.y .Rm (.y (.v (.x .Rm)) .w))))
def adx{a K w}:=ah (X9 a K w) func395 (.v .w)
def ady{a b c K w}:=ah (Yc a b c K w) func412 (.v (.y (.v (.x .w)) (.x (.z (.o 0 26 (.o 1 24 (.o 2 24 (.o 3 0 (.e 4 (.o 5 0 (.o 6 0 (.o 7 0 .done))))))))))))
def aeq{a K w}:=ah (adt a K w) func420 (.v .w)
def adz{a b K w}:=ah (Yd a b K w) func436 (.v .w)
end
namespace Sl
section
variable{B:S}{w0 w:W}{R:J aG}
structure dB where
 kind:U
 obj:U
 ar:U
 aD:U
 guard:U
 bits:U
deriving DecidableEq
abbrev dB.cells(c:dB):J V:=[.z c.kind,.z c.obj,.z c.ar,.y c.aD,.y c.guard,.z c.bits]
def jX(c:dB):V:= .agg ⟨c.cells⟩
def aw:dB:=⟨0,0,0,0,0,0⟩
def oN:dX dB:=⟨6,dB.cells,λ_=>rfl,λx v h=>by simp only[dB.cells,SH,TE,qG]at h;rcases h with rfl|rfl|rfl|rfl|rfl|rfl<;>rfl,qb⟩
structure gl(c:dB):Prop where
 b0:0<=c.aD
 b1:c.aD<18446744073709551616
 g0:0<=c.guard
 g1:c.guard<18446744073709551616
def fb(g bits:U):I:=qe (0<=bits/\bits<=64/\g<2^bits.toNat)
def dD(k:U):I:=k==4||k==5||k==6
def dH(k:U):I:=k==4||k==5
def ia(c:dB):I:=
 !(qe (0<c.kind)&&qe (c.kind<10)&&qe (0<=c.obj)&&qe (c.obj<2147483648)&&(qe (0<=c.ar)&&qe (c.ar<=7))&&fb c.guard c.bits)
  ||(!dD c.kind&&c.ar !=7)||(c.aD !=0&& !dH c.kind)||(c.bits !=0&&c.kind !=2)
def cH(c:dB):U:=if c=aw then 0 else if ia c then 40 else 0
theorem wrap_u64(z:S):qA.wrap (z:U)=((z%2^64:S):U):=by
 have e1:(2:U)^64=18446744073709551616:=qb
 have e2:(2:S)^64=18446744073709551616:=qb
 simp only[IntKind.wrap,IntKind.bits,IntKind.signed,e1,e2,Uj,Bool.false_eq_true,qB];omega
theorem BF(n:S)(hn:n<=64):qA.wrap (mS .u64 1 (n:U)-1)=((2^n-1:S):U):=by
 have e2:(2:S)^64=18446744073709551616:=qb
 have hp:0<2^n:=TW n;unfold mS;rw[SD,show qA.bits=64 from O,TL hn,WQ,show((2:U)^n)=((2^n:S):U)from by simp,wrap_u64];by_cases e:n=64
 .subst e
  rw[e2];rfl
 .have hlt:2^n<2^64:=Nat.pow_lt_pow_right om om
  rw[Tn hlt,show(((2^n:S):U)-1)=((2^n-1:S):U)from by omega,wrap_u64,Tn om]
theorem s8(z:S):BitVec.ofInt qA.bits (z:U)=BitVec.ofNat 64 z:=by apply BitVec.eq_of_toNat_eq;simp[IntKind.bits,BitVec.toNat_ofInt]
theorem Bb(v n:S)(hv:v<2^64)(hn:n<=64):fE .u64 (v:U) ((2^n-1:S):U)=((v%2^n:S):U):=by
 have hp:0<2^n:=TW n;have hle:2^n<=2^64:=Ty om hn;unfold fE;rw[s8,s8];have h1:(BitVec.ofNat 64 v &&& BitVec.ofNat 64 (2^n-1)).toNat=v%2^n:=by rw[BitVec.toNat_and,BitVec.toNat_ofNat,BitVec.toNat_ofNat,Tn hv,Tn om,Nat.and_two_pow_sub_one_eq_mod]
 show qA.wrap (((BitVec.ofNat 64 v &&& BitVec.ofNat 64 (2^n-1)).toNat:S):U)=_;rw[h1,wrap_u64,Tn (Vh (Nat.mod_le _ _) hv)]
theorem EC(v n:S)(hv:v<2^64)(hn:n<=64):(iD .u64 (v:U) ((2^n-1:S):U)==0)=qe (v<2^n):=by
 have hp:0<2^n:=TW n;have hle:2^n<=2^64:=Ty om hn;unfold iD;rw[s8,s8];have hgl:∀(z j:S),j<64->(BitVec.ofNat 64 z).getLsbD j=z.testBit j:=λz j hj=>by rw[BitVec.getLsbD_ofNat];simp[hj]
 have hbit:∀j,j<64->(BitVec.ofNat 64 v &&& ~~~ BitVec.ofNat 64 (2^n-1)).toNat.testBit j=(v.testBit j&& !decide (j<n)):=λj hj=>by rw[BitVec.testBit_toNat,BitVec.getLsbD_and,BitVec.getLsbD_not,hgl _ _ hj,hgl _ _ hj,Wy];simp[hj]
 have hlt:=(BitVec.ofNat 64 v &&& ~~~ BitVec.ofNat 64 (2^n-1)).isLt;show(qA.wrap (((BitVec.ofNat 64 v &&& ~~~ BitVec.ofNat 64 (2^n-1)).toNat:S):U)==0)=_;generalize hz:(BitVec.ofNat 64 v &&& ~~~ BitVec.ofNat 64 (2^n-1)).toNat=z at hbit hlt;rw[wrap_u64,Tn hlt];rw[UF];simp only[qN,qF];constructor
 .intro h0
  have h0:z=0:=om
  subst h0;refine Nat.lt_pow_two_of_testBit v λi hi=>?_;by_cases h64:i<64
  .have:=hbit i h64
   rw[Xx]at this;simp only[show ¬i<n from by omega,decide_false,T4,Vp]at this;exact this.symm
  .exact UT (Ub hv (Ty om om))
 .intro hvn
  have:z=0:=by
   apply Wh;intro i;rw[Xx];by_cases h64:i<64
   .rw[hbit i h64]
    by_cases hin:i<n
    .simp[hin]
    .rw[UT (Ub hvn (Ty om om))];rfl
   .exact UT (Ub hlt (Ty om om))
  omega
theorem nF(x k:S)(hk:k<=64):Ca .u64 (x:U) (k:U)=((x / 2^k:S):U):=by unfold Ca;rw[SD,show qA.bits=64 from O,TL hk];rw[show((2:U)^k)=((2^k:S):U)from by simp];rw[Int.fdiv_eq_ediv_of_nonneg _ (UJ _)];simp
theorem gz{n:S}{K:U->Pw}(hn:n<=64)(h:K ((2^n-1:S):U) w):X9 (n:U) K w:=by apply adx;rw[BF n hn];exact⟨om,h⟩
theorem wq{n:U}{K:U->U->Pw}(h1:¬(0<=n/\n<=64)->K 0 1 w)(h2:∀k:S,n=(k:U)->k<=64->K ((2^k-1:S):U) 0 w):ac2 n K w:=by
 apply aeo;intro k2 hk2;by_cases e:n<0
 .rw[show qe (n<0)=G from by simpa using e,qq]
  apply hk2;rw[qq];exact h1 om
 .rw[show qe (n<0)=qd from by simpa using e,qv]
  apply hk2;by_cases e2:n>64
  .rw[show qe (n>64)=G from by simpa using e2,qq];exact h1 om
  .rw[show qe (n>64)=qd from by simpa using e2,qv]
   obtain⟨k,rfl⟩:=SI (by omega:0<=n);exact gz om (h2 k O om)
theorem vS{g bits:U}{K:I->Pw}(h0:0<=g)(h1:g<18446744073709551616)(h:K (fb g bits) w):ab5 g bits K w:=by
 apply adZ;have e2:(2:S)^64=18446744073709551616:=qb
 refine wq (λhn=>?_) (λk hk hk2=>?_)
 .rw[show((1:U)==0)=qd from O,qv]
  have:fb g bits=false:=by unfold fb;rw[ql];rintro⟨h1,h2,_⟩;exact hn ⟨h1,h2⟩
  rw[this]at h;exact h
 .subst hk
  rw[show((0:U)==0)=G from O,qq];obtain⟨v,rfl⟩:=SI h0;rw[EC v k om hk2];have:fb (v:U) (k:U)=qe (v<2^k):=by unfold fb;rw[qP,SD,show((2:U)^k)=((2^k:S):U)from by simp];omega
  rw[this]at h;exact h
theorem mF{n:U}{K:I->Pw}(h:K (qe (0<=n)&&qe (n<=7)) w):ab4 n K w:=by
 apply adY;by_cases e:0<=n
 .rw[show qe (n>=0)=G from by simpa using e,qq]
  rw[show qe (0<=n)=G from by simpa using e,Uo]at h;exact h
 .rw[show qe (n>=0)=qd from by simpa using e,qv]
  rw[show qe (0<=n)=qd from by simpa using e,Uj]at h;exact h
theorem lQ{k:U}{K:I->Pw}(h:K (dD k) w):ab6 k K w:=by
 apply ad0;unfold dD at h;cases h4:k==4 with
 |true=>rw[qq];rw[h4]at h;exact h
 |false=>
  rw[qv];cases h5:k==5 with
  |true=>rw[qq];rw[h4,h5]at h;exact h
  |false=>rw[qv];rw[h4,h5]at h;exact h
theorem mE{k:U}{K:I->Pw}(h:K (dH k) w):ab7 k K w:=by
 apply ad1;unfold dH at h;cases h4:k==4 with
 |true=>rw[qq];rw[h4]at h;exact h
 |false=>rw[qv];rw[h4]at h;exact h
theorem Qm(a b:dB):rC qh 9 157 a.cells b.cells=X (qe (a=b)):=by
 have h:rC qh 9 157 a.cells b.cells=X (a.kind==b.kind&&(a.obj==b.obj&&(a.ar==b.ar&&(a.aD==b.aD&&(a.guard==b.guard&&(a.bits==b.bits&&G)))))):=qa
 rw[h];congr 1;rw[UF];simp only[Vp,S4,qN,qF];cases a;cases b;simp only[dB.mk.injEq]
theorem Nt{x y:qD}(a b:dB):LY qh .eql 157 x y (.agg ⟨a.cells⟩) (.agg ⟨b.cells⟩) (qe (a=b)):=JZ qa qa qa (Qm a b)
theorem jU{c:dB}{K:U->Pw}(h:Ow B w0 w R)(hc:gl c)(hK:∀w',Ow B w0 w' R->K (cH c) w'):aaV c.kind c.obj c.ar c.aD c.guard c.bits K w:=by
 apply adW;refine h.al λw1 h=>?_;have hcell:∀w',Ow B w0 w' (ae w.heap.size c.cells::R)->Ow B w0 w' (ae w.heap.size c.cells::R):=λ_ h=>h;have h:Ow B w0 w1 (ae w.heap.size c.cells::R):=h;simp only[aL,Nat.zero_add];intro k8 hk8;have fin:k8 (qe (0<c.kind)&&qe (c.kind<10)&&qe (0<=c.obj)&&qe (c.obj<2147483648)&&(qe (0<=c.ar)&&qe (c.ar<=7))&&fb c.guard c.bits) w1:=by
  generalize hr:(qe (0<c.kind)&&qe (c.kind<10)&&qe (0<=c.obj)&&qe (c.obj<2147483648)&&(qe (0<=c.ar)&&qe (c.ar<=7))&&fb c.guard c.bits)=right;apply hk8;refine h.vU 0 O O ?_;refine⟨_,Nt c aw,?_⟩;have hb:ia c=(!right||(!dD c.kind&&c.ar !=7)||(c.aD !=0&& !dH c.kind)||(c.bits !=0&&c.kind !=2)):=by unfold ia;rw[hr]
  have hE:=hK w1 h.drop;unfold cH at hE;by_cases e:c=aw
  .rw[qp e,qq];rw[Z e]at hE;exact hE
  rw[ql e,qv];rw[Y e,hb]at hE;intro k18 hk18;have rest:(!right||(!dD c.kind&&c.ar !=7))=qd->k18 qd w1:=by
   intro h0;rw[h0,Vq]at hE;apply hk18;rw[qv];intro k21 hk21;refine⟨c.aD,h.iJ 0 O O,?_⟩;have last:(c.aD !=0&& !dH c.kind)=qd->k21 qd w1:=by
    intro h1;rw[h1,Vq]at hE;apply hk21;rw[qv];refine⟨c.bits,h.iJ 0 O O,?_⟩;cases hbits:c.bits !=0 with
    |false=>rw[qv];rw[hbits,Uj,Y qc]at hE;exact hE
    |true=>
     rw[qq];rw[hbits,Uo]at hE;refine⟨c.kind,h.iJ 0 O O,?_⟩;cases hk:c.kind !=2 with
     |true=>rw[qq];rw[hk,Z O]at hE;exact hE
     |false=>rw[qv];rw[hk,Y qc]at hE;exact hE
   cases hbad:c.aD !=0 with
   |false=>rw[qv];exact last (by rw[hbad];rfl)
   |true=>
    rw[qq];refine⟨c.kind,h.iJ 0 O O,mE ?_⟩;cases hbg:dH c.kind with
    |true=>exact last (by rw[hbg];simp)
    |false=>
     apply hk21;rw[T4,qq,qq];rw[hbad,hbg]at hE;simpa using hE
  cases hright:right with
  |false=>
   rw[T4,qq];apply hk18;rw[qq];rw[hright]at hE;simpa using hE
  |true=>
   rw[T1,qv];refine⟨c.kind,h.iJ 0 O O,lQ ?_⟩;cases hlim:dD c.kind with
   |true=>rw[T1,qv];exact rest (by rw[hright,hlim];simp)
   |false=>
    rw[T4,qq];refine⟨c.ar,h.iJ 0 O O,?_⟩;cases hr7:c.ar !=7 with
    |false=>exact rest (by rw[hright,hr7];simp)
    |true=>
     apply hk18;rw[qq];rw[hright,hlim,hr7]at hE;simpa using hE
 refine⟨c.kind,h.iJ 0 O O,?_⟩;by_cases e1:0<c.kind
 .rw[show qe (c.kind>0)=G from by simpa using e1,qq]
  refine⟨c.kind,h.iJ 0 O O,?_⟩;by_cases e2:c.kind<10
  .rw[show qe (c.kind<10)=G from by simpa using e2,qq]
   refine⟨c.obj,h.iJ 0 O O,?_⟩;by_cases e3:0<=c.obj
   .rw[show qe (c.obj>=0)=G from by simpa using e3,qq]
    refine⟨c.obj,h.iJ 0 O O,?_⟩;by_cases e4:c.obj<2147483648
    .rw[show qe (c.obj<2147483648)=G from by simpa using e4,qq]
     refine⟨c.ar,h.iJ 0 O O,mF ?_⟩;cases e5:(qe (0<=c.ar)&&qe (c.ar<=7))with
     |false=>
      rw[qv];simpa [e5]using fin
     |true=>
      rw[qq];refine⟨c.guard,h.iJ 0 O O,c.bits,h.iJ 0 O O,vS hc.g0 hc.g1 ?_⟩;rw[show qe (0<c.kind)=G from by simpa using e1,show qe (c.kind<10)=G from by simpa using e2,show qe (0<=c.obj)=G from by simpa using e3,show qe (c.obj<2147483648)=G from by simpa using e4,e5]at fin;simpa using fin
    .rw[show qe (c.obj<2147483648)=qd from by simpa using e4,qv]
     rw[show qe (c.obj<2147483648)=qd from by simpa using e4]at fin;simpa using fin
   .rw[show qe (c.obj>=0)=qd from by simpa using e3,qv]
    rw[show qe (0<=c.obj)=qd from by simpa using e3]at fin;simpa using fin
  .rw[show qe (c.kind<10)=qd from by simpa using e2,qv]
   rw[show qe (c.kind<10)=qd from by simpa using e2]at fin;simpa using fin
 .rw[show qe (c.kind>0)=qd from by simpa using e1,qv]
  rw[show qe (0<c.kind)=qd from by simpa using e1]at fin;simpa using fin
end
end Sl
def aer{K w}:=ah (YB K w) func35 (.v .w)
def aes{a b K w}:=ah (YG a b K w) func40 (.v (.y (.x (.y (.r (X [(6,.c .b)]) .done) (.y .w (.v (.x .w))))) (.v .w)))
def aet{a K w}:=ah (Za a K w) func80 (.v (.x .g19))
def aeu{a b c d e f g h i K w}:=ah (ZH a b c d e f g h i K w) func120 (.v (.v (.y (.r (X [(9,.c .b)]) .g10) (.y (.x (.v (.y .w (.v .QK)))) .Qv))))
def aev{a K w}:=ah (ZX a K w) func138 (.v (.v (.y (.v (.x (.t (X [(3,.c .s),(13,.c (.i .i64))]) (.v (.y .w (.x (.x (.v (.z (.o 0 1022 (.o 2 66 (.o 3 66 (.o 4 66 (.o 5 66 (.o 6 2 (.hold 1 128 2559 (.e 7 (.o 8 0 (.e 9 (.e 10 (.o 11 0 .done)))))))))))))))))) .u))) .w)))
def aew{a b c K w}:=ah (aaW a b c K w) func230 (.v (.v (.x (.z (.o 0 0 (.o 1 0 (.o 2 0 (.o 3 0 (.o 4 0 (.o 5 0 (.o 6 0 (.o 7 1536 (.o 8 1536 .R0)))))))))))))
def adA(a1:U)(a2:U)(b3:U)(b4:U)(K:U->Pw)(w:W):Prop:=Al w (.cells #[.z a1,.z a2] 155) λw5=>Al w5 (.cells #[.z b3,.z b4] 155) λw6=>Dr w6 λw7=>∃node8,w7.cell? w.heap.size.p=X (.z node8)/\∃node9,w7.cell? w5.heap.size.p=X (.z node9)/\∃i10,w7.cell? (w.heap.size.p.add 1)=X (.z i10)/\∃i11,w7.cell? (w5.heap.size.p.add 1)=X (.z i11)/\(WV node8 node9 (λO4 w13=>w13.cell? (w5.heap.size.p.add 1)=X (.z i11)/\w13.cell? (w.heap.size.p.add 1)=X (.z i10)/\(WV i10 i11 (λO5 w15=>(Al w15 (.cells #[.z O4,.z O5] 3) λw16=>(X5 ⟨X w15.heap.size.p,2,2⟩ (λPU w18=>K PU w18) w16)/\qu)/\qu) w13)/\qu) w7)/\qu
theorem aex(a1:U)(a2:U)(b3:U)(b4:U)(K:U->Pw)(w:W)(h:adA a1 a2 b3 b4 K w):aa8 a1 a2 b3 b4 K w:=
 QY func244 (.t Q (.u) (.t Q (.r Q (.one 0 492 (.one 1 492 (.one 2 480 (.one 3 480 (.one 5 400 (.one 7 80 (.hold 6 272 4607 (.hold 8 16 4607 (.alt 4 (.alt 9 (.alt 10 (.alt 11 (.one 12 0 (.done)) (.none)) (.none)) (.none)) (.none))))))))))) (.u))) [(0,.c (.i .i64))] [.agg #[.z a1,.z a2],.agg #[.z b3,.z b4]] K O qa qa h
def aey{a b c K w}:=ah (WR a b c K w) func248 (.v (.y (.v (.x .w)) (.x (.z (.o 0 16 (.o 1 16 (.o 2 16 (.o 3 16 (.o 4 0 (.e 5 (.e 6 (.o 7 0 .done))))))))))))
def aez{a b c d e K w}:=ah (abf a b c d e K w) func254 (.v (.y (.r (X [(7,.c .q),(8,.c .b)]) .g10) (.y (.r (X [(10,.c .b)]) .g10) (.y (.x (.y (.r (X [(29,.c .b)]) .done) .QK)) (.y .P6 .Qv)))))
def aeA{a b K w}:=ah (ab8 a b K w) func318 (.v (.y (.y .N6 (.x .w)) .w))
def aeB{a b c K w}:=ah (acu a b c K w) func344 (.v (.y (.r (X [(6,.c .q),(7,.c .b)]) .g10) (.y .C6 .RI)))
def aeC{K w}:=ah (YD K w) func37 (.v .w)
def aeD{a K w}:=ah (Xs a K w) func90 (.v (.v (.y (.v (.x (.t (X [(12,.c (.i .i64))]) (.v (.y .w (.x (.x (.v (.z (.o 0 254 (.o 1 1020 (.o 2 880 (.o 4 776 (.o 5 776 (.o 8 200 (.o 9 200 (.hold 3 64 2047 (.e 6 (.o 7 0 (.o 10 0 (.e 11 .done)))))))))))))))))) .u))) .w)))
def aeE{a K w}:=ah (ZZ a K w) func147 (.v (.v (.y (.v (.x (.t (X [(3,.c .s),(10,.c (.i .i64))]) .xw .u))) .w)))
def adB{a b K w}:=ah (WM a b K w) func246 (.v (.v (.y (.v (.x (.t (X [(3,.c .s),(11,.c (.i .i64))]) .xw .u))) .w)))
def aeF{a b c K w}:=ah (abq a b c K w) func269 (.v (.y .OY (.v (.y (.y (.r (X [(31,.c .b)]) .done) (.x .w)) (.y (.z (.o 0 30 (.o 1 124 (.o 2 104 (.o 5 24 (.o 6 24 (.e 3 (.o 4 0 (.o 7 0 (.e 8 .done)))))))))) .w)))))
def aeG{a b c d K w}:=ah (X2 a b c d K w) func270 (.v (.y (.y (.r (X [(24,.c .b)]) .done) (.x .w)) (.v (.y (.v (.x .w)) (.y (.v (.v (.x .w))) .Qv)))))
def aeH{a b K w}:=ah (abr a b K w) func271 (.v (.y (.v (.x .w)) .P9))
def aeI{a K w}:=ah (acF a K w) func358 (.v .w)
def aeJ{a b c K w}:=ah (acG a b c K w) func359 (.v .w)
def aeK{a K w}:=ah (acI a K w) func361 (.v .w)
def aeL{a K w}:=ah (acJ a K w) func362 (.v .w)
def aeM{a b K w}:=ah (acK a b K w) func363 (.v (.v (.x (.z (.o 0 8162 (.o 1 8172 (.o 2 8160 (.o 3 8160 (.o 4 8160 (.o 5 8256 (.o 6 8576 (.o 7 8192 (.o 8 8192 (.o 9 8192 (.o 10 8192 (.o 11 8192 (.o 12 8192 .Kd)))))))))))))))))
def aeN{a b K w}:=ah (acL a b K w) func364 .P9
def aeO{a b K w}:=ah (adb a b K w) func401 (.v (.v (.y (.v (.x (.t (X [(5,.c .s),(11,.c (.i .i64))]) .QJ .u))) .w)))
def aeP{a b K w}:=ah (ade a b K w) func402 (.v (.y (.y .N7 (.x .w)) .w))
def aeQ{a b K w}:=ah (adf a b K w) func403 .R2
namespace Sl
abbrev Slot:=U × U
abbrev Hs:=Slot->qg dB
abbrev bz(s:Sl):V:= s.v
def fa(bits:J U)(n:U):qg U:=if n<0 then Q else match bits[n.toNat]? with|some z=>if z= -1 then Q else X z|none=>Q
def bc(bits:J U)(s:Slot):I:=match fa bits s.1 with|some z=>qe (0<=s.2/\s.2<2^z.toNat)|none=>qd
structure uj(bits:J U)(H:Hs):Prop where
 fu:bits.length<=64
 zr:∀z∈bits,z= -1\/(1<=z/\z<=8)
 held:∀s c,H s=X c->bc bits s=G/\cH c=0/\c.kind≠0/\gl c
def dj(H:Hs)(s:Slot)(o:qg dB):Hs:=λk=>if k=s then o else H k
structure Nx where
 s:Sl
 m:S
 M:J (Slot × dB)
abbrev iV(m:S)(M:J (Slot × dB)):aG:=mw eF jX m M
def aC(b:S)(bits:J U)(H:Hs):aG:=oA λx:Nx=>aQ [dw (uj bits H/\∀k,dQ x.M k=H k),ae b [bz x.s,.map (X x.m)],ag ax x.s bits,iV x.m x.M]
theorem lE{bits:J U}{n z:U}(h:fa bits n=X z):0<=n/\bits[n.toNat]?=X z/\z≠ -1:=by
 unfold fa at h;split at h
 .cases h
 .split at h
  .split at h
   .cases h
   .cases h;exact⟨om,by assumption,by assumption⟩
  .cases h
theorem u7{bits:J U}{H:Hs}(hk:uj bits H){n z:U}(h:fa bits n=X z):1<=z/\z<=8:=by
 obtain⟨_,h2,h3⟩:=lE h;rcases hk.zr z (SU h2)with e|e
 .exact qk e h3
 .exact e
theorem kq:lN qh 155 eF:=
 E4 underlying155 qC qC qb qb O O (λa b c d=>by kernel_rfl)
theorem Eh(w:W):(qK 157).run qh w= .ok (jX aw) w:=zeroValue157 w
section
variable{B:S}{w0 w:W}{R L:J aG}{b:S}{bits:J U}{H:Hs}
theorem _root_.Go.Vc.Ow.nodes(h:Ow B w0 w (aC b bits H::R)):∃x:Nx,uj bits H/\(∀k,dQ x.M k=H k)/\Ow B w0 w (ae b [bz x.s,.map (X x.m)]::ag ax x.s bits::iV x.m x.M::R):=by obtain⟨x,h⟩:=h.ex;obtain⟨⟨h1,h2⟩,h⟩:=Ow.pure h.star;exact⟨x,h1,h2,h⟩
theorem _root_.Go.Vc.Ow.fi{s:Sl}{m:S}{M:J (Slot × dB)}(h1:uj bits H)(h2:∀k,dQ M k=H k)(h:Ow B w0 w (ae b [bz s,.map (X m)]::ag ax s bits::iV m M::R)):Ow B w0 w (aC b bits H::R):=
 Ow.eu ⟨s,m,M⟩ (Ow.aR (Ow.cI ⟨h1,h2⟩ h))
theorem _root_.Go.Vc.Ow.um(h:Ow B w0 w (aC b bits H::R)):uj bits H:=by obtain⟨_,h,_⟩:=h.nodes;exact h
theorem pH{K:qg qf->Pw}(h:Ow B w0 w R)(hK:∀b w',Ow B w0 w' (aC b [] (λ_=>Q)::R)->K b.o w'):YB K w:=by
 apply aer;refine h.Gb eF jX λw1 h=>?_;refine h.al λw2 h=>?_;refine hK _ w2 (Ow.fi (s:=z0) (m:=w.heap.size) (M:=[]) ⟨qc,qc,λs c h=>by cases h⟩ (λk=>rfl) ?_);exact(Ow.cB h).perm (List.Perm.swap _ _ _)
theorem jf{n:U}{K:U->I->Pw}(h:Ow B w0 w L)(i:S)(hi:L[i]?=X (aC b bits H))(hK:K ((fa bits n).getD 0) (fa bits n).isSome w):ab8 b.o n K w:=by
 apply aeA;obtain⟨x,hk,hM,h⟩:=(h.take i hi).nodes;have hlen:=h.len 1 O;intro k3 hk3;by_cases h0:n<0
 .rw[show qe (n<0)=G from by simpa using h0,qq]
  apply hk3;rw[qq];have:fa bits n=none:=by unfold fa;rw[Z h0]
  rw[this]at hK;exact hK
 rw[show qe (n<0)=qd from by simpa using h0,qv];refine⟨_,O,x.s,h.iJ 0 O O,?_⟩;by_cases h1:(x.s.len:U)<=n
 .rw[show qe (n>=(x.s.len:U))=G from by simpa using h1,qq]
  apply hk3;rw[qq];have:fa bits n=none:=by unfold fa;rw[Y h0,List.getElem?_eq_none om]
  rw[this]at hK;exact hK
 rw[show qe (n>=(x.s.len:U))=qd from by simpa using h1,qv];have hz:bits[n.toNat]?=X bits[n.toNat]:=gE om;obtain⟨a,ha,hc⟩:=h.Kf 1 O hz;refine⟨_,O,x.s,h.iJ 0 O O,a,ha,om,om,_,hc,?_⟩;apply hk3;by_cases e:bits[n.toNat]= -1
 .rw[show(bits[n.toNat]== -1)=G from by simpa using e,qq]
  have:fa bits n=none:=by unfold fa;rw[Y h0,hz];simp[e]
  rw[this]at hK;exact hK
 .rw[show(bits[n.toNat]== -1)=qd from by simpa using e,qv]
  have:fa bits n=X bits[n.toNat]:=by unfold fa;rw[Y h0,hz];simp[e]
  rw[this]at hK;exact⟨_,O,x.s,h.iJ 0 O O,a,ha,om,om,_,hc,hK⟩
theorem M7(z:S)(hz:z<=62):mS .i64 1 (z:U)=((2^z:S):U):=by
 unfold mS;rw[SD,show qj.bits=64 from O,TL om,WQ,show((2:U)^z)=((2^z:S):U)from by simp];have hp:(2:S)^62=4611686018427387904:=qb
 have:2^z<=2^62:=Ty om hz;rw[hp]at this;generalize 2^z=y at*
 exact wr om om
theorem dL{s:Slot}{K:I->Pw}(h:Ow B w0 w L)(i:S)(hi:L[i]?=X (aC b bits H))(hK:∀w',Ow B w0 w' L->K (bc bits s) w'):aaW b.o s.1 s.2 K w:=by
 apply aew;have hk:=(h.take i hi).um;refine h.al λw1 h=>?_;refine⟨s.1,h.iJ 0 O O,jf h (i+1) (by simpa using hi) ?_⟩;refine h.dr λw2 h=>?_;cases hz:fa bits s.1 with
 |none=>
  rw[Vi,qv];have:bc bits s=false:=by unfold bc;rw[hz]
  rw[<-this];exact hK w2 h.drop
 |some z=>
  have hr:=u7 hk hz;rw[Vv,qq,Option.getD_some];refine⟨s.2,h.ld 0 O O,?_⟩;have hth:bc bits s=qe (0<=s.2/\s.2<2^z.toNat):=by unfold bc;rw[hz]
  by_cases e:0<=s.2
  .rw[show qe (s.2>=0)=G from by simpa using e,qq]
   refine⟨s.2,h.ld 0 O O,om,?_⟩;obtain⟨y,rfl⟩:=SI (by omega:0<=z);rw[M7 y om];have:qe (s.2<((2^y:S):U))=bc bits s:=by rw[hth,qP,SD,show((2:U)^y)=((2^y:S):U)from by simp];exact⟨λh=>⟨e,h⟩,λh=>h.2⟩
   rw[this];exact hK w2 h.drop
  .rw[show qe (s.2>=0)=qd from by simpa using e,qv]
   have:bc bits s=false:=by rw[hth,ql];rintro⟨h1,_⟩;exact e h1
   rw[<-this];exact hK w2 h.drop
theorem EF{B:S}{w0 w:W}{L:J aG}{s:Sl}{xs:J U}{y:U}{c:S}{k:Sl->Pw}(h:Ow B w0 w (ae c [.z y]::L))(i:S)(hL:L[i]?=X (ag ax s xs))
  (hbig:xs.length<=1000000000000) (hk:∀s' w',s'.len=xs.length+1->Ow B w0 w' (L.set i (ag ax s' (xs++ [y])))->k s' w'):
  ∃s' w',dO qh [22,22] 22 s.v (.slice (X c.p) 1 1) w s' w'/\k s' w':=
 Ow.L8 (E:=ax) (y:=y) qJ (show qh.info? 3=X qI from by kernel_rfl) (zv:= .z 0) qa qa O qb h i hL (by
  have e:qI.bytes=8:=qa
  rw[e];omega) hk
def fq(bits:J U)(z:U):U × U × J U:=if z<1\/8<z then(0,1,bits)else if 64<=bits.length then(0,2,bits)else((bits.length:U),0,bits++ [z])
theorem Cb{bits:J U}{n z y:U}(h:fa bits n=X z):fa (bits++ [y]) n=X z:=by obtain⟨h1,h2,h3⟩:=lE h;unfold fa;rw[Y om,SM (Sz.1 h2).1,h2];simp[h3]
theorem Cj{bits:J U}{s:Slot}{y:U}(h:bc bits s=G):bc (bits++ [y]) s=true:=by
 unfold bc at h|-;cases hz:fa bits s.1 with
 |none=>rw[hz]at h;cases h
 |some z=>rw[hz]at h;rw[Cb hz];exact h
theorem uj.make{bits:J U}{H:Hs}(h:uj bits H){z:U}(h1:1<=z)(h2:z<=8)(hf:bits.length<64):uj (bits++ [z]) H:=by
 refine⟨by simp;omega,λy hy=>?_,λs c hs=>?_⟩
 .rcases List.mem_append.1 hy with hy|hy
  .exact h.zr y hy
  .simp only[List.mem_singleton]at hy;subst hy;exact .inr ⟨h1,h2⟩
 .obtain ⟨g1,g2⟩:=h.held s c hs
  exact⟨Cj g1,g2⟩
theorem je{z:U}{K:U->U->Pw}(h:Ow B w0 w (aC b bits H::R))(hK:∀w',Ow B w0 w' (aC b (fq bits z).2.2 H::R)->K (fq bits z).1 (fq bits z).2.1 w'):YG b.o z K w:=by
 apply aes;intro k3 hk3;by_cases h0:z<1
 .rw[show qe (z<1)=G from by simpa using h0,qq]
  apply hk3;rw[qq];have e:fq bits z=(0,1,bits):=by unfold fq;rw[Z (.inl h0)]
  rw[e]at hK;exact hK w h
 rw[show qe (z<1)=qd from by simpa using h0,qv];apply hk3;by_cases h1:8<z
 .rw[show qe (z>8)=G from by simpa using h1,qq]
  have e:fq bits z=(0,1,bits):=by unfold fq;rw[Z (.inr h1)]
  rw[e]at hK;exact hK w h
 rw[show qe (z>8)=qd from by simpa using h1,qv];obtain⟨x,hk,hM,h⟩:=h.nodes;have hlen:=h.len 1 O;have hfew:=hk.fu;refine⟨_,O,x.s,h.iJ 0 O O,?_⟩;by_cases h2:64<=bits.length
 .rw[show qe ((x.s.len:U)>=64)=G from by simp;omega,qq]
  have e:fq bits z=(0,2,bits):=by unfold fq;rw[Y om,Z h2]
  rw[e]at hK;exact hK w (Ow.fi hk hM h)
 .rw[show qe ((x.s.len:U)>=64)=qd from by simp;omega,qv]
  have e:fq bits z=((bits.length:U),0,bits++ [z]):=by unfold fq;rw[Y om,Y h2]
  rw[e]at hK;refine⟨_,O,x.s,h.iJ 0 O O,h.al λw1 h=>?_⟩;refine EF h 1 O om λs' w2 hs' h=>?_;refine⟨_,O,h.st 0 O O O λw3 h=>?_⟩;refine⟨_,O,s',h.iJ 0 O O,?_⟩;have e2:qj.wrap ((s'.len:U)-1)=(bits.length:U):=by rw[wr om om];omega
  rw[e2];exact hK w3 (Ow.fi (s:=s') (hk.make om om om) hM h)
theorem jP{s:Slot}{K:U->U->U->U->U->U->U->Pw}(h:Ow B w0 w L)(i:S)(hi:L[i]?=X (aC b bits H))
  (h1:bc bits s=qd->∀w',Ow B w0 w' L->K 0 0 0 0 0 0 50 w')
  (h2:bc bits s=G->∀w' c,c=(H s).getD aw->Ow B w0 w' L->K c.kind c.obj c.ar c.aD c.guard c.bits 0 w'):WR b.o s.1 s.2 K w:=by
 apply aey;refine h.al λw1 h=>?_;refine h.al λw2 h=>?_;refine h.rZ 1 O O ?_;refine dL h (i+2) (by simpa using hi) λw3 h=>?_;cases ht:bc bits s with
 |false=>
  rw[T4,qq];refine h.Ji 0 O O O λw4 h=>?_;refine h.vU 0 O O ?_;exact h1 ht w4 h.drop.drop
 |true=>
  rw[T1,qv];refine h.dr λw4 h=>?_;have hn:Ow B w0 w4 (aC b bits H::(ae w1.heap.size [.z 0,.z 0,.z 0,.y 0,.y 0,.z 0]::ae w.heap.size [.z s.1,.z s.2]::L).eraseIdx (i+2)):=h.take (i+2) (by simpa using hi);obtain⟨x,hk,hM,hn⟩:=hn.nodes;refine⟨_,O,X x.m,hn.ld 0 O O,h.rZ 1 O O ?_⟩;have hl:F9 qh 232 (.map (X x.m)) (eF s) (jX ((H s).getD aw)) w4:=by
   cases hs:H s with
   |none=>exact(hn.xJ qR kq Eh 2 O (by rw[hM,hs])).2
   |some c=>exact(hn.vB qR kq 2 O (by rw[hM,hs];rfl)).2
  generalize hc:(H s).getD aw=c at hl;refine⟨⟨c.kind,c.obj,c.ar,c.aD,c.guard,c.bits,hl,h.Ji 0 O O O λw5 h=>?_,trivial⟩,trivial⟩;refine h.vU 0 O O ?_;exact h2 ht w5 c hc.symm h.drop.drop
theorem GH{s:Slot}{m:S}{M:J (Slot × dB)}{k:qf->I->Pw}(h:Ow B w0 w L)(i:S)(hi:L[i]?=X (iV m M))(o:qg dB)(ho:dQ M s=o)
  (hk:∀w',Ow B w0 w' (ae w.heap.size (o.getD aw).cells::L)->k w.heap.size.p o.isSome w'):
  (∃t52:U,∃t53:U,∃t54:U,∃t55:U,∃t56:U,∃t57:U,∃is58:I,Ev qh 232 (.map (X m)) (.agg #[.z s.1,.z s.2]) (.agg #[.z t52,.z t53,.z t54,.y t55,.y t56,.z t57]) is58 w/\
  (Al w (.cells #[.z (0:U),.z (0:U),.z (0:U),.y (0:U),.y (0:U),.z (0:U)] 157) λw59=>
  (oy w59 w.heap.size.p 0 [.z t52,.z t53,.z t54,.y t55,.y t56,.z t57] λw60=>
  k w.heap.size.p is58 w60)/\
  qu)/\
  qu)/\
  (Al w (.cells #[.z (0:U),.z (0:U),.z (0:U),.y (0:U),.y (0:U),.z (0:U)] 157) λw61=>
  (∃t62:U,∃t63:U,∃t64:U,∃t65:U,∃t66:U,∃t67:U,∃is68:I,Ev qh 232 (.map (X m)) (.agg #[.z s.1,.z s.2]) (.agg #[.z t62,.z t63,.z t64,.y t65,.y t66,.z t67]) is68 w61/\
  (oy w61 w.heap.size.p 0 [.z t62,.z t63,.z t64,.y t65,.y t66,.z t67] λw69=>
  k w.heap.size.p is68 w69)/\
  qu)/\
  qu)/\
  qu:=by
 have hl:∀(w':W)(L':J aG)(j:S),Ow B w0 w' L'->L'[j]?=X (iV m M)->Ev qh 232 (.map (X m)) (eF s) (jX (o.getD aw)) o.isSome w':=by
  intro w' L' j h hj;cases o with
  |none=>exact(h.xJ qR kq Eh j hj ho).1
  |some c=>exact(h.vB qR kq j hj ho).1
 generalize hc:o.getD aw=c at hl hk;refine⟨⟨c.kind,c.obj,c.ar,c.aD,c.guard,c.bits,o.isSome,hl w L i h hi,?_,trivial⟩,?_,trivial⟩
 .refine h.al λw2 h=>⟨?_,trivial⟩
  refine h.Ji 0 O O O λw3 h=>?_;exact hk w3 h
 .refine h.al λw2 h=>⟨⟨c.kind,c.obj,c.ar,c.aD,c.guard,c.bits,o.isSome,hl w2 _ (i+1) h (by simpa using hi),?_,trivial⟩,trivial⟩
  refine h.Ji 0 O O O λw3 h=>?_;exact hk w3 h
theorem uj.put{bits:J U}{H:Hs}(h:uj bits H){s:Slot}{c:dB}(h1:bc bits s=G)(h2:cH c=0)(h3:c.kind≠0)(h4:gl c):uj bits (dj H s (X c)):=by
 refine⟨h.fu,h.zr,λs' c' hs=>?_⟩;unfold dj at hs;split at hs
 .rename_i e;subst e;cases hs;exact⟨h1,h2,h3,h4⟩
 .exact h.held s' c' hs
theorem uj.del{bits:J U}{H:Hs}(h:uj bits H)(s:Slot):uj bits (dj H s Q):=by
 refine⟨h.fu,h.zr,λs' c' hs=>?_⟩;unfold dj at hs;split at hs
 .cases hs
 .exact h.held s' c' hs
theorem Av{M:J (Slot × dB)}{H:Hs}(h:∀k,dQ M k=H k)(s:Slot)(c:dB):∀k,dQ (ko M s c) k=dj H s (X c) k:=λk=>by
 rw[re,h k];unfold dj;by_cases e:s=k
 .subst e;simp
 .have:¬k=s:=λh=>e h.symm
  rw[Y e,Y this]
theorem Au{M:J (Slot × dB)}{H:Hs}(hn:(M.map (·.1)).Nodup)(h:∀k,dQ M k=H k)(s:Slot):∀k,dQ (mA M s) k=dj H s Q k:=λk=>by
 rw[uO hn,h k];unfold dj;by_cases e:s=k
 .subst e;simp
 .have:¬k=s:=λh=>e h.symm
  rw[Y e,Y this]
theorem _root_.Go.Vc.Ow.Fc{B:S}{w0 w:W}{L:J aG}{m:S}{M:J (Slot × dB)}(h:Ow B w0 w L)(i:S)(hi:L[i]?=X (iV m M)):(M.map (·.1)).Nodup:=(h.take i hi).head λ_ h=>h.2.nodup
def kc(bits:J U)(H:Hs)(s:Slot)(c:dB):U × Hs:=
 if bc bits s=qd then(50,H)else if cH c≠0 then(cH c,H)else if c.kind=0 then(1,H)else if(H s).isSome then(51,H)else(0,dj H s (X c))
theorem jQ{s:Slot}{c:dB}{K:U->Pw}(hc:gl c)(h:Ow B w0 w (aC b bits H::R))(hK:∀w',Ow B w0 w' (aC b bits (kc bits H s c).2::R)->K (kc bits H s c).1 w'):
  ZH b.o s.1 s.2 c.kind c.obj c.ar c.aD c.guard c.bits K w:=by
 apply aeu;refine h.al λw1 h=>?_;refine h.al λw2 h=>?_;have h:Ow B w0 w2 (ae w1.heap.size c.cells::ae w.heap.size [.z s.1,.z s.2]::aC b bits H::R):=h;refine h.vU 0 O O ?_;refine jU h hc λw3 h=>?_;intro k20 hk20;refine h.dr λw4 h=>?_;have h:Ow B w0 w4 (aC b bits H::ae w1.heap.size c.cells::ae w.heap.size [.z s.1,.z s.2]::R):=h.take 2 O;have hn:=h;obtain⟨x,hk,hM,h⟩:=h.nodes;refine⟨_,O,X x.m,h.ld 0 O O,h.rZ 4 O O (GH (k:=λ_ b w=>k20 b w) h 2 O (H s) (hM s) λw5 h=>?_)⟩;apply hk20;have h:Ow B w0 w5 (aC b bits H::ae w1.heap.size c.cells::ae w.heap.size [.z s.1,.z s.2]::R):=Ow.fi hk hM h.drop;refine h.rZ 2 O O ?_;refine dL h 0 O λw6 h=>?_;have fail:∀e:U,kc bits H s c=(e,H)->K e w6:=λe he=>by rw[he]at hK;have h1:Ow B w0 w6 (ae w.heap.size [.z s.1,.z s.2]::aC b bits H::ae w1.heap.size c.cells::R):=h.take 2 O;exact hK w6 ((h1.drop.perm (List.Perm.swap _ _ _)).drop)
 cases ht:bc bits s with
 |false=>
  rw[T4,qq];exact fail 50 (by unfold kc;rw[Z ht])
 |true=>
  have ht':¬bc bits s=false:=by rw[ht];decide
  rw[T1,qv];by_cases e1:cH c=0
  .rw[show(cH c !=0)=qd from by simpa using e1,qv]
   refine⟨c.kind,h.iJ 1 O O,?_⟩;by_cases e2:c.kind=0
   .rw[show(c.kind==0)=G from by simpa using e2,qq]
    exact fail 1 (by unfold kc;rw[Y ht',Y (by simpa using e1),Z e2])
   .rw[show(c.kind==0)=qd from by simpa using e2,qv]
    cases e3:(H s).isSome with
    |true=>
     rw[qq];exact fail 51 (by unfold kc;rw[Y ht',Y (by simpa using e1),Y e2,Z e3])
    |false=>
     rw[qv];have ep:kc bits H s c=(0,dj H s (X c)):=by unfold kc;rw[Y ht',Y (by simpa using e1),Y e2,Y (by rw[e3];decide)]
     rw[ep]at hK;refine h.dr λw7 h=>?_;obtain⟨x,hk,hM,h⟩:=h.nodes;refine⟨_,O,X x.m,h.ld 0 O O,h.rZ 4 O O (h.vU 3 O O ⟨h.lM (enc:=eF) (encV:=jX) (k:=s) (v:=c) qR kq 2 O λw8 h=>?_,trivial⟩)⟩;have h1:=Ow.fi (hk.put ht e1 e2 hc) (Av hM s c) h;have h2:Ow B w0 w8 (ae w.heap.size [.z s.1,.z s.2]::aC b bits (dj H s (X c))::ae w1.heap.size c.cells::R):=h1.take 2 O;exact hK w8 ((h2.drop.perm (List.Perm.swap _ _ _)).drop)
  .rw[show(cH c !=0)=G from by simpa using e1,qq]
   exact fail (cH c) (by unfold kc;rw[Y ht',Z e1])
theorem jg{s:Slot}{K:U->U->U->U->U->U->U->Pw}(h:Ow B w0 w (aC b bits H::R))
  (h1:bc bits s=qd->∀w',Ow B w0 w' (aC b bits H::R)->K 0 0 0 0 0 0 50 w')
  (h2:bc bits s=G->H s=Q->∀w',Ow B w0 w' (aC b bits H::R)->K 0 0 0 0 0 0 52 w')
  (h3:bc bits s=G->∀c,H s=X c->∀w',Ow B w0 w' (aC b bits (dj H s Q)::R)->K c.kind c.obj c.ar c.aD c.guard c.bits 0 w'):acu b.o s.1 s.2 K w:=by
 apply aeB;refine h.al λw1 h=>?_;refine h.al λw2 h=>?_;have h:Ow B w0 w2 (ae w1.heap.size aw.cells::ae w.heap.size [.z s.1,.z s.2]::aC b bits H::R):=h;intro k6 hk6;refine h.dr λw3 h=>?_;have h:Ow B w0 w3 (aC b bits H::ae w1.heap.size aw.cells::ae w.heap.size [.z s.1,.z s.2]::R):=h.take 2 O;obtain⟨x,hk,hM,h⟩:=h.nodes;refine⟨_,O,X x.m,h.ld 0 O O,h.rZ 4 O O (GH (k:=λa b w=>k6 a b w) h 2 O (H s) (hM s) λw4 h=>?_)⟩;apply hk6;have h:Ow B w0 w4 (aC b bits H::ae w1.heap.size aw.cells::ae w.heap.size [.z s.1,.z s.2]::ae w3.heap.size ((H s).getD aw).cells::R):=by
  have h5:=Ow.fi hk hM h.drop;have h6:Ow B w0 w4 (ae w3.heap.size ((H s).getD aw).cells::ae b [bz x.s,.map (X x.m)]::ag ax x.s bits::iV x.m x.M::(ae w1.heap.size aw.cells::ae w.heap.size [.z s.1,.z s.2]::R)):=h;have h7:Ow B w0 w4 (ae b [bz x.s,.map (X x.m)]::ag ax x.s bits::iV x.m x.M::(ae w1.heap.size aw.cells::ae w.heap.size [.z s.1,.z s.2]::ae w3.heap.size ((H s).getD aw).cells::R)):=by
   refine h6.perm ?_;have p:∀(a b c d e f:aG)(R:J aG),(a::b::c::d::e::f::R).Perm (b::c::d::e::f::a::R):=λa b c d e f R=>by refine(List.Perm.swap _ _ _).trans (List.Perm.cons _ ?_);refine(List.Perm.swap _ _ _).trans (List.Perm.cons _ ?_);refine(List.Perm.swap _ _ _).trans (List.Perm.cons _ ?_);refine(List.Perm.swap _ _ _).trans (List.Perm.cons _ ?_);exact List.Perm.swap _ _ _
   exact p _ _ _ _ _ _ _
  exact Ow.fi hk hM h7
 have fin:∀w' H',Ow B w0 w' (aC b bits H'::ae w1.heap.size aw.cells::ae w.heap.size [.z s.1,.z s.2]::ae w3.heap.size ((H s).getD aw).cells::R)->Ow B w0 w' (aC b bits H'::R):=λw' H' h=>by have g1:Ow B w0 w' (ae w1.heap.size aw.cells::aC b bits H'::ae w.heap.size [.z s.1,.z s.2]::ae w3.heap.size ((H s).getD aw).cells::R):=h.perm (List.Perm.swap _ _ _);exact((g1.drop.perm (List.Perm.swap _ _ _)).drop.perm (List.Perm.swap _ _ _)).drop
 refine h.rZ 2 O O ?_;refine dL h 0 O λw5 h=>?_;cases ht:bc bits s with
 |false=>
  rw[T4,qq];refine h.Ji 1 O O O λw6 h=>?_;refine h.vU 1 O O ?_;exact h1 ht w6 (fin _ _ h)
 |true=>
  rw[T1,qv];cases hs:H s with
  |none=>
   rw[Vi,T4,qq];refine h.Ji 1 O O O λw6 h=>?_;refine h.vU 1 O O ?_;exact h2 ht hs w6 (fin _ _ h)
  |some c=>
   rw[Vv,T1,qv];refine h.dr λw6 h=>?_;obtain⟨x,hk,hM,h⟩:=h.nodes;have hnd:=h.Fc 2 O;refine⟨_,O,X x.m,h.ld 0 O O,h.rZ 4 O O ⟨h.MK (enc:=eF) (encV:=jX) (k:=s) qR kq 2 O λw7 h=>?_,trivial⟩⟩;have h:=Ow.fi (hk.del s) (Au hnd hM s) h;have hcell:((H s).getD aw).cells=c.cells:=by rw[hs];rfl
   rw[hcell]at h fin;refine h.vU 3 O O ?_;refine h.Ji 1 O O O λw8 h=>?_;refine h.vU 1 O O ?_;have h:Ow B w0 w8 (aC b bits (dj H s Q)::ae w1.heap.size c.cells::ae w.heap.size [.z s.1,.z s.2]::ae w3.heap.size c.cells::R):=h;have g1:Ow B w0 w8 (ae w1.heap.size c.cells::aC b bits (dj H s Q)::ae w.heap.size [.z s.1,.z s.2]::ae w3.heap.size c.cells::R):=h.perm (List.Perm.swap _ _ _);exact h3 ht c hs w8 (((g1.drop.perm (List.Perm.swap _ _ _)).drop.perm (List.Perm.swap _ _ _)).drop)
def eP(bits:J U)(H:Hs)(f t:Slot):U × Hs:=
 if bc bits f=qd\/bc bits t=qd then(50,H)else match H f with|none=>(52,H)|some c=>if(H t).isSome then(51,H)else(0,dj (dj H f Q) t (X c))
theorem ov{f t:Slot}{K:U->Pw}(h:Ow B w0 w (aC b bits H::R))(hK:∀w',Ow B w0 w' (aC b bits (eP bits H f t).2::R)->K (eP bits H f t).1 w'):
  abf b.o f.1 f.2 t.1 t.2 K w:=by
 apply aez;refine h.al λw1 h=>?_;refine h.al λw2 h=>?_;have h:Ow B w0 w2 (aC b bits H::ae w1.heap.size [.z t.1,.z t.2]::ae w.heap.size [.z f.1,.z f.2]::R):=h.take 2 O;intro k8 hk8;refine h.dr λw3 h=>?_;obtain⟨x,hk,hM,h⟩:=h.nodes;refine⟨_,O,X x.m,h.ld 0 O O,h.rZ 4 O O (GH (k:=λa b w=>k8 a b w) h 2 O (H f) (hM f) λw4 h=>?_)⟩;apply hk8;intro k12 hk12;have h:Ow B w0 w4 (ae w3.heap.size ((H f).getD aw).cells::aC b bits H::ae w1.heap.size [.z t.1,.z t.2]::ae w.heap.size [.z f.1,.z f.2]::R):=by
  have p:∀(a b c d:aG)(R:J aG),(a::b::c::d::R).Perm (b::c::d::a::R):=λa b c d R=>by refine(List.Perm.swap _ _ _).trans (List.Perm.cons _ ?_);refine(List.Perm.swap _ _ _).trans (List.Perm.cons _ ?_);exact List.Perm.swap _ _ _
  have q:∀(a b c d:aG)(R:J aG),(a::b::c::d::R).Perm (a::d::b::c::R):=λa b c d R=>by refine List.Perm.cons _ ?_;refine(List.Perm.cons _ (List.Perm.swap _ _ _)).trans ?_;exact List.Perm.swap _ _ _
  have h5:=Ow.fi hk hM (h.perm (p _ _ _ _ _));exact h5.perm (List.Perm.swap _ _ _)
 refine h.dr λw5 h=>?_;have h:=h.perm (List.Perm.swap _ _ _);obtain⟨x,hk,hM,h⟩:=h.nodes;refine⟨_,O,X x.m,h.ld 0 O O,h.rZ 4 O O (GH (k:=λa b w=>k12 b w) h 2 O (H t) (hM t) λw6 h=>?_)⟩;apply hk12;have h:Ow B w0 w6 (aC b bits H::ae w3.heap.size ((H f).getD aw).cells::ae w1.heap.size [.z t.1,.z t.2]::ae w.heap.size [.z f.1,.z f.2]::R):=Ow.fi hk hM h.drop;have fin:∀w' H',Ow B w0 w' (aC b bits H'::ae w3.heap.size ((H f).getD aw).cells::ae w1.heap.size [.z t.1,.z t.2]::ae w.heap.size [.z f.1,.z f.2]::R)->Ow B w0 w' (aC b bits H'::R):=λw' H' h=>by have g1:Ow B w0 w' (ae w3.heap.size ((H f).getD aw).cells::aC b bits H'::ae w1.heap.size [.z t.1,.z t.2]::ae w.heap.size [.z f.1,.z f.2]::R):=h.perm (List.Perm.swap _ _ _);exact((g1.drop.perm (List.Perm.swap _ _ _)).drop.perm (List.Perm.swap _ _ _)).drop
 intro k15 hk15;have none':∀w',(bc bits f=qd\/bc bits t=qd)->Ow B w0 w' (aC b bits H::ae w3.heap.size ((H f).getD aw).cells::ae w1.heap.size [.z t.1,.z t.2]::ae w.heap.size [.z f.1,.z f.2]::R)->k15 G w':=λw' hn h=>by
  apply hk15;rw[qq];have e:eP bits H f t=(50,H):=by unfold eP;rw[Z hn]
  rw[e]at hK;exact hK w' (fin _ _ h)
 refine h.rZ 3 O O ?_;refine dL h 0 O λw7 h=>?_;cases hf:bc bits f with
 |false=>rw[T4,qq];exact none' w7 (.inl hf) h
 |true=>
  rw[T1,qv];refine h.rZ 2 O O ?_;refine dL h 0 O λw8 h=>?_;cases ht:bc bits t with
  |false=>exact none' w8 (.inr ht) h
  |true=>
   rw[T1];apply hk15;rw[qv];have hn:¬(bc bits f=qd\/bc bits t=qd):=by rw[hf,ht];decide
   cases hs:H f with
   |none=>
    rw[Vi,T4,qq];have e:eP bits H f t=(52,H):=by unfold eP;rw[Y hn,hs]
    rw[e]at hK;exact hK w8 (fin _ _ h)
   |some c=>
    rw[Vv,T1,qv];cases hto:(H t).isSome with
    |true=>
     rw[qq];have e:eP bits H f t=(51,H):=by unfold eP;rw[Y hn,hs];simp only[hto,qE]
     rw[e]at hK;exact hK w8 (fin _ _ h)
    |false=>
     rw[qv];have e:eP bits H f t=(0,dj (dj H f Q) t (X c)):=by unfold eP;rw[Y hn,hs];simp[hto]
     rw[e]at hK;have hcell:((H f).getD aw).cells=c.cells:=by rw[hs];rfl
     rw[hcell]at h fin;refine h.dr λw9 h=>?_;obtain⟨x,hk,hM,h⟩:=h.nodes;have hnd:=h.Fc 2 O;obtain⟨g1,g2,g3,g4⟩:=hk.held f c hs;refine⟨_,O,X x.m,h.ld 0 O O,h.rZ 5 O O ⟨h.MK (enc:=eF) (encV:=jX) (k:=f) qR kq 2 O λw10 h=>?_,trivial⟩⟩;refine h.dr λw11 h=>?_;refine⟨_,O,X x.m,h.ld 0 O O,h.rZ 4 O O (h.vU 3 O O ⟨h.lM (enc:=eF) (encV:=jX) (k:=t) (v:=c) qR kq 2 O λw12 h=>?_,trivial⟩)⟩;exact hK w12 (fin _ _ (Ow.fi ((hk.del f).put ht g2 g3 g4) (Av (Au hnd hM f) t c) h))
theorem sh{α:Type}:∀{l:J α}{j:S}{k q:α},l.Nodup->l[j]?=X k->(q∈l.eraseIdx j↔q∈l/\q≠k)
 | [],j,k,q,_,h=>by simp at h
 |a::l,0,k,q,hn,h=>by
  simp only[List.getElem?_cons_zero,Option.some.injEq]at h;subst h;rw[Tx]at hn;rw[List.eraseIdx_cons_zero,SH];constructor
  .intro hq;exact⟨.inr hq,λe=>hn.1 (e▸hq)⟩
  .rintro ⟨hq|hq,hne⟩
   .exact qk hq hne
   .exact hq
 |a::l,j+1,k,q,hn,h=>by
  rw[Tx]at hn;rw[List.getElem?_cons_succ]at h;have hak:a≠k:=λe=>hn.1 (e▸SU h);rw[List.eraseIdx_cons_succ,SH,SH,sh hn.2 h];constructor
  .rintro (rfl|⟨h1,h2⟩)
   .exact ⟨.inl O,hak⟩
   .exact ⟨.inr h1,h2⟩
  .rintro ⟨rfl|h1,h2⟩
   .exact .inl O
   .exact .inr ⟨h1,h2⟩
end
end Sl
def aeR{a K w}:=ah (Zh a K w) func93 .Mz
def aeS{a K w}:=ah (Zs a K w) func104 (.v (.v (.y .RP .w)))
def adC{a b K w}:=ah (XU a b K w) func209 .R2
def aeT{a b K w}:=ah (aaE a b K w) func210 (.v (.y .C6 .w))
def adD{a b K w}:=ah (XV a b K w) func213 (.v (.v (.y .C6 (.v (.v (.v .w))))))
def aeU{a K w}:=ah (aaH a K w) func214 (.v (.v .w))
def aeV{a K w}:=ah (aaJ a K w) func216 (.v (.v (.y (.v (.x (.t (X [(3,.c .s),(4,.c .p)]) (.y (.y .N8 .w) (.x .w)) .u))) (.v .w))))
def aeW{a b K w}:=ah (abV a b K w) func302 (.v .w)
def aeX{a K w}:=ah (abW a K w) func303 (.v .w)
def aeY{a K w}:=ah (abZ a K w) func306 (.v .w)
def aeZ{a b c d e f g h i K w}:=ah (acj a b c d e f g h i K w) func334 (.v (.y .P7 (.v (.v (.x (.t (X [(11,.c .q)]) (.y (.x (.v (.y (.y .N9 (.x .w)) (.v (.v (.x .w)))))) .w) .u))))))
def ae0{a b c d e f g h K w}:=ah (ac5 a b c d e f g h K w) func391 (.v (.v (.y (.v (.x .w)) (.y (.v (.y (.r (X [(37,.c .b)]) .done) (.x .w))) .oe))))
def ae1{a b K w}:=ah (ac6 a b K w) func392 (.v (.y (.v (.x .w)) (.v (.y (.z (.o 0 496 (.o 1 496 (.o 2 496 (.o 3 496 (.o 4 256 (.o 5 256 (.o 6 256 (.o 7 256 (.o 8 0 (.e 9 (.o 10 0 (.o 11 4096 (.o 12 8192 .Kd)))))))))))))) .w))))
def ae2{a b c d e f g K w}:=ah (adu a b c d e f g K w) func432 (.v (.y (.y (.r (X [(13,.c .b)]) .done) (.x .w)) .w))
def adE{a b c d e f K w}:=ah (W9 a b c d e f K w) func20 (.v (.v (.y (.v (.x .w)) (.v (.v (.v (.y (.v (.x (.t (X [(46,.c (.i .i64))]) (.v (.y .w (.x (.x (.v (.x (.v (.x .w)))))))) .u))) .w)))))))
def ae3{a b c d e K w}:=ah (Yt a b c d e K w) func21 (.v (.y .Rs (.y (.x (.v (.y .w (.v (.y .w (.v (.y .w .g18))))))) (.x (.z (.o 0 508 (.o 2 194 (.o 3 194 (.o 4 194 (.o 5 194 (.o 6 2 (.o 7 2 (.hold 1 256 3071 .P8)))))))))))))
def ae4{a K w}:=ah (V8 a K w) func23 (.v .w)
def ae5{a b K w}:=ah (VX a b K w) func26 (.v .w)
def ae6{a K w}:=ah (Yw a K w) func30 (.v (.y (.z (.o 0 507360 (.o 1 507360 (.o 2 507360 (.o 3 507360 (.o 5 506896 (.o 6 506896 (.o 7 506896 (.o 10 492304 (.o 11 492304 (.o 12 492304 (.o 15 25360 (.o 16 25360 (.o 17 25360 (.hold 8 270352 3128831 (.hold 13 262672 3129343 (.hold 18 16912 3145727 (.e 4 (.e 9 (.e 14 .QL)))))))))))))))))))) (.y (.v (.x (.t (X [(32,.c (.i .i64))]) (.v (.y .w (.x (.x (.v (.y (.z (.o 0 24 (.o 1 24 (.o 3 4 (.hold 4 4 351 (.e 2 (.o 6 32 (.e 5 (.e 7 (.o 8 0 (.e 9 .done))))))))))) .Qt)))))) .u))) .w)))
def ae7{a b c d e K w}:=ah (Zl a b c d e K w) func97 (.v (.y (.z (.o 0 48 (.o 1 48 (.o 2 48 (.o 3 48 .QD))))) (.y (.x (.v (.v (.v (.y .w (.y (.z (.o 0 124 (.o 1 124 (.o 2 0 (.o 3 0 (.o 4 0 (.o 5 0 (.o 6 0 (.o 7 0 (.o 8 0 .done)))))))))) (.x (.z (.o 0 14 (.o 1 124 (.o 2 112 .RL))))))))))) .w)))
def ae8{a b K w}:=ah (Zm a b K w) func98 (.v (.v (.y (.x (.v (.v (.v (.y (.v (.v .w)) (.v (.y (.v (.v (.x .w))) (.y (.r (X [(59,.c .b)]) .done) (.x (.v (.v (.x (.z (.o 0 1022 (.o 1 992 (.o 2 992 (.o 3 992 (.o 5 16 (.o 6 16 (.o 7 16 (.o 8 16 (.hold 4 512 6143 .QG)))))))))))))))))))))) .w)))
def ae9{a K w}:=ah (Zn a K w) func99 (.v (.v .w))
def afa{a b K w}:=ah (Zo a b K w) func100 .oe
def afb{a b c d K w}:=ah (Zv a b c d K w) func107 (.v (.v .w))
def afc{a b K w}:=ah (Zz a b K w) func111 .oe
def afd{a K w}:=ah (ZA a K w) func112 (.v .w)
def afe{a b K w}:=ah (ZC a b K w) func114 (.v .w)
def aff{a b c K w}:=ah (aaC a b c K w) func207 (.v (.v (.v (.y (.v (.t (X [(10,.c .b)]) (.v (.v (.x (.z (.o 0 112 (.o 1 112 (.o 2 112 (.o 3 112 (.o 4 32 .Mv))))))))) .u)) .w))))
def afg{a b K w}:=ah (aaD a b K w) func208 (.v (.v (.y (.v (.x (.z (.o 0 16144 (.o 1 16144 (.o 2 16144 (.o 3 16144 (.o 4 16128 (.o 5 16128 (.o 6 16128 (.o 7 16128 .RD))))))))))) .w)))
def afh{a b K w}:=ah (aaF a b K w) func211 (.v (.v (.y (.z (.o 0 131070 (.o 1 65504 (.o 2 65504 (.o 3 65504 (.o 4 65504 (.o 5 65472 (.o 6 15360 (.o 7 15360 (.o 8 15360 (.o 9 15360 (.o 10 0 (.o 11 0 (.o 12 0 (.o 13 0 (.o 14 0 (.o 15 0 (.e 16 .QM)))))))))))))))))) (.y (.v (.x (.t (X [(39,.c (.i .i64))]) (.v (.y .w (.x (.x (.v (.y (.z (.o 0 240 (.o 1 240 (.o 2 240 (.o 3 240 (.o 4 192 (.o 5 192 .Mw))))))) (.z (.o 0 2032 (.o 1 2032 (.o 2 2032 (.o 3 2032 (.o 4 2016 (.o 5 768 (.o 6 768 (.o 7 768 (.o 8 0 .Kb)))))))))))))))) .u))) (.v (.x (.z (.o 0 1022 (.o 1 992 (.o 2 992 (.o 3 992 (.o 5 16 (.o 6 16 (.o 7 16 (.o 8 16 (.hold 4 512 2047 (.e 9 (.o 10 0 (.e 11 .done)))))))))))))))))))
def afi{a b K w}:=ah (aaI a b K w) func215 (.v .w)
def afj{a b K w}:=ah (abR a b K w) func298 (.v .C7)
def afk{a b c d K w}:=ah (acT a b c d K w) func373 (.v .w)
namespace Sl
section
variable{B:S}{w0 w:W}{R L:J aG}{b rb:S}{bits:J U}{H:Hs}
def rH(bits:J U)(c:dB):qg U:=if c.kind≠2 then Q else if cH c≠0 then Q else fa bits c.obj
def eX(bits:J U)(addr:S)(c:dB)(left:S):U × Slot × S:=
 match rH bits c with
 |none=>(60,(0,0),left)
 |some z=>
  if left<c.bits.toNat then(61,(0,0),left)
  else if((addr / 2^(left-c.bits.toNat)%2^c.bits.toNat:S):U)≠c.guard then(61,(0,0),left)
  else if left-c.bits.toNat<z.toNat then(62,(0,0),left)
  else(0,(c.obj,((addr / 2^(left-c.bits.toNat-z.toNat)%2^z.toNat:S):U)),left-c.bits.toNat-z.toNat)
def lX(bits:J U)(H:Hs)(addr:S):S->dB->S->Slot × U
 |0,_,_=>((0,0),62)
 |f+1,c,left=>
  if(eX bits addr c left).1≠0 then((0,0),(eX bits addr c left).1)
  else if(eX bits addr c left).2.2=0 then((eX bits addr c left).2.1,0)
  else if((H (eX bits addr c left).2.1).getD aw).kind≠2 then((0,0),62)
  else lX bits H addr f ((H (eX bits addr c left).2.1).getD aw) (eX bits addr c left).2.2
def tY(bits:J U)(H:Hs)(root:dB)(addr:S)(depth:U):Slot × U:=
 if depth<1\/64<depth then((0,0),1)else lX bits H addr depth.toNat root depth.toNat
theorem xM{bits:J U}{c:dB}{z:U}(h:rH bits c=X z):c.kind=2/\cH c=0/\fa bits c.obj=X z:=by
 unfold rH at h;split at h
 .cases h
 .split at h
  .cases h
  .exact ⟨om,om,h⟩
theorem Fg{c:dB}(h1:c.kind=2)(h2:cH c=0):0<=c.bits/\c.bits<=64/\c.guard<2^c.bits.toNat:=by
 unfold cH at h2;split at h2
 .rename_i e;rw[e]at h1;cases h1
 .split at h2
  .cases h2
  .rename_i e
   unfold ia at e;simp only[Bool.or_eq_true,not_or,Bool.not_eq_true,Bool.not_eq_false',S4]at e;have:=e.1.1.1.2;unfold fb at this;simpa using this
theorem jA{a n:S}{K:I->Pw}(ha:a+n<=64)(h:K G w):Yd (a:U) (n:U) K w:=by apply adz;refine az om (az om (az om ?_));rw[wr om om,qp om];exact h
theorem jz{v a n:S}{K:U->U->Pw}(hv:v<2^64)(hn:a+n<=64)(h:Ow B w0 w L)(hK:∀w',Ow B w0 w' L->K ((v / 2^a%2^n:S):U) 0 w'):Yc (v:U) (a:U) (n:U) K w:=by
 apply ady;refine jA hn ?_;refine aV O ?_;repeat refine h.dr λw h=>?_
 refine⟨om,a2 (gz om ?_)⟩;rw[nF v a om,Bb _ n (Vh (Nat.div_le_self _ _) hv) om];exact hK _ h
theorem mK{addr left n:S}{K:U->I->Pw}(ha:addr<2^64)(hl:left<=64)(h:Ow B w0 w (ae rb [.y (addr:U),.z (left:U)]::R))(hn:n<=64)
  (h1:left<n->∀w',Ow B w0 w' (ae rb [.y (addr:U),.z (left:U)]::R)->K 0 qd w')
  (h2:n<=left->∀w',Ow B w0 w' (ae rb [.y (addr:U),.z ((left-n:S):U)]::R)->K ((addr / 2^(left-n)%2^n:S):U) G w'):
  ac6 rb.o (n:U) K w:=by
 apply ae1;repeat first|refine h.l1 O ?_|refine fy ?_
 refine bh (λe=>h1 om _ h) (λe=>?_);have e2:qj.wrap ((left:U)-(n:U))=((left-n:S):U):=by rw[wr om om];omega
 repeat first|refine h.dr λw h=>?_|refine h.l1 O ?_|refine fy ?_|refine _root_.Go.Vc.a2 ?_|refine h.jD O O λw h=>?_
 rw[e2]at h|-;refine jz ha om h λw h=>?_;exact h2 om _ h
theorem uM{c:dB}{K:U->I->Pw}(hc:gl c)(h:Ow B w0 w L)(i:S)(hi:L[i]?=X (aC b bits H))(hK:∀w',Ow B w0 w' L->K ((rH bits c).getD 0) (rH bits c).isSome w'):adu b.o c.kind c.obj c.ar c.aD c.guard c.bits K w:=by
 apply ae2;unfold rH at hK;refine h.al λw1 h=>?_;have h:Ow B w0 w1 (ae w.heap.size c.cells::L):=h;intro k hk
 (refine h.l1 O ?_)
 refine pR (λe=>?_) (λe=>?_)
 .apply hk
  rw[Z e]at hK;exact hK _ h.drop
 .rw[Y om]at hK
  repeat refine h.aM O ?_
  refine jU h hc λw h=>?_;apply hk;refine pR (λe=>?_) (λe=>?_)
  .rw[Z e]at hK
   exact hK _ h.drop
  .rw[Y om]at hK
   (refine h.l1 O ?_)
   exact jf h (i+1) (by simpa using hi) (hK _ h.drop)
theorem H5(x n:S)(hn:n<=8):x%2^n<256:=by have h1:0<2^n:=TW n;have h2:2^n<=2^8:=Ty om hn;have:=VU x h1;omega
theorem uN{addr left:S}{c:dB}{K:U->U->U->Pw}(hc:gl c)(ha:addr<2^64)(hl:left<=64)
  (h:Ow B w0 w (aC b bits H::ae rb [.y (addr:U),.z (left:U)]::R))
  (h1:(eX bits addr c left).1≠0->∀w' l',Ow B w0 w' (aC b bits H::ae rb [.y (addr:U),.z l']::R)->K 0 0 (eX bits addr c left).1 w')
  (h2:(eX bits addr c left).1=0->∀w',Ow B w0 w' (aC b bits H::ae rb [.y (addr:U),.z ((eX bits addr c left).2.2:U)]::R)->K (eX bits addr c left).2.1.1 (eX bits addr c left).2.1.2 0 w'):
  ac5 b.o c.kind c.obj c.ar c.aD c.guard c.bits (.func (.func 392) #[.q rb] #[]) K w:=by
 apply ae0;have hk:=h.um;repeat first|refine h.al λw h=>?_|refine h.aM O ?_
 refine uM hc h 2 O λw h=>?_;cases hn:rH bits c with
 |none=>
  have hs:eX bits addr c left=(60,(0,0),left):=by unfold eX;rw[hn]
  rw[hs]at h1;refine aW O ?_;repeat first|refine h.aM O ?_|refine h.aB O O λw h=>?_
  exact h1 qc _ (left:U) h.sub
 |some z=>
  obtain⟨hk2,he,hz⟩:=xM hn;obtain⟨g1,g2,g3⟩:=Fg hk2 he;obtain⟨z1,z2⟩:=u7 hk hz;obtain⟨cb,hcb⟩:=SI g1;obtain⟨zz,rfl⟩:=SI (show 0<=z by omega);refine aV O ?_
  (refine h.l1 O ?_)
  refine aY ?_;have hgoN:c.bits.toNat=cb:=om
  rw[hcb];refine mK ha hl h.yQ om (λe w h=>?_) (λe w h=>?_)
  .have hs:eX bits addr c left=(61,(0,0),left):=by unfold eX;rw[hn];simp only[hgoN];rw[Z e]
   rw[hs]at h1;intro k hk';refine aW O ?_;apply hk';refine aW O ?_;repeat first|refine h.aM O ?_|refine h.aB O O λw h=>?_
   exact h1 qc _ (left:U) h.sub
  .intro k hk'
   refine aV O ?_
   (refine h.l1 O ?_)
   apply hk';refine pR (λe2=>?_) (λe2=>?_)
   .have hs:eX bits addr c left=(61,(0,0),left):=by unfold eX;rw[hn];simp only[hgoN];rw[Y om,Z e2]
    rw[hs]at h1;repeat first|refine h.aM O ?_|refine h.aB O O λw h=>?_
    exact h1 qc _ ((left-cb:S):U) h.sub
   .refine aY ?_
    refine mK ha om h om (λe3 w h=>?_) (λe3 w h=>?_)
    .have hs:eX bits addr c left=(62,(0,0),left):=by unfold eX;rw[hn];simp only[hgoN];rw[Y om,Y om,Z om]
     rw[hs]at h1;refine aW O ?_;repeat first|refine h.aM O ?_|refine h.aB O O λw h=>?_
     exact h1 qc _ ((left-cb:S):U) h.sub
    .have hs:eX bits addr c left=(0,(c.obj,((addr / 2^(left-cb-zz)%2^zz:S):U)),left-cb-zz):=by unfold eX;rw[hn];simp only[hgoN,SD];rw[Y om,Y om,Y om]
     rw[hs]at h2;refine aV O ?_;have:=H5 (addr / 2^(left-cb-zz)) zz om;rw[wr om om];repeat first|refine h.aM O ?_|refine h.l1 O ?_|refine h.aB O O λw h=>?_
     exact h2 O _ h.sub
theorem zu{bits:J U}{addr left:S}{c:dB}(hb:∀z∈bits,z= -1\/(1<=z/\z<=8))(h:(eX bits addr c left).1=0):
  bc bits (eX bits addr c left).2.1=G/\(eX bits addr c left).2.2<left:=by
 unfold eX at h|-;cases hn:rH bits c with
 |none=>rw[hn]at h;simp at h
 |some z=>
  rw[hn]at h;obtain⟨hk2,he,hz⟩:=xM hn;simp only at h|-;obtain⟨_,hz2,hz3⟩:=lE hz;have hzr:1<=z/\z<=8:=by
   rcases hb z (SU hz2)with e|e
   .exact qk e hz3
   .exact e
  by_cases e1:left<c.bits.toNat
  .rw[Z e1]at h;simp at h
  rw[Y e1]at h|-;by_cases e2:((addr / 2^(left-c.bits.toNat)%2^c.bits.toNat:S):U)≠c.guard
  .rw[Z e2]at h;simp at h
  rw[Y e2]at h|-;by_cases e3:left-c.bits.toNat<z.toNat
  .rw[Z e3]at h;simp at h
  rw[Y e3];refine⟨?_,by show left-c.bits.toNat-z.toNat<left;omega⟩;unfold bc;simp only[hz];rw[decide_eq_true_iff];have hm:addr / 2^(left-c.bits.toNat-z.toNat)%2^z.toNat<2^z.toNat:=VU _ (TW _);refine⟨UJ _,?_⟩;rw[show((2:U)^z.toNat)=((2^z.toNat:S):U)from by simp];exact Int.ofNat_lt.2 hm
theorem uj.NW{bits:J U}{H:Hs}(h:uj bits H)(s:Slot):gl ((H s).getD aw):=by
 cases hs:H s with
 |none=>exact⟨qb,qb,qb,qb⟩
 |some c=>exact(h.held s c hs).2.2.2
theorem mJ{addr:S}{depth:U}{root:dB}{K:U->U->U->Pw}(hc:gl root)(ha:addr<2^64)(h:Ow B w0 w (aC b bits H::R))
  (hK:∀w',Ow B w0 w' (aC b bits H::R)->K (tY bits H root addr depth).1.1 (tY bits H root addr depth).1.2 (tY bits H root addr depth).2 w'):
  acj b.o root.kind root.obj root.ar root.aD root.guard root.bits (addr:U) depth K w:=by
 apply aeZ;have hk:=h.um;refine h.al λw1 h=>?_;refine h.al λw2 h=>?_;intro k hk12;have hT:(depth<1\/64<depth)->k G w2:=λe=>by
  have hs:tY bits H root addr depth=((0,0),1):=by unfold tY;rw[Z e]
  rw[hs]at hK;apply hk12;refine aW O ?_;repeat first|refine h.aM O ?_|refine h.aB O O λw h=>?_
  exact hK _ h.sub
 refine bh (λe=>hT (.inl e)) (λe=>?_);by_cases e2:64<depth
 .rw[qp om];exact hT (.inr e2)
 rw[ql om];have hs:tY bits H root addr depth=lX bits H addr depth.toNat root depth.toNat:=by unfold tY;rw[Y om]
 rw[hs]at hK;obtain⟨d,rfl⟩:=SI (show 0<=depth by omega);rw[SD]at hK;apply hk12;refine aV O ?_;refine h.al λw3 h=>?_;repeat first|refine h.al λw h=>?_|refine h.aM O ?_|refine h.aB O O λw h=>?_
 intro l hl;have loop:∀(f left:S)(c:dB)(cb:S)(w':W),1<=left->left<=f->left<=64->gl c->
   Ow B w0 w' (aC b bits H::ae w2.heap.size [.y (addr:U),.z (left:U)]::ae cb c.cells::ae w1.heap.size [.z 0,.z 0]::R)->
   lX bits H addr f c left=lX bits H addr d root d->l cb.p w':=by
  intro f;induction f with
  |zero=>intro left c cb w' h1 h2;omega
  |succ f ih=>
   intro left c cb w' h1 h2 h64 hc h heq;apply hl;repeat refine h.aM O ?_
   refine uN hc ha h64 h (λhe w l' h=>?_) (λhe w h=>?_)
   ·(repeat first|refine h.al λw h=>?_|refine h.aB O O λw h=>?_)
    intro k hk;refine iw he ?_;apply hk;refine aW O ?_;repeat first|refine h.aM O ?_|refine h.aB O O λw h=>?_
    have hs:lX bits H addr (f+1) c left=((0,0),(eX bits addr c left).1):=by rw[lX,Z he]
    rw[<-heq,hs]at hK;exact hK _ h.sub
   .obtain ⟨ht,hlt⟩:=zu hk.zr he
    generalize hst:eX bits addr c left=st at he ht hlt h|-;obtain⟨er,s,left'⟩:=st;simp only at he ht hlt h|-;subst he;repeat first|refine h.al λw h=>?_|refine h.aB O O λw h=>?_
    intro k hk2;refine fh O ?_;repeat first|refine h.l1 O ?_|refine fy ?_
    by_cases hz:left'=0
    .rw[show((left':U)==0)=G from by simpa using hz]
     apply hk2;refine aW O ?_;repeat first|refine h.aM O ?_|refine h.aB O O λw h=>?_
     have hs:lX bits H addr (f+1) c left=(s,0):=by rw[lX,hst,Y qc,Z hz]
     rw[<-heq,hs]at hK;exact hK _ h.sub
    .rw[show((left':U)==0)=qd from by simpa using hz]
     apply hk2;refine aV O ?_
     (refine h.aM O ?_)
     refine jP (s:=s) h 1 O (λhn=>by rw[ht]at hn;cases hn) λ_ w c' hc' h=>?_;have hcR:gl c':=by rw[hc'];exact hk.NW s
     repeat first|refine h.l1 O ?_|refine h.aB O O λw h=>?_
     refine pR (λe3=>?_) (λe3=>?_)
     ·(repeat first|refine h.aM O ?_|refine h.aB O O λw h=>?_)
      have hs:lX bits H addr (f+1) c left=((0,0),62):=by rw[lX,hst,Y qc,Y hz,Z (by simpa [hc']using e3)]
      rw[<-heq,hs]at hK;exact hK _ h.sub
     ·(repeat first|refine h.al λw h=>?_|refine h.aM O ?_|refine h.aB O O λw h=>?_)
      refine ih left' c' _ _ om om om hcR h.sub ?_;rw[<-heq];rw[lX,hst,Y qc,Y hz,Y (by simpa [hc']using e3),hc']
 exact loop d d root _ _ om om om hc h.sub O
def Bs(bits:J U)(H:Hs)(s:Slot):dB × U:=if bc bits s=qd then(aw,50)else((H s).getD aw,0)
theorem Fa{a d k g m:S}(ha:a<2^d)(hg:g<2^k):a*2^k+g<2^(d+k):=by rw[Nat.pow_add];have:(a+1)*2^k<=2^d*2^k:=Ta _ ha;rw[Nat.succ_mul]at this;omega
theorem NN{a k d:S}(ha:a<2^d)(hd:d+k<=64):mS .u64 (a:U) (k:U)=((a*2^k:S):U):=by unfold mS;rw[SD,show qA.bits=64 from O,TL om,show((2:U)^k)=((2^k:S):U)from by simp,<-Int.natCast_mul,wrap_u64,Tn];have:=Fa (m:=0) ha (TW k);have h2:2^(d+k)<=2^64:=Ty om hd;omega
theorem DY{s:Slot}{K:U->U->U->U->U->U->U->Pw}(h:Ow B w0 w L)(i:S)(hi:L[i]?=X (aC b bits H))
  (hK:∀w' c e,(c,e)=Bs bits H s->gl c->Ow B w0 w' L->K c.kind c.obj c.ar c.aD c.guard c.bits e w'):WR b.o s.1 s.2 K w:=by
 have hk:=(h.take i hi).um;refine jP h i hi (λhn w h=>?_) (λht w c hc h=>?_)
 .exact hK w aw 50 (by unfold Bs;rw[Z hn]) ⟨qb,qb,qb,qb⟩ h
 .exact hK w c 0 (by unfold Bs;rw[Y (by rw[ht];decide),hc]) (by rw[hc];exact hk.NW s) h
end
end Sl
section
variable{B:S}{w0 w:W}{R L:J aG}
structure sV where
 base:S
 bits:S
 used:S
deriving DecidableEq
def zU:sV:=⟨0,0,0⟩
def dV:dX sV:=⟨3,λu=>[.y (u.base:U),.z (u.bits:U),.y (u.used:U)],λ_=>rfl,λx v h=>by simp only[SH,TE,qG]at h;rcases h with rfl|rfl|rfl<;>rfl,qb⟩
def wE:dX S:=⟨1,λx=>[.y (x:U)],λ_=>rfl,λx v h=>by simp only[SH,TE,qG]at h;subst h;rfl,qb⟩
structure A5(u:sV):Prop where
 bits:u.bits<=20
 top:u.base+2^u.bits<=2^20
 dvd:u.base%2^u.bits=0
 used:u.used<=2^u.bits
def F6(v n:S):S:=(v+(2^n-1)) / 2^n*2^n
def fI(kind bits:U):U × U:=
 if kind=1 then(if 4<=bits/\bits<=20 then(bits,0)else(0,1))
 else if kind=2 then(if 1<=bits/\bits<=8 then(bits+2,0)else(0,1))
 else if kind=3 then(5,0)else if kind=4\/kind=5 then(2,0)else if kind=6\/kind=7\/kind=8 then(6,0)else(0,80)
def bN(u:sV)(kind bits n:U):J S × sV × U:=
 if(fI kind bits).2≠0 then([],zU,(fI kind bits).2)else if n<1\/64<n then([],zU,1)
 else if u.base+2^u.bits<F6 (u.base+u.used) (fI kind bits).1.toNat+n.toNat*2^(fI kind bits).1.toNat then([],zU,81)
 else((SF n.toNat).map λi=>F6 (u.base+u.used) (fI kind bits).1.toNat+i*2^(fI kind bits).1.toNat,
  { u with used:=F6 (u.base+u.used) (fI kind bits).1.toNat+n.toNat*2^(fI kind bits).1.toNat-u.base},0)
theorem yx{kind bits:U}:0<=(fI kind bits).1/\(fI kind bits).1<=20:=by
 unfold fI;repeat' split
 all_goals (dsimp only;omega)
theorem Co(v n:S):v<=F6 v n/\F6 v n<v+2^n:=by unfold F6;have hp:0<2^n:=TW n;have h1:=Nat.div_add_mod (v+(2^n-1)) (2^n);have h2:=VU (v+(2^n-1)) hp;rw[Nat.mul_comm]at h1;omega
theorem Eb{v n:S}(h:v%2^n=0):F6 v n=v:=by
 have hp:0<2^n:=TW n;have h1:=Co v n;have h2:F6 v n%2^n=0:=by unfold F6;exact Xw _ _
 obtain⟨a,ha⟩:=WT h;obtain⟨c,hc⟩:=WT h2;rw[hc,ha]at h1;have h3:a<=c:=Nat.le_of_mul_le_mul_left h1.1 hp;have h4:c<a+1:=Nat.lt_of_mul_lt_mul_left (a:=2^n) (by rw[Nat.mul_add];omega);rw[hc,ha,show c=a from by omega]
theorem ED(v n:S)(hv:v<2^64)(hn:n<=64):iD .u64 (v:U) ((2^n-1:S):U)=((v / 2^n*2^n:S):U):=by
 have hp:0<2^n:=TW n;have hle:2^n<=2^64:=Ty om hn;unfold iD;rw[Sl.s8,Sl.s8];have hgl:∀(z j:S),j<64->(BitVec.ofNat 64 z).getLsbD j=z.testBit j:=λz j hj=>by rw[BitVec.getLsbD_ofNat];simp[hj]
 have hbit:∀j,j<64->(BitVec.ofNat 64 v &&& ~~~ BitVec.ofNat 64 (2^n-1)).toNat.testBit j=(v.testBit j&& !decide (j<n)):=λj hj=>by rw[BitVec.testBit_toNat,BitVec.getLsbD_and,BitVec.getLsbD_not,hgl _ _ hj,hgl _ _ hj,Wy];simp[hj]
 have hlt:=(BitVec.ofNat 64 v &&& ~~~ BitVec.ofNat 64 (2^n-1)).isLt;show qA.wrap (((BitVec.ofNat 64 v &&& ~~~ BitVec.ofNat 64 (2^n-1)).toNat:S):U)=_;generalize hz:(BitVec.ofNat 64 v &&& ~~~ BitVec.ofNat 64 (2^n-1)).toNat=z at hbit hlt;rw[Sl.wrap_u64,Tn hlt];congr 1;have hdm:v / 2^n*2^n<=v:=Nat.div_mul_le_self _ _;apply Wh;intro i;by_cases h64:i<64
 .rw[hbit i h64,Nat.testBit_mul_two_pow,Nat.testBit_div_two_pow]
  by_cases hin:i<n
  .simp[hin];omega
  .simp[hin,Nat.sub_add_cancel (Nat.le_of_not_lt hin)];intro _;omega
 .rw[UT (Ub hlt (Ty om om)),UT (Ub (Vh hdm hv) (Ty om om))]
theorem Ho(x y:S)(w:W):Et qh 396 #[.y (x:U),.y (y:U),.y (0:U)] w (.tuple #[.y (((x+y)%18446744073709551616:S):U),.y (((x+y) / 18446744073709551616:S):U)]) w:=by unfold Et;rw[run_callFunc_extern func396 qa qa qa (e:=add64Entry) qa,run_add64 (x:U) (y:U) 0 om om om om];simp only[Result.andThen,Int.add_zero];congr 5
theorem rM{v n:S}{K:U->U->Pw}(hv:v<2^62)(hn:n<=60)(h:K ((F6 v n:S):U) 0 w):acn (v:U) (n:U) K w:=by
 apply aen;have e62:(2:S)^62=4611686018427387904:=qb
 have hle:2^n<=2^60:=Ty om hn;have e60:(2:S)^60=1152921504606846976:=qb
 intro k hk;refine av om ?_;apply hk;rw[ql om];refine aV O ?_;refine Sl.gz om ?_;refine⟨_,_,w,Ho v (2^n-1) w,?_⟩;rw[Nat.div_eq_of_lt om,Tn om];refine fh O ?_;have h64:(2:S)^64=18446744073709551616:=qb
 rw[ED _ _ om om];exact h
theorem sZ{n a c d:U}{K:U->U->Pw}(hb:a<=n/\n<=c->0<=n+d/\n+d<=1000)(h:K (if a<=n/\n<=c then n+d else 0) (if a<=n/\n<=c then 0 else 1) w):ac7 n a c d K w:=by
 apply aek;intro k hk;refine bh (λe=>?_) (λe=>?_)
 .apply hk
  rw[Y om,Y om]at h;exact aW O h
 .apply hk
  by_cases e2:n>c
  .rw[qp e2]
   rw[Y om,Y om]at h;exact aW O h
  .rw[ql e2]
   have:=hb om;rw[Z om,Z om]at h;rw[wr om om];exact aV O h
theorem yy{K:U->U->U->U->U->U->U->U->U->U->Pw}(h:Ow B w0 w R)(hK:∀w',Ow B w0 w' R->K 0 0 0 5 2 2 6 6 6 0 w'):ac8 K w:=by
 apply ael;refine h.a λc w1 h=>?_;refine h.aB O O λw h=>?_;refine h.jJ O ?_;exact hK w h.drop
theorem Hl{kind bits:U}{K:U->U->Pw}(h:Ow B w0 w R)(hK:∀w',Ow B w0 w' R->K (fI kind bits).1 (fI kind bits).2 w'):acm kind bits K w:=by
 apply aej;unfold fI at hK;refine dW (λe=>?_) (λe=>?_)
 .rw[Z e]at hK
  refine sZ om ?_;have:=hK w h;split at this
  .rename_i hb
   rw[Z hb,Z hb,Int.add_zero];exact this
  .rename_i hb
   rw[Y hb,Y hb];exact this
 rw[Y e]at hK;refine dW (λe2=>?_) (λe2=>?_)
 .rw[Z e2]at hK
  refine sZ om ?_;have:=hK w h;split at this
  .rename_i hb
   rw[Z hb,Z hb];exact this
  .rename_i hb
   rw[Y hb,Y hb];exact this
 rw[Y e2]at hK;intro k hk;refine bh (λe3=>?_) (λe3=>?_)
 .rw[Y om,Y om,Y om]at hK
  apply hk;exact aW O (hK w h)
 refine bh (λe4=>?_) (λe4=>?_)
 .rw[Y om,Y om,Y om]at hK
  apply hk;exact aW O (hK w h)
 refine yy h λw h=>?_;refine⟨om,om,?_⟩;have hk2:kind=0\/kind=3\/kind=4\/kind=5\/kind=6\/kind=7\/kind=8\/kind=9:=om
 have fin:∀z:U,(#[.z 0,.z 0,.z 0,.z 5,.z 2,.z 2,.z 6,.z 6,.z 6,.z 0]:qw V)[kind.toNat*1]?=X (.z z)->z≠0->
   (∀w',Ow B w0 w' R->K z 0 w')->k (z==0) w:=λz hz z0 hK=>by
  rw[show(z==0)=qd from by simpa using z0];apply hk;refine aV O ?_;refine yy h λw h=>?_;exact⟨om,om,z,hz,hK w h⟩
 have fin0:(∀w',Ow B w0 w' R->K 0 80 w')->k ((0:U)==0) w:=λhK=>by apply hk;exact aW O (hK w h)
 rcases hk2 with rfl|rfl|rfl|rfl|rfl|rfl|rfl|rfl
 .exact ⟨0,O,fin0 hK⟩
 .exact ⟨5,O,fin 5 O qb hK⟩
 .exact ⟨2,O,fin 2 O qb hK⟩
 .exact ⟨2,O,fin 2 O qb hK⟩
 .exact ⟨6,O,fin 6 O qb hK⟩
 .exact ⟨6,O,fin 6 O qb hK⟩
 .exact ⟨6,O,fin 6 O qb hK⟩
 .exact ⟨0,O,fin0 hK⟩
theorem OJ{n:S}(hn:n<=62):mS .u64 1 (n:U)=((2^n:S):U):=by have:=Sl.NN (a:=1) (k:=n) (d:=1) qb om;rw[V1]at this;exact this
theorem A5.room{u:sV}(hu:A5 u):2^u.bits<=2^20/\u.base<=2^20/\u.used<=2^20:=by have h1:=hu.top;have h2:=hu.used;have h3:0<2^u.bits:=TW _;omega
theorem Em{u:sV}{K:U->Pw}(hu:A5 u)(h:Ow B w0 w R)(hK:∀w',Ow B w0 w' R->K 0 w'):ack (u.base:U) (u.bits:U) (u.used:U) K w:=by
 apply aei;obtain⟨r1,r2,r3⟩:=hu.room;have e20:(2:S)^20=1048576:=qb
 have hb:=hu.bits;have e62:(2:S)^62=4611686018427387904:=qb
 refine h.a λc w1 h=>?_;intro k hk;refine⟨_,h.aA O,av om ⟨_,h.aA O,av om (h.l1 O ?_)⟩⟩;apply hk;rw[ql om];refine aV O ?_;refine⟨_,h.aE O,h.l2 O (rM om om (h.dr λw h=>?_))⟩;refine fh O ?_;refine h.l1 O ?_;rw[Eb hu.dvd];refine fh O ?_;refine⟨_,h.aA O,_,h.aA O,om,?_⟩;rw[OJ om];have:=hu.used;refine av om ?_;exact hK _ h.drop
theorem JD{s:Sl}{ys:J S}{y:S}{c:S}{L:J aG}{k:Sl->Pw}[ale:bG s L S wE ys][ak8:eL (ag wE s ys) L R](h:Ow B w0 w (ae c [.y (y:U)]::L))(hbig:ys.length<=1000000000)
  (hk:∀s' w',s'.len=ys.length+1->Ow B w0 w' (ag wE s' (ys++ [y])::R)->k s' w'):
  ∃s' w',dO qh [278,278] 278 s.v (.slice (X c.p) 1 1) w s' w'/\k s' w':=
 Ow.eZ (E:=wE) (y:=y) akB (show qh.info? 39=X akf from by kernel_rfl) (zv:= .y 0) qa qa O qb h (by
  have e:akf.bytes=8:=qa
  rw[e];omega) hk
theorem xc{u:sV}{kind bits n:U}{K:Sl->U->U->U->U->Pw}(hu:A5 u)(h:Ow B w0 w R)
  (hK:∀s w',Ow B w0 w' (ag wE s (bN u kind bits n).1::R)->K s ((bN u kind bits n).2.1.base:U) ((bN u kind bits n).2.1.bits:U) ((bN u kind bits n).2.1.used:U) (bN u kind bits n).2.2 w'):aba (u.base:U) (u.bits:U) (u.used:U) kind bits n K w:=by
 apply aeg;obtain⟨r1,r2,r3⟩:=hu.room;have e20:(2:S)^20=1048576:=qb
 have hb:=hu.bits;have e62:(2:S)^62=4611686018427387904:=qb
 refine h.a λc w1 h=>?_;refine h.a λd w2 h=>?_;refine h.nq O ?_;refine Em hu h λw h=>?_;refine Hl h λw h=>?_;refine fh O ?_;unfold bN at hK;have hs:=yx (kind:=kind) (bits:=bits);generalize fI kind bits=sz at hK hs|-;obtain⟨z,e⟩:=sz;dsimp only at hK hs|-;obtain⟨m,rfl⟩:=SI hs.1;rw[SD]at hK;have hz2:2^m<=2^20:=Ty om om;have bad:∀(q:U)(w:W),(∀s w',Ow B w0 w' (ag wE s []::R)->K s 0 0 0 q w')->Ow B w0 w (ae d [.y 0,.z 0,.y 0]::ae c [.y (u.base:U),.z (u.bits:U),.y (u.used:U)]::R)->
   oy w d.p 0 [.y (0:U),.z (0:U),.y (0:U)] λw17=>hI w17 d.p 0 [.u,.o,.u] λ(OE:U)(r19:U)(r20:U)=>K z0 OE r19 r20 q w17:=λq w hK h=>by
  refine h.aB O O λw h=>?_;refine h.nq O ?_;exact hK _ w (Ow.cB h.drop.drop)
 by_cases he:e≠0
 .rw[Z he]at hK
  refine iw he ?_;exact bad e w hK h
 rw[Y he]at hK;refine fh om ?_;intro k hk;by_cases hn:n<1\/64<n
 .rw[Z hn]at hK
  have:k G w:=by apply hk;refine aW O ?_;exact bad 1 w hK h
  refine bh (λe1=>this) (λe1=>?_);rw[qp om];exact this
 rw[Y hn]at hK;obtain⟨n,rfl⟩:=SI (show 0<=n by omega);rw[SD]at hK;refine av om ?_;rw[ql om];apply hk;refine aV O ?_;refine⟨_,h.aE O,h.l2 O ?_⟩;have hw:qA.wrap ((u.base:U)+(u.used:U))=((u.base+u.used:S):U):=by have:=Sl.wrap_u64 (u.base+u.used);rw[Tn om]at this;rw[<-this];congr 1
 rw[hw];have hup:=Co (u.base+u.used) m;refine rM om om ?_;refine h.dr λw h=>?_;refine⟨_,h.aE O,_,h.aA O,om,om,?_⟩;generalize F6 (u.base+u.used) m=q at hK hup|-;have hnw:qA.wrap (n:U)=(n:U):=by rw[Sl.wrap_u64,Tn om]
 have hnm:n*2^m<=64*2^20:=Nat.mul_le_mul om hz2;have w1:qA.wrap ((q:U)+mS .u64 (qA.wrap (n:U)) (m:U))=((q+n*2^m:S):U):=by rw[hnw,Sl.NN (a:=n) (k:=m) (d:=7) om om,<-Vs,Sl.wrap_u64,Tn om]
 have w2:qA.wrap ((u.base:U)+mS .u64 1 (u.bits:U))=((u.base+2^u.bits:S):U):=by rw[OJ om,<-Vs,Sl.wrap_u64,Tn om]
 rw[w1,w2];by_cases hfit:u.base+2^u.bits<q+n*2^m
 .rw[Z hfit]at hK
  refine az om ?_;exact bad 81 w hK h
 rw[Y hfit]at hK;refine av om ?_;intro l hl;have loop:∀(r j:S)(o:Sl)(w:W),j+r=n->Ow B w0 w (ag wE o ((SF j).map λi=>q+i*2^m)::ae d [.y 0,.z 0,.y 0]::ae c [.y (u.base:U),.z (u.bits:U),.y (u.used:U)]::R)->l ((q+j*2^m:S):U) o (j:U) w:=by
  intro r;induction r with
  |zero=>
   intro j o w hj h;have hj:j=n:=om
   subst hj;apply hl;refine av om ?_;refine h.l1 O ?_;have e3:qA.wrap (((q+j*2^m:S):U)-(u.base:U))=((q+j*2^m-u.base:S):U):=by rw[show(((q+j*2^m:S):U)-(u.base:U))=((q+j*2^m-u.base:S):U)from by omega,Sl.wrap_u64,Tn om]
   rw[e3];refine h.fD O O λw h=>?_;refine h.dr λw h=>?_;refine h.nq O ⟨?_,trivial⟩;refine h.aB O O λw h=>?_;refine h.nq O ?_;exact hK _ w h.vI.vI
  |succ r ih=>
   intro j o w hj h;have hjm:(j+1)*2^m<=n*2^m:=Ta _ om;apply hl;refine az om ?_;refine h.a λg w2 h=>?_;refine JD (s:=o) (y:=q+j*2^m) h (by simp;omega) λo' w ho' h=>⟨om,?_⟩
   have e4:qA.wrap (((q+j*2^m:S):U)+mS .u64 1 (m:U))=((q+(j+1)*2^m:S):U):=by rw[OJ om,<-Vs,Sl.wrap_u64,Tn (by rw[TX]at hjm;omega)];rw[TX,V1,Nat.add_assoc]
   rw[e4,show qj.wrap ((j:U)+1)=((j+1:S):U)from by rw[wr om om];omega];refine ih (j+1) o' w om ?_;rw[List.range_succ,List.map_append];exact h
 have:=loop n 0 z0 w om (Ow.cB h);rw[Nat.zero_mul,Nat.add_zero]at this;exact this
theorem Ey{u:sV}{K:U->U->U->Pw}(h:Ow B w0 w R)(hK:∀w',Ow B w0 w' R->K (u.base:U) (u.bits:U) 0 w'):X0 (u.base:U) (u.bits:U) (u.used:U) K w:=by
 apply aeh;refine h.a λc w1 h=>?_;refine h.a λd w2 h=>?_;refine h.fD O O λw h=>?_;refine h.nq O ?_;refine h.aB O O λw h=>?_;refine h.nq O ?_;exact hK w h.drop.drop
theorem A5.place{u:sV}(hu:A5 u){kind bits n:U}(h:(bN u kind bits n).2.2=0):1<=n/\n<=64/\A5 (bN u kind bits n).2.1/\(bN u kind bits n).1.length=n.toNat/\(fI kind bits).2=0/\
  ∀a∈(bN u kind bits n).1,a%2^(fI kind bits).1.toNat=0/\a+2^(fI kind bits).1.toNat<=2^20:=by
 unfold bN at*
 have hs:=yx (kind:=kind) (bits:=bits);generalize fI kind bits=sz at*
 split at h
 .rename_i h0;exact qk h h0
 rename_i h0;rw[Y h0];split at h
 .cases h
 rename_i h1;rw[Y h1];split at h
 .cases h
 rename_i h2;rw[Y h2];have hup:=Co (u.base+u.used) sz.1.toNat;have ht:=hu.top;refine⟨om,om,⟨hu.bits,hu.top,hu.dvd,?_⟩,qc,om,λa ha=>?_⟩
 .dsimp only;omega
 .obtain ⟨i,hi,rfl⟩:=List.mem_map.1 ha
  rw[List.mem_range]at hi;have hm:(i+1)*2^sz.1.toNat<=n.toNat*2^sz.1.toNat:=Ta _ om;rw[TX,V1]at hm;refine⟨?_,om⟩;rw[Nat.add_mul_mod_self_right];unfold F6;exact Xw _ _
end
end Go.Vc
