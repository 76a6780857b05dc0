/- What the row rests on: the declarations that it needs, out of my texts (part 1). -/
import Derived.ChangeKeysEq
import Derived.Deep.Slices
import Derived.Laws.StructEq
import Derived.Lib.Overlaps
import Derived.Lib.SmallJoins
import Derived.Maps.RangeRun
import Derived.Orders
import Derived.ProofKit
import Derived.WalkKit
import Derived.WideKeyRuns
open Bool renaming false->qd,true->G
open Decidable renaming decide->qe
open Go renaming Addr->qf,IntKind->qO,MapEntry->qH,Oper->qx,Operand->qD,Program->qo,TypeId->qi,TypeInfo->qL,Value->V,World->W,execOp->qy,zeroValue->qK
open Go.IntKind renaming i64->qj,u64->qA
open Option renaming none->Q,some->X
open _root_ renaming Array->qw,Bool->I,DecidableEq->qS,False->qm,Int->U,List->J,Nat->S,Option->qg,True->qu,absurd->qk,beq_iff_eq->qN,bne_iff_ne->qQ,cond_false->qv,cond_true->qq,congrArg->qz,decide_eq_false->ql,decide_eq_true->qp,decide_eq_true_eq->qF,if_false->qB,if_neg->Y,if_pos->Z,if_true->qE,rfl->O
open Array renaming all_eq_true_iff_forall_mem->V5,append_empty->Xe,empty_append->Xf,ext'->Ve,getD_eq_getD_getElem?->Ua,getElem?_eq_getElem->Wz,getElem?_eq_some_iff->Te,getElem?_modify->UX,getElem?_setIfInBounds->Wr,getElem?_setIfInBounds_ne->UE,getElem?_setIfInBounds_self_of_lt->U9,getElem?_toList->Ts,length_toList->TH,mapM_eq_mapM_toList->WA,mem_def->W5,mem_toList_iff->U4,range->WO,replicate->Xy,toList_eraseIdxIfInBounds->Vo,toList_extract->WY,toList_filter->Va,toList_push->Xo
open Bool renaming and_eq_true->S4,false_eq_true->SX,false_or->Vq,not_false->T4,not_true->T1,or_eq_false_iff->We,or_eq_true->TV,or_false->Vr,or_true->U5,true_and->Uo,true_or->Xh
open Int renaming toNat_natCast->SD
open List renaming all_eq_true->Vd,append_assoc->S6,append_nil->SL,drop_drop->TK,drop_eq_getElem_cons->TB,drop_eq_nil_of_le->Vf,drop_left->Ws,drop_zero->T9,eq_nil_of_length_eq_zero->TQ,eraseIdx_append_of_lt_length->Uz,eraseIdx_cons_succ->UB,eraseIdx_sublist->Vj,ext_getElem?->Td,extract_eq_take_drop->WB,filter_cons->Tk,findIdx?_cons->UY,findIdx?_eq_some_iff_getElem->Tc,flatMap_append->Tp,flatMap_cons->T5,getElem?_append_left->SM,getElem?_append_right->SP,getElem?_cons_succ->SR,getElem?_cons_zero->TI,getElem?_drop->S8,getElem?_eq_none->SZ,getElem?_eq_some_iff->Sz,getElem?_map->S2,getElem?_set->To,getElem?_take->S5,getElem?_toArray->Ud,headD->XB,length_append->SG,length_cons->SJ,length_drop->UK,length_nil->TU,length_set->Ti,length_take->SN,mapM_cons->WX,map_cons->S7,map_nil->Uf,mem_append->Tv,mem_cons->SH,mem_cons_of_mem->TC,mem_flatMap->VC,mem_iff_getElem?->Tg,mem_map->Tj,mem_of_getElem?->SU,mem_singleton->Tf,nil_append->TG,nodup_cons->Tx,pairwise_append->Vm,pairwise_cons->TP,range->SF,replicate->SB,replicate_succ->US,reverse_nil->V7,set_cons_succ->S1,take_append_drop->Tl,take_left->U0,take_length->UC,take_of_length_le->SE,take_take->U1,zipWith->SC
open Nat renaming add_assoc->UN,add_comm->VT,add_mul->TX,add_zero->UD,beq->TA,beq_refl->Xj,ble->U2,eq_of_beq_eq_true->TD,land->W0,le_of_ble_eq_true->UI,le_of_not_lt->WH,le_refl->SA,le_trans->SY,lor->T0,lt_of_lt_of_le->Ub,lt_or_ge->Wi,min_eq_left->TL,mod_lt->VU,mul_comm->Wk,mul_eq_zero->Wl,mul_le_mul_left->Xc,mul_le_mul_right->Ta,mul_one->Vg,pow_succ->WI,shiftLeft->TJ,sub_mul->Wv,sub_self->Uh,sub_zero->Xl,succ_mul->UM,testBit_and->XE,zero_add->SS,zero_mul->Vz
open Option renaming bind_some->V9,getD_some->TR,isSome_iff_exists->Uc,map_eq_some_iff->Ut,map_some->TM
set_option maxRecDepth 100000
set_option maxHeartbeats 4000000
set_option linter.all false
section
theorem om{p:Prop}(h:p:=by omega):p:=h
theorem qa{p:Prop}(h:p:=by kernel_rfl):p:=h
theorem qb{p:Prop}(h:p:=by decide):p:=h
theorem qc{p:Prop}(h:p:=by simp):p:=h
theorem gE{α:Type _}{l:J α}{i:S}(h:i<l.length):l[i]?=X l[i]:=List.getElem?_eq_getElem h
end
namespace Go.Vc
section
variable{ds:J Deferred}{P:qo}
abbrev Env:=S->qg V
def nth{α:Type}:J α->S->qg α
 | [],_=>Q
 |x::_,0=>X x
 |_::l,n+1=>nth l n
def Env.set(e:Env)(d:S)(v:qg V):Env:=λt=>bif TA t d then v else e t
def Env.put(e:Env)(d:qg S)(v:V):Env:=match d with|some d=>e.set d (X v)|none=>e
def bit(m t:S):I:=TA (W0 (Nat.shiftRight m t) 1) 1
def Env.forget(e:Env)(m:S):Env:=λt=>bif bit m t then Q else e t
def ev(e:Env):qD->qg V
 | .tmp t=>e t
 | .const v=>X v
 | .global g=>X (.pointer (X ⟨g,0,Q⟩))
 | .func f=>X (.func (.func f) #[] #[])
def OX(e:Env):J qD->(J V->Prop)->Prop
 | [],k=>k []
 |x::l,k=>match ev e x with|some v=>OX e l (λvs=>k (v::vs))|none=>qm
def Pq(e:Env):J (S × qD)->(J (S × V)->Prop)->Prop
 | [],k=>k []
 |(i,x)::l,k=>match ev e x with|some v=>Pq e l (λvs=>k ((i,v)::vs))|none=>qm
def Rh(d:qg S):S:=match d with|some d=>TJ 1 d|none=>0
def Mm:J qx->S
 | []=>0
 |o::l=>T0 (Rh o.dst) (Mm l)
def dm:Code->S
 | .region _ ops _=>Mm ops.toList
 | .seq a b=>T0 (dm a) (dm b)
 | .cond _ a b=>T0 (dm a) (dm b)
 | .block _ b=>dm b
 | .loop b=>dm b
 |_=>0
structure Sl where
 a:qg qf
 len:S
 cap:S
inductive Sc where
 |i (k:qO)|b|p|q|s|m|v|t
abbrev Sc.D:Sc->Type
 | .i _=>U| .b=>I| .p=>qg qf| .q=>qf| .s=>Sl| .m=>qg S| .v=>V| .t=>ByteArray
abbrev Sc.mk:(c:Sc)->c.D->V
 | .i k,n=> .int k n
 | .b,x=> .bool x
 | .p,x=> .pointer x
 | .q,x=> .pointer (X x)
 | .s,x=> .slice x.a x.len x.cap
 | .m,x=> .map x
 | .v,x=>x
 | .t,x=> .string x
def Sc.un(c:Sc)(v:V)(k:c.D->Prop):Prop:=
 match c,v,k with
 | .i j,.int j' n,k=>if j'=j then k n else qm
 | .b,.bool x,k=>k x
 | .p,.pointer x,k=>k x
 | .q,.pointer (X x),k=>k x
 | .s,.slice a l c,k=>k ⟨a,l,c⟩
 | .m,.map r,k=>k r
 | .v,v,k=>k v
 | .t,.string x,k=>k x
 |_,_,_=>qm
inductive Sh where
 |c (x:Sc)|a (l:J Sc)|big
def M5(P:qo)(t:qi):Sc:=
 match P.underlying t with
 |some (.int k)=> .i k
 |some .bool=> .b
 |some (.pointer _)=> .p
 |some (.slice _)=> .s
 |some (.map _ _)=> .m
 |some .string=> .t
 |_=> .v
def sz(P:qo)(t:qi):S:=match P.info? t with|some i=>i.size|none=>0
def agg(P:qo)(t:qi):I:=match P.underlying t with|some (.struct _)=>G|some (.array _ _)=>G|_=>qd
def rep{α:Type}:S->J α->J α
 |0,_=>[]
 |n+1,l=>l++rep n l
def PZ(P:qo):S->qi->J Sc
 |0,_=>[]
 |n+1,t=>match P.underlying t with
  |some (.struct fs)=>fs.toList.flatMap λf=>PZ P n f.type
  |some (.array len el)=>rep len (PZ P n el)
  |_=>[M5 P t]
def pF(P:qo)(t:qi):Sh:=
 bif agg P t then(bif U2 (sz P t) 24 then(let l:=PZ P 8 t;bif TA l.length (sz P t)then .a l else .big)else .big)else .c (M5 P t)
def AL(P:qo)(t:qi):J Sh:=
 match P.underlying t with
 |some (.tuple ts)=>ts.toList.map (pF P)
 |_=>[pF P t]
def rQ:J Sc->Type->Type
 | [],r=>r
 |c::l,r=>c.D->rQ l r
def uk:J (S × Sh)->Type
 | []=>W->Prop
 |(_,.c x)::l=>x.D->uk l
 |(_,.a ss)::l=>rQ ss (uk l)
 |(_,.big)::l=>qw V->uk l
def HR{r:Type}:(ss:J Sc)->J V->(J V->r)->rQ ss r
 | [],acc,f=>f acc.reverse
 |c::l,acc,f=>λv=>HR l (c.mk v::acc) f
def xA:(cs:J (S × Sh))->(Env->W->Prop)->Env->uk cs
 | [],f,e=>f e
 |(s,.c x)::l,f,e=>λv=>xA l f (e.set s (X (x.mk v)))
 |(s,.a ss)::l,f,e=>HR ss [] (λvs=>xA l f (e.set s (X (.agg ⟨vs⟩))))
 |(s,.big)::l,f,e=>λcs=>xA l f (e.set s (X (.agg cs)))
def CK{r:Type}:(ss:J Sc)->J V->rQ ss r->(r->Prop)->Prop
 | [],[],g,k=>k g
 |c::ss,v::vs,g,k=>c.un v (λd=>CK ss vs (g d) k)
 | [],_::_,_,_=>qm
 |_::_,[],_,_=>qm
def jT:(cs:J (S × Sh))->uk cs->Env->W->Prop
 | [],g,_,w=>g w
 |(s,.c x)::l,g,e,w=>match e s with|some v=>x.un v (λd=>jT l (g d) e w)|none=>qm
 |(s,.a ss)::l,g,e,w=>match e s with|some (.agg cs)=>CK ss cs.toList g (λg'=>jT l g' e w)|_=>qm
 |(s,.big)::l,g,e,w=>match e s with|some (.agg cs)=>jT l (g cs) e w|_=>qm
def Oc{r:Type}:(ss:J Sc)->rQ ss r->rQ ss r->(r->r->Prop)->Prop
 | [],f,g,k=>k f g
 |c::l,f,g,k=>∀d:c.D,Oc l (f d) (g d) k
def imp:(cs:J (S × Sh))->uk cs->uk cs->Prop
 | [],f,g=>∀w,f w->g w
 |(_,.c x)::l,f,g=>∀d:x.D,imp l (f d) (g d)
 |(_,.a ss)::l,f,g=>Oc ss f g (imp l)
 |(_,.big)::l,f,g=>∀cs:qw V,imp l (f cs) (g cs)
def Qn:J Sc->J V->(J V->Prop)->Prop
 | [],acc,k=>k acc.reverse
 |c::l,acc,k=>∃d:c.D,Qn l (c.mk d::acc) k
def Ps(s:Sh)(k:V->Prop):Prop:=
 match s with
 | .c x=>∃d:x.D,k (x.mk d)
 | .a l=>Qn l [] (λvs=>k (.agg ⟨vs⟩))
 | .big=>∃cs:qw V,k (.agg cs)
def Pr:J Sh->J V->(J V->Prop)->Prop
 | [],acc,k=>k acc.reverse
 |s::l,acc,k=>Ps s (λv=>Pr l (v::acc) k)
def B4:J V->V
 | [v]=>v
 |vs=> .tuple ⟨vs⟩
def Jh(P:qo)(t:qi)(p:Prop):Prop:=match P.underlying t with|none=>qm|some _=>p
def GG:J Sc->qf->S->W->J V->(V->Prop)->Prop
 | [],_,_,_,acc,k=>k (.agg ⟨acc.reverse⟩)
 |c::l,a,i,w,acc,k=>∃d:c.D,w.cell? (a.add i)=X (c.mk d)/\GG l a (i+1) w (c.mk d::acc) k
def Dp(P:qo)(t:qi)(a:qf)(w:W)(k:V->Prop):Prop:=
 Jh P t<|
 match pF P t with
 | .c x=>∃d:x.D,w.cell? a=X (x.mk d)/\k (x.mk d)
 | .a l=>GG l a 0 w [] k
 | .big=>∃cs:qw V,cs.size=sz P t/\(∀i,i<sz P t->w.cell? (a.add i)=cs[i]?)/\k (.agg cs)
def St(w:W)(a:qf)(v:V)(k:W->Prop):Prop:=
 (w.cell? a).isSome=G/\w.frozen? a=qd/\v.oneCell'=G/\k (w.setCell a v)
def F0:J V->qf->S->W->(W->Prop)->Prop
 | [],_,_,w,k=>k w
 |v::l,a,i,w,k=>St w (a.add i) v (λw'=>F0 l a (i+1) w' k)
def F1(P:qo)(t:qi)(a:qf)(v:V)(w:W)(k:W->Prop):Prop:=
 Jh P t<|
 bif agg P t then
  match v with
  | .agg cs=>bif TA cs.toList.length (sz P t)then F0 cs.toList a 0 w k else qm
  |_=>qm
 else bif TA (sz P t) 1 then St w a v k else qm
def mS(k:qO)(x y:U):U:=k.wrap (x*2^(min y.toNat k.bits))
def Ca(k:qO)(x y:U):U:=x.fdiv (2^(min y.toNat k.bits))
def fE(k:qO)(x y:U):U:=k.wrap ((BitVec.ofInt k.bits x &&& BitVec.ofInt k.bits y).toNat)
def MP(k:qO)(x y:U):U:=k.wrap ((BitVec.ofInt k.bits x ||| BitVec.ofInt k.bits y).toNat)
def Jb(k:qO)(x y:U):U:=k.wrap ((BitVec.ofInt k.bits x ^^^ BitVec.ofInt k.bits y).toNat)
def iD(k:qO)(x y:U):U:=k.wrap ((BitVec.ofInt k.bits x &&& ~~~ BitVec.ofInt k.bits y).toNat)
def Oo(x y:U):U:=if y>x then y else x
def zl(x y:U):U:=if y<x then y else x
def isNil:qD->I
 | .const (.pointer Q)=>G
 | .const (.slice Q _ _)=>G
 | .const (.map Q)=>G
 |_=>qd
def KV(P:qo)(t:qi)(x y:V)(k:I->Prop):Prop:=
 match P.underlying t,x,y with
 |some (.pointer _),.pointer a,.pointer Q=>k a.isNone
 |some (.slice _),.slice a _ _,.slice Q _ _=>k a.isNone
 |some (.map _ _),.map a,.map Q=>k a.isNone
 |_,_,_=>qm
def Of(op:BinOp)(j:qO)(a b:U)(k:V->Prop):Prop:=
 match op with
 | .add=>k (.int j (j.wrap (a+b)))
 | .sub=>k (.int j (j.wrap (a-b)))
 | .mul=>k (.int j (j.wrap (a*b)))
 | .quo=>b≠0/\k (.int j (j.wrap (a.tdiv b)))
 | .rem=>b≠0/\k (.int j (a.tmod b))
 | .and=>k (.int j (fE j a b))
 | .or=>k (.int j (MP j a b))
 | .xor=>k (.int j (Jb j a b))
 | .andNot=>k (.int j (iD j a b))
 | .eql=>k (.bool (a==b))
 | .neq=>k (.bool (a !=b))
 | .lss=>k (.bool (a<b))
 | .leq=>k (.bool (a<=b))
 | .gtr=>k (.bool (a>b))
 | .geq=>k (.bool (a>=b))
 |_=>qm
def LY(P:qo)(op:BinOp)(t:qi)(x y:qD)(vx vy:V)(b:I):Prop:=∀w:W,(do eqGuard op t x y vx vy;binOp op t vx vy:Sem V).run P w= .ok (.bool b) w
def NV(P:qo)(op:BinOp)(t:qi)(x y:qD)(vx vy:V)(k:V->Prop):Prop:=
 match op,vx,vy with
 | .shl,.int j a,.int _ b=>0<=b/\k (.int j (mS j a b))
 | .shr,.int j a,.int _ b=>0<=b/\k (.int j (Ca j a b))
 |op,.int j a,.int j' b=>if j=j' then Of op j a b k else qm
 | .eql,.bool a,.bool b=>(match P.underlying t with|some .bool=>k (.bool (a==b))|_=>qm)
 | .neq,.bool a,.bool b=>(match P.underlying t with|some .bool=>k (.bool (!(a==b)))|_=>qm)
 | .add,.string a,.string b=>((a.size+b.size:S):U)<=qj.max/\k (.string (a++b))
 |op,vx,vy=>bif isNil y then
   KV P t vx vy λb=>(match op with| .eql=>k (.bool b)| .neq=>k (.bool (!b))|_=>qm)
  else ∃b:I,LY P op t x y vx vy b/\k (.bool b)
def Re(op:UnOp)(v:V)(k:V->Prop):Prop:=
 match op,v with
 | .not,.bool b=>k (.bool (!b))
 | .neg,.int j n=>k (.int j (j.wrap (0-n)))
 | .xor,.int j n=>k (.int j (Jb j (if j.signed then -1 else j.max) n))
 |_,_=>qm
def jH(P:qo)(s:qi)(f:S):qg (qi × S):=
 match P.underlying s with
 |some (.struct fs)=>match nth fs.toList f with|some fl=>X (fl.type,fl.offset)|none=>Q
 |_=>Q
def GL(P:qo)(t:qi)(cs:J V)(off:S)(k:V->Prop):Prop:=
 Jh P t<|
 bif agg P t then k (.agg ⟨(cs.drop off).take (sz P t)⟩)
 else match nth cs off with|some v=>k v|none=>qm
def GK:J Sc->qw V->S->S->J V->(V->Prop)->Prop
 | [],_,_,_,acc,k=>k (.agg ⟨acc.reverse⟩)
 |c::l,cs,o,i,acc,k=>∃d:c.D,cs[o+i]?=X (c.mk d)/\GK l cs o (i+1) (c.mk d::acc) k
def KZ(P:qo)(t:qi)(cs:qw V)(off:S)(k:V->Prop):Prop:=
 Jh P t<|
 match pF P t with
 | .c x=>∃d:x.D,cs[off]?=X (x.mk d)/\k (x.mk d)
 | .a l=>GK l cs off 0 [] k
 | .big=>qm
def mn(a:qg qf)(l m size:S):qg qf:=if m=l then a else a.map (·.add (l*size))
def si(a:qg qf)(l h m size:S):V:= .slice (mn a l m size) (h-l) (m-l)
def bound(e:Env)(x:qg qD)(dflt:S)(top:S)(k:S->Prop):Prop:=
 match x with
 |none=>k dflt
 |some x=>match ev e x with|some (.int _ n)=>0<=n/\n<=(top:U)/\k n.toNat|_=>qm
def rN(P:qo)(t:qi):qg (J V):=match P.info? t with|some i=>(match i.zero with|some z=>X z.cells.toList|none=>Q)|none=>Q
def putAt:J V->S->J V->J V
 |cs,_,[]=>cs
 | [],_,_=>[]
 |c::cs,o+1,vs=>c::putAt cs o vs
 |_::cs,0,v::vs=>v::putAt cs 0 vs
def nP(place:S->qg (S × S))(n:S):J V->J (S × V)->qg (J V)
 |cs,[]=>X cs
 |cs,(i,v)::l=>match place i with
  |none=>Q
  |some (off,size)=>bif TA v.cells.toList.length size&&U2 (off+size) n then nP place n (putAt cs off v.cells.toList) l else Q
def H9(P:qo)(t:qi):I:=bif agg P t then qd else(match M5 P t with| .v=>TA (sz P t) 1|_=>qd)
def K9(n:S):J V->J (S × V)->qg (J V)
 |cs,[]=>X cs
 |cs,(i,v)::l=>bif U2 (i+1) n then K9 n (putAt cs i [v]) l else Q
def Ox:J (S × V)->Prop->Prop
 | [],C=>C
 |(_,v)::l,C=>v.oneCell'=G/\Ox l C
def tj(P:qo)(t:qi):I:=
 match P.underlying t with
 |some (.struct fs)=>fs.toList.all λf=>(P.info? f.type).isSome
 |some (.array _ el)=>(P.info? el).isSome
 |_=>qd
def placeOf(P:qo)(t:qi)(i:S):qg (S × S):=
 match P.underlying t with
 |some (.struct fs)=>(match nth fs.toList i with|some f=>X (f.offset,sz P f.type)|none=>Q)
 |some (.array _ el)=>X (i*sz P el,sz P el)
 |_=>Q
def N2(d:S)(i:S):J qx->qg qi
 | []=>Q
 |o::l=>match o.op with
  | .extract (.tmp t) j=>bif TA t d&&TA j i then X o.type else N2 d i l
  |_=>N2 d i l
def Mp(P:qo)(d:qg S)(i:S)(l:J qx):Sh:=
 match d with
 |some d=>(match N2 d i l with|some t=>pF P t|none=> .c .v)
 |none=> .c .v
def okF(P:qo)(f:FuncId)(p:Prop):Prop:=match P.funcs[f]? with|none=>qm|some fn=>(match fn.body with|none=>qm|some _=>p)
def Ns(P:qo)(f:FuncId)(args:qw V)(t:qi)(w:W)(k:V->W->Prop):Prop:=
 okF P f<|Calls P f args w λen w'=>Pr (AL P t) [] λvs=>en= .returned (B4 vs)/\k (B4 vs) w'
def Gu(P:qo)(f:FuncId):I:=match P.funcs[f]? with|some fn=>fn.body.isSome|none=>qd
def Et(P:qo)(f:FuncId)(args:qw V)(w:W)(v:V)(w':W):Prop:=(callFunc f args).run P w= .ok (.value v) w'
def Pt(P:qo)(f:FuncId)(args:qw V)(t:qi)(w:W)(k:V->W->Prop):Prop:=Pr (AL P t) [] λvs=>∃w',Et P f args w (B4 vs) w'/\k (B4 vs) w'
def O8(P:qo)(ta t:qi)(r:qg S)(w:W)(n:U):Prop:=(Builtin.len_ #[ta] t #[.map r]).run P w= .ok (.int .i64 n) w
def dO(P:qo)(ts:J qi)(t:qi)(x y:V)(w:W)(s:Sl)(w':W):Prop:=(Builtin.append_ ⟨ts⟩ t #[x,y]).run P w= .ok (.slice s.a s.len s.cap) w'
def wS(P:qo)(ts:J qi)(t:qi)(x y:V)(w:W)(n:U)(w':W):Prop:=(Builtin.copy_ ⟨ts⟩ t #[x,y]).run P w= .ok (.int .i64 n) w'
def wQ(P:qo)(ts:J qi)(t:qi)(x:V)(w w':W):Prop:=(Builtin.clear_ ⟨ts⟩ t #[x]).run P w= .ok (.tuple #[]) w'
def He(P:qo)(ts:J qi)(t:qi)(x y:V)(w w':W):Prop:=(Builtin.delete_ ⟨ts⟩ t #[x,y]).run P w= .ok (.tuple #[]) w'
def oM(P:qo)(b:Builtin)(ts:J qi)(t:qi)(vs:J V)(w:W)(k:V->W->Prop):Prop:=
 match b,vs with
 | .len,[v]=>(match ts with
  | [ta]=>(match P.underlying ta,v with
   |some (.slice _),.slice _ n _=>k (.int .i64 n) w
   |some (.array n _),_=>k (.int .i64 n) w
   |some (.map _ _),.map r=>∃n:U,O8 P ta t r w n/\k (.int .i64 n) w
   |some .string,.string s=>k (.int .i64 s.size) w
   |_,_=>qm)
  |_=>qm)
 | .cap,[.slice _ _ n]=>(match ts with| [ta]=>(match P.underlying ta with|some (.slice _)=>k (.int .i64 n) w|_=>qm)|_=>qm)
 | .max,[.int j a,.int _ b]=>k (.int j (Oo a b)) w
 | .min,[.int j a,.int _ b]=>k (.int j (zl a b)) w
 | .append,[.slice a l c,x]=>∃s:Sl,∃w',dO P ts t (.slice a l c) x w s w'/\k (.slice s.a s.len s.cap) w'
 | .copy,[x,y]=>∃n:U,∃w',wS P ts t x y w n w'/\k (.int .i64 n) w'
 | .clear,[x]=>∃w',wQ P ts t x w w'/\k (.tuple #[]) w'
 | .delete,[x,y]=>∃w',He P ts t x y w w'/\k (.tuple #[]) w'
 |_,_=>qm
def Jm(P:qo)(s d:qi)(x:V)(w:W)(b:ByteArray):Prop:=(convert s d x).run P w= .ok (.string b) w
def Js(s:ByteArray)(n b:U):Prop:=0<=n/\∃x:UInt8,s[n.toNat]?=X x/\b=x.toNat
def Al(w:W)(o:Obj)(k:W->Prop):Prop:=k (w.alloc o)
def Dr(w:W)(k:W->Prop):Prop:=k w.drew
def Ev(P:qo)(t:qi)(m key v:V)(b:I)(w:W):Prop:=(Instr.lookup t m key G).run P w= .ok (.tuple #[v,.bool b]) w
def F9(P:qo)(t:qi)(m key v:V)(w:W):Prop:=(Instr.lookup t m key qd).run P w= .ok v w
def za(P:qo)(t:qi)(m key v:V)(w w':W):Prop:=(Instr.mapUpdate t m key v).run P w= .ok () w'
def sU(P:qo)(t:qi)(x y:V)(w:W)(s:Sl)(w':W):Prop:=(Instr.makeSlice t x y).run P w= .ok (.slice s.a s.len s.cap) w'
def AY(P:qo)(t:qi)(v:V)(w:W)(a:qf)(w':W):Prop:=(Instr.range t v).run P w= .ok (.pointer (X a)) w'
def Ga(P:qo)(v:V)(b:I)(t:qi)(w:W)(y:I)(l:J V)(w':W):Prop:=(Instr.next v b t).run P w= .ok (.tuple ⟨.bool y::l⟩) w'
def AW(P:qo)(v a b:V)(w:W):Prop:=(Instr.entry v).run P w= .ok (.tuple #[a,b]) w
def fP(P:qo)(fv:V)(args:J V)(w:W)(R:Ending->W->Prop):Prop:=
 ∃id first cap,fv= .func (.func id) first cap/\okF P id (Calls P id (first++⟨args⟩++cap) w R)
def QZ(P:qo)(rest:J qx)(o:qx)(e:Env)(w:W)(k:V->W->Prop):Prop:=
 match o.op with
 | .move x=>(match ev e x with|some v=>k v w|none=>qm)
 | .assign x=>(match ev e x with|some v=>k v w|none=>qm)
 | .pick c a b=>(match ev e c with
  |some (.bool G)=>(match ev e a with|some v=>k v w|none=>qm)
  |some (.bool qd)=>(match ev e b with|some v=>k v w|none=>qm)
  |_=>qm)
 | .box t x=>(match ev e x with|some v=>k (.pointer (X ⟨w.heap.size,0,Q⟩)) (w.alloc (.cells v.cells t))|none=>qm)
 | .alloc t=>(match rN P t with|some z=>k (.pointer (X ⟨w.heap.size,0,Q⟩)) (w.alloc (.cells ⟨z⟩ t))|none=>qm)
 | .build t ps=>bif !tj P t then qm else Pq e ps.toList λvs=>(match rN P t with
   |some z=>(match nP (placeOf P t) z.length z vs with|some cs=>k (.agg ⟨cs⟩) w|none=>qm)
   |none=>qm)
 | .buildSlice t len ps=>Pq e ps.toList λvs=>(match P.underlying t with
   |some (.slice el)=>(match rN P el with
    |some z=>bif U2 (len*sz P el) 1000&&TA z.length (sz P el)&&U2 1 (sz P el)then
      bif H9 P el then(match K9 len (rep len z) vs with
       |some cs=>Ox vs (k (.slice (X ⟨w.heap.size,0,Q⟩) len len) (w.alloc (.cells ⟨cs⟩ el)))
       |none=>qm)else(match nP (λi=>X (i*sz P el,sz P el)) (len*sz P el) (rep len z) vs with
       |some cs=>k (.slice (X ⟨w.heap.size,0,Q⟩) len len) (w.alloc (.cells ⟨cs⟩ el))
       |none=>qm)else qm
    |none=>qm)
   |_=>qm)
 | .load t a=>(match ev e a with|some (.pointer (X a))=>Dp P t a w (λv=>k v w)|_=>qm)
 | .store t a x=>(match ev e a,ev e x with|some (.pointer (X a)),X v=>F1 P t a v w (λw'=>k undef w')|_,_=>qm)
 | .nilCheck x=>(match ev e x with
  |some (.pointer p)=>∃a,p=X a/\k (.pointer (X a)) w
  |some (.func (.func f) x y)=>k (.func (.func f) x y) w
  |_=>qm)
 | .fieldAddr s x f=>(match ev e x,jH P s f with
  |some (.pointer (X a)),X (ft,off)=>bif TA (sz P ft) 0 then qm else k (.pointer (X (a.add off))) w
  |_,_=>qm)
 | .field s x f=>(match ev e x,jH P s f with
  |some (.agg cs),X (ft,off)=>GL P ft cs.toList off (λv=>k v w)
  |_,_=>qm)
 | .indexAddr t x i=>(match P.underlying t,ev e x,ev e i with
  |some (.array len el),X (.pointer (X a)),X (.int _ n)=>bif TA (sz P el) 0 then qm else 0<=n/\n<(len:U)/\k (.pointer (X (a.add (n.toNat*sz P el)))) w
  |some (.slice el),X (.slice b len _),X (.int _ n)=>bif TA (sz P el) 0 then qm else ∃a,b=X a/\0<=n/\n<(len:U)/\k (.pointer (X (a.add (n.toNat*sz P el)))) w
  |_,_,_=>qm)
 | .index t x i=>(match P.underlying t,ev e x,ev e i with
  |some (.array len el),X (.agg cs),X (.int _ n)=>bif TA (sz P el) 0 then qm else 0<=n/\n<(len:U)/\KZ P el cs (n.toNat*sz P el) (λv=>k v w)
  |some .string,X (.string s),X (.int _ n)=>∃b:U,Js s n b/\k (.int .u8 b) w
  |_,_,_=>qm)
 | .binOp op t x y _=>(match ev e x,ev e y with|some vx,X vy=>NV P op t x y vx vy (λv=>k v w)|_,_=>qm)
 | .unOp op _ x=>(match ev e x with|some v=>Re op v (λv=>k v w)|none=>qm)
 | .convert t d x=>Jh P t (match P.underlying d,ev e x with
  |some (.int j),X (.int _ n)=>k (.int j (j.wrap n)) w
  |some .string,X (.slice a l c)=>(match P.underlying t with|some (.slice _)=>∃s:ByteArray,Jm P t d (.slice a l c) w s/\k (.string s) w|_=>qm)
  |_,_=>qm)
 | .makeFunc fn a b=>OX e a.toList λxs=>OX e b.toList λys=>k (.func fn ⟨xs⟩ ⟨ys⟩) w
 | .makeMap _ Q=>k (.map (X w.heap.size)) (w.alloc (.map #[] 0))
 | .makeSlice t l c=>(match ev e l,ev e c with
  |some x,X y=>∃s:Sl,∃w',sU P t x y w s w'/\k (.slice s.a s.len s.cap) w'
  |_,_=>qm)
 | .slice t x lo hi mx=>(match P.underlying t,ev e x with
  |some (.slice el),X (.slice a len cap)=>bif TA (sz P el) 0 then qm else bound e mx cap cap λm=>bound e hi len m λh=>bound e lo 0 h λl=>(match mx,hi with|some _,Q=>qm|_,_=>k (si a l h m (sz P el)) w)
  |some (.array n el),X (.pointer (X a))=>bif TA (sz P el) 0 then qm else bound e mx n n λm=>bound e hi n m λh=>bound e lo 0 h λl=>(match mx,hi with|some _,Q=>qm|_,_=>k (si (X a) l h m (sz P el)) w)
  |some .string,X (.string s)=>(match mx with|some _=>qm|none=>bound e Q s.size s.size λm=>bound e hi s.size m λh=>bound e lo 0 h λl=>(match(Q:qg qD),hi with|some _,Q=>qm|_,_=>k (.string (s.extract l h)) w))
  |_,_=>qm)
 | .lookup t x i ok=>(match P.underlying t,ev e x,ev e i with
  |some (.map _ el),X m,X key=>Ps (pF P el) λv=>bif ok then
    ∃b:I,Ev P t m key v b w/\k (.tuple #[v,.bool b]) w
   else F9 P t m key v w/\k v w
  |_,_,_=>qm)
 | .mapUpdate t m i x=>(match ev e m,ev e i,ev e x with
  |some m,X i,X x=>∃w',za P t m i x w w'/\k undef w'
  |_,_,_=>qm)
 | .insert t m i x=>(match ev e m,ev e i,ev e x with
  |some m,X i,X x=>∃w',za P t m i x w w'/\k undef w'
  |_,_,_=>qm)
 | .range t x=>(match ev e x with|some v=>∃a w',AY P t v w a w'/\k (.pointer (X a)) w'|none=>qm)
 | .next x b=>(match ev e x with|some v=>∃(y:I)(l:J V)(w':W),Ga P v b o.type w y l w'/\k (.tuple ⟨.bool y::l⟩) w'|none=>qm)
 | .entry x=>(match ev e x with|some v=>Ps (Mp P o.dst 0 rest) λa=>Ps (Mp P o.dst 1 rest) λb=>AW P v a b w/\k (.tuple #[a,b]) w|none=>qm)
 | .extract x i=>(match ev e x with|some (.tuple vs)=>(match nth vs.toList i with|some v=>k v w|none=>qm)|_=>qm)
 | .call c=>OX e c.args.toList λvs=>(match c.callee with
  | .value (.func f)=>bif Gu P f then Ns P f ⟨vs⟩ o.type w k else Pt P f ⟨vs⟩ o.type w k
  | .value f=>(match ev e f with
   |some fv=>fP P fv vs w λen w'=>Pr (AL P o.type) [] λvs=>en= .returned (B4 vs)/\k (B4 vs) w'
   |none=>qm)
  | .builtin b=>oM P b c.argTypes.toList o.type vs w k
  |_=>qm)
 |_=>qm
def MA:J qx->S
 | []=>0
 |o::l=>T0 (match o.guard with|some (j,_)=>TJ 1 j|none=>0) (MA l)
def guarded(all:J qx)(o:qx)(e:Env)(run skip:Prop):Prop:=
 match o.guard with
 |none=>run
 |some (j,want)=>match nth all j with
  |some g=>(match g.dst with
   |some d=>(match e d with
    |some (.bool b)=>(match b,want with|true,G=>run|false,qd=>run|true,qd=>skip|false,G=>skip)
    |some (.tuple _)=>skip
    |_=>qm)
   |none=>qm)
  |none=>qm
def split(b:I)(v:V)(k:V->Prop):Prop:=
 match b with
 |false=>k v
 |true=>(match v with| .bool x=>bif x then k (.bool G)else k (.bool qd)|v=>k v)
def D3(P:qo)(all rest:J qx)(gm i:S)(o:qx)(N:Env->W->Prop)(e:Env)(w:W):Prop:=
 guarded all o e (QZ P rest o e w λv w'=>split (bit gm i) v λv'=>N (e.put o.dst v') w') (N (e.put o.dst undef) w)
def opsV(P:qo)(all:J qx)(gm:S):J qx->S->(Env->W->Prop)->Env->W->Prop
 | [],_,N,e,w=>N e w
 |o::rest,i,N,e,w=>D3 P all rest gm i o (opsV P all gm rest (i+1) N) e w
inductive Nl where
 |pure|read|alloc|other
 deriving DecidableEq
def cls(P:qo)(o:qx):Nl:=
 match o.op with
 | .move _| .assign _| .pick .. | .nilCheck _| .fieldAddr .. | .field .. | .indexAddr .. | .index .. | .binOp .. | .unOp .. | .makeFunc .. | .slice .. | .extract .. | .build .. => .pure
 | .convert t d _=>(match P.underlying t,P.underlying d with|some (.slice _),X .string=> .other|_,_=> .pure)
 | .load .. => .read
 | .box .. | .alloc _| .makeMap _ Q| .buildSlice .. => .alloc
 | .call c=>match c.callee with
  | .builtin .len=>(match c.argTypes.toList with| [t]=>(match P.underlying t with|some (.map _ _)=> .other|_=> .pure)|_=> .other)
  | .builtin .cap| .builtin .max| .builtin .min=> .pure
  |_=> .other
 |_=> .other
def Fi(P:qo)(o:qx):I:=match cls P o with| .other=>G|_=>qd
def sub(a b:S):I:=TA (W0 a b) a
inductive aT where
 |done
 |one (i u:S) (p:aT)
 |hold (i u s:S) (p:aT)
 |alt (i:S) (p q:aT)
 |none
structure rA where
 s:S
 t:qi
 a:qf
 v:V
def Np(w:W)(a:qf):S->J V->Prop->Prop
 |_,[],C=>C
 |i,v::l,C=>w.cell? (a.add i)=X v/\Np w a (i+1) l C
def Ki(P:qo)(h:rA)(w:W)(C:Prop):Prop:=
 Jh P h.t<|
 match pF P h.t with
 | .c _=>w.cell? h.a=X h.v/\C
 | .a _=>(match h.v with| .agg cs=>bif TA cs.toList.length (sz P h.t)then Np w h.a 0 cs.toList C else qm|_=>qm)
 | .big=>qm
def KW(P:qo)(m:S):J rA->W->Prop->Prop
 | [],_,C=>C
 |h::l,w,C=>bif sub m h.s then Ki P h w (KW P m l w C)else KW P m l w C
def Jz(P:qo)(o:qx)(m:S)(hs:J rA)(w:W)(C:Prop):Prop:=bif Fi P o then KW P m hs w C else C
def pq(P:qo)(all:J qx)(gm:S):aT->S->J rA->(Env->W->Prop)->Env->W->Prop
 | .done,_,_,N,e,w=>N e w
 | .one i _ p,m,hs,N,e,w=>(match nth all i with
  |some o=>D3 P all all gm i o (λe w=>Jz P o (T0 m (TJ 1 i)) hs w (pq P all gm p (T0 m (TJ 1 i)) hs N e w)) e w
  |none=>qm)
 | .hold i _ s p,m,hs,N,e,w=>(match nth all i with
  |some o=>(match o.op,o.dst with
   | .load t x,X d=>(match ev e x with
    |some (.pointer (X a))=>Dp P t a w λv=>pq P all gm p (T0 m (TJ 1 i)) (⟨s,t,a,v⟩::hs) N (e.put (X d) v) w
    |_=>qm)
   |_,_=>qm)
  |none=>qm)
 | .alt i p q,m,hs,N,e,w=>(match nth all i with
  |some o=>D3 P all all gm i o (λe w=>Jz P o (T0 m (TJ 1 i)) hs w (pq P all gm p (T0 m (TJ 1 i)) hs N e w)) e w
  |none=>qm)/\pq P all gm q m hs N e w
 | .none,_,_,_,_,_=>qu
inductive An where
 |u
 |r (j:qg (J (S × Sh))) (p:aT)
 |t (j:qg (J (S × Sh))) (a b:An)
def An.j:An->qg (J (S × Sh))| .u=>Q| .r j _=>j| .t j _ _=>j
def An.a:An->An| .t _ a _=>a|_=> .u
def An.b:An->An| .t _ _ b=>b|_=> .u
def An.p:An->aT| .r _ p=>p|_=> .done
def Ef(j:qg (J (S × Sh)))(m:S)(N:Env->W->Prop)(e:Env)(body:(Env->W->Prop)->Prop):Prop:=
 match j with
 |none=>body N
 |some cs=>∀k:uk cs,imp cs (xA cs N (e.forget m)) k->body (jT cs k)
def vc(P:qo):Code->An->(Env->W->Prop)->(S->Env->W->Prop)->(Env->W->Prop)->Env->W->Prop
 | .skip,_,N,_,_,e,w=>N e w
 | .region _ ops d,an,N,_,_,e,w=>
  Ef an.j (Mm ops.toList) N e λN=>bif d then pq P ops.toList (MA ops.toList) an.p 0 [] N e w.drew else opsV P ops.toList (MA ops.toList) ops.toList 0 N e w
 | .seq a b,an,N,ak7,R,e,w=>vc P a an.a (vc P b an.b N ak7 R) ak7 R e w
 | .cond c a b,an,N,ak7,R,e,w=>
  Ef an.j (T0 (dm a) (dm b)) N e λN=>match ev e c with
   |some (.bool x)=>bif x then vc P a an.a N ak7 R e w else vc P b an.b N ak7 R e w
   |_=>qm
 | .block id b,an,N,ak7,R,e,w=>
  Ef an.j (dm b) N e λN=>vc P b an.a N (λi=>bif TA i id then N else ak7 i) R e w
 | .loop b,an,_,ak7,R,e,w=>(match an.j with
  |some cs=>∀L:uk cs,imp cs (xA cs (vc P b an.a (jT cs L) ak7 R) (e.forget (dm b))) L->jT cs L e w
  |none=>qm)
 | .exit id,_,_,ak7,_,e,w=>ak7 id e w
 | .ret,_,_,_,R,e,w=>R e w
 |_,_,_,_,_,_,_=>qm
def tP(P:qo):J ResultVar->Env->W->J V->(J V->Prop)->Prop
 | [],_,_,acc,k=>k acc.reverse
 | .tmp t::l,e,w,acc,k=>(match e t with|some v=>tP P l e w (v::acc) k|none=>qm)
 | .cell a t::l,e,w,acc,k=>(match e a with|some (.pointer (X p))=>Dp P t p w λv=>tP P l e w (v::acc) k|_=>qm)
def Pv(P:qo)(fn:Func)(c:Code)(an:An)(cs:J (S × Sh))(args:J V)(K:uk cs)(w:W):Prop:=
 vc P c an (λe w'=>tP P fn.results.toList e w' [] λvs=>jT cs K (nth vs) w') (λ_ _ _=>qm)
  (λe w'=>tP P fn.results.toList e w' [] λvs=>jT cs K (nth vs) w') (nth args) w
def J2:(cs:J (S × Sh))->uk cs->J V->Ending->W->Prop
 | [],K,acc,en,w=>en= .returned (B4 acc.reverse)/\K w
 |(_,.c x)::l,K,acc,en,w=>∃d:x.D,J2 l (K d) (x.mk d::acc) en w
 |(_,.a ss)::l,K,acc,en,w=>exKA ss [] K λvs K'=>J2 l K' (.agg ⟨vs⟩::acc) en w
 |(_,.big)::l,K,acc,en,w=>∃cs:qw V,J2 l (K cs) (.agg cs::acc) en w
where
 exKA {r:Type}:(ss:J Sc)->J V->rQ ss r->(J V->r->Prop)->Prop
 | [],acc,K,k=>k acc.reverse K
 |c::l,acc,K,k=>∃d:c.D,exKA l (c.mk d::acc) (K d) k
def Rel(ds:J Deferred)(n:S)(e:Env)(a:Act):Prop:=a.tmps.size=n/\a.defers=ds/\∀t v,e t=X v->a.tmps.getD t undef=v
theorem Ke(x:qw V)(d t:S)(v:V)(h:d<x.size):(x.setIfInBounds d v).getD t undef=if t=d then v else x.getD t undef:=by
 simp only[Ua];rw[Wr];by_cases e:d=t
 .subst e;simp[h]
 .rw[Y e,Y (λh=>e h.symm)]
theorem Rel.put{n:S}{e:Env}{a:Act}(h:Rel ds n e a){d:qg S}(hd:∀x,d=X x->x<n)(v:V):Rel ds n (e.put d v) (a.put d v):=by
 obtain⟨h1,h2,h3⟩:=h;cases d with
 |none=>exact⟨h1,h2,h3⟩
 |some d=>
  refine⟨by simp[Act.put,h1],h2,λt u ht=>?_⟩;simp only[Act.put];rw[Ke _ _ _ _ (by rw[h1];exact hd d O)];simp only[Env.put,Env.set]at ht;by_cases e:t=d
  .subst e
   rw[Z O];have:TA t t=true:=Xj t;rw[this]at ht;simpa using ht
  .rw[Y e]
   have:TA t d=false:=by
    cases hb:TA t d with
    |true=>exact qk (TD hb) e
    |false=>rfl
   rw[this]at ht;exact h3 t u ht
theorem Rel.ev{n:S}{e:Env}{a:Act}(h:Rel ds n e a){x:qD}{v:V}(hx:Vc.ev e x=X v):a.eval x=v:=by
 cases x with
 |tmp t=>exact h.2.2 t v hx
 |const c=>simpa [Vc.ev,Act.eval]using hx
 |global g=>simpa [Vc.ev,Act.eval]using hx
 |func f=>simpa [Vc.ev,Act.eval]using hx
theorem pT{n:S}{e:Env}{a:Act}(h:Rel ds n e a):∀(l:J qD)(k:J V->Prop),OX e l k->k (l.map a.eval)
 | [],k,hk=>hk
 |x::l,k,hk=>by
  simp only[OX]at hk;split at hk
  .rename_i v hv
   have:=pT h l _ hk;simpa [h.ev hv]using this
  .exact hk.elim
theorem uC{n:S}{e:Env}{a:Act}(h:Rel ds n e a):∀(l:J (S × qD))(k:J (S × V)->Prop),Pq e l k->k (l.map λ(i,x)=>(i,a.eval x))
 | [],k,hk=>hk
 |(i,x)::l,k,hk=>by
  simp only[Pq]at hk;split at hk
  .rename_i v hv
   have:=uC h l _ hk;simpa [h.ev hv]using this
  .exact hk.elim
def Ext(w w':W):Prop:=∀a x,w.cell? a=X x->w'.cell? a=X x
theorem Ext.refl(w:W):Ext w w:=λ_ _ h=>h
theorem Ext.trans{a b c:W}(h:Ext a b)(h':Ext b c):Ext a c:=λx v hx=>h' x v (h x v hx)
theorem Ext.alloc(w:W)(o:Obj):Ext w (w.alloc o):=λa x h=>by rw[World.cell?_alloc_lt _ _ _ (World.block_lt_of_cell? _ _ h)];exact h
def lj(P:qo)(o:qx)(c:Nl)(a:Act)(w:W)(K:V->W->Prop):Prop:=
 match c with
 | .pure=>∃v,(∀w',(qy a.eval o).run P w'= .ok (.value v) w')/\K v w
 | .read=>∃v,(∀w',Ext w w'->(qy a.eval o).run P w'= .ok (.value v) w')/\K v w
 | .alloc=>∃v w',(qy a.eval o).run P w= .ok (.value v) w'/\Ext w w'/\K v w'
 | .other=>(∃v w',(qy a.eval o).run P w= .ok (.value v) w'/\K v w')\/(∃w',(qy a.eval o).run P w= .ok .skip w'/\K undef w')\/
   (∃f args,(qy a.eval o).run P w= .ok (.enter f args) w/\Calls P f args w λen w''=>∃v,en= .returned v/\K v w'')
theorem lj.mono{P:qo}{o:qx}{c:Nl}{a:Act}{w:W}{K K':V->W->Prop}(h:lj P o c a w K)(hk:∀v w',K v w'->K' v w'):lj P o c a w K':=by
 cases c with
 |pure=>obtain⟨v,h1,h2⟩:=h;exact⟨v,h1,hk _ _ h2⟩
 |read=>obtain⟨v,h1,h2⟩:=h;exact⟨v,h1,hk _ _ h2⟩
 |alloc=>obtain⟨v,w',h1,h2,h3⟩:=h;exact⟨v,w',h1,h2,hk _ _ h3⟩
 |other=>
  rcases h with⟨v,w',h1,h2⟩|⟨w',h1,h2⟩|⟨f,args,h1,h2⟩
  .exact .inl ⟨v,w',h1,hk _ _ h2⟩
  .exact .inr (.inl ⟨w',h1,hk _ _ h2⟩)
  .exact .inr (.inr ⟨f,args,h1,h2.mono λen w''⟨v,hv,hK⟩=>⟨v,hv,hk _ _ hK⟩⟩)
theorem lj.Dw{P:qo}{o:qx}{c:Nl}{a:Act}{w:W}{K K':V->W->Prop}(hc:c≠ .other)(h:lj P o c a w K)(hk:∀v w',Ext w w'->K v w'->K' v w'):lj P o c a w K':=by
 cases c with
 |pure=>obtain⟨v,h1,h2⟩:=h;exact⟨v,h1,hk _ _ (Ext.refl _) h2⟩
 |read=>obtain⟨v,h1,h2⟩:=h;exact⟨v,h1,hk _ _ (Ext.refl _) h2⟩
 |alloc=>obtain⟨v,w',h1,h2,h3⟩:=h;exact⟨v,w',h1,h2,hk _ _ h2 h3⟩
 |other=>exact qk O hc
theorem bf{t:qi}{d:TypeDesc}(h:P.underlying t=X d)(w:W):(underlying t).run P w= .ok d w:=by simp[underlying,h]
theorem Dc{t:qi}{d:TypeDesc}(h:P.underlying t=X d):∃i,P.info? t=X i:=by
 cases hi:P.info? t with
 |none=>simp[Program.underlying,hi]at h
 |some i=>exact⟨i,O⟩
theorem gv{t:qi}{i:qL}(h:P.info? t=X i)(w:W):(sizeOf t).run P w= .ok (sz P t) w:=by simp[sizeOf,typeInfo,h,sz]
theorem mR{t:qi}{d:TypeDesc}(h:P.underlying t=X d)(w:W):(sizeOf t).run P w= .ok (sz P t) w:=by obtain⟨i,hi⟩:=Dc h;exact gv hi w
theorem wJ{t:qi}{d:TypeDesc}(h:P.underlying t=X d)(w:W):(isAgg t).run P w= .ok (agg P t) w:=by unfold isAgg agg;rw[Sem.run_bind,bf h w,h];simp only[Result.andThen_ok];cases d<;>rfl
theorem mh{w:W}{a:qf}{v:V}(h:w.cell? a=X v):(load a).run P w= .ok v w:=by rw[run_load,h]
theorem dJ(w:W)(a:qf):∀(vs:J V)(i:S)(acc:qw V),(∀j v,nth vs j=X v->w.cell? (a.add (i+j))=X v)->
  (loadCellsFrom a i vs.length acc).run P w= .ok (acc++vs.toArray) w
 | [],i,acc,_=>by simp[loadCellsFrom]
 |v::vs,i,acc,h=>by
  have h0:w.cell? (a.add i)=X v:=h 0 v O;simp only[SJ,loadCellsFrom];rw[Sem.run_bind,mh h0];simp only[Result.andThen_ok];rw[dJ w a vs (i+1) (acc.push v) (λj u hj=>by have:=h (j+1) u hj;rw[show i+1+j=i+(j+1)from by omega];exact this)];simp
theorem dY{α:Type}:∀(l:J α)(i:S),nth l i=l[i]?
 | [],i=>by simp[nth]
 |x::l,0=>by simp[nth]
 |x::l,i+1=>by simp[nth,dY l i]
theorem vz(a:qf)(w:W):∀(l:J Sc)(i:S)(acc:J V)(k:V->Prop),GG l a i w acc k->
  ∃vs:J V,vs.length=l.length/\(∀j v,nth vs j=X v->w.cell? (a.add (i+j))=X v)/\k (.agg ⟨acc.reverse++vs⟩)
 | [],i,acc,k,h=>⟨[],O,λj v h=>by simp[nth]at h,by simpa [GG]using h⟩
 |c::l,i,acc,k,h=>by
  obtain⟨d,hd,h⟩:=h;obtain⟨vs,h1,h2,h3⟩:=vz a w l (i+1) (c.mk d::acc) k h;refine⟨c.mk d::vs,by simp[h1],λj v hj=>?_,by simpa using h3⟩;cases j with
  |zero=>simp[nth]at hj;subst hj;exact hd
  |succ j=>have:=h2 j v hj;rw[show i+(j+1)=i+1+j from by omega];exact this
theorem FY{t:qi}{x:Sc}(h:pF P t= .c x):agg P t=false:=by
 unfold pF at h;cases ha:agg P t with
 |false=>rfl
 |true=>
  rw[ha]at h;simp only[qq]at h;cases h1:U2 (sz P t) 24<;>rw[h1]at h<;>simp only[qq,qv]at h
  .cases h
  .cases h2:TA (PZ P 8 t).length (sz P t)<;>rw[h2]at h<;>simp only[qq,qv]at h<;>cases h
theorem FX{t:qi}{l:J Sc}(h:pF P t= .a l):agg P t=G/\l.length=sz P t:=by
 unfold pF at h;cases ha:agg P t with
 |false=>rw[ha]at h;simp only[qv]at h;cases h
 |true=>
  rw[ha]at h;simp only[qq]at h;cases h1:U2 (sz P t) 24<;>rw[h1]at h<;>simp only[qq,qv]at h
  .cases h
  .cases h2:TA (PZ P 8 t).length (sz P t)<;>rw[h2]at h<;>simp only[qq,qv]at h
   .cases h
   .cases h;exact⟨O,TD h2⟩
theorem LA{t:qi}(h:pF P t= .big):agg P t=true:=by
 unfold pF at h;cases ha:agg P t with
 |false=>rw[ha]at h;simp only[qv]at h;cases h
 |true=>rfl
theorem pd{t:qi}{a:qf}{w:W}{k:V->Prop}(h:Dp P t a w k):∃v,k v/\∀w',Ext w w'->(loadVar t a).run P w'= .ok v w':=by
 unfold Dp Jh at h;split at h
 .exact h.elim
 rename_i d hd;have hs:=λw=>mR hd w;have ha:=λw=>wJ hd w;split at h
 .rename_i x hx
  obtain⟨v,hv,hk⟩:=h;refine⟨_,hk,λw' hw=>?_⟩;unfold loadVar;rw[Sem.run_bind,ha,FY hx];simp only[Result.andThen_ok,SX,qB];exact mh (hw _ _ hv)
 .rename_i l hl
  obtain⟨h1,h2⟩:=FX hl;obtain⟨vs,h3,h4,h5⟩:=vz a w l 0 [] k h;refine⟨_,h5,λw' hw=>?_⟩;unfold loadVar;rw[Sem.run_bind,ha,h1];simp only[Result.andThen_ok,qE];rw[Sem.run_bind,hs];simp only[Result.andThen_ok];rw[Sem.run_bind];unfold loadCells;rw[<-h2,<-h3,dJ w' a vs 0 #[] (λj v hj=>hw _ _ (h4 j v hj))];simp
 .rename_i hl
  have h1:=LA hl;obtain⟨cs,h2,h3,h4⟩:=h;refine⟨_,h4,λw' hw=>?_⟩;unfold loadVar;rw[Sem.run_bind,ha,h1];simp only[Result.andThen_ok,qE];rw[Sem.run_bind,hs];simp only[Result.andThen_ok];rw[Sem.run_bind];unfold loadCells;have:=dJ (P:=P) w' a cs.toList 0 #[] (λj v hj=>hw _ _ (by
   rw[dY]at hj;simp only[Ts]at hj;have hlt:j<sz P t:=by rw[<-h2];exact(Te.1 hj).1
   rw[SS,h3 j hlt];exact hj))
  rw[TH,h2]at this;rw[this];simp
theorem xf{w:W}{a:qf}{v:V}{k:W->Prop}(h:St w a v k):(store a v).run P w= .ok () (w.setCell a v)/\k (w.setCell a v):=by
 obtain⟨h1,h2,h3,h4⟩:=h;refine⟨?_,h4⟩;rw[run_store _ _ _ _ _ h3];cases hc:w.cell? a with
 |none=>rw[hc]at h1;simp at h1
 |some x=>simp[h2]
theorem ud(a:qf):∀(vs:J V)(i:S)(w:W)(k:W->Prop),F0 vs a i w k->∃w',(storeCells a vs i).run P w= .ok () w'/\k w'
 | [],i,w,k,h=>⟨w,by simp[storeCells],h⟩
 |v::vs,i,w,k,h=>by obtain⟨h1,h2⟩:=xf (P:=P) h;obtain⟨w',h3,h4⟩:=ud a vs (i+1) _ k h2;refine⟨w',?_,h4⟩;simp only[storeCells];rw[Sem.run_bind,h1];exact h3
theorem Cf{t:qi}{a:qf}{v:V}{w:W}{k:W->Prop}(h:F1 P t a v w k):∃w',(storeVar t a v).run P w= .ok () w'/\k w':=by
 unfold F1 Jh at h;split at h
 .exact h.elim
 rename_i d hd;have hs:=mR hd w;cases ha:agg P t with
 |true=>
  rw[ha]at h;simp only[qq]at h;split at h
  .rename_i cs
   cases hb:TA cs.toList.length (sz P t)<;>rw[hb]at h<;>simp only[qq,qv]at h
   have hb:=TD hb;obtain⟨w',h1,h2⟩:=ud (P:=P) a cs.toList 0 w k h;refine⟨w',?_,h2⟩;unfold storeVar;rw[Sem.run_bind,hs];have hsz:cs.size=sz P t:=by rw[<-hb];simp
   simp only[Result.andThen_ok,Value.cells,hsz,ne_eq,not_true_eq_false,qB];exact h1
  .exact h.elim
 |false=>
  rw[ha]at h;simp only[qv]at h;cases hb:TA (sz P t) 1<;>rw[hb]at h<;>simp only[qq,qv]at h
  have hb:=TD hb;have h3:=h.2.2.1;obtain⟨h1,h2⟩:=xf (P:=P) h;have hcells:v.cells= #[v]:=by cases v<;>first|rfl|simp[Value.oneCell']at h3
  refine⟨_,?_,h2⟩;unfold storeVar;rw[Sem.run_bind,hs,hb];simp only[Result.andThen_ok,hcells];have:(storeCells a [v] 0).run P w= .ok () (w.setCell a v):=by simp only[storeCells];rw[Sem.run_bind];rw[show a.add 0=a from by simp[Addr.add],h1];rfl
  simpa using this
theorem Gs:∀(l:J Sc)(acc:J V)(k:J V->Prop),Qn l acc k->∃vs,k vs
 | [],_,_,h=>⟨_,h⟩
 |_::l,_,k,⟨_,h⟩=>Gs l _ k h
theorem wB{s:Sh}{k:V->Prop}(h:Ps s k):∃v,k v:=by
 cases s with
 |c x=>obtain⟨d,h⟩:=h;exact⟨_,h⟩
 |a l=>obtain⟨vs,h⟩:=Gs _ _ _ h;exact⟨_,h⟩
 |big=>obtain⟨cs,h⟩:=h;exact⟨_,h⟩
theorem Bn:∀(l:J Sh)(acc:J V)(k:J V->Prop),Pr l acc k->∃vs,k vs
 | [],_,_,h=>⟨_,h⟩
 |_::l,_,k,h=>by obtain⟨v,h⟩:=wB h;exact Bn l _ k h
theorem Ls(d:S){t:qi}{x y:V}{k:I->Prop}(h:KV P t x y k):∃b,k b/\∀w,(Op.equalIn (d+1) t x y).run P w= .ok b w:=by
 unfold KV at h;split at h
 .rename_i a hu
  exact⟨_,h,λw=>by cases a<;>simp[Op.equalIn,bf hu]⟩
 .rename_i a _ _ _ _ hu
  exact⟨_,h,λw=>by cases a<;>simp[Op.equalIn,bf hu]⟩
 .rename_i a hu
  exact⟨_,h,λw=>by cases a<;>simp[Op.equalIn,bf hu]⟩
 .exact h.elim
theorem DT(d:S){t:qi}(a b:I)(h:P.underlying t=X .bool)(w:W):(Op.equalIn (d+1) t (.bool a) (.bool b)).run P w= .ok (a==b) w:=by simp[Op.equalIn,bf h]
theorem E3{op:BinOp}{j:qO}{a b:U}{k:V->Prop}{t:qi}(h:Of op j a b k):∃v,k v/\∀w,(binOp op t (.int j a) (.int j b)).run P w= .ok v w:=by
 cases op<;>simp only[Of]at h
 case add=>exact⟨_,h,λw=>by simp[binOp,Op.intArith]⟩
 case sub=>exact⟨_,h,λw=>by simp[binOp,Op.intArith]⟩
 case mul=>exact⟨_,h,λw=>by simp[binOp,Op.intArith]⟩
 case quo=>exact⟨_,h.2,λw=>by simp[binOp,Op.intDiv,h.1]⟩
 case rem=>exact⟨_,h.2,λw=>by simp[binOp,Op.intDiv,h.1]⟩
 case and=>exact⟨_,h,λw=>by simp[binOp,Op.intBits,fE]⟩
 case or=>exact⟨_,h,λw=>by simp[binOp,Op.intBits,MP]⟩
 case xor=>exact⟨_,h,λw=>by simp[binOp,Op.intBits,Jb]⟩
 case andNot=>exact⟨_,h,λw=>by simp[binOp,Op.intBits,iD]⟩
 case eql=>exact⟨_,h,λw=>by simp[binOp,Op.intCmp]⟩
 case neq=>exact⟨_,h,λw=>by simp[binOp,Op.intCmp]⟩
 case lss=>exact⟨_,h,λw=>by simp[binOp,Op.intCmp]⟩
 case leq=>exact⟨_,h,λw=>by simp[binOp,Op.intCmp]⟩
 case gtr=>exact⟨_,h,λw=>by simp[binOp,Op.intCmp]⟩
 case geq=>exact⟨_,h,λw=>by simp[binOp,Op.intCmp]⟩
theorem fj{op:BinOp}{t:qi}{x y:qD}{a b:V}(w:W)(h1:¬(a= .nilIface/\b= .nilIface))(h2:∀c d,¬(a= .agg c/\b= .agg d)):
  (eqGuard op t x y a b).run P w= .ok () w:=by
 unfold eqGuard;cases op<;>first|rfl|(cases a<;>cases b<;>first|rfl|(exact qk ⟨O,O⟩ h1)|(exact qk ⟨O,O⟩ (h2 _ _)))
theorem EL{op:BinOp}{t:qi}{x y:qD}{vx vy:V}{k:V->Prop}(h:NV P op t x y vx vy k):
  ∃v,k v/\∀w,(do eqGuard op t x y vx vy;binOp op t vx vy:Sem V).run P w= .ok v w:=by
 unfold NV at h;split at h
 .obtain ⟨h1,h2⟩:=h
  refine⟨_,h2,λw=>?_⟩;rw[Sem.run_bind,fj _ qc qc];simp only[Result.andThen_ok];rename_i b;have hb:¬b<0:=om
  simp[binOp,Op.shift,mS,hb]
 .obtain ⟨h1,h2⟩:=h
  refine⟨_,h2,λw=>?_⟩;rw[Sem.run_bind,fj _ qc qc];simp only[Result.andThen_ok];rename_i b;have hb:¬b<0:=om
  simp[binOp,Op.shift,Ca,hb]
 .split at h
  .rename_i hj
   subst hj;obtain⟨v,h1,h2⟩:=E3 (P:=P) (t:=t) h;refine⟨v,h1,λw=>?_⟩;rw[Sem.run_bind,fj _ qc qc];exact h2 w
  .exact h.elim
 .split at h
  .rename_i hu
   refine⟨_,h,λw=>?_⟩;rw[Sem.run_bind,fj _ qc qc];rename_i a b _;have h3:(Op.equal t (.bool a) (.bool b)).run P w= .ok (a==b) w:=DT 9999 a b hu w;simp[binOp,h3]
  .exact h.elim
 .split at h
  .rename_i hu
   refine⟨_,h,λw=>?_⟩;rw[Sem.run_bind,fj _ qc qc];rename_i a b _;have h3:(Op.equal t (.bool a) (.bool b)).run P w= .ok (a==b) w:=DT 9999 a b hu w;simp[binOp,h3]
  .exact h.elim
 .obtain ⟨h1,h2⟩:=h
  refine⟨_,h2,λw=>?_⟩;rw[Sem.run_bind,fj _ qc qc];rename_i a b;have h3:¬((a.size+b.size:S):U)>qj.max:=Int.not_lt.2 h1;simp only[Result.andThen_ok,binOp,Op.stringOp,Y h3];rfl
 .cases hn:isNil y with
  |false=>
   rw[hn]at h;simp only[qv]at h;obtain⟨b,h1,h2⟩:=h;exact⟨_,h2,h1⟩
  |true=>
   rw[hn]at h;simp only[qq]at h;obtain⟨b,h1,h2⟩:=Ls (P:=P) 9999 h;have hg:∀w,(eqGuard op t x y vx vy).run P w= .ok () w:=by
    intro w;unfold KV at h;split at h
    .exact fj _ qc qc
    .exact fj _ qc qc
    .exact fj _ qc qc
    .exact h.elim
   have hb:∀op,(op= .eql\/op= .neq)->∀w,(binOp op t vx vy).run P w= .ok (.bool (if op= .eql then b else !b)) w:=by
    intro op hop w;have h3:(Op.equal t vx vy).run P w= .ok b w:=h2 w;unfold KV at h;split at h
    .rcases hop with rfl|rfl<;>(unfold binOp;simp[h3])
    .rcases hop with rfl|rfl<;>(unfold binOp;simp[h3])
    .rcases hop with rfl|rfl<;>(unfold binOp;simp[h3])
    .exact h.elim
   split at h1
   .exact ⟨_,h1,λw=>by rw[Sem.run_bind,hg];simpa using hb .eql (.inl O) w⟩
   .exact ⟨_,h1,λw=>by rw[Sem.run_bind,hg];simpa using hb .neq (.inr O) w⟩
   .exact h1.elim
theorem IY{op:UnOp}{v:V}{k:V->Prop}(h:Re op v k):∃u,k u/\∀w,(Op.unary op v).run P w= .ok u w:=by
 unfold Re at h;split at h
 .exact ⟨_,h,λw=>by simp[Op.unary]⟩
 .exact ⟨_,h,λw=>by simp[Op.unary,Op.intArith]⟩
 .exact ⟨_,h,λw=>by simp[Op.unary,Op.intBits,Jb]⟩
 .exact h.elim
theorem ti{s:qi}{f:S}{ft:qi}{off:S}(h:jH P s f=X (ft,off)):
  ∃fs fl,P.underlying s=X (.struct fs)/\fs[f]?=X fl/\fl.type=ft/\fl.offset=off:=by
 unfold jH at h;split at h
 .rename_i fs hu
  split at h
  .rename_i fl hf
   rw[dY,Ts]at hf;simp only[Option.some.injEq,Prod.mk.injEq]at h;exact⟨fs,fl,hu,hf,h.1,h.2⟩
  .cases h
 .cases h
theorem extract_eq(cs:qw V)(o n:S):cs.extract o (o+n)=⟨(cs.toList.drop o).take n⟩:=by apply Ve;rw[WY];simp[WB]
theorem DB{t:qi}{cs:qw V}{off:S}{k:V->Prop}(h:GL P t cs.toList off k):∃v,k v/\∀w,(part t cs off).run P w= .ok v w:=by
 unfold GL Jh at h;split at h
 .exact h.elim
 rename_i d hd;have hs:=λw=>mR hd w;have ha:=λw=>wJ hd w;cases hag:agg P t with
 |true=>
  rw[hag]at h;simp only[qq]at h;refine⟨_,h,λw=>?_⟩;unfold part;rw[Sem.run_bind,ha,hag];simp only[Result.andThen_ok,qE];rw[Sem.run_bind,hs];simp only[Result.andThen_ok,extract_eq];rfl
 |false=>
  rw[hag]at h;simp only[qv]at h;split at h
  .rename_i v hv
   refine⟨_,h,λw=>?_⟩;rw[dY,Ts]at hv;unfold part;rw[Sem.run_bind,ha,hag];simp[hv]
  .exact h.elim
theorem vD(cs:qw V)(o:S):∀(l:J Sc)(i:S)(acc:J V)(k:V->Prop),GK l cs o i acc k->
  ∃vs:J V,vs.length=l.length/\(∀j v,vs[j]?=X v->cs[o+(i+j)]?=X v)/\k (.agg ⟨acc.reverse++vs⟩)
 | [],i,acc,k,h=>⟨[],O,λj v h=>by simp at h,by simpa [GK]using h⟩
 |c::l,i,acc,k,h=>by
  obtain⟨d,hd,h⟩:=h;obtain⟨vs,h1,h2,h3⟩:=vD cs o l (i+1) (c.mk d::acc) k h;refine⟨c.mk d::vs,by simp[h1],λj v hj=>?_,by simpa using h3⟩;cases j with
  |zero=>simp at hj;subst hj;exact hd
  |succ j=>have:=h2 j v (by simpa using hj);rw[show i+(j+1)=i+1+j from by omega];exact this
theorem DA{t:qi}{cs:qw V}{off:S}{k:V->Prop}(h:KZ P t cs off k):∃v,k v/\∀w,(part t cs off).run P w= .ok v w:=by
 unfold KZ Jh at h;split at h
 .exact h.elim
 rename_i d hd;have hs:=λw=>mR hd w;have ha:=λw=>wJ hd w;split at h
 .rename_i x hx
  obtain⟨v,hv,hk⟩:=h;refine⟨_,hk,λw=>?_⟩;unfold part;rw[Sem.run_bind,ha,FY hx];simp[hv]
 .rename_i l hl
  obtain⟨h1,h2⟩:=FX hl;obtain⟨vs,h3,h4,h5⟩:=vD cs off l 0 [] k h;refine⟨_,h5,λw=>?_⟩;unfold part;rw[Sem.run_bind,ha,h1];simp only[Result.andThen_ok,qE];rw[Sem.run_bind,hs];simp only[Result.andThen_ok,V7,TG];have:cs.extract off (off+sz P t)=⟨vs⟩:=by
   apply Ve;rw[WY];simp only[WB,Nat.add_sub_cancel_left];apply Td;intro j;rw[S5];by_cases hj:j<sz P t
   .rw[Z hj,S8]
    have hlt:j<vs.length:=om
    have:=h4 j vs[j] (gE hlt);rw[SS]at this;rw[Ts,this,gE hlt]
   .rw[Y hj]
    symm
    apply SZ;omega
  rw[this];rfl
 .exact h.elim
theorem oK{n:S}{e:Env}{a:Act}(hr:Rel ds n e a){x:qg qD}{d top:S}{k:S->Prop}(h:bound e x d top k):
  ∃m,k m/\(x=Q->m=d)/\∀o,x=X o->∀c w,(Instr.sliceBound (a.eval o) top c).run P w= .ok m w:=by
 unfold bound at h;cases x with
 |none=>exact⟨d,h,λ_=>rfl,(λo h=>by cases h)⟩
 |some x=>
  simp only at h;split at h
  .rename_i j m hm
   obtain⟨h1,h2,h3⟩:=h;refine⟨_,h3,(λh=>by cases h),λo ho c w=>?_⟩;cases ho;rw[hr.ev hm];unfold Instr.sliceBound;simp[asIntOf,h1,h2]
  .exact h.elim
theorem mZ{n:S}{e:Env}{a:Act}(hr:Rel ds n e a){lo hi mx:qg qD}{len cap:S}{is:I}{k:S->S->S->Prop}
  (h:bound e mx cap cap λm=>bound e hi len m λh=>bound e lo 0 h λl=>(match mx,hi with|some _,Q=>qm|_,_=>k l h m)):
  ∃l h m,k l h m/\∀w,(Instr.sliceBounds is len cap (lo.map a.eval) (hi.map a.eval) (mx.map a.eval)).run P w= .ok (l,h,m) w:=by
 obtain⟨m,h,OZ,hm⟩:=oK (P:=P) hr h;obtain⟨y,h,hy0,hy⟩:=oK (P:=P) hr h;obtain⟨l,h,hl0,hl⟩:=oK (P:=P) hr h;cases mx with
 |none=>
  have hk:k l y m:=h;obtain rfl:=OZ O;refine⟨l,y,m,hk,λw=>?_⟩;unfold Instr.sliceBounds;cases hi with
  |none=>
   obtain rfl:=hy0 O;cases lo with
   |none=>obtain rfl:=hl0 O;simp
   |some o=>simp[hl o O]
  |some o=>
   cases lo with
   |none=>obtain rfl:=hl0 O;simp[hy o O]
   |some o'=>simp[hy o O,hl o' O]
 |some u=>
  cases hi with
  |none=>exact h.elim
  |some o=>
   have hk:k l y m:=h;refine⟨l,y,m,hk,λw=>?_⟩;unfold Instr.sliceBounds;cases lo with
   |none=>obtain rfl:=hl0 O;simp[hm u O,hy o O]
   |some o'=>simp[hm u O,hy o O,hl o' O]
theorem sy:∀(cs:J V)(o:S)(v:V)(vs:J V),putAt cs o (v::vs)=putAt (cs.set o v) (o+1) vs
 | [],o,v,vs=>by cases vs<;>simp[putAt]
 |c::cs,0,v,vs=>by cases vs<;>simp[putAt]
 |c::cs,o+1,v,vs=>by
  have h:=sy cs o v vs;cases vs with
  |nil=>simp[putAt]at h|-;exact h
  |cons u us=>simp[putAt]at h|-;exact h
theorem iN:∀(cs:J V)(o:S)(vs:J V),(putAt cs o vs).length=cs.length
 |cs,o,[]=>by cases cs<;>cases o<;>simp[putAt]
 | [],o,v::vs=>by simp[putAt]
 |c::cs,0,v::vs=>by simp[putAt,iN cs 0 vs]
 |c::cs,o+1,v::vs=>by simp[putAt,iN cs o (v::vs)]
theorem z7(off:S):∀(l:J V)(k:S)(A:qw V),
  ((l.zipIdx k).foldl (λcs(x:V × S)=>cs.setIfInBounds (off+x.2) x.1) A).toList=putAt A.toList (off+k) l
 | [],k,A=>by cases h:A.toList<;>cases h2:off+k<;>simp[putAt,h]
 |v::l,k,A=>by rw[List.zipIdx_cons,List.foldl_cons,z7 off l (k+1),sy];simp[UN]
theorem nh{place:S->qg (S × S)}{n:S}:∀(l:J (S × V))(A:qw V)(cs:J V),A.size=n->nP place n A.toList l=X cs->
  Instr.fill place A l=X ⟨cs⟩
 | [],A,cs,_,h=>by simp only[nP,Option.some.injEq]at h;subst h;rfl
 |(i,v)::l,A,cs,hn,h=>by
  simp only[nP]at h;split at h
  .cases h
  .rename_i off size hp
   cases hc:(TA v.cells.toList.length size&&U2 (off+size) n)<;>rw[hc]at h<;>simp only[qq,qv]at h
   .cases h
   rw[S4]at hc;have h1:=TD hc.1;have h2:=UI hc.2;rw[TH]at h1;simp only[Instr.fill,hp];rw[Y (by simp[h1];omega)];have h3:(Array.foldl (λcs(x:V × S)=>cs.setIfInBounds (off+x.2) x.1) A v.cells.zipIdx).toList=putAt A.toList off v.cells.toList:=by rw[<-Array.foldl_toList,Array.toList_zipIdx];exact z7 off v.cells.toList 0 A
   refine nh (n:=n) l _ cs ?_ ?_
   .rw[<-TH,h3,iN,TH,hn]
   .rw[h3];exact h
theorem sE{α:Type}(l:J α):∀n,(rep n l).length=n*l.length
 |0=>by simp[rep]
 |n+1=>by simp[rep,sE l n,UM,VT]
theorem GS{α:Type}(l:J α):∀(n i:S),i<n*l.length->(rep n l)[i]?=l[i%l.length]?
 |0,i,h=>by simp at h
 |n+1,i,h=>by
  simp only[rep];rcases Wi i l.length with hi|hi
  .rw[SM hi,Nat.mod_eq_of_lt hi]
  .rw[SP hi,GS l n (i-l.length) (by rw[UM]at h;omega)]
   congr 1
   conv=>rhs;rw[show i=(i-l.length)+l.length from by omega,Nat.add_mod_right]
theorem ui(z:qw V)(len:S)(hz:1<=z.size):(WO (len*z.size)).map (λi=>z[i%z.size]!)=⟨rep len z.toList⟩:=by
 apply Ve;apply Td;intro i;simp only[Array.toList_map,Array.toList_range,S2];rcases Wi i (len*z.size)with h|h
 .rw[List.getElem?_range h,GS _ _ _ (by simpa using h)]
  have hlt:i%z.size<z.size:=VU _ om;simp[hlt]
 .have hl:(rep len z.toList).length=len*z.size:=by rw[sE];simp
  rw[SZ (l:=SF _) (by simpa using h),SZ om];rfl
theorem vk{t:qi}{z:J V}(h:rN P t=X z):∃v i,P.info? t=X i/\v.cells.toList=z/\∀w,(qK t).run P w= .ok v w:=by
 unfold rN at h;split at h
 .rename_i i hi
  split at h
  .rename_i v hv
   simp only[Option.some.injEq]at h;exact⟨v,i,hi,h,λw=>by simp[qK,typeInfo,hi,hv]⟩
  .cases h
 .cases h
theorem Bh (hn:∀(f:S) (fn:Func),P.funcs[f]?=X fn->(fn.name== "runtime.NumGoroutine")=qd) {f:FuncId} {p:Prop} (h:okF P f p) (args:qw V) (w:W):
  (callFunc f args).run P w= .ok (.enter f args) w/\p:=by
 unfold okF at h;split at h
 .exact h.elim
 rename_i fn hf;split at h
 .exact h.elim
 rename_i c hb;refine⟨?_,h⟩;have:=hn f fn hf;simp only[callFunc,Sem.run_bind,run_program,Result.andThen_ok,hf,this,SX,qB,hb,Option.isNone_some,Sem.run_pure]
theorem xT(fs:qw Field)(w:W)(h:∀f∈fs,∃i,P.info? f.type=X i):
  ∀(l:J Field),(∀f∈l,∃i,P.info? f.type=X i)->(l.mapM λf=>(do pure (f.offset,<-sizeOf f.type):Sem (S × S))).run P w= .ok (l.map λf=>(f.offset,sz P f.type)) w
 | [],_=>by simp
 |f::l,hl=>by
  obtain⟨i,hi⟩:=hl f qc;rw[WX,Sem.run_bind];have h1:(do pure (f.offset,<-sizeOf f.type):Sem (S × S)).run P w= .ok (f.offset,sz P f.type) w:=by rw[Sem.run_bind,gv hi];rfl
  rw[h1];simp only[Result.andThen_ok];rw[Sem.run_bind,xT fs w h l (λg hg=>hl g (by simp[hg]))];rfl
theorem AQ{t:qi}(h:TA (sz P t) 0=qd):sz P t≠0/\∀w,(sizeOf t).run P w= .ok (sz P t) w:=by
 have h1:sz P t≠0:=λe=>by rw[e]at h;exact qk h qb
 refine⟨h1,λw=>?_⟩;cases hi:P.info? t with
 |none=>simp[sz,hi]at h1
 |some i=>exact gv hi w
theorem HN{t el:qi}{len:S}{a:qf}{j:qO}{n:U}(hu:P.underlying t=X (.array len el))(hs:TA (sz P el) 0=qd)(h0:0<=n)(h1:n<(len:U))(w:W):
  (Instr.indexAt t (.pointer (X a)) (.int j n)).run P w= .ok (.pointer (X (a.add (n.toNat*sz P el)))) w:=by
 obtain⟨_,h2⟩:=AQ hs;unfold Instr.indexAt;simp[asIntOf,bf hu,Instr.sureAddr,h0,h1,h2]
theorem EZ{t el:qi}{len cap:S}{a:qf}{j:qO}{n:U}(hu:P.underlying t=X (.slice el))(hs:TA (sz P el) 0=qd)(h0:0<=n)(h1:n<(len:U))(w:W):
  (Instr.indexAt t (.slice (X a) len cap) (.int j n)).run P w= .ok (.pointer (X (a.add (n.toNat*sz P el)))) w:=by
 obtain⟨_,h2⟩:=AQ hs;unfold Instr.indexAt;simp[asIntOf,bf hu,h0,h1,h2]
theorem HE{s ft:qi}{f off:S}{a:qf}(h:jH P s f=X (ft,off))(hs:TA (sz P ft) 0=qd)(w:W):
  (Instr.fieldAt s (.pointer (X a)) f).run P w= .ok (.pointer (X (a.add off))) w:=by
 obtain⟨fs,fl,h1,h2,h3,h4⟩:=ti h;obtain⟨h5,h6⟩:=AQ hs;subst h3 h4;unfold Instr.fieldAt;simp[bf h1,h2,Instr.sureAddr,fieldPlace,h6,h5]
theorem Fk{s ft:qi}{f off:S}{cs:qw V}{k:V->Prop}(h:jH P s f=X (ft,off))(hp:GL P ft cs.toList off k):
  ∃v,k v/\∀w,(Instr.field s (.agg cs) f).run P w= .ok v w:=by
 obtain⟨fs,fl,h1,h2,h3,h4⟩:=ti h;obtain⟨v,h5,h6⟩:=DB hp;subst h3 h4;refine⟨v,h5,λw=>?_⟩;unfold Instr.field;simp[bf h1,h2,asAgg,h6]
theorem Hy{t:qi}{z cs:J V}{vs:J (S × V)}(hok:tj P t=G)(hz:rN P t=X z)(hf:nP (placeOf P t) z.length z vs=X cs)(w:W):
  (Instr.build t vs.toArray).run P w= .ok (.agg ⟨cs⟩) w:=by
 obtain⟨v,i,hi,hv,hrun⟩:=vk hz;have hvs:v.cells.size=z.length:=by rw[<-hv,TH]
 unfold tj at hok;unfold Instr.build;rw[Sem.run_bind,hrun];simp only[Result.andThen_ok];split at hok
 .rename_i fs hu
  rw[Sem.run_bind,bf hu];simp only[Result.andThen_ok];have hall:∀f∈fs.toList,∃i,P.info? f.type=X i:=λf hf=>by have:=Vd.1 hok f hf;exact Uc.1 this
  have hm:(fs.mapM λf=>(do pure (f.offset,<-sizeOf f.type):Sem (S × S))).run P w= .ok (fs.toList.map λf=>(f.offset,sz P f.type)).toArray w:=by rw[WA,Sem.run_map,xT fs w (λf hf=>hall f (W5.1 hf)) fs.toList hall];rfl
  rw[Sem.run_bind,hm];simp only[Result.andThen_ok];have hp:(λx=>((fs.toList.map λf=>(f.offset,sz P f.type)).toArray)[x]?)=placeOf P t:=by funext x;simp only[placeOf,hu,dY];simp only[Ud,S2,Ts];cases fs[x]?<;>rfl
  rw[hp,nh (n:=z.length) vs v.cells cs hvs (by rw[hv];exact hf)];rfl
 .rename_i len el hu
  rw[Sem.run_bind,bf hu];simp only[Result.andThen_ok];obtain⟨ie,hie⟩:=Uc.1 hok;rw[Sem.run_bind,gv hie];simp only[Result.andThen_ok];have hp:(λi=>X (i*sz P el,sz P el))=placeOf P t:=by funext x;simp only[placeOf,hu]
  rw[hp,nh (n:=z.length) vs v.cells cs hvs (by rw[hv];exact hf)];rfl
 .cases hok
theorem MO{t:qi}(h:H9 P t=G):sz P t=1:=by
 unfold H9 at h;cases ha:agg P t<;>rw[ha]at h<;>simp only[qq,qv]at h
 .split at h
  .exact TD h
  .cases h
 .cases h
theorem xU{n:S}{C:Prop}:∀{vs:J (S × V)}{cs out:J V},K9 n cs vs=X out->Ox vs C->C/\nP (λi=>X (i*1,1)) n cs vs=X out
 | [],cs,out,h,hC=>⟨hC,h⟩
 |(i,v)::l,cs,out,h,hC=>by
  obtain⟨h3,hC⟩:=hC;have hcells:v.cells= #[v]:=by cases v<;>first|rfl|simp[Value.oneCell']at h3
  simp only[K9]at h;cases hb:U2 (i+1) n<;>rw[hb]at h<;>simp only[qq,qv]at h
  .cases h
  obtain⟨h1,h2⟩:=xU h hC;refine⟨h1,?_⟩;simp only[nP,hcells,Vg,hb];simpa using h2
theorem oL{t el:qi}{len:S}{z cs:J V}{vs:J (S × V)}(hu:P.underlying t=X (.slice el))(hz:rN P el=X z)
  (hb:(U2 (len*sz P el) 1000&&TA z.length (sz P el)&&U2 1 (sz P el))=G) (hf:nP (λi=>X (i*sz P el,sz P el)) (len*sz P el) (rep len z) vs=X cs) (w:W):
  (Instr.buildSlice t len vs.toArray).run P w= .ok (.slice (X ⟨w.heap.size,0,Q⟩) len len) (w.alloc (.cells ⟨cs⟩ el)):=by
 obtain⟨v,i,hi,hv,hrun⟩:=vk hz;rw[S4,S4]at hb;have h1:=UI hb.1.1;have h2:=TD hb.1.2;have h3:=UI hb.2;have hvs:v.cells.size=sz P el:=by rw[<-h2,<-hv,TH]
 unfold Instr.buildSlice;rw[Sem.run_bind,bf hu];simp only[Result.andThen_ok];rw[Sem.run_bind,gv hi];simp only[Result.andThen_ok];rw[Y om];have hfill:=nh (place:=λi=>X (i*sz P el,sz P el)) (n:=len*sz P el) vs ⟨rep len z⟩ cs (by show(rep len z).length=_;rw[sE,h2]) hf;by_cases h0:len*sz P el=0
 .rw[Z h0]
  have hl:len=0:=by
   rcases Wl.1 h0 with h|h
   .exact h
   .omega
  subst hl;have hc:(WO (0*sz P el)).map (λx=>(#[]:qw V)[x%(#[]:qw V).size]!)=⟨rep 0 z⟩:=by simp[rep]
  rw[Sem.run_bind];simp only[Sem.run_pure,Result.andThen_ok];rw[hc,hfill];rfl
 .rw[Y h0]
  have hc:(WO (len*sz P el)).map (λx=>v.cells[x%v.cells.size]!)=⟨rep len z⟩:=by rw[<-hvs,ui v.cells len om,hv]
  rw[Sem.run_bind,hrun];simp only[Result.andThen_ok];rw[Sem.run_bind];simp only[Sem.run_pure,Result.andThen_ok];rw[hc,hfill];rfl
theorem IP{n:S}{e:Env}{act:Act}(hr:Rel ds n e act){t el:qi}{a:qg qf}{len cap:S}{lo hi mx:qg qD}{k:V->Prop}(hu:P.underlying t=X (.slice el))(hs:TA (sz P el) 0=qd)
  (h:bound e mx cap cap λm=>bound e hi len m λh=>bound e lo 0 h λl=>(match mx,hi with|some _,Q=>qm|_,_=>k (si a l h m (sz P el)))):
  ∃v,k v/\∀w,(Instr.sliceAt t (.slice a len cap) (lo.map act.eval) (hi.map act.eval) (mx.map act.eval)).run P w= .ok v w:=by
 obtain⟨l,y,m,h1,h2⟩:=mZ (P:=P) hr (is:=G) (k:=λl h m=>k (si a l h m (sz P el))) h;obtain⟨_,h3⟩:=AQ hs;refine⟨_,h1,λw=>?_⟩;unfold Instr.sliceAt;rw[Sem.run_bind,bf hu];simp only[Result.andThen_ok,Instr.slice];rw[Sem.run_bind,bf hu];simp only[Result.andThen_ok];rw[Sem.run_bind,h2];simp only[Result.andThen_ok];rw[Sem.run_bind,h3];rfl
theorem FZ{n:S}{e:Env}{act:Act}(hr:Rel ds n e act){t el:qi}{a:qf}{len:S}{lo hi mx:qg qD}{k:V->Prop}(hu:P.underlying t=X (.array len el))(hs:TA (sz P el) 0=qd)
  (h:bound e mx len len λm=>bound e hi len m λh=>bound e lo 0 h λl=>(match mx,hi with|some _,Q=>qm|_,_=>k (si (X a) l h m (sz P el)))):
  ∃v,k v/\∀w,(Instr.sliceAt t (.pointer (X a)) (lo.map act.eval) (hi.map act.eval) (mx.map act.eval)).run P w= .ok v w:=by
 obtain⟨l,y,m,h1,h2⟩:=mZ (P:=P) hr (is:=qd) (k:=λl h m=>k (si (X a) l h m (sz P el))) h;obtain⟨_,h3⟩:=AQ hs;refine⟨_,h1,λw=>?_⟩;unfold Instr.sliceAt;rw[Sem.run_bind,bf hu];simp only[Result.andThen_ok,Instr.sureAddr];simp[h2,h3,si,mn];split<;>rfl
theorem fL{b:Builtin}{ts:J qi}{t:qi}{vs:J V}{w:W}{k:V->W->Prop}(hb:b= .cap\/b= .max\/b= .min\/(b= .len/\∀ta,ts= [ta]->∀x y,P.underlying ta≠X (.map x y)))
  (h:oM P b ts t vs w k):∃v,k v w/\∀w' cs,(builtin b ⟨ts⟩ t cs ⟨vs⟩).run P w'= .ok (.value v) w':=by
 unfold oM at h;split at h
 .split at h
  .rename_i v ta
   split at h
   .rename_i hu;exact⟨_,h,λw' cs=>by simp[builtin,Builtin.len_,bf hu,goInt]⟩
   .rename_i hu;exact⟨_,h,λw' cs=>by simp[builtin,Builtin.len_,bf hu,goInt]⟩
   .rename_i x y _ hu
    rcases hb with hb|hb|hb|hb
    .cases hb
    .cases hb
    .cases hb
    .exact qk hu (hb.2 ta O x y)
   .rename_i hu;exact⟨_,h,λw' cs=>by simp[builtin,Builtin.len_,bf hu,goInt]⟩
   .exact h.elim
  .exact h.elim
 .split at h
  .split at h
   .rename_i hu;exact⟨_,h,λw' cs=>by simp[builtin,Builtin.cap_,bf hu,goInt]⟩
   .exact h.elim
  .exact h.elim
 .exact ⟨_,h,λw' cs=>by simp[builtin,Builtin.max_,Builtin.max2,Oo]⟩
 .exact ⟨_,h,λw' cs=>by simp[builtin,Builtin.min_,Builtin.min2,zl]⟩
 .rcases hb with hb|hb|hb|⟨hb,_⟩<;>cases hb
 .rcases hb with hb|hb|hb|⟨hb,_⟩<;>cases hb
 .rcases hb with hb|hb|hb|⟨hb,_⟩<;>cases hb
 .rcases hb with hb|hb|hb|⟨hb,_⟩<;>cases hb
 .exact h.elim
theorem CU{b:Builtin}{ts:J qi}{t:qi}{vs:J V}{w:W}{k:V->W->Prop}
  (h:oM P b ts t vs w k):∃v w',k v w'/\∀cs,(builtin b ⟨ts⟩ t cs ⟨vs⟩).run P w= .ok (.value v) w':=by
 have h0:=h;unfold oM at h;split at h
 .split at h
  .rename_i v ta
   split at h
   .obtain ⟨v,h1,h2⟩:=fL (.inr (.inr (.inr ⟨O,λtb e=>by cases e;simp[*]⟩))) h0;exact⟨v,w,h1,h2 w⟩
   .obtain ⟨v,h1,h2⟩:=fL (.inr (.inr (.inr ⟨O,λtb e=>by cases e;simp[*]⟩))) h0;exact⟨v,w,h1,h2 w⟩
   .obtain ⟨n,h1,h2⟩:=h
    exact⟨_,w,h2,λcs=>by simp only[builtin];rw[Sem.run_bind,h1];rfl⟩
   .obtain ⟨v,h1,h2⟩:=fL (.inr (.inr (.inr ⟨O,λtb e=>by cases e;simp[*]⟩))) h0;exact⟨v,w,h1,h2 w⟩
   .exact h.elim
  .exact h.elim
 .obtain ⟨v,h1,h2⟩:=fL (.inl O) h0;exact⟨v,w,h1,h2 w⟩
 .obtain ⟨v,h1,h2⟩:=fL (.inr (.inl O)) h0;exact⟨v,w,h1,h2 w⟩
 .obtain ⟨v,h1,h2⟩:=fL (.inr (.inr (.inl O))) h0;exact⟨v,w,h1,h2 w⟩
 .obtain ⟨s,w',h1,h2⟩:=h
  exact⟨_,w',h2,λcs=>by simp only[builtin];rw[Sem.run_bind,h1];rfl⟩
 .obtain ⟨s,w',h1,h2⟩:=h
  exact⟨_,w',h2,λcs=>by simp only[builtin];rw[Sem.run_bind,h1];rfl⟩
 .obtain ⟨w',h1,h2⟩:=h
  exact⟨_,w',h2,λcs=>by simp only[builtin];rw[Sem.run_bind,h1];rfl⟩
 .obtain ⟨w',h1,h2⟩:=h
  exact⟨_,w',h2,λcs=>by simp only[builtin];rw[Sem.run_bind,h1];rfl⟩
 .exact h.elim
theorem J3{f:FuncId}{args:qw V}{t:qi}{w:W}{k:V->W->Prop}(h:Pt P f args t w k):∃v w',Et P f args w v w'/\k v w':=by obtain⟨vs,w',h⟩:=Bn _ _ _ h;exact⟨_,w',h⟩
theorem zT{f:FuncId}{args:qw V}{t:qi}{w:W}{k:V->W->Prop}
  (hn:∀(f:S) (fn:Func),P.funcs[f]?=X fn->(fn.name== "runtime.NumGoroutine")=qd) (h:Ns P f args t w k):
  (callFunc f args).run P w= .ok (.enter f args) w/\Calls P f args w λen w''=>∃v,en= .returned v/\k v w'':=by
 obtain⟨h1,h2⟩:=Bh hn h args w;refine⟨h1,h2.mono λen w' h=>?_⟩;obtain⟨vs,hv⟩:=Bn _ _ _ h;exact⟨_,hv⟩
theorem bZ{o:qx}{a:Act}{w:W}{k:V->W->Prop}(hc:cls P o= .pure){v:V}(hk:k v w)(hrun:∀w',(qy a.eval o).run P w'= .ok (.value v) w'):lj P o (cls P o) a w k:=by rw[hc];exact⟨v,hrun,hk⟩
theorem kK{o:qx}{a:Act}{w w':W}{k:V->W->Prop}(hc:cls P o= .alloc){v:V}(hk:k v w')(hx:Ext w w')(hrun:(qy a.eval o).run P w= .ok (.value v) w'):lj P o (cls P o) a w k:=by rw[hc];exact⟨v,w',hrun,hx,hk⟩
theorem eV{o:qx}{a:Act}{w w':W}{k:V->W->Prop}(hc:cls P o= .other){v:V}(hk:k v w')(hrun:(qy a.eval o).run P w= .ok (.value v) w'):lj P o (cls P o) a w k:=by rw[hc];exact .inl ⟨v,w',hrun,hk⟩
theorem u9{o:qx}{a:Act}{w w':W}{k:V->W->Prop}(hc:cls P o= .other)(hk:k undef w')(hrun:(qy a.eval o).run P w= .ok .skip w'):lj P o (cls P o) a w k:=by rw[hc];exact .inr (.inl ⟨w',hrun,hk⟩)
theorem Ia (hn:∀(f:S) (fn:Func),P.funcs[f]?=X fn->(fn.name== "runtime.NumGoroutine")=qd) {rest:J qx} {o:qx} {n:S} {e:Env} {a:Act} {w:W} {k:V->W->Prop}
  (hr:Rel ds n e a) (h:QZ P rest o e w k):lj P o (cls P o) a w k:=by
 unfold QZ at h;split at h
 .rename_i x hop
  split at h
  .rename_i v hv;exact bZ (by simp[cls,hop]) h λw'=>by simp[qy,hop,hr.ev hv]
  .exact h.elim
 .rename_i x hop
  split at h
  .rename_i v hv;exact bZ (by simp[cls,hop]) h λw'=>by simp[qy,hop,hr.ev hv]
  .exact h.elim
 .rename_i c x y hop
  split at h
  .rename_i hc
   split at h
   .rename_i v hv;exact bZ (by simp[cls,hop]) h λw'=>by simp[qy,hop,hr.ev hv,hr.ev hc,asBool]
   .exact h.elim
  .rename_i hc
   split at h
   .rename_i v hv;exact bZ (by simp[cls,hop]) h λw'=>by simp[qy,hop,hr.ev hv,hr.ev hc,asBool]
   .exact h.elim
  .exact h.elim
 .rename_i t x hop
  split at h
  .rename_i v hv;exact kK (by simp[cls,hop]) h (Ext.alloc _ _) (by simp[qy,hop,hr.ev hv,Instr.box,newVar,newRow])
  .exact h.elim
 .rename_i t hop
  split at h
  .rename_i z hz
   obtain⟨v,i,hi,hv,hrun⟩:=vk hz;subst hv;exact kK (by simp[cls,hop]) h (Ext.alloc _ _) (by simp[qy,hop,Instr.alloc,newVar,newRow,hrun])
  .exact h.elim
 .rename_i t ps hop
  cases hok:tj P t<;>rw[hok]at h<;>simp only[T1,T4,qq,qv]at h
  have h:=uC hr _ _ h;split at h
  .rename_i z hz
   split at h
   .rename_i cs hcs
    refine bZ (by simp[cls,hop]) h λw'=>?_;have hm:(ps.map λ(x:S × qD)=>(x.1,a.eval x.2))=(ps.toList.map λ(x:S × qD)=>(x.1,a.eval x.2)).toArray:=by apply Ve;simp
    simp only[qy,hop,Sem.run_bind];rw[hm,Hy hok hz hcs];rfl
   .exact h.elim
  .exact h.elim
 .rename_i t len ps hop
  have h:=uC hr _ _ h;split at h
  .rename_i el hu
   split at h
   .rename_i z hz
    cases hb:(U2 (len*sz P el) 1000&&TA z.length (sz P el)&&U2 1 (sz P el))<;>rw[hb]at h<;>simp only[qq,qv]at h
    have hm:(ps.map λ(x:S × qD)=>(x.1,a.eval x.2))=(ps.toList.map λ(x:S × qD)=>(x.1,a.eval x.2)).toArray:=by apply Ve;simp
    cases ho:H9 P el<;>rw[ho]at h<;>simp only[qq,qv]at h
    rotate_left
    .split at h
     .rename_i cs hcs
      obtain⟨h,hf⟩:=xU hcs h;refine kK (by simp[cls,hop]) h (Ext.alloc _ _) ?_;simp only[qy,hop,Sem.run_bind];have h1:=MO ho;rw[hm,oL hu hz hb (cs:=cs) (by rw[h1,Vg];simpa only[Vg]using hf)];rfl
     .exact h.elim
    split at h
    .rename_i cs hcs
     refine kK (by simp[cls,hop]) h (Ext.alloc _ _) ?_;have hm:(ps.map λ(x:S × qD)=>(x.1,a.eval x.2))=(ps.toList.map λ(x:S × qD)=>(x.1,a.eval x.2)).toArray:=by apply Ve;simp
     simp only[qy,hop,Sem.run_bind];rw[hm,oL hu hz hb hcs];rfl
    .exact h.elim
   .exact h.elim
  .exact h.elim
 .rename_i t x hop
  split at h
  .rename_i p hp
   obtain⟨v,hk,hrun⟩:=pd h;rw[show cls P o= .read from by simp[cls,hop]];exact⟨v,λw' hw=>by simp[qy,hop,hr.ev hp,Instr.loadAt,Instr.sureAddr,hrun w' hw],hk⟩
  .exact h.elim
 .rename_i t x y hop
  split at h
  .rename_i p v hp hv
   obtain⟨w',hrun,hk⟩:=Cf h;exact u9 (by simp[cls,hop]) hk (by simp[qy,hop,hr.ev hp,hr.ev hv,Instr.storeAt,Instr.sureAddr,hrun])
  .exact h.elim
 .rename_i x hop
  split at h
  .rename_i p hp
   obtain⟨b,rfl,hk⟩:=h;exact bZ (by simp[cls,hop]) hk λw'=>by simp[qy,hop,hr.ev hp]
  .rename_i f x y hp
   exact bZ (by simp[cls,hop]) h λw'=>by simp[qy,hop,hr.ev hp]
  .exact h.elim
 .rename_i s x f hop
  split at h
  .rename_i p ft off hp hf
   cases hb:TA (sz P ft) 0<;>rw[hb]at h<;>simp only[qq,qv]at h
   exact bZ (by simp[cls,hop]) h λw'=>by simp[qy,hop,hr.ev hp,HE hf hb]
  .exact h.elim
 .rename_i s x f hop
  split at h
  .rename_i cs ft off hp hf
   obtain⟨v,hk,hrun⟩:=Fk hf h;exact bZ (by simp[cls,hop]) hk λw'=>by simp[qy,hop,hr.ev hp,hrun]
  .exact h.elim
 .rename_i t x i hop
  split at h
  .rename_i len el p _ m hu hx hi
   cases hb:TA (sz P el) 0<;>rw[hb]at h<;>simp only[qq,qv]at h
   exact bZ (by simp[cls,hop]) h.2.2 λw'=>by simp[qy,hop,hr.ev hx,hr.ev hi,HN hu hb h.1 h.2.1]
  .rename_i el p len _ _ m hu hx hi
   cases hb:TA (sz P el) 0<;>rw[hb]at h<;>simp only[qq,qv]at h
   obtain⟨b,rfl,h0,h1,hk⟩:=h;exact bZ (by simp[cls,hop]) hk λw'=>by simp[qy,hop,hr.ev hx,hr.ev hi,EZ hu hb h0 h1]
  .exact h.elim
 .rename_i t x i hop
  split at h
  .rename_i len el cs _ m hu hx hi
   cases hb:TA (sz P el) 0<;>rw[hb]at h<;>simp only[qq,qv]at h
   obtain⟨h0,h1,h⟩:=h;obtain⟨v,hk,hrun⟩:=DA h;obtain⟨_,hs⟩:=AQ hb;exact bZ (by simp[cls,hop]) hk λw'=>by simp[qy,hop,hr.ev hx,hr.ev hi,Instr.index,asIntOf,bf hu,h0,h1,hs,hrun]
  .rename_i s _ m hu hx hi
   obtain⟨b,⟨h0,x,h1,h2⟩,hk⟩:=h;subst h2;exact bZ (by simp[cls,hop]) hk λw'=>by simp[qy,hop,hr.ev hx,hr.ev hi,Instr.index,asIntOf,bf hu,h0,h1]
  .exact h.elim
 .rename_i op t x y yt hop
  split at h
  .rename_i vx vy hx hy
   obtain⟨v,hk,hrun⟩:=EL h;refine bZ (by simp[cls,hop]) hk λw'=>?_;simp only[qy,hop,hr.ev hx,hr.ev hy];rw[Sem.run_bind,hrun];rfl
  .exact h.elim
 .rename_i op t x hop
  split at h
  .rename_i v hx
   obtain⟨u,hk,hrun⟩:=IY (P:=P) h;exact bZ (by simp[cls,hop]) hk λw'=>by simp[qy,hop,hr.ev hx,hrun]
  .exact h.elim
 .rename_i s d x hop
  unfold Jh at h;split at h
  .exact h.elim
  rename_i ds hs;split at h
  .rename_i j _ m hu hx
   exact bZ (by cases ds<;>simp[cls,hop,hs,hu]) h λw'=>by simp[qy,hop,hr.ev hx,convert,bf hs,bf hu,Conv.intToInt]
  .rename_i a l c hu hx
   split at h
   .rename_i el hs2
    obtain⟨b,h1,h2⟩:=h;unfold Jm at h1;exact eV (by simp[cls,hop,hs2,hu]) h2 (by simp[qy,hop,hr.ev hx,h1])
   .exact h.elim
  .exact h.elim
 .rename_i fn xs ys hop
  have h:=pT hr _ _ h;have h:=pT hr _ _ h;refine bZ (by simp[cls,hop]) h λw'=>?_;simp only[qy,hop,Instr.makeFunc];have h1:xs.map a.eval=⟨xs.toList.map a.eval⟩:=by apply Ve;simp
  have h2:ys.map a.eval=⟨ys.toList.map a.eval⟩:=by apply Ve;simp
  rw[h1,h2];rfl
 .rename_i t hop
  exact kK (by simp[cls,hop]) h (Ext.alloc _ _) (by simp[qy,hop,Instr.makeMap])
 .rename_i t l c hop
  split at h
  .rename_i x y hx hy
   obtain⟨s,w',hrun,hk⟩:=h;unfold sU at hrun;exact eV (by simp[cls,hop]) hk (by simp[qy,hop,hr.ev hx,hr.ev hy,hrun])
  .exact h.elim
 .rename_i t x lo hi mx hop
  split at h
  .rename_i el b len cap hu hx
   cases hb:TA (sz P el) 0<;>rw[hb]at h<;>simp only[qq,qv]at h
   obtain⟨v,hk,hrun⟩:=IP (k:=λv=>k v w) hr hu hb h;exact bZ (by simp[cls,hop]) hk λw'=>by simp[qy,hop,hr.ev hx,hrun]
  .rename_i len el b hu hx
   cases hb:TA (sz P el) 0<;>rw[hb]at h<;>simp only[qq,qv]at h
   obtain⟨v,hk,hrun⟩:=FZ (k:=λv=>k v w) hr hu hb h;exact bZ (by simp[cls,hop]) hk λw'=>by simp[qy,hop,hr.ev hx,hrun]
  .rename_i s hu hx
   cases mx with
   |some _=>exact h.elim
   |none=>
    obtain⟨l',h',m',hk,hrun⟩:=mZ (P:=P) (is:=qd) hr h;refine bZ (by simp[cls,hop]) hk λw'=>?_;have h1:=hrun w';simp only[Option.map_none]at h1;have h2:(Instr.sliceAt t (.string s) (lo.map a.eval) (hi.map a.eval) Q).run P w'= .ok (.string (s.extract l' h')) w':=by unfold Instr.sliceAt;rw[Sem.run_bind,bf hu];simp only[Result.andThen_ok,Instr.slice];rw[Sem.run_bind,bf hu];simp[h1]
    simp[qy,hop,hr.ev hx,h2]
  .exact h.elim
 .rename_i t x i ok hop
  split at h
  .rename_i kt el m key hu hx hi
   obtain⟨v,h⟩:=wB h;cases ok<;>simp only[qq,qv]at h
   .obtain ⟨h1,h2⟩:=h
    unfold F9 at h1;exact eV (by simp[cls,hop]) h2 (by simp[qy,hop,hr.ev hx,hr.ev hi,h1])
   .obtain ⟨b,h1,h2⟩:=h
    unfold Ev at h1;exact eV (by simp[cls,hop]) h2 (by simp[qy,hop,hr.ev hx,hr.ev hi,h1])
  .exact h.elim
 .rename_i t m i x hop
  split at h
  .rename_i vm vi vx hm hi hx
   obtain⟨w',hrun,hk⟩:=h;unfold za at hrun;exact u9 (by simp[cls,hop]) hk (by simp[qy,hop,hr.ev hx,hr.ev hi,hr.ev hm,hrun])
  .exact h.elim
 .rename_i t m i x hop
  split at h
  .rename_i vm vi vx hm hi hx
   obtain⟨w',hrun,hk⟩:=h;unfold za at hrun;exact u9 (by simp[cls,hop]) hk (by simp[qy,hop,hr.ev hx,hr.ev hi,hr.ev hm,hrun])
  .exact h.elim
 .rename_i t x hop
  split at h
  .rename_i v hv
   obtain⟨b,w',hrun,hk⟩:=h;unfold AY at hrun;exact eV (by simp[cls,hop]) hk (by simp[qy,hop,hr.ev hv,hrun])
  .exact h.elim
 .rename_i x b hop
  split at h
  .rename_i v hv
   obtain⟨y,l,w',hrun,hk⟩:=h;unfold Ga at hrun;exact eV (by simp[cls,hop]) hk (by simp[qy,hop,hr.ev hv,hrun])
  .exact h.elim
 .rename_i x hop
  split at h
  .rename_i v hv
   obtain⟨u,h⟩:=wB h;obtain⟨v',h1,h2⟩:=wB h;unfold AW at h1;exact eV (by simp[cls,hop]) h2 (by simp[qy,hop,hr.ev hv,h1])
  .exact h.elim
 .rename_i x i hop
  split at h
  .rename_i vs hv
   split at h
   .rename_i v hi
    rw[dY,Ts]at hi;exact bZ (by simp[cls,hop]) h λw'=>by simp[qy,hop,hr.ev hv,Instr.extract,hi]
   .exact h.elim
  .exact h.elim
 .rename_i c hop
  have h:=pT hr _ _ h;have hargs:c.args.map a.eval=⟨c.args.toList.map a.eval⟩:=by apply Ve;simp
  split at h
  .rename_i f hcal
   have hc:cls P o= .other:=by simp[cls,hop,hcal]
   cases hb:Gu P f with
   |false=>
    rw[hb,qv]at h;obtain⟨v,w',h1,h2⟩:=J3 h;rw[hc];refine .inl ⟨v,w',?_,h2⟩;simp only[qy,hop,resolve,hcal,Sem.run_bind,hargs,Act.eval,Deferred.ofValue,Sem.run_pure,Result.andThen_ok,invoke,Xf,Xe];exact h1
   |true=>
   rw[hb,qq]at h;obtain⟨h1,h2⟩:=zT hn h;rw[hc];refine .inr (.inr ⟨f,_,?_,h2⟩);simp only[qy,hop,resolve,hcal,Sem.run_bind,hargs,Act.eval,Deferred.ofValue,Sem.run_pure,Result.andThen_ok,invoke,Xf,Xe];exact h1
  .rename_i f hne hcal
   split at h
   .rename_i fv hf
    obtain⟨id,first,cap,rfl,h⟩:=h;obtain⟨h1,h2⟩:=zT (t:=o.type) (k:=k) hn h;have hc:cls P o= .other:=by simp[cls,hop,hcal]
    rw[hc];refine .inr (.inr ⟨id,_,?_,h2⟩);simp only[qy,hop,resolve,hcal,Sem.run_bind,hargs,hr.ev hf,Deferred.ofValue,Sem.run_pure,Result.andThen_ok,invoke];exact h1
   .exact h.elim
  .rename_i b hcal
   obtain⟨v,w',hk,hrun⟩:=CU h;have hts:(⟨c.argTypes.toList⟩:qw qi)=c.argTypes:=by cases c.argTypes;rfl
   rw[hts]at hrun;have hx:(qy a.eval o).run P w= .ok (.value v) w':=by simp only[qy,hop,resolve,hcal,Sem.run_bind,hargs,Sem.run_pure,Result.andThen_ok,invoke];exact hrun _
   have hpure:(b= .cap\/b= .max\/b= .min\/(b= .len/\∀ta,c.argTypes.toList= [ta]->∀x y,P.underlying ta≠X (.map x y)))->∃v,k v w/\∀w',(qy a.eval o).run P w'= .ok (.value v) w':=by intro hb;obtain⟨v,h1,h2⟩:=fL hb h;rw[hts]at h2;refine⟨v,h1,λw'=>?_⟩;simp only[qy,hop,resolve,hcal,Sem.run_bind,hargs,Sem.run_pure,Result.andThen_ok,invoke];exact h2 _ _
   cases b
   case cap=>obtain⟨v,h1,h2⟩:=hpure (.inl O);exact bZ (by simp[cls,hop,hcal]) h1 h2
   case max=>obtain⟨v,h1,h2⟩:=hpure (.inr (.inl O));exact bZ (by simp[cls,hop,hcal]) h1 h2
   case min=>obtain⟨v,h1,h2⟩:=hpure (.inr (.inr (.inl O)));exact bZ (by simp[cls,hop,hcal]) h1 h2
   case len=>
    by_cases hm:∀ta,c.argTypes.toList= [ta]->∀x y,P.underlying ta≠X (.map x y)
    .obtain ⟨v,h1,h2⟩:=hpure (.inr (.inr (.inr ⟨O,hm⟩)))
     have hx2:=h2 w;cases hts2:c.argTypes.toList with
     |nil=>exact eV (by simp[cls,hop,hcal,hts2]) h1 (h2 w)
     |cons ta tl=>
      cases tl with
      |cons _ _=>exact eV (by simp[cls,hop,hcal,hts2]) h1 (h2 w)
      |nil=>
       refine bZ ?_ h1 h2;have:=hm ta hts2;simp only[cls,hop,hcal,hts2]
       try (split;(rename_i x y hu;exact qk hu (this x y)))
    .obtain ⟨ta,hta,x,y,hu⟩:∃ta,c.argTypes.toList= [ta]/\∃x y,P.underlying ta=X (.map x y):=by simp only[Classical.not_forall,Classical.not_not]at hm;obtain⟨ta,hta,x,y,hu⟩:=hm;exact⟨ta,hta,x,y,hu⟩
     exact eV (by simp[cls,hop,hcal,hta,hu]) hk hx
   all_goals exact eV (by simp[cls,hop,hcal]) hk hx
  .exact h.elim
 .exact h.elim
theorem oH(m t:S):bit m t=m.testBit t:=by
 unfold bit;have h1:W0 (Nat.shiftRight m t) 1=m / 2^t%2:=by show(m >>> t) &&& 1=_;rw[Nat.and_one_is_mod,Nat.shiftRight_eq_div_pow]
 rw[h1,Nat.testBit_eq_decide_div_mod_eq];have:m / 2^t%2<2:=VU _ om;generalize m / 2^t%2=x at*
 match x,this with
 |0,_=>rfl
 |1,_=>rfl
theorem fK(a b t:S):bit (T0 a b) t=(bit a t||bit b t):=by rw[oH,oH,oH];exact Nat.testBit_or a b t
theorem mB(d t:S):bit (TJ 1 d) t=(t==d):=by
 rw[oH];show Nat.testBit (1 <<< d) t=_;rw[Nat.one_shiftLeft,Nat.testBit_two_pow];by_cases h:d=t
 .subst h;simp
 .simp[h];exact λe=>h e.symm
theorem oI(t:S):bit 0 t=false:=by rw[oH];simp
theorem Mf(d t:S):bit (Rh (X d)) t=(t==d):=mB d t
def gB(m:S)(a0 a:Act):Prop:=∀t,bit m t=qd->a.tmps.getD t undef=a0.tmps.getD t undef
theorem gB.refl(m:S)(a:Act):gB m a a:=λ_ _=>rfl
theorem gB.trans{m:S}{a b c:Act}(h:gB m a b)(h':gB m b c):gB m a c:=λt ht=>(h' t ht).trans (h t ht)
theorem gB.mono{m m':S}{a b:Act}(h:gB m a b)(hm:∀t,bit m t=G->bit m' t=G):gB m' a b:=λt ht=>h t (by
 cases hb:bit m t with
 |false=>rfl
 |true=>rw[hm t hb]at ht;cases ht)
theorem gB.put{m:S}{a0 a:Act}(h:gB m a0 a){d:qg S}(hd:∀x,d=X x->bit m x=G)(v:V):gB m a0 (a.put d v):=λt ht=>by
 cases d with
 |none=>exact h t ht
 |some d=>
  have hne:t≠d:=λe=>by subst e;rw[hd t O]at ht;cases ht
  rw[<-h t ht];simp only[Act.put,Ua];rw[UE (λe=>hne e.symm)]
theorem C9{ops:qw qx}{o:qx}{n:S}{e:Env}{a:Act}(hr:Rel ds n e a){run skip:Prop}(h:guarded ops.toList o e run skip):
  (Region.wanted o (yielded ops a.tmps)=G/\run)\/(Region.wanted o (yielded ops a.tmps)=qd/\skip):=by
 unfold guarded at h;split at h
 .rename_i hg;exact .inl ⟨by simp[Region.wanted,hg],h⟩
 .rename_i j want hg
  split at h
  .rename_i g hj
   rw[dY,Ts]at hj;split at h
   .rename_i d hd
    have hy:yielded ops a.tmps j=(match a.tmps[d]? with|some (.bool b)=>X b|_=>Q):=by simp only[yielded,hj,V9,hd];rfl
    split at h
    .rename_i b hb
     have hv:=hr.2.2 d _ hb;have h1:a.tmps[d]?=X (.bool b):=by
      rw[Ua]at hv;cases hx:a.tmps[d]? with
      |none=>rw[hx]at hv;simp[undef]at hv
      |some v=>rw[hx]at hv;simp at hv;rw[hv]
     rw[h1]at hy;have hw:Region.wanted o (yielded ops a.tmps)=(X b==X want):=by simp[Region.wanted,hg,hy]
     rw[hw];cases b<;>cases want<;>simp at h|-<;>exact h
    .rename_i vs hb
     have hv:=hr.2.2 d _ hb;refine .inr ⟨?_,h⟩;have h1:yielded ops a.tmps j=none:=by
      rw[hy];rw[Ua]at hv;cases hx:a.tmps[d]? with
      |none=>rfl
      |some v=>rw[hx]at hv;simp at hv;rw[hv]
     simp[Region.wanted,hg,h1]
    .exact h.elim
   .exact h.elim
  .exact h.elim
theorem IS{b:I}{v:V}{k:V->Prop}(h:split b v k):k v:=by
 unfold split at h;cases b with
 |false=>exact h
 |true=>
  cases v<;>first|exact h|skip
  rename_i x;cases x<;>exact h
def uR(P:qo)(ops:qw qx)(i:S)(K:Act->W->Prop)(a:Act)(w:W):Prop:=
 ∃o,ops[i]?=X o/\((Region.wanted o (yielded ops a.tmps)=G/\lj P o (cls P o) a w (λv w'=>K (a.put o.dst v) w'))\/
  (Region.wanted o (yielded ops a.tmps)=qd/\K (a.put o.dst undef) w))
theorem uR.mono{ops:qw qx}{i:S}{K K':Act->W->Prop}{a:Act}{w:W}(h:uR P ops i K a w)(hk:∀a w,K a w->K' a w):uR P ops i K' a w:=by
 obtain⟨o,ho,h⟩:=h;refine⟨o,ho,?_⟩;rcases h with⟨h1,h2⟩|⟨h1,h2⟩
 .exact .inl ⟨h1,h2.mono λ_ _ h=>hk _ _ h⟩
 .exact .inr ⟨h1,hk _ _ h2⟩
theorem uR.wpOp{ops:qw qx}{i:S}{K:Act->W->Prop}{alf:Exit->Act->W->Prop}{a:Act}{w:W}(h:uR P ops i K a w):wpOp P ops alf i K a w:=by
 obtain⟨o,ho,h⟩:=h;unfold Go.wpOp;simp only[ho];rcases h with⟨h1,h2⟩|⟨h1,h2⟩
 .simp only[h1,qE]
  refine .inl ?_;unfold Oper.wp;generalize cls P o=c at h2;cases c with
  |pure=>obtain⟨v,h3,h4⟩:=h2;rw[h3];exact h4
  |read=>obtain⟨v,h3,h4⟩:=h2;rw[h3 w (Ext.refl w)];exact h4
  |alloc=>obtain⟨v,w',h3,h4,h5⟩:=h2;rw[h3];exact h5
  |other=>
   rcases h2 with⟨v,w',h3,h4⟩|⟨w',h3,h4⟩|⟨f,args,h3,h4⟩
   .rw[h3];exact h4
   .rw[h3];exact h4
   .rw[h3]
    refine h4.mono ?_;rintro en w' ⟨v,rfl,hK⟩;exact hK
 .simp only[h1,SX,qB];exact h2
def At(ds:J Deferred)(n m:S)(a0:Act)(N:Env->W->Prop)(a:Act)(w:W):Prop:=gB m a0 a/\∃e,Rel ds n e a/\N e w
theorem vM (hn:∀(f:S) (fn:Func),P.funcs[f]?=X fn->(fn.name== "runtime.NumGoroutine")=qd) {ops:qw qx} {rest:J qx} {gm i n m:S} {o:qx} {N:Env->W->Prop} {e:Env} {a a0:Act} {w:W}
  (ho:ops[i]?=X o) (hd:∀x,o.dst=X x->x<n/\bit m x=G) (hr:Rel ds n e a) (hk:gB m a0 a) (h:D3 P ops.toList rest gm i o N e w):
  uR P ops i (At ds n m a0 N) a w:=by
 refine⟨o,ho,?_⟩;rcases C9 hr h with⟨h1,h2⟩|⟨h1,h2⟩
 .refine .inl ⟨h1,(Ia hn hr h2).mono λv w' h=>?_⟩
  exact⟨hk.put (λx hx=>(hd x hx).2) v,_,hr.put (λx hx=>(hd x hx).1) v,IS h⟩
 .exact .inr ⟨h1,hk.put (λx hx=>(hd x hx).2) _,_,hr.put (λx hx=>(hd x hx).1) _,h2⟩
def pW(n:S):J qx->I
 | []=>G
 |o::l=>(match o.dst with|some d=>Nat.blt d n|none=>G)&&pW n l
theorem vu{n:S}:∀{l:J qx},pW n l=G->∀(i:S)(o:qx),l[i]?=X o->∀x,o.dst=X x->x<n/\bit (Mm l) x=G
 | [],_,i,o,h,_,_=>by simp at h
 |p::l,hf,0,o,h,x,hx=>by simp only[TI,Option.some.injEq]at h;subst h;simp only[pW,hx,S4]at hf;refine⟨UI hf.1,?_⟩;simp only[Mm,fK,hx,Mf];simp
 |p::l,hf,i+1,o,h,x,hx=>by simp only[pW,S4]at hf;have:=vu hf.2 i o (by simpa using h) x hx;refine⟨this.1,?_⟩;simp only[Mm,fK,this.2,U5]
theorem Az (hn:∀(f:S) (fn:Func),P.funcs[f]?=X fn->(fn.name== "runtime.NumGoroutine")=qd) {ops:qw qx} {gm n m:S} {N:Env->W->Prop} {a0:Act} {alf:Exit->Act->W->Prop}
  (hd:∀(i:S)(o:qx),ops[i]?=X o->∀x,o.dst=X x->x<n/\bit m x=G) (hQ:∀a w,At ds n m a0 N a w->alf .normal a w):
  ∀(l:J qx)(i:S),(∀(j:S)(o:qx),l[j]?=X o->ops[i+j]?=X o)->∀(e:Env)(a:Act)(w:W),Rel ds n e a->gB m a0 a->opsV P ops.toList gm l i N e w->
   wpOps P ops alf (List.range' i l.length) a w
 | [],i,_,e,a,w,hr,hk,h=>hQ a w ⟨hk,e,hr,h⟩
 |o::l,i,hl,e,a,w,hr,hk,h=>by
  have ho:ops[i]?=X o:=hl 0 o qc;rw[SJ,List.range'_succ,wpOps_cons];refine((vM hn ho (hd i o ho) hr hk h).mono λa' w'⟨hk',e',hr',h'⟩=>?_).wpOp;exact Az hn hd hQ l (i+1) (λj o hj=>by have:=hl (j+1) o (by simpa using hj);rw[show i+1+j=i+(j+1)from by omega];exact this) e' a' w' hr' hk' h'
theorem lT{P:qo}{o:qx}{c:Nl}{a a':Act}{w:W}{K:V->W->Prop}(h:qy a'.eval o=qy a.eval o)(hs:lj P o c a w K):lj P o c a' w K:=by cases c<;>simp only[lj,h]at hs|-<;>exact hs
def nS(o:qx):I:=match o.op with| .select _ _=>qd|_=>G
theorem rh{o:qx}(h:nS o=G):∀cs b,o.op≠ .select cs b:=λcs b e=>by simp[nS,e]at h
def oO:Nl->Nl->I
 | .pure,_=>G
 | .read,.pure=>G
 | .read,.read=>G
 | .read,.alloc=>G
 |_,_=>qd
theorem KQ{P:qo}{ops:qw qx}{i j:S}{x y:qx}(hx:ops[i]?=X x)(hy:ops[j]?=X y)(hap:x.apart ops y=G)(hsx:nS x=G)(hsy:nS y=G)
  (hc:oO (cls P x) (cls P y)=G) {K:Act->W->Prop} {a:Act} {w:W} (h:uR P ops i (uR P ops j K) a w):uR P ops j (uR P ops i K) a w:=by
 obtain⟨h1,h2,h3⟩:=Oper.apart_spec hap;obtain⟨x',hx',h⟩:=h;obtain rfl:x=x':=by rw[hx]at hx';simpa using hx'
 have exX:∀(a:Act)u,qy (a.put y.dst u).eval x=qy a.eval x:=λa u=>execOp_put x (rh hsx) a y.dst u h3;have exY:∀(a:Act)u,qy (a.put x.dst u).eval y=qy a.eval y:=λa u=>execOp_put y (rh hsy) a x.dst u h1;have waX:∀(a:Act)u,Region.wanted x (yielded ops (a.put y.dst u).tmps)=Region.wanted x (yielded ops a.tmps):=λa u=>wanted_put x a y.dst u h3;have waY:∀(a:Act)u,Region.wanted y (yielded ops (a.put x.dst u).tmps)=Region.wanted y (yielded ops a.tmps):=λa u=>wanted_put y a x.dst u h1;have cm:∀(a:Act)u v,(a.put x.dst u).put y.dst v=(a.put y.dst v).put x.dst u:=λa u v=>Act.put_comm a u v h2;refine⟨y,hy,?_⟩;rcases h with⟨hw,h⟩|⟨hw,h⟩
 .generalize hcx:cls P x=cx at hc h
  cases cx with
  |alloc=>simp[oO]at hc
  |other=>simp[oO]at hc
  |pure=>
   obtain⟨v,hv,y',hy',h⟩:=h;obtain rfl:y=y':=by rw[hy]at hy';simpa using hy'
   rw[waY]at h;have fin:∀u w',K ((a.put x.dst v).put y.dst u) w'->uR P ops i K (a.put y.dst u) w':=λu w' hK=>by refine⟨x,hx,.inl ⟨by rw[waX];exact hw,?_⟩⟩;rw[hcx];exact⟨v,λw''=>by rw[exX];exact hv w'',by show K _ _;rw[<-cm];exact hK⟩
   rcases h with⟨hwy,h⟩|⟨hwy,h⟩
   .exact .inl ⟨hwy,(lT (exY a v).symm h).mono fin⟩
   .exact .inr ⟨hwy,fin _ _ h⟩
  |read=>
   obtain⟨v,hv,y',hy',h⟩:=h;obtain rfl:y=y':=by rw[hy]at hy';simpa using hy'
   rw[waY]at h;have fin:∀u w',Ext w w'->K ((a.put x.dst v).put y.dst u) w'->uR P ops i K (a.put y.dst u) w':=λu w' hE hK=>by refine⟨x,hx,.inl ⟨by rw[waX];exact hw,?_⟩⟩;rw[hcx];exact⟨v,λw'' hE'=>by rw[exX];exact hv w'' (hE.trans hE'),by show K _ _;rw[<-cm];exact hK⟩
   have hne:cls P y≠ .other:=λe=>by rw[e]at hc;simp[oO]at hc
   rcases h with⟨hwy,h⟩|⟨hwy,h⟩
   .exact .inl ⟨hwy,(lT (exY a v).symm h).Dw hne fin⟩
   .exact .inr ⟨hwy,fin _ _ (Ext.refl w) h⟩
 .obtain ⟨y',hy',h⟩:=h
  obtain rfl:y=y':=by rw[hy]at hy';simpa using hy'
  rw[waY]at h;rcases h with⟨hwy,h⟩|⟨hwy,h⟩
  .refine .inl ⟨hwy,?_⟩
   refine(lT (exY a undef).symm h).mono λu w' hK=>?_;exact⟨x,hx,.inr ⟨by rw[waX];exact hw,by rw[<-cm];exact hK⟩⟩
  .exact .inr ⟨hwy,x,hx,.inr ⟨by rw[waX];exact hw,by rw[<-cm];exact h⟩⟩
def add(L:S->I)(i:S):S->I:=λt=>t==i||L t
def yZ(ops:qw qx)(L:S->I)(i:S):Prop:=∃o,ops[i]?=X o/\L i=qd/\∀x∈o.after.toList,Region.binds .any x=G->L x.on=G
def Ou(P:qo)(ops:qw qx)(F:Act->W->Prop):S->(S->I)->Act->W->Prop
 |0,L,a,w=>(∀i,¬yZ ops L i)/\F a w
 |f+1,L,a,w=>((∀i,¬yZ ops L i)->F a w)/\∀i,yZ ops L i->uR P ops i (Ou P ops F f (add L i)) a w
theorem uX{ops:qw qx}{listed:qw I}{L:S->I}(hs:listed.size=ops.size)(hL:∀t,listed.getD t qd=L t)(i:S):i∈Region.ready .any ops listed↔yZ ops L i:=by
 unfold Region.ready yZ;rw[List.mem_filter,List.mem_range];have hd:∀t,t<ops.size->listed.getD t G=L t:=λt ht=>by
  rw[<-hL];have:t<listed.size:=om
  simp[this]
 constructor
 .rintro ⟨h1,h2⟩
  rw[Wz h1]at h2;simp only[TM,TR,S4,V5]at h2;refine⟨_,Wz h1,?_,λx hx hb=>?_⟩
  .rw[<-hd i h1];simpa using h2.1
  .have:=h2.2 x (W5.2 hx)
   rw[hb,hL]at this;simpa using this
 .rintro ⟨o,h1,h2,h3⟩
  have hi:i<ops.size:=(Te.1 h1).1;refine⟨hi,?_⟩;rw[h1];simp only[TM,TR,S4,V5];refine⟨by rw[hd i hi,h2];rfl,λx hx=>?_⟩;rw[hL];cases hb:Region.binds .any x with
  |false=>rfl
  |true=>rw[h3 x (W5.1 hx) hb];rfl
theorem xK{P:qo}{ops:qw qx}{F:Act->W->Prop}{alf:Exit->Act->W->Prop}(hQ:∀a w,F a w->alf .normal a w):
  ∀(f:S)(listed:qw I)(L:S->I)(a:Act)(w:W),listed.size=ops.size->(∀t,listed.getD t qd=L t)->Ou P ops F f L a w->wpAny P .any ops alf f listed a w
 |0,listed,L,a,w,hs,hL,h=>by
  refine⟨?_,hQ _ _ h.2⟩;cases hr:Region.ready .any ops listed with
  |nil=>rfl
  |cons x xs=>exact qk ((uX hs hL x).1 (by rw[hr];simp)) (h.1 x)
 |f+1,listed,L,a,w,hs,hL,h=>by
  refine⟨λhr=>hQ _ _ (h.1 λi hi=>by have:=(uX hs hL i).2 hi;rw[hr]at this;simp at this),λi hi=>?_⟩;have hri:=(uX hs hL i).1 hi;have hlt:i<ops.size:=by obtain⟨o,h1,_⟩:=hri;exact(Te.1 h1).1
  refine((h.2 i hri).mono λa' w' h'=>?_).wpOp;refine xK hQ f _ (add L i) a' w' (by simp[hs]) (λt=>?_) h';simp only[add,Ua];rw[Wr];by_cases e:i=t
  .subst e;simp[hs,hlt]
  .rw[Y e,<-hL t,Ua]
   have:(t==i)=false:=by simpa using λh=>e h.symm
   rw[this];rfl
def O7(P:qo)(ops:qw qx)(i:S)(ak5 L:S->I):Prop:=
 ∀(j:S)(y:qx),ops[j]?=X y->L j=qd->j≠i->(∀x∈y.after.toList,Region.binds .any x=G->(L x.on||ak5 x.on)=G)->
  ak5 j=G/\∃x,ops[i]?=X x/\x.apart ops y=G/\nS x=G/\nS y=G/\oO (cls P x) (cls P y)=G
theorem add_comm(L:S->I)(i j:S):add (add L i) j=add (add L j) i:=by funext t;simp only[add];cases t==i<;>cases t==j<;>rfl
theorem uR.some{P:qo}{ops:qw qx}{i:S}{x:qx}{y:qx}{K:Act->W->Prop}{a:Act}{w:W}(hx:ops[i]?=X x)(hc:oO (cls P x) (cls P y)=G)(h:uR P ops i K a w):∃a' w',K a' w':=by
 obtain⟨x',hx',h⟩:=h;obtain rfl:x=x':=by rw[hx]at hx';simpa using hx'
 rcases h with⟨_,h⟩|⟨_,h⟩
 .generalize cls P x=c at hc h
  cases c with
  |pure=>obtain⟨v,_,h⟩:=h;exact⟨_,_,h⟩
  |read=>obtain⟨v,_,h⟩:=h;exact⟨_,_,h⟩
  |alloc=>simp[oO]at hc
  |other=>simp[oO]at hc
 .exact ⟨_,_,h⟩
def gr(P:qo)(ops:qw qx)(F:Act->W->Prop)(ak8:(S->I)->W->Prop):S->(S->I)->Act->W->Prop
 |0,L,a,w=>ak8 L w/\(∀i,¬yZ ops L i)/\F a w
 |f+1,L,a,w=>ak8 L w/\((∀i,¬yZ ops L i)->F a w)/\∀i,yZ ops L i->uR P ops i (gr P ops F ak8 f (add L i)) a w
theorem gr.out{P:qo}{ops:qw qx}{F:Act->W->Prop}{ak8:(S->I)->W->Prop}:∀{f:S}{L:S->I}{a:Act}{w:W},gr P ops F ak8 f L a w->Ou P ops F f L a w
 |0,_,_,_,h=>h.2
 |_+1,_,_,_,h=>⟨h.2.1,λi hi=>(h.2.2 i hi).mono λ_ _ h=>h.out⟩
theorem gr.here{P:qo}{ops:qw qx}{F:Act->W->Prop}{ak8:(S->I)->W->Prop}{f:S}{L:S->I}{a:Act}{w:W}(h:gr P ops F ak8 f L a w):ak8 L w:=by
 cases f with
 |zero=>exact h.1
 |succ f=>exact h.1
theorem gr.mono{P:qo}{ops:qw qx}{F:Act->W->Prop}{ak8 J':(S->I)->W->Prop}:∀{f:S}{L:S->I}{a:Act}{w:W},gr P ops F ak8 f L a w->(∀L w,ak8 L w->J' L w)->gr P ops F J' f L a w
 |0,_,_,_,h,hJ=>⟨hJ _ _ h.1,h.2⟩
 |_+1,_,_,_,h,hJ=>⟨hJ _ _ h.1,h.2.1,λi hi=>(h.2.2 i hi).mono λ_ _ h=>h.mono hJ⟩
theorem JQ{x y:Nl}(h:oO x y=G):x= .pure\/x= .read:=by cases x<;>simp[oO]at h|-
theorem Fe{P:qo}{ops:qw qx}{i:S}{x:qx}{K:Act->W->Prop}{a:Act}{w:W}(hx:ops[i]?=X x)(hc:cls P x= .pure\/cls P x= .read)(h:uR P ops i K a w):∃a',K a' w:=by
 obtain⟨x',hx',h⟩:=h;obtain rfl:x=x':=by rw[hx]at hx';simpa using hx'
 rcases h with⟨_,h⟩|⟨_,h⟩
 .rcases hc with hc|hc<;>rw[hc]at h
  .obtain ⟨v,_,h⟩:=h;exact⟨_,h⟩
  .obtain ⟨v,_,h⟩:=h;exact⟨_,h⟩
 .exact ⟨_,h⟩
theorem C5{P:qo}{ops:qw qx}{F:Act->W->Prop}{ak8:(S->I)->W->Prop}{i:S}{o:qx}{ak5:S->I}(ho:ops[i]?=X o)(hJ:(cls P o= .pure\/cls P o= .read)->∀L w,ak8 (add L i) w->ak8 L w):
  ∀(f:S)(L:S->I)(a:Act)(w:W),yZ ops L i->O7 P ops i ak5 L->ak8 L w->uR P ops i (gr P ops F ak8 f (add L i)) a w->gr P ops F ak8 (f+1) L a w:=by
 intro f;induction f with
 |zero=>
  intro L a w hi hf hJL h;refine⟨hJL,λh0=>qk hi (h0 i),λj hj=>?_⟩;by_cases e:j=i
  .subst e;exact h
  .obtain ⟨y,hy,hLj,hpre⟩:=hj
   obtain⟨_,x,hx,hap,hsx,hsy,hc⟩:=hf j y hy hLj e (λz hz hb=>by rw[hpre z hz hb];rfl);obtain⟨a',w',h'⟩:=h.some hx hc;refine qk ⟨y,hy,?_,λz hz hb=>?_⟩ (h'.2.1 j)
   .simp only[add,hLj,Vr];simpa using e
   .simp only[add,hpre z hz hb,U5]
 |succ f ih=>
  intro L a w hi hf hJL h;refine⟨hJL,λh0=>qk hi (h0 i),λj hj=>?_⟩;by_cases e:j=i
  .subst e;exact h
  .obtain ⟨y,hy,hLj,hpre⟩:=hj
   obtain⟨hU,x,hx,hap,hsx,hsy,hc⟩:=hf j y hy hLj e (λz hz hb=>by rw[hpre z hz hb];rfl);have hj':yZ ops (add L i) j:=⟨y,hy,by simp only[add,hLj,Vr];simpa using e,λz hz hb=>by simp only[add,hpre z hz hb,U5]⟩
   have h2:uR P ops i (uR P ops j (gr P ops F ak8 f (add (add L i) j))) a w:=h.mono λa' w' h'=>h'.2.2 j hj';refine(KQ hx hy hap hsx hsy hc h2).mono λa' w' h'=>?_;rw[add_comm]at h';obtain rfl:o=x:=by rw[ho]at hx;simpa using hx
   have hpr:=JQ hc;obtain⟨a'',h''⟩:=Fe ho hpr h';refine ih (add L j) a' w' ?_ ?_ (hJ hpr _ _ h''.here) h'
   .obtain ⟨x',hx',hLi,hpi⟩:=hi
    exact⟨x',hx',by simp only[add,hLi,Vr];simpa using λh=>e h.symm,λz hz hb=>by simp only[add,hpi z hz hb,U5]⟩
   .intro j' y' hy' hL' hne hp'
    refine hf j' y' hy' ?_ hne (λz hz hb=>?_)
    .simp only[add,We]at hL';exact hL'.2
    .have:=hp' z hz hb
     simp only[add,TV]at this|-;rcases this with (h|h)|h
     .have hz:z.on=j:=by simpa using h
      rw[hz];exact .inr hU
     .exact .inl h
     .exact .inr h
def Nn(ops:qw qx)(i:S)(ak5 L:S->I):Prop:=
 ∀(j:S)(y:qx),ops[j]?=X y->L j=qd->j≠i->(∀x∈y.after.toList,Region.binds .any x=G->(L x.on||ak5 x.on)=G)->
  ak5 j=G/\∃x,ops[i]?=X x/\x.apart ops y=G/\nS x=G/\nS y=G
theorem HH{P:qo}{ops:qw qx}{F:Act->W->Prop}{ak8:(S->I)->W->Prop}{i:S}{o:qx}{ak5 ak6:S->I}{v:V}{E:Sem Next}(ho:ops[i]?=X o)(hg:o.guard=Q)(hcls:cls P o= .read)(hJ:∀L w,ak8 (add L i) w->ak8 L w)
  (hSi:ak6 i=G) (hSU:∀t,ak5 t=G->ak6 t=G):
  ∀(f:S)(L:S->I)(a:Act)(w:W),yZ ops L i->Nn ops i ak5 L->(∀t,L t=G->ak6 t=G)->qy a.eval o=E->(∀w',Ext w w'->E.run P w'= .ok (.value v) w')->
   gr P ops F (λL w=>ak8 L w/\((∀t,L t=G->ak6 t=G)->∀w',Ext w w'->E.run P w'= .ok (.value v) w')) f (add L i) (a.put o.dst v) w->gr P ops F ak8 (f+1) L a w:=by
 intro f;have hwant:∀a:Act,Region.wanted o (yielded ops a.tmps)=true:=λa=>by simp[Region.wanted,hg]
 have now:∀(f:S)(L:S->I)(a:Act)(w:W),qy a.eval o=E->(∀w',Ext w w'->E.run P w'= .ok (.value v) w')->
   gr P ops F (λL w=>ak8 L w/\((∀t,L t=G->ak6 t=G)->∀w',Ext w w'->E.run P w'= .ok (.value v) w')) f (add L i) (a.put o.dst v) w->uR P ops i (gr P ops F ak8 f (add L i)) a w:=by
  intro f L a w hE hHd h;refine⟨o,ho,.inl ⟨hwant a,?_⟩⟩;rw[hcls];exact⟨v,λw' hw'=>by rw[hE];exact hHd w' hw',h.mono λ_ _ h=>h.1⟩
 induction f with
 |zero=>
  intro L a w hi hf hLS hE hHd h;refine⟨hJ _ _ h.here.1,λh0=>qk hi (h0 i),λj hj=>?_⟩;by_cases e:j=i
  .subst e;exact now 0 L a w hE hHd h
  .obtain ⟨y,hy,hLj,hpre⟩:=hj
   refine qk ⟨y,hy,?_,λz hz hb=>?_⟩ (h.2.1 j)
   .simp only[add,hLj,Vr];simpa using e
   .simp only[add,hpre z hz hb,U5]
 |succ f ih=>
  intro L a w hi hf hLS hE hHd h;refine⟨hJ _ _ h.here.1,λh0=>qk hi (h0 i),λj hj=>?_⟩;by_cases e:j=i
  .subst e;exact now (f+1) L a w hE hHd h
  .obtain ⟨y,hy,hLj,hpre⟩:=id hj
   obtain⟨hU,x,hx,hap,hsx,hsy⟩:=hf j y hy hLj e (λz hz hb=>by rw[hpre z hz hb];rfl);obtain rfl:o=x:=by rw[ho]at hx;simpa using hx
   obtain⟨h1,h2,h3⟩:=Oper.apart_spec hap;have hj':yZ ops (add L i) j:=⟨y,hy,by simp only[add,hLj,Vr];simpa using e,λz hz hb=>by simp only[add,hpre z hz hb,U5]⟩
   have hop:=h.2.2 j hj';have exX:∀(a:Act)u,qy (a.put y.dst u).eval o=qy a.eval o:=λa u=>execOp_put o (rh hsx) a y.dst u h3;have exY:∀(a:Act)u,qy (a.put o.dst u).eval y=qy a.eval y:=λa u=>execOp_put y (rh hsy) a o.dst u h1;have waY:∀(a:Act)u,Region.wanted y (yielded ops (a.put o.dst u).tmps)=Region.wanted y (yielded ops a.tmps):=λa u=>wanted_put y a o.dst u h1;have cm:∀(a:Act)u v,(a.put o.dst u).put y.dst v=(a.put y.dst v).put o.dst u:=λa u v=>Act.put_comm a u v h2;have fin:∀u w',gr P ops F (λL w=>ak8 L w/\((∀t,L t=G->ak6 t=G)->∀w',Ext w w'->E.run P w'= .ok (.value v) w')) f (add (add L i) j) ((a.put o.dst v).put y.dst u) w'->gr P ops F ak8 (f+1) (add L j) (a.put y.dst u) w':=by
    intro u w' h';have hS':∀t,add (add L i) j t=G->ak6 t=true:=λt ht=>by
     simp only[add,TV]at ht;rcases ht with ht|ht|ht
     .have:t=j:=by simpa using ht
      rw[this];exact hSU j hU
     .have:t=i:=by simpa using ht
      rw[this];exact hSi
     .exact hLS t ht
    have hHd':=h'.here.2 hS';rw[add_comm,cm]at h';refine ih (add L j) (a.put y.dst u) w' ?_ ?_ ?_ (by rw[exX];exact hE) hHd' h'
    .obtain ⟨x',hx',hLi,hpi⟩:=hi
     exact⟨x',hx',by simp only[add,hLi,Vr];simpa using λh=>e h.symm,λz hz hb=>by simp only[add,hpi z hz hb,U5]⟩
    .intro j' y' hy' hL' hne hp'
     refine hf j' y' hy' ?_ hne (λz hz hb=>?_)
     .simp only[add,We]at hL';exact hL'.2
     .have:=hp' z hz hb
      simp only[add,TV]at this|-;rcases this with (h|h)|h
      .have hz:z.on=j:=by simpa using h
       rw[hz];exact .inr hU
      .exact .inl h
      .exact .inr h
    .intro t ht
     simp only[add,TV]at ht;rcases ht with ht|ht
     .have:t=j:=by simpa using ht
      rw[this];exact hSU j hU
     .exact hLS t ht
   obtain⟨y',hy',hop⟩:=hop;obtain rfl:y=y':=by rw[hy]at hy';simpa using hy'
   refine⟨y,hy,?_⟩;rw[waY]at hop;rcases hop with⟨hw,hop⟩|⟨hw,hop⟩
   .exact .inl ⟨hw,(lT (exY a v).symm hop).mono fin⟩
   .exact .inr ⟨hw,fin _ _ hop⟩
def L1:J Edge->S
 | []=>0
 |x::l=>bif Region.binds .any x then T0 (TJ 1 x.on) (L1 l)else L1 l
theorem ru{a b:S}:sub a b=G↔∀t,bit a t=G->bit b t=true:=by
 unfold sub;constructor
 .intro h t ht
  have h:=TD h;rw[oH]at ht|-;have:(W0 a b).testBit t=true:=by rw[h];exact ht
  have h2:(a &&& b).testBit t=true:=this;rw[XE,S4]at h2;exact h2.2
 .intro h
  have:W0 a b=a:=by
   apply Nat.eq_of_testBit_eq;intro t;show(a &&& b).testBit t=_;rw[XE];cases ha:a.testBit t with
   |false=>rfl
   |true=>have:=h t (by rw[oH];exact ha);rw[oH]at this;rw[this];rfl
  rw[this];exact Xj a
theorem tL(ak5:S->I):∀(l:J Edge),(∀t,bit (L1 l) t=G->ak5 t=G)↔∀x∈l,Region.binds .any x=G->ak5 x.on=G
 | []=>by simp[L1,oI]
 |x::l=>by
  simp only[L1];cases hb:Region.binds .any x with
  |false=>
   simp only[qv,SH,forall_eq_or_imp,hb,SX,false_implies,true_and];exact tL ak5 l
  |true=>
   simp only[qq,SH,forall_eq_or_imp,hb,true_implies];rw[<-tL ak5 l];constructor
   .intro h
    refine⟨h x.on (by rw[fK,mB];simp),λt ht=>h t (by rw[fK,ht,U5])⟩
   .rintro ⟨h1,h2⟩ t ht
    rw[fK,mB,TV]at ht;rcases ht with ht|ht
    .have:t=x.on:=by simpa using ht
     rw[this];exact h1
    .exact h2 t ht
def Ix(all:J qx)(m i:S):I:=match nth all i with|some o=> !bit m i&&sub (L1 o.after.toList) m|none=>qd
theorem tO{ops:qw qx}{m i:S}:Ix ops.toList m i=G↔yZ ops (bit m) i:=by
 unfold Ix yZ;rw[dY,Ts];cases ho:ops[i]? with
 |none=>simp
 |some o=>
  simp only[S4,Option.some.injEq,exists_eq_left',ru,tL (bit m)];simp
def EB:S->(S->I)->I
 |0,_=>G
 |n+1,p=>p n&&EB n p
theorem oC:∀{n:S}{p:S->I},EB n p=G->∀i,i<n->p i=G
 |n+1,p,h,i,hi=>by
  simp only[EB,S4]at h;rcases Wi i n with h'|h'
  .exact oC h.2 i h'
  .have:i=n:=om
   rw[this];exact h.1
def Ny(P:qo)(ops:qw qx)(i u m:S):I:=
 EB ops.toList.length λj=>bit m j||TA j i||(match nth ops.toList i,nth ops.toList j with
  |some x,X y=> !sub (L1 y.after.toList) (T0 m u)||(bit u j&&x.apart ops y&&nS x&&nS y&&oO (cls P x) (cls P y))
  |_,_=>qd)
theorem HG{P:qo}{ops:qw qx}{i u m:S}(h:Ny P ops i u m=G):O7 P ops i (bit u) (bit m):=by
 intro j y hy hm hne hp;have hlt:j<ops.toList.length:=by rw[TH];exact(Te.1 hy).1
 have h:=oC h j hlt;rw[hm,Vq,TV]at h;rcases h with h|h
 .exact qk (TD h) hne
 rw[dY,dY,Ts,Ts,hy]at h;split at h
 .rename_i x y' hx hy'
  simp only[Option.some.injEq]at hy';subst hy';rw[TV]at h;rcases h with h|h
  .have hs:sub (L1 y.after.toList) (T0 m u)=true:=by rw[ru,tL (bit (T0 m u))];intro x hx hb;rw[fK];exact hp x hx hb
   rw[hs]at h;cases h
  .simp only[S4]at h
   exact⟨h.1.1.1.1,x,hx,h.1.1.1.2,h.1.1.2,h.1.2,h.2⟩
 .cases h
def aT.len:aT->S
 | .done=>0
 | .one _ _ p=>p.len+1
 | .hold _ _ _ p=>p.len+1
 | .alt _ p q=>Nat.max (p.len+1) q.len
 | .none=>0
def J9(ops:qw qx)(i u m:S):I:=
 EB ops.toList.length λj=>bit m j||TA j i||(match nth ops.toList i,nth ops.toList j with
  |some x,X y=> !sub (L1 y.after.toList) (T0 m u)||(bit u j&&x.apart ops y&&nS x&&nS y)
  |_,_=>qd)
theorem EU{ops:qw qx}{i u m:S}(h:J9 ops i u m=G):Nn ops i (bit u) (bit m):=by
 intro j y hy hm hne hp;have hlt:j<ops.toList.length:=by rw[TH];exact(Te.1 hy).1
 have h:=oC h j hlt;rw[hm,Vq,TV]at h;rcases h with h|h
 .exact qk (TD h) hne
 rw[dY,dY,Ts,Ts,hy]at h;split at h
 .rename_i x y' hx hy'
  simp only[Option.some.injEq]at hy';subst hy';rw[TV]at h;rcases h with h|h
  .have hs:sub (L1 y.after.toList) (T0 m u)=true:=by rw[ru,tL (bit (T0 m u))];intro x hx hb;rw[fK];exact hp x hx hb
   rw[hs]at h;cases h
  .simp only[S4]at h
   exact⟨h.1.1.1,x,hx,h.1.1.2,h.1.2,h.2⟩
 .cases h
def Gw(P:qo)(ops:qw qx)(i:S)(hs:J S):I:=
 (match nth ops.toList i with|some o=>(match cls P o with| .pure=>hs.all (bit · i)| .read=>hs.all (bit · i)|_=>G)|none=>qd)
def dT(ops:qw qx)(i:S):I:=
 (match nth ops.toList i with|some o=>(match o.op,o.dst,o.guard with| .load _ _,X _,Q=>G|_,_,_=>qd)|none=>qd)
def GJ(P:qo)(ops:qw qx):aT->S->S->J S->I
 | .done,m,c,_=>TA c 0&&EB ops.toList.length (bit m)
 | .one i u p,m,c,hs=>TA c 0&&Ix ops.toList m i&&Ny P ops i u m&&Gw P ops i hs&&GJ P ops p (T0 m (TJ 1 i)) 0 hs
 | .hold i u s p,m,c,hs=>TA c 0&&Ix ops.toList m i&&J9 ops i u m&&Gw P ops i hs&&dT ops i&&sub m s&&sub u s&&bit s i&&GJ P ops p (T0 m (TJ 1 i)) 0 (s::hs)
 | .alt i p q,m,c,hs=>Ix ops.toList m i&&GJ P ops p (T0 m (TJ 1 i)) 0 hs&&GJ P ops q m (T0 c (TJ 1 i)) hs
 | .none,m,c,_=> !TA c 0&&EB ops.toList.length λj=> !Ix ops.toList m j||bit c j
theorem A8(m i:S):add (bit m) i=bit (T0 m (TJ 1 i)):=by funext t;rw[fK,mB,Bool.or_comm];rfl
def Rg(P:qo)(h:rA)(w:W):Prop:=∀w',Ext w w'->(loadVar h.t h.a).run P w'= .ok h.v w'
def JH(P:qo)(hs:J rA)(L:S->I)(w:W):Prop:=∀h∈hs,(∀t,L t=G->bit h.s t=G)->Rg P h w
theorem F8{w:W}{a:qf}:∀(l:J V)(i:S)(C:Prop),Np w a i l C->(∀j v,nth l j=X v->w.cell? (a.add (i+j))=X v)/\C
 | [],i,C,h=>⟨λj v hj=>by simp[nth]at hj,h⟩
 |x::l,i,C,h=>by
  obtain⟨h1,h2⟩:=h;obtain⟨h3,h4⟩:=F8 l (i+1) C h2;refine⟨λj v hj=>?_,h4⟩;cases j with
  |zero=>simp only[nth,Option.some.injEq]at hj;subst hj;exact h1
  |succ j=>have:=h3 j v hj;rw[show i+(j+1)=i+1+j from by omega];exact this
theorem HL{h:rA}{w:W}{C:Prop}(hh:Ki P h w C):Rg P h w/\C:=by
 unfold Ki Jh at hh;split at hh
 .exact hh.elim
 rename_i d hd;have hs:=λw=>mR hd w;have ha:=λw=>wJ hd w;split at hh
 .rename_i x hx
  refine⟨λw' hw=>?_,hh.2⟩;unfold loadVar;rw[Sem.run_bind,ha,FY hx];simp only[Result.andThen_ok,SX,qB];exact mh (hw _ _ hh.1)
 .rename_i l hl
  obtain⟨h1,h2⟩:=FX hl;split at hh
  .rename_i cs hv
   cases hb:TA cs.toList.length (sz P h.t)<;>rw[hb]at hh<;>simp only[qq,qv]at hh
   have hb:=TD hb;obtain⟨h3,h4⟩:=F8 _ _ _ hh;refine⟨λw' hw=>?_,h4⟩;unfold loadVar;rw[Sem.run_bind,ha,h1];simp only[Result.andThen_ok,qE];rw[Sem.run_bind,hs];simp only[Result.andThen_ok];rw[Sem.run_bind];unfold loadCells;rw[<-hb,dJ w' h.a cs.toList 0 #[] (λj v hj=>hw _ _ (h3 j v hj)),hv];simp
  .exact hh.elim
 .exact hh.elim
theorem xN{m:S}{w:W}{C:Prop}:∀{hs:J rA},KW P m hs w C->JH P hs (bit m) w/\C
 | [],h=>⟨(λ_ hx=>by cases hx),h⟩
 |x::l,h=>by
  unfold KW at h;cases hb:sub m x.s with
  |true=>
   rw[hb,qq]at h;obtain⟨h1,h2⟩:=HL h;obtain⟨h3,h4⟩:=xN h2;refine⟨λy hy hL=>?_,h4⟩;rcases SH.1 hy with rfl|hy
   .exact h1
   .exact h3 y hy hL
  |false=>
   rw[hb,qv]at h;obtain⟨h3,h4⟩:=xN h;refine⟨λy hy hL=>?_,h4⟩;rcases SH.1 hy with rfl|hy
   .rw[ru.2 hL]at hb;cases hb
   .exact h3 y hy hL
theorem JH.ext{hs:J rA}{L L':S->I}{w w':W}(h:JH P hs L w)(hw:Ext w w')(hL:∀t,L t=G->L' t=G):JH P hs L' w':=
 λx hx hs=>λw'' hw''=>h x hx (λt ht=>hs t (hL t ht)) w'' (hw.trans hw'')
theorem BK{ops:qw qx}{i:S}{o:qx}{K K':Act->W->Prop}{a:Act}{w:W}(ho:ops[i]?=X o)(hc:cls P o≠ .other)(h:uR P ops i K a w)(hk:∀a' w',Ext w w'->K a' w'->K' a' w'):uR P ops i K' a w:=by
 obtain⟨o',ho',h⟩:=h;obtain rfl:o=o':=by rw[ho]at ho';simpa using ho'
 refine⟨o,ho,?_⟩;rcases h with⟨h1,h2⟩|⟨h1,h2⟩
 .exact .inl ⟨h1,h2.Dw hc λ_ _ hE h=>hk _ _ hE h⟩
 .exact .inr ⟨h1,hk _ _ (Ext.refl _) h2⟩
theorem Fl (hn:∀(f:S) (fn:Func),P.funcs[f]?=X fn->(fn.name== "runtime.NumGoroutine")=qd) {ops:qw qx} {gm n mk:S} {N:Env->W->Prop} {a0:Act}
  (hd:∀(i:S)(o:qx),ops[i]?=X o->∀x,o.dst=X x->x<n/\bit mk x=G):
  ∀(p:aT)(m c f:S)(hs:J rA)(e:Env)(a:Act)(w:W),GJ P ops p m c (hs.map (·.s))=G->aT.len p<=f->Rel ds n e a->gB mk a0 a->JH P hs (bit m) w->pq P ops.toList gm p m hs N e w->
   ((∀i,¬yZ ops (bit m) i)->c=0->At ds n mk a0 N a w)/\
   (∀j,yZ ops (bit m) j->bit c j=qd->∃f',f=f'+1/\uR P ops j (gr P ops (At ds n mk a0 N) (JH P hs) f' (add (bit m) j)) a w):=by
 have close:∀(m f:S)(hs:J rA)(a:Act)(w:W),JH P hs (bit m) w->((∀i,¬yZ ops (bit m) i)->(0:S)=0->At ds n mk a0 N a w)/\
   (∀j,yZ ops (bit m) j->bit 0 j=qd->∃f',f=f'+1/\uR P ops j (gr P ops (At ds n mk a0 N) (JH P hs) f' (add (bit m) j)) a w)->gr P ops (At ds n mk a0 N) (JH P hs) f (bit m) a w:=by
  intro m f hs a w hJ ⟨h1,h2⟩;cases f with
  |zero=>
   have h0:∀i,¬yZ ops (bit m) i:=λi hi=>by obtain⟨f',hf,_⟩:=h2 i hi (oI i);omega
   exact⟨hJ,h0,h1 h0 O⟩
  |succ f=>
   refine⟨hJ,λh0=>h1 h0 O,λi hi=>?_⟩;obtain⟨f',hf,h⟩:=h2 i hi (oI i);obtain rfl:f=f':=om
   exact h
 have step:∀(p:aT)(i m f:S)(hs:J rA)(o:qx)(e:Env)(a:Act)(w:W),ops[i]?=X o->GJ P ops p (T0 m (TJ 1 i)) 0 (hs.map (·.s))=G->aT.len p<=f->Rel ds n e a->gB mk a0 a->JH P hs (bit m) w->
   (∀(m c f:S)(hs:J rA)(e:Env)(a:Act)(w:W),GJ P ops p m c (hs.map (·.s))=G->aT.len p<=f->Rel ds n e a->gB mk a0 a->JH P hs (bit m) w->pq P ops.toList gm p m hs N e w->
    ((∀i,¬yZ ops (bit m) i)->c=0->At ds n mk a0 N a w)/\(∀j,yZ ops (bit m) j->bit c j=qd->∃f',f=f'+1/\uR P ops j (gr P ops (At ds n mk a0 N) (JH P hs) f' (add (bit m) j)) a w))->
   D3 P ops.toList ops.toList gm i o (λe w=>Jz P o (T0 m (TJ 1 i)) hs w (pq P ops.toList gm p (T0 m (TJ 1 i)) hs N e w)) e w->
   uR P ops i (gr P ops (At ds n mk a0 N) (JH P hs) f (add (bit m) i)) a w:=by
  intro p i m f hs o e a w ho hok hlen hr hk hJ ih h;have h1:=vM hn ho (hd i o ho) hr hk h;by_cases hc:cls P o= .other
  .refine h1.mono λa' w'⟨hk',e',hr',h'⟩=>?_
   have ho':Fi P o=true:=by unfold Fi;rw[hc]
   unfold Jz at h';rw[ho',qq]at h';obtain⟨hJ',h'⟩:=xN h';rw[A8];exact close _ _ _ _ _ hJ' (ih _ 0 f hs e' a' w' hok hlen hr' hk' hJ' h')
  .refine BK ho hc h1 λa' w' hE⟨hk',e',hr',h'⟩=>?_
   have ho':Fi P o=false:=by unfold Fi;cases hcc:cls P o<;>first|rfl|exact qk hcc hc
   unfold Jz at h';rw[ho',qv]at h';rw[A8];have hJ':JH P hs (bit (T0 m (TJ 1 i))) w':=hJ.ext hE λt ht=>by rw[fK,ht];rfl
   exact close _ _ _ _ _ hJ' (ih _ 0 f hs e' a' w' hok hlen hr' hk' hJ' h')
 have outJ:∀(i:S)(hs:J rA)(o:qx),ops[i]?=X o->Gw P ops i (hs.map (·.s))=G->(cls P o= .pure\/cls P o= .read)->∀(L:S->I)w,JH P hs (add L i) w->JH P hs L w:=by
  intro i hs o ho hin hc L w hJ x hx hL;refine hJ x hx λt ht=>?_;have hall:(hs.map (·.s)).all (bit · i)=true:=by unfold Gw at hin;rw[dY,Ts,ho]at hin;simp only at hin;rcases hc with hc|hc<;>rw[hc]at hin<;>exact hin
  simp only[add,TV]at ht;rcases ht with ht|ht
  .have:t=i:=by simpa using ht
   rw[this];exact Vd.1 hall _ (Tj.2 ⟨x,hx,O⟩)
  .exact hL t ht
 intro p;induction p with
 |done=>
  intro m c f hs e a w hok _ hr hk _ h;simp only[GJ,S4]at hok;refine⟨λ_ _=>⟨hk,e,hr,h⟩,λj hj=>?_⟩;obtain⟨o,ho,hl,_⟩:=hj;have:=oC hok.2 j (by rw[TH];exact(Te.1 ho).1);rw[hl]at this;cases this
 |one i u p ih=>
  intro m c f hs e a w hok hlen hr hk hJ h;simp only[GJ,S4]at hok;have hi:=tO.1 hok.1.1.1.2;refine⟨λh0=>qk hi (h0 i),λj hj _=>?_⟩;simp only[aT.len]at hlen;obtain⟨f',rfl⟩:∃f',f=f'+1:=⟨f-1,om⟩
  refine⟨f',O,?_⟩;simp only[pq]at h;split at h
  .rename_i o ho
   rw[dY,Ts]at ho;have h3:=step p i m f' hs o e a w ho hok.2 om hr hk hJ ih h;exact(C5 ho (outJ i hs o ho hok.1.2) f' (bit m) a w hi (HG hok.1.1.2) hJ h3).2.2 j hj
  .exact h.elim
 |hold i u s p ih=>
  intro m c f hs e a w hok hlen hr hk hJ h;simp only[GJ,S4]at hok;obtain⟨⟨⟨⟨⟨⟨⟨⟨_,hok1⟩,hok2⟩,hok3⟩,hok4⟩,hok5⟩,hok6⟩,hok7⟩,hok8⟩:=hok;have hi:=tO.1 hok1;refine⟨λh0=>qk hi (h0 i),λj hj _=>?_⟩;simp only[aT.len]at hlen;obtain⟨f',rfl⟩:∃f',f=f'+1:=⟨f-1,om⟩
  refine⟨f',O,?_⟩;simp only[pq]at h;split at h
  .rename_i o ho
   have hheld:=hok4;unfold dT at hheld;rw[ho]at hheld;rw[dY,Ts]at ho;simp only at hheld;split at h
   .rename_i t x d hop hdst
    rw[hop,hdst]at hheld;have hg:o.guard=none:=by
     cases hgd:o.guard with
     |none=>rfl
     |some g=>rw[hgd]at hheld;cases hheld
    split at h
    .rename_i ad hx
     obtain⟨v,hv,hrun⟩:=pd h;have hex:∀w',Ext w w'->(qy a.eval o).run P w'= .ok (.value v) w':=λw' hw=>by simp[qy,hop,hr.ev hx,Instr.loadAt,Instr.sureAddr,hrun w' hw]
     have hcls:cls P o= .read:=by simp[cls,hop]
     have hr':Rel ds n (e.put (X d) v) (a.put (X d) v):=hr.put (λy hy=>(hd i o ho y (by rw[hdst];exact hy)).1) v;have hk':gB mk a0 (a.put (X d) v):=hk.put (λy hy=>(hd i o ho y (by rw[hdst];exact hy)).2) v;have hJ':JH P (⟨s,t,ad,v⟩::hs) (bit (T0 m (TJ 1 i))) w:=λy hy hL=>by
      rcases SH.1 hy with rfl|hy
      .exact hrun
      .exact hJ y hy λt ht=>hL t (by rw[fK,ht];rfl)
     have h3:=close _ _ _ _ _ hJ' (ih _ 0 f' (⟨s,t,ad,v⟩::hs) _ _ w hok8 om hr' hk' hJ' hv);have h4:gr P ops (At ds n mk a0 N) (λL w=>JH P hs L w/\((∀t,L t=G->bit s t=G)->∀w',Ext w w'->(qy a.eval o).run P w'= .ok (.value v) w')) f' (add (bit m) i) (a.put o.dst v) w:=by
      rw[hdst,A8];refine h3.mono λL w hJ=>⟨λy hy=>hJ y (TC _ hy),λhL w' hw'=>?_⟩
      have:=hJ _ (List.mem_cons_self ..) hL w' hw';simp[qy,hop,hr.ev hx,Instr.loadAt,Instr.sureAddr,this]
     exact(HH ho hg hcls (outJ i hs o ho hok3 (.inr hcls)) hok7 (λt ht=>ru.1 hok6 t ht) f' (bit m) a w hi (EU hok2) (λt ht=>ru.1 hok5 t ht) O hex h4).2.2 j hj
    .exact h.elim
   .exact h.elim
  .exact h.elim
 |alt i p q ihp ihq=>
  intro m c f hs e a w hok hlen hr hk hJ h;simp only[GJ,S4]at hok;have hi:=tO.1 hok.1.1;refine⟨λh0=>qk hi (h0 i),λj hj hc=>?_⟩;simp only[aT.len]at hlen;have hlen:Nat.max (p.len+1) q.len<=f:=hlen;have hl1:p.len+1<=f:=SY (Nat.le_max_left _ _) hlen;have hl2:q.len<=f:=SY (Nat.le_max_right _ _) hlen;obtain⟨h1,h2⟩:=h;by_cases e':j=i
  .subst e'
   obtain⟨f',rfl⟩:∃f',f=f'+1:=⟨f-1,om⟩
   refine⟨f',O,?_⟩;split at h1
   .rename_i o ho
    rw[dY,Ts]at ho;exact step p j m f' hs o e a w ho hok.1.2 om hr hk hJ ihp h1
   .exact h1.elim
  .refine (ihq m _ f hs e a w hok.2 hl2 hr hk hJ h2).2 j hj ?_
   rw[fK,hc,mB];simpa using e'
 |none=>
  intro m c f hs e a w hok _ hr hk _ _;simp only[GJ,S4]at hok;refine⟨λ_ h0=>?_,λj hj hc=>?_⟩
  .subst h0;exact qk hok.1 qb
  .obtain ⟨o,ho,_⟩:=id hj
   have:=oC hok.2 j (by rw[TH];exact(Te.1 ho).1);rw[tO.2 hj,hc]at this;cases this
theorem B3 (hn:∀(f:S) (fn:Func),P.funcs[f]?=X fn->(fn.name== "runtime.NumGoroutine")=qd) (hm:P.follows .mixedOrders=G) {id:S} {ops:qw qx} {d:I} {p:aT} {n:S} {N:Env->W->Prop} {alf:Exit->Act->W->Prop}
  (hf:pW n ops.toList=G) (hp:d=G->GJ P ops p 0 0 []=G/\aT.len p<=ops.size) {e:Env} {a:Act} {w:W} (hr:Rel ds n e a)
  (hQ:∀a' w',At ds n (Mm ops.toList) a N a' w'->alf .normal a' w')
  (h:bif d then pq P ops.toList (MA ops.toList) p 0 [] N e w.drew else opsV P ops.toList (MA ops.toList) ops.toList 0 N e w):
  (Code.region id ops d).wp P alf a w:=by
 have hd:∀(i:S)(o:qx),ops[i]?=X o->∀x,o.dst=X x->x<n/\bit (Mm ops.toList) x=true:=λi o ho x hx=>
  vu hf i o (by rw[Ts];exact ho) x hx
 cases d with
 |false=>
  simp only[qv]at h;refine wp_region ?_;have:=Az hn (gm:=MA ops.toList) hd hQ ops.toList 0 (λj o hj=>by rw[SS];rw[Ts]at hj;exact hj) e a w hr (gB.refl _ _) h;rw[TH]at this;rw[List.range_eq_range'];exact this
 |true=>
  simp only[qq]at h;refine wp_region_any hm ?_;obtain⟨h1,h2⟩:=hp O;have h3:=Fl hn (gm:=MA ops.toList) hd p 0 0 ops.size [] e a w.drew h1 h2 hr (gB.refl _ _) (λ_ hx=>by cases hx) h;refine xK hQ ops.size _ (bit 0) a _ qc (λt=>?_) ?_
  .rw[oI,Ua]
   cases hx:(Xy ops.size qd)[t]? with
   |none=>rfl
   |some b=>
    have:=Te.1 hx;obtain⟨h4,h5⟩:=this;simp at h5;simp[h5]
  .cases hsz:ops.size with
   |zero=>
    have h0:∀i,¬yZ ops (bit 0) i:=λi hi=>by obtain⟨o,ho,_⟩:=hi;have:=(Te.1 ho).1;omega
    exact⟨h0,h3.1 h0 O⟩
   |succ f=>
    refine⟨λh0=>h3.1 h0 O,λi hi=>?_⟩;obtain⟨f',hf',h⟩:=h3.2 i hi (oI i);obtain rfl:f=f':=om
    exact h.mono λa w h=>h.out
theorem yL{c:Sc}{v:V}{k:c.D->Prop}(h:c.un v k):∃d,v=c.mk d/\k d:=by
 unfold Sc.un at h;split at h
 .split at h
  .rename_i e;subst e;exact⟨_,O,h⟩
  .exact h.elim
 .exact ⟨_,O,h⟩
 .exact ⟨_,O,h⟩
 .exact ⟨_,O,h⟩
 .exact ⟨_,O,h⟩
 .exact ⟨_,O,h⟩
 .exact ⟨_,O,h⟩
 .exact ⟨_,O,h⟩
 .exact h.elim
theorem CL{r:Type}:∀(ss:J Sc)(acc vs:J V)(F:J V->r)(k:r->Prop),CK ss vs (HR ss acc F) k->k (F (acc.reverse++vs))
 | [],acc,[],F,k,h=>by simpa [CK,HR]using h
 | [],_,_::_,_,_,h=>h.elim
 |_::_,_,[],_,_,h=>h.elim
 |c::ss,acc,v::vs,F,k,h=>by obtain⟨d,rfl,h'⟩:=yL (show c.un v _ from h);have:=CL ss (c.mk d::acc) vs F k h';simpa using this
theorem sY(f:Env->W->Prop)(e:Env)(w:W):∀(cs:J (S × Sh))(ef:Env),jT cs (xA cs f ef) e w->
  ∃e',f e' w/\∀t v,e' t=X v->e t=X v\/ef t=X v
 | [],ef,h=>⟨ef,h,λ_ _ h=> .inr h⟩
 |(s,.c x)::l,ef,h=>by
  simp only[jT]at h;split at h
  .rename_i v hv
   obtain⟨d,rfl,h'⟩:=yL h;obtain⟨e',h1,h2⟩:=sY f e w l _ h';refine⟨e',h1,λt u ht=>?_⟩;rcases h2 t u ht with h3|h3
   .exact .inl h3
   .simp only[Env.set]at h3
    cases hb:TA t s with
    |false=>rw[hb]at h3;exact .inr h3
    |true=>rw[hb]at h3;rw[TD hb];simp only[qq]at h3;exact .inl (hv.trans h3)
  .exact h.elim
 |(s,.a ss)::l,ef,h=>by
  simp only[jT]at h;split at h
  .rename_i cs hv
   have h:=CL ss [] cs.toList _ _ h;obtain⟨e',h1,h2⟩:=sY f e w l _ h;refine⟨e',h1,λt u ht=>?_⟩;rcases h2 t u ht with h3|h3
   .exact .inl h3
   .simp only[Env.set]at h3
    cases hb:TA t s with
    |false=>rw[hb]at h3;exact .inr h3
    |true=>
     rw[hb]at h3;rw[TD hb];simp only[qq,V7,TG]at h3;exact .inl (hv.trans h3)
  .exact h.elim
 |(s,.big)::l,ef,h=>by
  simp only[jT]at h;split at h
  .rename_i cs hv
   obtain⟨e',h1,h2⟩:=sY f e w l _ h;refine⟨e',h1,λt u ht=>?_⟩;rcases h2 t u ht with h3|h3
   .exact .inl h3
   .simp only[Env.set]at h3
    cases hb:TA t s with
    |false=>rw[hb]at h3;exact .inr h3
    |true=>rw[hb]at h3;rw[TD hb];simp only[qq]at h3;exact .inl (hv.trans h3)
  .exact h.elim
theorem Db{r:Type}:∀(ss:J Sc)(acc:J V)(F alc:J V->r)(k:r->r->Prop),(∀vs,k (F vs) (alc vs))->Oc ss (HR ss acc F) (HR ss acc alc) k
 | [],acc,F,alc,k,h=>h _
 |c::ss,acc,F,alc,k,h=>λd=>Db ss (c.mk d::acc) F alc k h
theorem tx{F alc:Env->W->Prop}(h:∀e w,F e w->alc e w):∀(cs:J (S × Sh))(ef:Env),imp cs (xA cs F ef) (xA cs alc ef)
 | [],ef=>λw=>h ef w
 |(s,.c x)::l,ef=>λd=>tx h l _
 |(s,.a ss)::l,ef=>Db ss [] _ _ _ λvs=>tx h l _
 |(s,.big)::l,ef=>λcs=>tx h l _
theorem Rel.forget{n m:S}{e e' e'':Env}{a0 a:Act}(h0:Rel ds n e a0)(hk:gB m a0 a)(h1:Rel ds n e' a)(h:∀t v,e'' t=X v->e' t=X v\/(e.forget m) t=X v):Rel ds n e'' a:=by
 refine⟨h1.1,h1.2.1,λt v ht=>?_⟩;rcases h t v ht with h2|h2
 .exact h1.2.2 t v h2
 .simp only[Env.forget]at h2
  cases hb:bit m t with
  |true=>rw[hb]at h2;simp at h2
  |false=>
   rw[hb]at h2;rw[hk t hb];exact h0.2.2 t v h2
theorem vh{j:qg (J (S × Sh))}{n m:S}{N:Env->W->Prop}{e:Env}{body:(Env->W->Prop)->Prop}{a0:Act}(hr:Rel ds n e a0)(h:Ef j m N e body):
  ∃N',body N'/\∀a w,At ds n m a0 N' a w->At ds n m a0 N a w:=by
 unfold Ef at h;split at h
 .exact ⟨N,h,λ_ _ h=>h⟩
 .rename_i cs
  refine⟨_,h (xA cs N (e.forget m)) (tx (λ_ _ h=>h) cs _),?_⟩;rintro a w ⟨hk,e',hr',h'⟩;obtain⟨e'',h1,h2⟩:=sY N e' w cs _ h';exact⟨hk,e'',hr.forget hk hr' h2,h1⟩
def lift(ds:J Deferred)(n m:S)(a0:Act)(N:Env->W->Prop)(ak7:S->Env->W->Prop)(R:Env->W->Prop):Exit->Act->W->Prop
 | .normal,a,w=>At ds n m a0 N a w
 | .exit i,a,w=>At ds n m a0 (ak7 i) a w
 | .ret,a,w=>At ds n m a0 R a w
 |_,_,_=>qm
def LP(P:qo)(n:S):Code->An->I
 | .region _ ops d,an=>pW n ops.toList&&(!d||(GJ P ops an.p 0 0 []&&U2 an.p.len ops.toList.length))
 | .seq a b,an=>LP P n a an.a&&LP P n b an.b
 | .cond _ a b,an=>LP P n a an.a&&LP P n b an.b
 | .block _ b,an=>LP P n b an.a
 | .loop b,an=>LP P n b an.a
 |_,_=>G
theorem At.up{n m m':S}{a0 a1:Act}{N:Env->W->Prop}{a:Act}{w:W}(hk:gB m' a0 a1)(hm:∀t,bit m t=G->bit m' t=G)(h:At ds n m a1 N a w):At ds n m' a0 N a w:=
 ⟨hk.trans (h.1.mono hm),h.2⟩
theorem At.mono{n m:S}{a0:Act}{N N':Env->W->Prop}{a:Act}{w:W}(h:At ds n m a0 N a w)(hN:∀e w,N e w->N' e w):At ds n m a0 N' a w:=
 let ⟨hk,e,hr,h⟩:=h;⟨hk,e,hr,hN _ _ h⟩
theorem BA{n m m':S}{a0 a1:Act}{N N':Env->W->Prop}{ak7:S->Env->W->Prop}{R:Env->W->Prop}(hk:gB m' a0 a1)(hm:∀t,bit m t=G->bit m' t=G)(hN:∀a w,At ds n m' a0 N a w->At ds n m' a0 N' a w):
  ∀en a w,lift ds n m a1 N ak7 R en a w->lift ds n m' a0 N' ak7 R en a w
 | .normal,a,w,h=>hN a w (At.up hk hm h)
 | .exit i,a,w,h=>At.up hk hm h
 | .ret,a,w,h=>At.up hk hm h
 | .goto _,_,_,h=>h
 | .panic _,_,_,h=>h
 | .outgrown,_,_,h=>h
theorem pP (hn:∀(f:S) (fn:Func),P.funcs[f]?=X fn->(fn.name== "runtime.NumGoroutine")=qd) (hm:P.follows .mixedOrders=G) {n:S}:
  ∀(c:Code)(an:An)(N:Env->W->Prop)(ak7:S->Env->W->Prop)(R:Env->W->Prop)(e:Env)(a:Act)(w:W),
   LP P n c an=G->Rel ds n e a->vc P c an N ak7 R e w->c.wp P (lift ds n (dm c) a N ak7 R) a w:=by
 intro c;induction c with
 |skip=>intro an N ak7 R e a w _ hr h;exact wp_skip ⟨gB.refl _ _,e,hr,h⟩
 |region id ops d=>
  intro an N ak7 R e a w hf hr h;simp only[LP,S4,TV]at hf;obtain⟨N',h,hN⟩:=vh hr h;refine B3 hn hm hf.1 (λhd=>?_) hr (λa' w' ha=>hN a' w' ha) h;rcases hf.2 with h1|h1
  .rw[hd]at h1;cases h1
  .exact ⟨h1.1,by have:=UI h1.2;rw[TH]at this;exact this⟩
 |seq x y ihx ihy=>
  intro an N ak7 R e a w hf hr h;simp only[LP,S4]at hf;refine wp_seq (wp_mono (ihx an.a _ ak7 R e a w hf.1 hr h) ?_);intro en a' w' hq;have hmx:∀t,bit (dm x) t=G->bit (dm (.seq x y)) t=true:=λt ht=>by simp only[dm,fK,ht,Xh]
  have hmy:∀t,bit (dm y) t=G->bit (dm (.seq x y)) t=true:=λt ht=>by simp only[dm,fK,ht,U5]
  cases en with
  |normal=>
   obtain⟨hk,e',hr',h'⟩:=hq;exact wp_mono (ihy an.b N ak7 R e' a' w' hf.2 hr' h') (BA (hk.mono hmx) hmy λ_ _ h=>h)
  |exit i=>exact At.up (gB.refl _ _) hmx hq
  |ret=>exact At.up (gB.refl _ _) hmx hq
  |goto l=>exact hq
  |panic ch=>exact hq
  |outgrown=>exact hq
 |cond c x y ihx ihy=>
  intro an N ak7 R e a w hf hr h;simp only[LP,S4]at hf;obtain⟨N',h,hN⟩:=vh hr h;split at h
  .rename_i b hb
   have hmx:∀t,bit (dm x) t=G->bit (dm (.cond c x y)) t=true:=λt ht=>by simp only[dm,fK,ht,Xh]
   have hmy:∀t,bit (dm y) t=G->bit (dm (.cond c x y)) t=true:=λt ht=>by simp only[dm,fK,ht,U5]
   refine wp_cond_split (hr.ev hb) (λht=>?_) (λht=>?_)
   .rw[ht]at h
    exact wp_mono (ihx an.a N' ak7 R e a w hf.1 hr h) (BA (gB.refl _ _) hmx hN)
   .rw[ht]at h
    exact wp_mono (ihy an.b N' ak7 R e a w hf.2 hr h) (BA (gB.refl _ _) hmy hN)
  .exact h.elim
 |block id b ih=>
  intro an N ak7 R e a w hf hr h;obtain⟨N',h,hN⟩:=vh hr h;refine wp_block (wp_mono (ih an.a N' _ R e a w hf hr h) ?_);intro en a' w' hq;cases en with
  |normal=>exact hN a' w' hq
  |exit i=>
   simp only[Exit.inBlock];by_cases hi:i=id
   .rw[Z hi]
    refine hN a' w' (At.mono hq λe w h=>?_);rw[hi,Xj]at h;exact h
   .rw[Y hi]
    refine At.mono hq λe w h=>?_;have:TA i id=false:=by
     cases hb:TA i id with
     |false=>rfl
     |true=>exact qk (TD hb) hi
    rw[this]at h;exact h
  |ret=>exact hq
  |goto l=>exact hq
  |panic ch=>exact hq
  |outgrown=>exact hq
 |loop b ih=>
  intro an N ak7 R e a w hf hr h;simp only[vc]at h;split at h
  .rename_i cs _
   let alf:=lift ds n (dm b) a N ak7 R
   let alc:Env->W->Prop:=λe' w'=>∀a',gB (dm b) a a'->Rel ds n e' a'->∀(fr:Frame)(k:J Item)(ks:J Frame),
    ∃en a2 w2,alf en a2 w2/\Arrives P (lone (fr.at a' (.code b:: .inLoop b::k)) ks w') fr k ks en a2 w2
   have close:∀a' w' e',gB (dm b) a a'->Rel ds n e' a'->jT cs (xA cs alc (e.forget (dm b))) e' w'->∀(fr:Frame)(k:J Item)(ks:J Frame),
     ∃en a2 w2,alf en a2 w2/\Arrives P (lone (fr.at a' (.code b:: .inLoop b::k)) ks w') fr k ks en a2 w2:=by
    intro a' w' e' hk hr' h';obtain⟨e'',h1,h2⟩:=sY alc e' w' cs _ h';exact h1 a' hk (hr.forget hk hr' h2)
   have hloop:jT cs (xA cs alc (e.forget (dm b))) e w:=by
    refine h _ (tx ?_ cs _);intro e' w' hb a' hk hr' fr k ks;obtain⟨en,a1,w1,hq,harr⟩:=ih an.a _ ak7 R e' a' w' hf hr' hb fr (.inLoop b::k) ks;cases en with
    |normal=>
     obtain⟨hk1,e1,hr1,h1⟩:=hq;obtain⟨en2,a2,w2,hq2,harr2⟩:=close a1 w1 e1 (hk.trans hk1) hr1 h1 fr k ks;exact⟨en2,a2,w2,hq2,.of_steps (Steps.trans harr (.one step_inLoop)) harr2⟩
    |exit id=>exact⟨.exit id,a1,w1,At.up hk (λ_ h=>h) hq,.pass (x:= .inLoop b) O (λ_ _=> .inl qc) harr⟩
    |goto l=>exact hq.elim
    |ret=>exact⟨.ret,a1,w1,At.up hk (λ_ h=>h) hq,.pass (x:= .inLoop b) O (λ_ _=> .inl qc) harr⟩
    |panic ch=>exact hq.elim
    |outgrown=>exact hq.elim
   intro fr k ks;obtain⟨en,a2,w2,hq,harr⟩:=close a w e (gB.refl _ _) hr hloop fr k ks;exact⟨en,a2,w2,hq,.of_steps (.one step_loop) harr⟩
  .exact h.elim
 |rangeFunc f ps x y _ _=>intro an N ak7 R e a w _ hr h;exact h.elim
 |exit id=>intro an N ak7 R e a w _ hr h;exact wp_exit ⟨gB.refl _ _,e,hr,h⟩
 |scope b _=>intro an N ak7 R e a w _ hr h;exact h.elim
 |label l=>intro an N ak7 R e a w _ hr h;exact h.elim
 |goto l=>intro an N ak7 R e a w _ hr h;exact h.elim
 |ret=>intro an N ak7 R e a w _ hr h;exact wp_ret ⟨gB.refl _ _,e,hr,h⟩
 |refuse s=>intro an N ak7 R e a w _ hr h;exact h.elim
theorem C2{r:Type}:∀(ss:J Sc)(acc vs:J V)(K:rQ ss r)(k:J V->r->Prop),CK ss vs K (λg=>k (acc.reverse++vs) g)->J2.exKA ss acc K k
 | [],acc,[],K,k,h=>by simpa [CK,J2.exKA]using h
 | [],_,_::_,_,_,h=>h.elim
 |_::_,_,[],_,_,h=>h.elim
 |c::ss,acc,v::vs,K,k,h=>by obtain⟨d,rfl,h'⟩:=yL (show c.un v _ from h);exact⟨d,C2 ss (c.mk d::acc) vs (K d) k (by simpa using h')⟩
def IJ:J (S × Sh)->S->I
 | [],_=>G
 |(s,_)::l,i=>TA s i&&IJ l (i+1)
theorem wA(w:W):∀(cs:J (S × Sh))(i:S)(acc vs:J V)(K:uk cs),IJ cs i=G->vs.length=i+cs.length->jT cs K (nth vs) w->
  J2 cs K acc (.returned (B4 (acc.reverse++vs.drop i))) w
 | [],i,acc,vs,K,_,hl,h=>by simp only[TU,UD]at hl;refine⟨?_,h⟩;rw[Vf om,SL]
 |(s,.c x)::l,i,acc,vs,K,hs,hl,h=>by
  simp only[IJ,S4]at hs;have hsi:=TD hs.1;subst hsi;simp only[jT]at h;split at h
  .rename_i v hv
   rw[dY]at hv;obtain⟨d,rfl,h'⟩:=yL h;refine⟨d,?_⟩;have:=wA w l (s+1) (x.mk d::acc) vs (K d) hs.2 (by simp at hl;omega) h';obtain⟨h1,h2⟩:=Sz.1 hv;rw[TB h1,h2];simpa using this
  .exact h.elim
 |(s,.a ss)::l,i,acc,vs,K,hs,hl,h=>by
  simp only[IJ,S4]at hs;have hsi:=TD hs.1;subst hsi;simp only[jT]at h;split at h
  .rename_i cs hv
   rw[dY]at hv;simp only[J2];refine C2 ss [] cs.toList K _ ?_;obtain⟨h1,h2⟩:=Sz.1 hv;have key:∀(ss:J Sc)(us:J V)(K:rQ ss (uk l))(k k':uk l->Prop),(∀g,k g->k' g)->CK ss us K k->CK ss us K k':=by
    intro ss;induction ss with
    |nil=>intro us K k k' hk h;cases us with|nil=>exact hk _ h|cons _ _=>exact h.elim
    |cons c ss ih=>
     intro us K k k' hk h;cases us with
     |nil=>exact h.elim
     |cons u us=>
      have h:c.un u _:=h;show c.un u _;have un_mono:∀(c:Sc)(v:V)(k k':c.D->Prop),(∀d,k d->k' d)->c.un v k->c.un v k':=by
       intro c v k k' hk h;unfold Sc.un at*
       split at h
       .split at h
        .rename_i e;simp only[e,qE];exact hk _ h
        .exact h.elim
       .exact hk _ h
       .exact hk _ h
       .exact hk _ h
       .exact hk _ h
       .exact hk _ h
       .exact hk _ h
       .exact hk _ h
       .exact h.elim
      exact un_mono c u _ _ (λd hd=>ih us (K d) k k' hk hd) h
   refine key ss cs.toList K _ _ (λg hg=>?_) h;have:=wA w l (s+1) (.agg cs::acc) vs g hs.2 (by simp at hl;omega) hg;rw[TB h1,h2];simpa using this
  .exact h.elim
 |(s,.big)::l,i,acc,vs,K,hs,hl,h=>by
  simp only[IJ,S4]at hs;have hsi:=TD hs.1;subst hsi;simp only[jT]at h;split at h
  .rename_i cs hv
   rw[dY]at hv;refine⟨cs,?_⟩;have:=wA w l (s+1) (.agg cs::acc) vs (K cs) hs.2 (by simp at hl;omega) h;obtain⟨h1,h2⟩:=Sz.1 hv;rw[TB h1,h2];simpa using this
  .exact h.elim
theorem sF{n:S}{e:Env}{a:Act}{w:W}(hr:Rel ds n e a):∀(l:J ResultVar)(acc:J V)(k:J V->Prop),tP P l e w acc k->
  ∃vs,k (acc.reverse++vs)/\vs.length=l.length/\
   (l.mapM λ(x:ResultVar)=>(match x with| .tmp t=>pure (a.tmps.getD t undef)| .cell b t=>do loadVar t (<-asAddr (a.tmps.getD b undef)):Sem V)).run P w= .ok vs w
 | [],acc,k,h=>⟨[],by simpa [tP]using h,rfl,qc⟩
 | .tmp t::l,acc,k,h=>by
  simp only[tP]at h;split at h
  .rename_i v hv
   obtain⟨vs,h1,h2,h3⟩:=sF hr l (v::acc) k h;refine⟨v::vs,by simpa using h1,by simp[h2],?_⟩;rw[WX,Sem.run_bind];simp only[Sem.run_pure,Result.andThen_ok];rw[Sem.run_bind,h3,hr.2.2 t v hv];rfl
  .exact h.elim
 | .cell b t::l,acc,k,h=>by
  simp only[tP]at h;split at h
  .rename_i p hp
   obtain⟨v,h,hrun⟩:=pd h;obtain⟨vs,h1,h2,h3⟩:=sF hr l (v::acc) k h;refine⟨v::vs,by simpa using h1,by simp[h2],?_⟩;rw[WX,Sem.run_bind];have hl:(do loadVar t (<-asAddr (a.tmps.getD b undef)):Sem V).run P w= .ok v w:=by rw[hr.2.2 b _ hp];simp only[asAddr,Sem.run_bind,Sem.run_pure,Result.andThen_ok];exact hrun w (Ext.refl w)
   rw[hl];simp only[Result.andThen_ok];rw[Sem.run_bind,h3];rfl
  .exact h.elim
def J7(P:qo)(fn:Func)(c:Code)(an:An)(cs:J (S × Sh))(na:S):I:=
 LP P fn.ntmps c an&&U2 na fn.ntmps&&IJ cs 0&&TA fn.results.toList.length cs.length
theorem J8 (hn:∀(f:S) (fn:Func),P.funcs[f]?=X fn->(fn.name== "runtime.NumGoroutine")=qd) (hm:P.follows .mixedOrders=G) {f:FuncId} {fn:Func} {c:Code} {an:An} {cs:J (S × Sh)}
  {args:J V} {K:uk cs} {w:W} (hf:P.funcs[f]?=X fn) (hb:fn.body=X c) (hok:J7 P fn c an cs args.length=G) (h:Pv P fn c an cs args K w):Calls P f ⟨args⟩ w (J2 cs K []):=by
 simp only[J7,S4]at hok;have hle:=UI hok.1.1.2;have hlen:=TD hok.2;refine calls_of_wp hf hb ?_;have hr:Rel [] fn.ntmps (nth args) { tmps:=(⟨args⟩:qw V)++Xy (fn.ntmps-(⟨args⟩:qw V).size) undef,defers:=[]}:=by refine⟨by simp;omega,rfl,λt v ht=>?_⟩;rw[dY]at ht;obtain⟨h1,h2⟩:=Sz.1 ht;rw[Ua,Array.getElem?_append_left (by simpa using h1)];simp[ht]
 refine wp_mono (pP hn hm c an _ _ _ (nth args) _ w hok.1.1.1 hr h) ?_;have key:∀(e:Env)(a:Act)(w:W),Rel [] fn.ntmps e a->(tP P fn.results.toList e w [] λvs=>jT cs K (nth vs) w)->
   a.defers= []/\∃v,(results fn a.tmps).run P w= .ok v w/\J2 cs K [] (.returned v) w:=by
  intro e a w hr h;obtain⟨vs,h1,h2,h3⟩:=sF hr _ _ _ h;refine⟨hr.2.1,B4 vs,?_,?_⟩
  .unfold results
   rw[Sem.run_bind,WA,Sem.run_map];refine Eq.trans (qz (λ(r:Result (J V))=>(r.andThen λa w'=>Result.ok a.toArray w').andThen λ(a:qw V)w'=>Sem.run P (pure (if h:a.size=1 then a[0]else Value.tuple a)) w') h3) ?_;simp only[Result.andThen_ok]
   match vs with
   | []=>rfl
   | [v]=>rfl
   |v::u::vs=>rfl
  .have:=wA w cs 0 [] vs K hok.1.2 om (by simpa using h1)
   simpa using this
 intro en a w hq;cases en with
 |normal=>obtain⟨_,e,hr,h⟩:=hq;exact key e a w hr h
 |ret=>obtain⟨_,e,hr,h⟩:=hq;exact key e a w hr h
 |exit i=>obtain⟨_,e,hr,h⟩:=hq;exact h.elim
 |goto l=>exact hq.elim
 |panic ch=>exact hq.elim
 |outgrown=>exact hq.elim
def oy:W->qf->S->J V->(W->Prop)->Prop
 |w,_,_,[],k=>k w
 |w,a,o,v::vs,k=>St w (a.add o) v λw'=>oy w' a (o+1) vs k
def hI(w:W)(a:qf):S->(ss:J Sc)->rQ ss Prop->Prop
 |_,[],p=>p
 |o,c::ss,f=>∃x:c.D,w.cell? (a.add o)=X (c.mk x)/\hI w a (o+1) ss (f x)
def uq(w:W)(b:S)(l:J V):Prop:=∃t,w.heap[b]?=X (.cells ⟨l⟩ t (0,0))
def oc(w:W)(b:S)(es:qw qH)(c:S):Prop:=w.heap[b]?=X (.map es c)
structure iA(F:S->Prop)(w w':W):Prop where
 os:w'.os=w.os
 tape:w'.tape=w.tape
 output:w'.output=w.output
 size:w.heap.size<=w'.heap.size
 block:∀k,k<w.heap.size->¬F k->w'.heap[k]?=w.heap[k]?
abbrev No:S->Prop:=λ_=>qm
theorem iA.refl(F:S->Prop)(w:W):iA F w w:=⟨O,O,O,SA _,λ_ _ _=>rfl⟩
theorem iA.mono{F F':S->Prop}{w w':W}(h:iA F w w')(hf:∀k,k<w.heap.size->F k->F' k):iA F' w w':=
 ⟨h.os,h.tape,h.output,h.size,λk hk hn=>h.block k hk (λhF=>hn (hf k hk hF))⟩
theorem iA.trans{F F':S->Prop}{a b c:W}(h:iA F a b)(h':iA F' b c)(hf:∀k,k<a.heap.size->F' k->F k):iA F a c:=
 ⟨h'.os.trans h.os,h'.tape.trans h.tape,h'.output.trans h.output,SY h.size h'.size,λk hk hn=>
  (h'.block k (Ub hk h.size) (λhF=>hn (hf k hk hF))).trans (h.block k hk hn)⟩
theorem iA.then{F:S->Prop}{a b c:W}(h:iA F a b)(h':iA F b c):iA F a c:=h.trans h' λ_ _ h=>h
theorem iA.no{F:S->Prop}{a b c:W}(h:iA F a b)(h':iA No b c):iA F a c:=h.trans h' λ_ _ h=>h.elim
theorem iA.KX{F:S->Prop}{a b:W}(h:iA No a b):iA F a b:=h.mono λ_ _ h=>h.elim
theorem iA.below{F:S->Prop}{w w':W}(h:iA F w w'){B:S}(hB:B<=w.heap.size)(hf:∀k,F k->B<=k):RowKit.Below B w w':=
 ⟨h.os,h.tape,h.output,h.size,λk hk=>h.block k om (λhF=>by have:=hf k hF;omega)⟩
theorem uq.lt{w:W}{b:S}{l:J V}(h:uq w b l):b<w.heap.size:=by obtain⟨t,h⟩:=h;exact(Te.1 h).1
theorem oc.lt{w:W}{b:S}{es:qw qH}{c:S}(h:oc w b es c):b<w.heap.size:=(Te.1 h).1
theorem uq.vP{F:S->Prop}{w w':W}{b:S}{l:J V}(h:uq w b l)(u:iA F w w')(hn:¬F b):uq w' b l:=by have:=u.block b h.lt hn;obtain⟨t,h⟩:=h;exact⟨t,by rw[this];exact h⟩
theorem oc.vP{F:S->Prop}{w w':W}{b:S}{es:qw qH}{c:S}(h:oc w b es c)(u:iA F w w')(hn:¬F b):oc w' b es c:=by have:=u.block b h.lt hn;unfold oc at *;rw[this];exact h
theorem uq.cell{w:W}{b:S}{l:J V}(h:uq w b l)(i:S):w.cell? ⟨b,i,Q⟩=l[i]?:=by obtain⟨t,h⟩:=h;simp[World.cell?,h]
theorem uq.frozen{w:W}{b:S}{l:J V}(h:uq w b l)(i:S):w.frozen? ⟨b,i,Q⟩=false:=by obtain⟨t,h⟩:=h;simp[World.frozen?,h]
theorem aL(b o n:S):(Addr.mk b o Q).add n=⟨b,o+n,Q⟩:=by
 unfold Addr.add;by_cases h:n=0
 .subst h;simp
 .simp[h]
theorem uq.Pl{w:W}{b o n:S}{l:J V}{v:V}(h:uq w b l)(hv:l[o+n]?=X v):w.cell? ((Addr.mk b o Q).add n)=X v:=by rw[aL,h.cell];exact hv
theorem uq.Pk{w:W}{b o:S}{l:J V}{v:V}(h:uq w b l)(hv:l[o]?=X v):w.cell? (Addr.mk b o Q)=X v:=by rw[h.cell];exact hv
theorem heap_setCell(w:W)(b i:S)(v:V)(k:S):(w.setCell ⟨b,i,Q⟩ v).heap[k]?=if k=b then(w.heap[b]?).map (λo=>match o with| .cells c e f=> .cells (c.setIfInBounds i v) e f|o=>o)else w.heap[k]?:=by
 simp only[World.setCell,UX,Option.isSome_none,SX,qB];by_cases h:b=k
 .subst h;simp only[qE];rfl
 .rw[Y h,Y (λe=>h e.symm)]
theorem uq.set{w:W}{b:S}{l:J V}(h:uq w b l)(i:S)(v:V):uq (w.setCell ⟨b,i,Q⟩ v) b (l.set i v):=by obtain⟨t,h⟩:=h;refine⟨t,?_⟩;rw[heap_setCell,Z O,h];simp
theorem Ec(w:W)(b i:S)(v:V):iA (·=b) w (w.setCell ⟨b,i,Q⟩ v):=
 ⟨rfl,rfl,rfl,qc,λk _ hn=>by rw[heap_setCell,Y hn]⟩
theorem ff(w:W)(o:Obj):iA No w (w.alloc o):=
 ⟨rfl,rfl,rfl,qc,λk hk _=>by show(w.heap.push o)[k]?=_;rw[Array.getElem?_push,Y om]⟩
theorem pO{w w':W}(h:w'.heap=w.heap)(h1:w'.os=w.os)(h2:w'.tape=w.tape)(h3:w'.output=w.output):iA No w w':=
 ⟨h1,h2,h3,by rw[h];exact SA _,λk _ _=>by rw[h]⟩
theorem heap_alloc_new(w:W)(o:Obj):(w.alloc o).heap[w.heap.size]?=X o:=by show(w.heap.push o)[w.heap.size]?=_;simp
theorem St.mk'{w:W}{b o:S}{v:V}{k:W->Prop}{l:J V}(hb:uq w b l)(ho:o<l.length)(hv:v.oneCell'=G)
  (h:∀w',iA (·=b) w w'->w'.heap.size=w.heap.size->uq w' b (l.set o v)->k w'):St w ⟨b,o,Q⟩ v k:=by
 refine⟨?_,hb.frozen o,hv,h _ (Ec w b o v) qc (hb.set o v)⟩;rw[hb.cell,gE ho];rfl
theorem Al.mk'{w:W}{l:J V}{t:qi}{k:W->Prop}(h:∀w',iA No w w'->w'.heap.size=w.heap.size+1->uq w' w.heap.size l->k w'):Al w (.cells ⟨l⟩ t) k:=
 h _ (ff _ _) qc ⟨t,heap_alloc_new _ _⟩
theorem Al.map'{w:W}{k:W->Prop}(h:∀w',iA No w w'->w'.heap.size=w.heap.size+1->oc w' w.heap.size #[] 0->k w'):Al w (.map #[] 0) k:=
 h _ (ff _ _) qc (heap_alloc_new _ _)
theorem Dr.mk'{w:W}{k:W->Prop}(h:∀w',iA No w w'->w'.heap=w.heap->k w'):Dr w k:=h w.drew (pO O O O O) O
inductive lP(z:S)(w:W)(s:Sl)(cs:J V):Prop
 |nil (ha:s.a=Q) (hl:s.len=0) (hc:s.cap=0) (hcs:cs= [])
 |mk (b o:S) (l:J V) (ha:s.a=X ⟨b,o,Q⟩) (hb:uq w b l) (hl:s.len<=s.cap) (hc:o+s.cap*z<=l.length) (hcs:cs=(l.drop o).take (s.len*z))
def Sl.In(s:Sl)(alc:S->Prop):Prop:=∀a,s.a=X a->alc a.block
theorem lP.length{z:S}{w:W}{s:Sl}{cs:J V}(h:lP z w s cs):cs.length=s.len*z:=by
 cases h with
 |nil ha hl hc hcs=>simp[hcs,hl]
 |mk b o l ha hb hl hc hcs=>
  have:s.len*z<=s.cap*z:=Ta z hl;simp[hcs];omega
theorem lP.vP{F:S->Prop}{z:S}{w w':W}{s:Sl}{cs:J V}(h:lP z w s cs)(u:iA F w w')(hn:s.In λk=>¬F k):lP z w' s cs:=by
 cases h with
 |nil ha hl hc hcs=>exact .nil ha hl hc hcs
 |mk b o l ha hb hl hc hcs=>exact .mk b o l ha (hb.vP u (hn _ ha)) hl hc hcs
theorem lP.lt{z:S}{w:W}{s:Sl}{cs:J V}(h:lP z w s cs):s.In (·<w.heap.size):=λa ha=>by
 cases h with
 |nil h _ _ _=>rw[h]at ha;cases ha
 |mk b o l h hb _ _ _=>rw[h]at ha;cases ha;exact hb.lt
theorem lP.ga{z:S}{w:W}{s:Sl}{cs:J V}(h:lP z w s cs):s.len<=s.cap:=by
 cases h with
 |nil _ hl _ _=>omega
 |mk _ _ _ _ _ hl _ _=>exact hl
theorem lP.cell{z:S}{w:W}{s:Sl}{cs:J V}(h:lP z w s cs){i:S}{v:V}(hv:cs[i]?=X v):∃b o,s.a=X ⟨b,o,Q⟩/\w.cell? ⟨b,o+i,Q⟩=X v:=by
 cases h with
 |nil _ _ _ hcs=>rw[hcs]at hv;simp at hv
 |mk b o l ha hb hl hc hcs=>
  refine⟨b,o,ha,?_⟩;rw[hb.cell];rw[hcs,S5]at hv;split at hv
  .rw[S8]at hv;exact hv
  .cases hv
theorem dF:∀(cs:J V)(o:S)(vs:J V)(i:S),o+vs.length<=cs.length->(putAt cs o vs)[i]?=if o<=i/\i<o+vs.length then vs[i-o]? else cs[i]?
 |cs,o,[],i,_=>by
  have:putAt cs o []=cs:=by cases cs<;>cases o<;>rfl
  rw[this,Y (by simp only[TU];omega)]
 | [],o,v::vs,i,h=>by simp at h
 |c::cs,0,v::vs,0,h=>by simp[putAt]
 |c::cs,0,v::vs,i+1,h=>by have:=dF cs 0 vs i (by simp at h|-;omega);simp only[putAt,SR];rw[this];simp
 |c::cs,o+1,v::vs,0,h=>by simp[putAt]
 |c::cs,o+1,v::vs,i+1,h=>by
  have:=dF cs o (v::vs) i (by simp at h|-;omega);simp only[putAt,SR];rw[this];simp only[SJ]at*
  by_cases hi:o<=i/\i<o+(vs.length+1)
  .rw[Z hi,Z om];congr 1;omega
  .rw[Y hi,Y om]
theorem kD(cs:J V)(o:S):putAt cs o []=cs:=by cases cs<;>cases o<;>rfl
theorem iW{b:S}:∀(vs:J V)(l:J V)(o:S)(w:W),uq w b l->o+vs.length<=l.length->(∀v∈vs,v.oneCell'=G)->∀i j,o=j+i->
  ∃w',(storeCells ⟨b,j,Q⟩ vs i).run P w= .ok () w'/\iA (·=b) w w'/\w'.heap.size=w.heap.size/\uq w' b (putAt l o vs)
 | [],l,o,w,hb,_,_,i,j,_=>⟨w,by simp[storeCells],iA.refl _ _,rfl,by rw[kD];exact hb⟩
 |v::vs,l,o,w,hb,hl,hv,i,j,ho=>by
  simp only[SJ]at hl;have hs:St w ⟨b,o,Q⟩ v (λw'=>iA (·=b) w w'/\w'.heap.size=w.heap.size/\uq w' b (l.set o v)):=St.mk' hb om (hv v qc) λw' h1 h2 h3=>⟨h1,h2,h3⟩
  obtain⟨h1,h2,h3,h4⟩:=xf (P:=P) hs;obtain⟨w',h5,h6,h7,h8⟩:=iW vs (l.set o v) (o+1) _ h4 (by simp;omega) (λu hu=>hv u (by simp[hu])) (i+1) j om;refine⟨w',?_,h2.then h6,om,by rw[sy];exact h8⟩;simp only[storeCells];rw[Sem.run_bind,show(Addr.mk b j Q).add i=⟨b,o,Q⟩from by rw[aL,ho],h1];exact h5
theorem iH{z:S}{w:W}{s:Sl}{cs:J V}(h:lP z w s cs)(n:S)(hn:n<=s.len):(Builtin.firstCells z n (.slice s.a s.len s.cap)).run P w= .ok ⟨cs.take (n*z)⟩ w:=by
 cases h with
 |nil ha hl hc hcs=>
  have:n=0:=om
  subst this;simp[Builtin.firstCells,ha]
 |mk b o l ha hb hl hc hcs=>
  have h1:n*z<=s.len*z:=Ta z hn;have h2:s.len*z<=s.cap*z:=Ta z hl;have hlen:(cs.take (n*z)).length=n*z:=by rw[hcs];simp;omega
  simp only[Builtin.firstCells,ha];unfold loadCells;have:=dJ (P:=P) w ⟨b,o,Q⟩ (cs.take (n*z)) 0 #[] (λj v hj=>by
   rw[dY,S5]at hj;split at hj
   .rw[hcs,S5]at hj
    split at hj
    .rw[S8]at hj
     rw[aL,SS,hb.cell];exact hj
    .cases hj
   .cases hj)
  rw[hlen]at this;rw[this];simp
theorem Ad(n:S):∀(r c:S),Builtin.growBy n r c<=(c+1000)*2^r
 |0,c=>by simp[Builtin.growBy]
 |r+1,c=>by
  unfold Builtin.growBy;have hp:1<=2^r:=Nat.one_le_two_pow;split
  .rw[WI]
   have:c+1000<=(c+1000)*(2^r*2):=by
    have:1<=2^r*2:=om
    exact Nat.le_mul_of_pos_right _ om
   omega
  .have h:=Ad n r (c+(c+768) / 4)
   rw[WI];have h2:c+(c+768) / 4+1000<=(c+1000)*2:=om
   calc _<=(c+(c+768) / 4+1000)*2^r:=h
    _<=((c+1000)*2)*2^r:=Ta _ h2
    _=(c+1000)*(2^r*2):=by rw[Nat.mul_assoc,Wk 2]
theorem xL(n c:S):Builtin.nextslicecap n c<=n+16*c+16000:=by
 unfold Builtin.nextslicecap;split
 .omega
 .split
  .omega
  .have h:=Ad n 4 c
   simp only[Nat.reducePow]at h;have h2:(c+1000)*16=16*c+16000:=by rw[TX,Wk]
   rw[h2]at h;exact SY h (Nat.add_le_add_right (Nat.le_add_left _ _) _)
structure Qg(z:S)(w:W)(s:Sl)(cs:J V)(s':Sl)(w':W):Prop where
 own:lP z w' s' cs
 vP:iA (λk=>∃a,s.a=X a/\a.block=k) w w'
 size:w'.heap.size<=w.heap.size+1
 here:s'.In λk=>(∃a,s.a=X a/\a.block=k)\/k=w.heap.size
theorem JG{T el:qi}{inf:qL}{zv:V}{z:S}{w:W}{s x:Sl}{cs ds:J V}
  (hu:P.underlying T=X (.slice el)) (hi:P.info? el=X inf) (hz:inf.zero=X zv) (hsz:inf.size=z) (hzc:zv.cells.size=z) (hb:1<=inf.bytes)
  (hs:lP z w s cs) (hdl:ds.length=x.len*z) (hnew:∀ak9:W,ak9.heap=w.heap->(Builtin.firstCells z x.len (.slice x.a x.len x.cap)).run P ak9= .ok ⟨ds⟩ ak9) (hd:∀v∈ds,v.oneCell'=G)
  (hbig:(17*(s.len+x.len)+16000)*inf.bytes<=2^48):
  ∃s' w',dO P [T,T] T (.slice s.a s.len s.cap) (.slice x.a x.len x.cap) w s' w'/\s'.len=s.len+x.len/\Qg z w s (cs++ds) s' w':=by
 have hsize:∀w,(sizeOf el).run P w= .ok z w:=λw=>by rw[gv hi w];simp[sz,hi,hsz]
 have hinfo:∀w,(typeInfo el).run P w= .ok inf w:=λw=>by simp[typeInfo,hi]
 have hzero:∀w,(qK el).run P w= .ok zv w:=λw=>by simp[qK,hinfo,hz]
 have hcl:=hs.length;have hcells:=hnew w O;by_cases hcap:s.len+x.len<=s.cap
 .
  by_cases hnone:s.a=Q
  .have hz0:s.len=0/\s.cap=0/\cs= []:=by
    cases hs with
    |nil _ h1 h2 h3=>exact⟨h1,h2,h3⟩
    |mk b o l h _ _ _ _=>rw[h]at hnone;cases hnone
   have hx0:x.len=0:=om
   have hds:ds= []:=by apply TQ;rw[hdl,hx0];simp
   refine⟨⟨Q,0,0⟩,w,?_,by simp[hz0.1,hx0],.nil O O O (by simp[hz0.2.2,hds]),iA.refl _ _,om,λa ha=>by cases ha⟩;unfold dO Builtin.append_;simp only[hnone,hz0.1,hz0.2.1]at*
   subst hds;rw[hx0]at hcells;simp[bf hu,hsize,Builtin.lenOf,hx0,hcells]
  .cases hs with
   |nil h _ _ _=>exact qk h hnone
   |mk b o l ha hbl hl hc hcs=>
    have hmul:(s.len+x.len)*z<=s.cap*z:=Ta z hcap;have hroom:o+s.len*z+ds.length<=l.length:=by rw[hdl];rw[TX]at hmul;omega
    obtain⟨w',h1,h2,h3,h4⟩:=iW (P:=P) ds l (o+s.len*z) w hbl hroom hd 0 (o+s.len*z) om;refine⟨⟨s.a,s.len+x.len,s.cap⟩,w',?_,O,?_,h2.mono λk _ hk=>⟨_,ha,hk.symm⟩,om,λa h=>?_⟩
    .unfold dO Builtin.append_
     simp only[Ud,TI,SR,Sem.run_bind,bf hu,Result.andThen_ok,hsize,Builtin.lenOf,Sem.run_pure,hcap,qE,SX,qB,T4];rw[hcells];simp only[Result.andThen_ok,ha,aL];rw[Sem.run_bind,h1];rfl
    .refine .mk b o _ ha h4 (by simpa using hcap) (by rw[iN];exact hc) ?_
     apply Td;intro i;have hsl:s.len*z<=s.cap*z:=Ta z hl;rw[S5];simp only[TX]at*
     by_cases hi':i<s.len*z+x.len*z
     .rw[Z hi',S8,dF _ _ _ _ hroom]
      by_cases h5:i<s.len*z
      .rw[Y om,SM om,hcs,S5,Z h5,S8]
      .rw[Z om,SP om]
       congr 1;omega
     .rw[Y hi']
      apply SZ;simp;omega
    .exact .inl ⟨a,h,O⟩
 .
  have hlc:=hs.ga
  let need:=s.len+x.len
  have hneed:¬need<=s.cap:=hcap
  let q:Question:= .appendCap need s.cap el
  let n:=q.cut (w.tape w.drawn q)
  have hle:=xL need s.cap;have hlim:¬(Builtin.nextslicecap need s.cap*inf.bytes>2^48):=by
   have h0:Builtin.nextslicecap need s.cap<=17*(s.len+x.len)+16000:=by refine SY hle ?_;show s.len+x.len+16*s.cap+16000<=_;generalize 16000=y;omega
   have:Builtin.nextslicecap need s.cap*inf.bytes<=(17*(s.len+x.len)+16000)*inf.bytes:=Ta _ h0;omega
  have hneedb:need<=2^48:=by have h1:(17*(s.len+x.len)+16000)*1<=(17*(s.len+x.len)+16000)*inf.bytes:=Xc _ hb;show s.len+x.len<=_;omega
  have hn1:need<=n:=by show need<=need+_%_;omega
  let row:J V:=cs++ds++(Builtin.zeroCells zv.cells (n-need)).toList
  let w':=w.drew.alloc (.cells ⟨row⟩ el)
  have hold:∀ak9:W,ak9.heap=w.heap->(Builtin.firstCells z s.len (.slice s.a s.len s.cap)).run P ak9= .ok ⟨cs⟩ ak9:=λak9 hW=>by
   have hs':lP z ak9 s cs:=by
    cases hs with
    |nil a b c d=>exact .nil a b c d
    |mk b o l a h c d e=>
     obtain⟨t,ht⟩:=h;exact .mk b o l a ⟨t,by rw[hW];exact ht⟩ c d e
   rw[iH hs' s.len (SA _),<-hcl,UC]
  refine⟨⟨X ⟨w.heap.size,0,Q⟩,need,n⟩,w',?_,O,?_,((pO (w:=w) (w':=w.drew) O O O O).no (ff _ _)).KX,by simp[w'],λa h=> .inr (by cases h;rfl)⟩
  .unfold dO Builtin.append_
   simp only[Ud,TI,SR,Sem.run_bind,bf hu,Result.andThen_ok,hsize,Builtin.lenOf,Sem.run_pure,hcap,SX,qB,T4,hinfo];have hc1:¬(((s.len+x.len:S):U)>qj.max/\(qm\/inf.bytes=0)):=by
    rintro⟨_,h|h⟩
    .exact h
    .omega
   rw[Y hc1,Sem.run_bind,hinfo];simp only[Result.andThen_ok];rw[Y hlim,Sem.run_bind,run_choose];have hf:Question.forced (.appendCap (s.len+x.len) s.cap el)=false:=rfl;simp only[hf,SX,qB,Result.andThen_ok,World.drew_eq];rw[Sem.run_bind,hinfo];simp only[Result.andThen_ok];rw[Sem.run_bind,run_askRoom];simp only[Result.andThen_ok];rw[Sem.run_bind,hold w.drew O];simp only[Result.andThen_ok,qE];rw[Sem.run_bind,hnew w.drew O];simp only[Result.andThen_ok];rw[Sem.run_bind,hzero];simp only[Result.andThen_ok,newRow,Sem.run_bind,run_newObj,Sem.run_pure];have hrow:((⟨cs⟩:qw V)++⟨ds⟩++Builtin.zeroCells zv.cells (n-need))=⟨row⟩:=by apply Ve;simp[row]
   show Result.ok (Value.slice (X ⟨w.heap.size,0,Q⟩) (s.len+x.len) n) (w.drew.alloc (.cells ((⟨cs⟩:qw V)++⟨ds⟩++Builtin.zeroCells zv.cells (n-need)) el))=_;rw[hrow]
  .have hzl:(Builtin.zeroCells zv.cells (n-need)).toList.length=(n-need)*z:=by simp[Builtin.zeroCells,hzc]
   have hrl:row.length=n*z:=by simp only[row,SG,hcl,hdl,hzl];rw[<-TX,<-TX];congr 1;show s.len+x.len+(n-(s.len+x.len))=n;have:s.len+x.len<=n:=hn1;omega
   refine .mk w.heap.size 0 row O ⟨el,?_⟩ hn1 (by rw[hrl];show 0+n*z<=n*z;omega) ?_
   .exact heap_alloc_new w.drew _
   .show cs++ds=(row.drop 0).take ((s.len+x.len)*z)
    have:(s.len+x.len)*z=(cs++ds).length:=by rw[SG,hcl,hdl,TX]
    rw[this,T9];simp only[row];rw[U0]
theorem xv{z:S}{w:W}{x:Sl}{ds:J V}(hx:lP z w x ds):∀ak9:W,ak9.heap=w.heap->(Builtin.firstCells z x.len (.slice x.a x.len x.cap)).run P ak9= .ok ⟨ds⟩ ak9:=λak9 hW=>by
 have hdl:=hx.length;have hx':lP z ak9 x ds:=by
  cases hx with
  |nil a b c d=>exact .nil a b c d
  |mk b o l a h c d e=>
   obtain⟨t,ht⟩:=h;exact .mk b o l a ⟨t,by rw[hW];exact ht⟩ c d e
 rw[iH hx' x.len (SA _),<-hdl,UC]
theorem iq{α β:Type}(f:α->β):∀(l:J α)(i:S),(l.eraseIdx i).map f=(l.map f).eraseIdx i
 | [],_=>rfl
 |_::_,0=>rfl
 |a::l,i+1=>by simp[iq f l i]
end
section
variable{K alb:Type}[qS K]
def dQ:J (K × alb)->K->qg alb
 | [],_=>Q
 |(a,v)::l,k=>if a=k then X v else dQ l k
def ko:J (K × alb)->K->alb->J (K × alb)
 | [],k,v=>[(k,v)]
 |(a,u)::l,k,v=>if a=k then(a,v)::l else(a,u)::ko l k v
def mA:J (K × alb)->K->J (K × alb)
 | [],_=>[]
 |(a,u)::l,k=>if a=k then l else(a,u)::mA l k
theorem re(l:J (K × alb))(k:K)(v:alb)(x:K):dQ (ko l k v) x=if k=x then X v else dQ l x:=by
 induction l with
 |nil=>simp[ko,dQ]
 |cons p l ih=>
  obtain⟨a,u⟩:=p;simp only[ko];by_cases h:a=k
  .subst h;simp only[qE,dQ];split<;>rfl
  .simp only[h,qB,dQ,ih]
   by_cases h2:a=x
   .subst h2;rw[Z O,Y (λe=>h e.symm)];simp
   .simp[h2]
theorem tG{l:J (K × alb)}{k:K}{v:alb}(h:dQ l k=X v):(k,v)∈l:=by
 induction l with
 |nil=>cases h
 |cons p l ih=>
  obtain⟨a,u⟩:=p;simp only[dQ]at h;split at h
  .rename_i e;subst e;cases h;simp
  .exact TC _ (ih h)
theorem fW{l:J (K × alb)}{k:K}:dQ l k=Q↔k∉l.map (·.1):=by
 induction l with
 |nil=>simp[dQ]
 |cons p l ih=>
  obtain⟨a,u⟩:=p;simp only[dQ,S7,SH,not_or];split
  .rename_i e;subst e;simp
  .rename_i e;rw[ih];exact⟨λh=>⟨λe'=>e e'.symm,h⟩,λh=>h.2⟩
theorem uO{l:J (K × alb)}(hn:(l.map (·.1)).Nodup)(k x:K):dQ (mA l k) x=if k=x then Q else dQ l x:=by
 induction l with
 |nil=>simp[mA,dQ]
 |cons p l ih=>
  obtain⟨a,u⟩:=p;simp only[S7,Tx]at hn;simp only[mA];by_cases h:a=k
  .subst h
   simp only[qE,dQ];by_cases h2:a=x
   .subst h2;rw[Z O];exact fW.2 hn.1
   .simp[h2]
  .simp only[h,qB,dQ,ih hn.2]
   by_cases h2:a=x
   .subst h2;rw[Z O,Y (λe=>h e.symm)];simp
   .simp[h2]
theorem HQ{l:J (K × alb)}(k:K)(v:alb)(x:K):x∈(ko l k v).map (·.1)↔x=k\/x∈l.map (·.1):=by
 induction l with
 |nil=>simp[ko]
 |cons p l ih=>
  obtain⟨a,u⟩:=p;simp only[ko];by_cases h:a=k
  .subst h;simp
  .simp only[h,qB,S7,SH,ih]
   constructor
   .rintro (h|h|h)<;>simp[h]
   .rintro (h|h|h)<;>simp[h]
theorem sq{l:J (K × alb)}(hn:(l.map (·.1)).Nodup)(k:K)(v:alb):((ko l k v).map (·.1)).Nodup:=by
 induction l with
 |nil=>simp[ko]
 |cons p l ih=>
  obtain⟨a,u⟩:=p;simp only[S7,Tx]at hn;simp only[ko];by_cases h:a=k
  .subst h;simpa using hn
  .simp only[h,qB,S7,Tx]
   refine⟨λhm=>?_,ih hn.2⟩;rcases (HQ k v a).1 hm with h1|h1
   .exact h h1
   .exact hn.1 h1
theorem Ba(l:J (K × alb))(k:K):(mA l k).Sublist l:=by
 induction l with
 |nil=>exact .slnil
 |cons p l ih=>
  obtain⟨a,u⟩:=p;simp only[mA];split
  .exact List.sublist_cons_self _ _
  .exact ih.cons_cons _
theorem sm{l:J (K × alb)}(hn:(l.map (·.1)).Nodup)(k:K):((mA l k).map (·.1)).Nodup:=List.Nodup.sublist ((Ba l k).map _) hn
end
structure lN(P:qo)(kt:qi){K:Type}[qS K](enc:K->V):Prop where
 check:∀b k w,(Instr.checkKey b 10000 kt (enc k)).run P w= .ok () w
 find:∀(k:K)(es:J qH)(ks:J K)(w:W),es.map (·.key)=ks.map enc->
  (Instr.findKey kt (enc k) es).run P w= .ok ((ks.findIdx? λx=>qe (x=k)).bind λi=>(es[i]?).map λe=>(i,e.val)) w
 same:∀k,Instr.sameBits 10000 (enc k) (enc k)=G
structure lJ{K alb:Type}(enc:K->V)(encV:alb->V)(w:W)(m:S)(L:J (K × alb)):Prop where
 ex:∃es c,oc w m es c/\es.toList.map (λe=>(e.key,e.val))=L.map (λp=>(enc p.1,encV p.2))/\(es.toList.map (·.born)).Nodup/\∀e∈es.toList,e.born<c
 nodup:(L.map (·.1)).Nodup
theorem lJ.lt{K alb:Type}{enc:K->V}{encV:alb->V}{w:W}{m:S}{L:J (K × alb)}(h:lJ enc encV w m L):m<w.heap.size:=by obtain⟨es,c,h,_⟩:=h.ex;exact h.lt
theorem lJ.vP{K alb:Type}{enc:K->V}{encV:alb->V}{F:S->Prop}{w w':W}{m:S}{L:J (K × alb)}(h:lJ enc encV w m L)(u:iA F w w')(hn:¬F m):lJ enc encV w' m L:=by obtain⟨es,c,h1,h2⟩:=h.ex;exact⟨⟨es,c,h1.vP u hn,h2⟩,h.nodup⟩
section
variable{P:qo}{T kt el:qi}{K alb:Type}[qS K]{enc:K->V}{encV:alb->V}
theorem run_getObj_map{w:W}{m:S}{es:qw qH}{c:S}(h:oc w m es c):(getObj m).run P w= .ok (.map es c) w:=by unfold oc at h;simp[getObj,Sem.run,h]
theorem run_setObj_map{w:W}{m:S}{es:qw qH}{c:S}(h:oc w m es c)(o:Obj):(setObj m o).run P w= .ok () { w with heap:=w.heap.setIfInBounds m o}:=by unfold oc at h;simp[setObj,Sem.run,h]
theorem nK(w:W)(m:S)(o:Obj):iA (·=m) w { w with heap:=w.heap.setIfInBounds m o}:=
 ⟨rfl,rfl,rfl,qc,λk _ hn=>by show(w.heap.setIfInBounds m o)[k]?=_;rw[UE (λe=>hn e.symm)]⟩
theorem mY{w:W}{m:S}{es:qw qH}{c:S}(h:oc w m es c)(es':qw qH)(c':S):oc { w with heap:=w.heap.setIfInBounds m (.map es' c')} m es' c':=by have:=h.lt;show(w.heap.setIfInBounds m _)[m]?=_;rw[U9 this]
theorem Bo(L:J (K × alb))(k:K):∀v,dQ L k=X v↔∃i,(L.map (·.1)).findIdx? (λx=>qe (x=k))=X i/\L[i]?.map (·.2)=X v:=by
 intro v;induction L with
 |nil=>simp[dQ]
 |cons p l ih=>
  obtain⟨a,u⟩:=p;simp only[dQ,S7,UY];by_cases h:a=k
  .simp[h]
  .simp only[h,qB,decide_false,SX,ih]
   constructor
   .rintro ⟨i,h1,h2⟩;exact⟨i+1,by simp[h1],by simpa using h2⟩
   .rintro ⟨i,h1,h2⟩
    simp only[Ut]at h1;obtain⟨j,h1,rfl⟩:=h1;exact⟨j,h1,by simpa using h2⟩
theorem Bp(L:J (K × alb))(k:K):dQ L k=Q↔(L.map (·.1)).findIdx? (λx=>qe (x=k))=none:=by
 rw[fW,List.findIdx?_eq_none_iff];constructor
 .intro h x hx;simp;intro e;subst e;exact h hx
 .intro h hx;have:=h k hx;simp at this
theorem oU{es:J qH}{L:J (K × alb)}(h:es.map (λe=>(e.key,e.val))=L.map (λp=>(enc p.1,encV p.2))):es.map (·.key)=(L.map (·.1)).map enc:=by have:=qz (List.map Prod.fst) h;simpa [Function.comp_def]using this
theorem C1{es:J qH}{L:J (K × alb)}(h:es.map (λe=>(e.key,e.val))=L.map (λp=>(enc p.1,encV p.2)))(i:S):(es[i]?).map (·.val)=(L[i]?).map λp=>encV p.2:=by have:=qz (λl=>(l[i]?).map Prod.snd) h;simpa [Function.comp_def]using this
theorem uD(hk:lN P kt enc){es:qw qH}{L:J (K × alb)}(h:es.toList.map (λe=>(e.key,e.val))=L.map (λp=>(enc p.1,encV p.2))){k:K}{v:alb}(hl:dQ L k=X v)(w:W):
  ∃i,(Instr.findKey kt (enc k) es.toList).run P w= .ok (X (i,encV v)) w/\(L.map (·.1)).findIdx? (λx=>qe (x=k))=X i:=by
 obtain⟨i,h1,h2⟩:=(Bo L k v).1 hl;refine⟨i,?_,h1⟩;rw[hk.find k es.toList (L.map (·.1)) w (oU h),h1];simp only[V9];have hv:=C1 h i;have:(L[i]?).map (λp=>encV p.2)=X (encV v):=by have:=qz (Option.map encV) h2;simpa [Function.comp_def]using this
 rw[this]at hv;cases he:es.toList[i]? with
 |none=>rw[he]at hv;simp at hv
 |some e=>rw[he]at hv;simp at hv;simp[hv]
theorem pU(hk:lN P kt enc){es:qw qH}{L:J (K × alb)}(h:es.toList.map (λe=>(e.key,e.val))=L.map (λp=>(enc p.1,encV p.2))){k:K}(hl:dQ L k=Q)(w:W):
  (Instr.findKey kt (enc k) es.toList).run P w= .ok Q w:=by
 rw[hk.find k es.toList (L.map (·.1)) w (oU h),(Bp L k).1 hl];rfl
theorem lJ.H3(hu:P.underlying T=X (.map kt el))(hk:lN P kt enc){w:W}{m:S}{L:J (K × alb)}(h:lJ enc encV w m L){k:K}{v:alb}(hl:dQ L k=X v):
  Ev P T (.map (X m)) (enc k) (encV v) G w/\F9 P T (.map (X m)) (enc k) (encV v) w:=by
 obtain⟨es,c,h1,h2,_⟩:=h.ex;obtain⟨i,h3,_⟩:=uD hk h2 hl w;constructor
 .unfold Ev Instr.lookup
  simp only[Sem.run_bind,bf hu,Result.andThen_ok,run_getObj_map h1,Sem.run_pure,hk.check,h3,qE]
 .unfold F9 Instr.lookup
  simp only[Sem.run_bind,bf hu,Result.andThen_ok,run_getObj_map h1,Sem.run_pure,hk.check,h3,SX,qB]
theorem lJ.fW(hu:P.underlying T=X (.map kt el))(hk:lN P kt enc){z:V}(hz:∀w,(qK el).run P w= .ok z w){w:W}{m:S}{L:J (K × alb)}(h:lJ enc encV w m L){k:K}(hl:dQ L k=Q):
  Ev P T (.map (X m)) (enc k) z qd w/\F9 P T (.map (X m)) (enc k) z w:=by
 obtain⟨es,c,h1,h2,_⟩:=h.ex;have h3:=pU hk h2 hl w;constructor
 .unfold Ev Instr.lookup
  simp only[Sem.run_bind,bf hu,Result.andThen_ok,run_getObj_map h1,Sem.run_pure,hk.check,h3,hz,qE]
 .unfold F9 Instr.lookup
  simp only[Sem.run_bind,bf hu,Result.andThen_ok,run_getObj_map h1,Sem.run_pure,hk.check,h3,hz,SX,qB]
theorem CN:∀(L:J (K × alb))(k:K)(v:alb)(i:S),(L.map (·.1)).findIdx? (λx=>qe (x=k))=X i->ko L k v=L.set i (k,v)
 | [],k,v,i,h=>by simp at h
 |(a,u)::l,k,v,i,h=>by
  simp only[S7,UY]at h;simp only[ko];by_cases e:a=k
  .subst e
   simp only[decide_true,qE,Option.some.injEq]at h;subst h;simp
  .simp only[e,decide_false,SX,qB,Ut]at h
   obtain⟨j,h,rfl⟩:=h;simp[e,CN l k v j h]
theorem CM:∀(L:J (K × alb))(k:K)(v:alb),dQ L k=Q->ko L k v=L++ [(k,v)]
 | [],k,v,_=>rfl
 |(a,u)::l,k,v,h=>by
  simp only[dQ]at h;split at h
  .cases h
  .rename_i e;simp[ko,e,CM l k v h]
theorem xh:∀(L:J (K × alb))(k:K)(i:S),(L.map (·.1)).findIdx? (λx=>qe (x=k))=X i->mA L k=L.eraseIdx i
 | [],k,i,h=>by simp at h
 |(a,u)::l,k,i,h=>by
  simp only[S7,UY]at h;simp only[mA];by_cases e:a=k
  .subst e
   simp only[decide_true,qE,Option.some.injEq]at h;subst h;simp
  .simp only[e,decide_false,SX,qB,Ut]at h
   obtain⟨j,h,rfl⟩:=h;simp[e,xh l k j h]
theorem zI:∀(L:J (K × alb))(k:K),dQ L k=Q->mA L k=L
 | [],k,_=>rfl
 |(a,u)::l,k,h=>by
  simp only[dQ]at h;split at h
  .cases h
  .rename_i e;simp[mA,e,zI l k h]
theorem lJ.put(hu:P.underlying T=X (.map kt el))(hk:lN P kt enc){w:W}{m:S}{L:J (K × alb)}(h:lJ enc encV w m L)(k:K)(v:alb):
  ∃w',za P T (.map (X m)) (enc k) (encV v) w w'/\iA (·=m) w w'/\w'.heap.size=w.heap.size/\lJ enc encV w' m (ko L k v):=by
 obtain⟨es,c,h1,h2,h3,h4⟩:=h.ex;cases hl:dQ L k with
 |some u=>
  obtain⟨i,h5,h6⟩:=uD hk h2 hl w;have hi:i<L.length:=by have:=(Tc.1 h6).1;simpa using this
  have hlen:es.size=L.length:=by have:=qz List.length h2;simpa using this
  have hkey:((es[i]?).map (·.key)).getD (enc k)=enc k:=by
   have h7:=qz (λl=>l[i]?) (oU h2);obtain⟨h8,h9,_⟩:=Tc.1 h6;have h9:L[i].1=k:=by simpa using h9
   simp only[S2,Ts,gE hi,TM,h9]at h7;rw[h7];rfl
  refine⟨_,?_,nK w m _,qc,⟨⟨_,_,mY h1 (es.modify i λe=>{ e with key:=enc k,val:=encV v}) c,?_,?_,?_⟩,sq h.nodup k v⟩⟩
  .unfold za Instr.mapUpdate
   simp only[Sem.run_bind,bf hu,Result.andThen_ok,run_getObj_map h1,hk.check,h5,hkey,Instr.keyThatStays,hk.same,qE,Sem.run_pure];exact run_setObj_map h1 _
  .rw[CN L k v i h6]
   apply Td;intro j;have h7:=qz (λl=>l[j]?) h2;simp only[S2,Ts,UX,To]at h7|-;by_cases e:i=j
   .subst e
    have:i<es.size:=om
    simp[hi,this]
   .simp only[e,qB];exact h7
  .have:(es.modify i λe=>{ e with key:=enc k,val:=encV v}).toList.map (·.born)=es.toList.map (·.born):=by
    apply Td;intro j;simp only[S2,Ts,UX];by_cases e:i=j
    .subst e;cases es[i]?<;>simp
    .simp[e]
   rw[this];exact h3
  .intro e he
   obtain⟨j,hj⟩:=Tg.1 he;simp only[Ts,UX]at hj;by_cases e':i=j
   .subst e'
    simp only[qE,Ut]at hj;obtain⟨x,hx,rfl⟩:=hj;exact h4 x (Tg.2 ⟨i,by simpa using hx⟩)
   .simp only[e',qB]at hj
    exact h4 e (Tg.2 ⟨j,by simpa using hj⟩)
 |none=>
  have h5:=pU hk h2 hl w;refine⟨_,?_,nK w m _,qc,⟨⟨_,_,mY h1 (es.push { key:=enc k,val:=encV v,born:=c}) (c+1),?_,?_,?_⟩,sq h.nodup k v⟩⟩
  .unfold za Instr.mapUpdate
   simp only[Sem.run_bind,bf hu,Result.andThen_ok,run_getObj_map h1,hk.check,h5];exact run_setObj_map h1 _
  .rw[CM L k v hl]
   simp[h2]
  .simp only[Xo,List.map_append,S7,Uf]
   rw[List.nodup_append];refine⟨h3,qc,?_⟩;intro a ha b hb;simp only[Tf]at hb;subst hb;obtain⟨e,he,rfl⟩:=Tj.1 ha;have:=h4 e he;omega
  .intro e he
   simp only[Xo,Tv,Tf]at he;rcases he with he|he
   .have:=h4 e he;omega
   .subst he;show c<c+1;omega
theorem lJ.del(hu:P.underlying T=X (.map kt el))(hk:lN P kt enc){w:W}{m:S}{L:J (K × alb)}{t:qi}{ts:J qi}(h:lJ enc encV w m L)(k:K):
  ∃w',He P (T::ts) t (.map (X m)) (enc k) w w'/\iA (·=m) w w'/\w'.heap.size=w.heap.size/\lJ enc encV w' m (mA L k):=by
 obtain⟨es,c,h1,h2,h3,h4⟩:=h.ex;cases hl:dQ L k with
 |some u=>
  obtain⟨i,h5,h6⟩:=uD hk h2 hl w;refine⟨_,?_,nK w m _,qc,⟨⟨_,_,mY h1 (es.eraseIdxIfInBounds i) c,?_,?_,?_⟩,sm h.nodup k⟩⟩
  .unfold He Builtin.delete_
   simp only[Ud,TI,SR,Sem.run_bind,bf hu,Result.andThen_ok,run_getObj_map h1,hk.check,h5];rw[run_setObj_map h1];rfl
  .rw[xh L k i h6]
   simp only[Vo];rw[iq,iq,h2]
  .simp only[Vo]
   rw[iq];exact List.Nodup.sublist (Vj _ _) h3
  .intro e he
   simp only[Vo]at he;exact h4 e ((Vj _ _).mem he)
 |none=>
  have h5:=pU hk h2 hl w;refine⟨_,?_,nK w m _,qc,⟨⟨_,_,mY h1 es c,?_,h3,h4⟩,sm h.nodup k⟩⟩
  .unfold He Builtin.delete_
   simp only[Ud,TI,SR,Sem.run_bind,bf hu,Result.andThen_ok,run_getObj_map h1,hk.check,h5];rw[run_setObj_map h1];rfl
  .rw[zI L k hl];exact h2
theorem bp(j:qO)(hu:P.underlying kt=X (.int j)):lN P kt (λn:U=>Value.int j n):=by
 have hfind:∀(k:U)(es:J qH)(ks:J U)(i:S),es.map (·.key)=ks.map (λn=>Value.int j n)->
   Instr.findNow (.int j) (.int j k) es i=X ((ks.findIdx? λx=>qe (x=k)).bind λq=>(es[q]?).map λe=>(q+i,e.val)):=by
  intro k es;induction es with
  |nil=>intro ks i h;cases ks with
   |nil=>rfl
   |cons _ _=>simp at h
  |cons e es ih=>
   intro ks i h;cases ks with
   |nil=>simp at h
   |cons x ks=>
    simp only[S7,List.cons.injEq]at h;simp only[Instr.findNow,h.1,Instr.sameNow,qE];by_cases hx:x=k
    .subst hx;simp[UY]
    .have:(k==x)=false:=by simpa using λe=>hx e.symm
     rw[this];simp only[ih ks (i+1) h.2,UY,hx,decide_false,SX,qB];cases hq:ks.findIdx? (λx=>qe (x=k))with
     |none=>rfl
     |some q=>
      simp only[V9,TM,SR];congr 2;funext e;congr 1;omega
 refine⟨λb k w=>?_,λk es ks w h=>?_,λk=>by unfold Instr.sameBits;simp⟩
 .unfold Instr.checkKey
  rw[Sem.run_bind,bf hu];rfl
 .unfold Instr.findKey
  rw[Sem.run_bind,bf hu];simp only[Result.andThen_ok,hfind k es ks 0 h,UD];rfl
end
structure aG where
 holds:(S->Prop)->W->Prop
 loc:∀(alc:S->Prop)(w w':W),holds alc w->(∀k,alc k->w'.heap[k]?=w.heap[k]?)->holds alc w'
 up:∀(alc G':S->Prop)(w:W),holds alc w->(∀k,alc k->G' k)->holds G' w
def gL(B:S)(w:W)(L:J aG):Prop:=
 ∃ald:J (aG ×(S->Prop)),ald.map (·.1)=L/\(∀p∈ald,p.1.holds p.2 w/\∀k,p.2 k->B<=k/\k<w.heap.size)/\ald.Pairwise λp q=>∀k,p.2 k->¬q.2 k
structure Ow(B:S)(w0 w:W)(L:J aG):Prop where
 base:B<=w0.heap.size
 vP:iA (B<=·) w0 w
 held:gL B w L
section
variable{B:S}{w0 w:W}{L R:J aG}
theorem Ow.size(h:Ow B w0 w L):B<=w.heap.size:=SY h.base h.vP.size
theorem Ow.below(h:Ow B w0 w L):RowKit.Below B w0 w:=h.vP.below h.base λ_ h=>h
theorem gL.take(h:gL B w L)(i:S){A:aG}(hi:L[i]?=X A):gL B w (A::L.eraseIdx i):=by
 obtain⟨ald,h1,h2,h3⟩:=h;subst h1;rw[S2]at hi;cases hz:ald[i]? with
 |none=>rw[hz]at hi;cases hi
 |some p=>
  rw[hz]at hi;simp only[TM,Option.some.injEq]at hi;subst hi;refine⟨p::ald.eraseIdx i,by simp[iq],?_,?_⟩
  .intro q hq
   rcases SH.1 hq with rfl|hq
   .exact h2 _ (SU hz)
   .exact h2 _ ((Vj _ _).mem hq)
  .refine TP.2 ⟨?_,h3.sublist (Vj _ _)⟩
   have:∀(ald:J (aG ×(S->Prop)))(i:S),ald[i]?=X p->ald.Pairwise (λp q=>∀k,p.2 k->¬q.2 k)->∀q∈ald.eraseIdx i,∀k,p.2 k->¬q.2 k:=by
    intro ald;induction ald with
    |nil=>intro i h;simp at h
    |cons x ald ih=>
     intro i hi hp q hq;obtain⟨hx,hZ⟩:=TP.1 hp;cases i with
     |zero=>simp at hi;subst hi;exact hx q (by simpa using hq)
     |succ i=>
      simp only[SR]at hi;simp only[UB,SH]at hq;rcases hq with rfl|hq
      .intro k hk hq';exact hx p (SU hi) k hq' hk
      .exact ih i hi hZ q hq
   exact this ald i hz h3
theorem gL.drop{A:aG}(h:gL B w (A::R)):gL B w R:=by
 obtain⟨ald,h1,h2,h3⟩:=h;cases ald with
 |nil=>cases h1
 |cons p ald=>
  simp only[S7,List.cons.injEq]at h1;exact⟨ald,h1.2,λq hq=>h2 q (by simp[hq]),(TP.1 h3).2⟩
theorem gL.dy{A:aG}(h:gL B w (A::R)):∃alc:S->Prop,A.holds alc w/\(∀k,alc k->B<=k/\k<w.heap.size)/\
  ∃ald:J (aG ×(S->Prop)),ald.map (·.1)=R/\(∀p∈ald,p.1.holds p.2 w/\∀k,p.2 k->B<=k/\k<w.heap.size)/\ald.Pairwise (λp q=>∀k,p.2 k->¬q.2 k)/\∀q∈ald,∀k,alc k->¬q.2 k:=by
 obtain⟨ald,h1,h2,h3⟩:=h;cases ald with
 |nil=>cases h1
 |cons p ald=>
  simp only[S7,List.cons.injEq]at h1;obtain⟨rfl,h1⟩:=h1;obtain⟨h4,h5⟩:=h2 p qc;exact⟨p.2,h4,h5,ald,h1,λq hq=>h2 q (by simp[hq]),(TP.1 h3).2,(TP.1 h3).1⟩
theorem gL.pS{A:aG}{alc:S->Prop}(hA:A.holds alc w)(hG:∀k,alc k->B<=k/\k<w.heap.size){ald:J (aG ×(S->Prop))}(h1:ald.map (·.1)=R)
  (h2:∀p∈ald,p.1.holds p.2 w/\∀k,p.2 k->B<=k/\k<w.heap.size) (h3:ald.Pairwise λp q=>∀k,p.2 k->¬q.2 k) (h4:∀q∈ald,∀k,alc k->¬q.2 k):gL B w (A::R):=
 ⟨(A,alc)::ald,by simp[h1],λp hp=>by
  rcases SH.1 hp with rfl|hp
  .exact ⟨hA,hG⟩
  .exact h2 p hp,TP.2 ⟨h4,h3⟩⟩
theorem gL.step{A A':aG}{w':W}(h:gL B w (A::R))
  (hs:∀alc,A.holds alc w->(∀k,alc k->B<=k/\k<w.heap.size)->iA alc w w'/\∃G',A'.holds G' w'/\∀k,G' k->(alc k\/w.heap.size<=k)/\k<w'.heap.size) (hB:B<=w.heap.size):gL B w' (A'::R):=by
 obtain⟨alc,hA,hG,ald,h1,h2,h3,h4⟩:=h.dy;obtain⟨hu,G',hA',hG'⟩:=hs alc hA hG;refine gL.pS hA' (λk hk=>?_) h1 (λp hp=>?_) h3 (λq hq k hk hq'=>?_)
 .obtain ⟨h5,h6⟩:=hG' k hk
  refine⟨?_,h6⟩;rcases h5 with h5|h5
  .exact (hG k h5).1
  .omega
 .obtain ⟨h5,h6⟩:=h2 p hp
  refine⟨p.1.loc p.2 w w' h5 λk hk=>hu.block k (h6 k hk).2 λhGk=>h4 p hp k hGk hk,λk hk=>⟨(h6 k hk).1,Ub (h6 k hk).2 hu.size⟩⟩
 .obtain ⟨h5,h6⟩:=hG' k hk
  rcases h5 with h5|h5
  .exact h4 q hq k h5 hq'
  .have:=((h2 q hq).2 k hq').2;omega
theorem gL.new{A':aG}{w':W}(h:gL B w R)(hu:iA No w w'){G':S->Prop}(hA':A'.holds G' w')(hG':∀k,G' k->w.heap.size<=k/\k<w'.heap.size)(hB:B<=w.heap.size):gL B w' (A'::R):=by
 obtain⟨ald,h1,h2,h3⟩:=h;refine gL.pS hA' (λk hk=>?_) h1 (λp hp=>?_) h3 (λq hq k hk hq'=>?_)
 .have:=hG' k hk;omega
 .obtain ⟨h5,h6⟩:=h2 p hp
  exact⟨p.1.loc p.2 w w' h5 λk hk=>hu.block k (h6 k hk).2 λh=>h,λk hk=>⟨(h6 k hk).1,Ub (h6 k hk).2 hu.size⟩⟩
 .have:=hG' k hk;have:=((h2 q hq).2 k hq').2;omega
theorem gL.same{w':W}(h:gL B w R)(hu:iA No w w'):gL B w' R:=by obtain⟨ald,h1,h2,h3⟩:=h;refine⟨ald,h1,λp hp=>?_,h3⟩;obtain⟨h5,h6⟩:=h2 p hp;exact⟨p.1.loc p.2 w w' h5 λk hk=>hu.block k (h6 k hk).2 λh=>h,λk hk=>⟨(h6 k hk).1,Ub (h6 k hk).2 hu.size⟩⟩
theorem Ic{α β:Type _}(f:α->β){L L':J β}(hp:L.Perm L'):∀ald:J α,ald.map f=L->∃Z':J α,Z'.Perm ald/\Z'.map f=L':=by
 induction hp with
 |nil=>intro ald h;exact⟨ald,.refl _,h⟩
 |cons x _ ih=>
  intro ald h;cases ald with
  |nil=>simp at h
  |cons z ald=>
   simp only[S7,List.cons.injEq]at h;obtain⟨Z',h1,h2⟩:=ih ald h.2;exact⟨z::Z',h1.cons z,by simp[h.1,h2]⟩
 |swap x y l=>
  intro ald h
  match ald,h with
  |a::b::ald,h=>
   simp only[S7,List.cons.injEq]at h;exact⟨b::a::ald,List.Perm.swap _ _ _,by simp[h.1,h.2.1,h.2.2]⟩
 |trans _ _ ih1 ih2=>
  intro ald h;obtain⟨Z1,h1,h2⟩:=ih1 ald h;obtain⟨Z2,h3,h4⟩:=ih2 Z1 h2;exact⟨Z2,h3.trans h1,h4⟩
theorem gL.perm{L':J aG}(h:gL B w L)(hp:L.Perm L'):gL B w L':=by obtain⟨ald,h1,h2,h3⟩:=h;obtain⟨Z',h4,h5⟩:=Ic (·.1) hp ald h1;exact⟨Z',h5,λp hp=>h2 p (h4.mem_iff.1 hp),h3.perm h4.symm λhR k hk hk'=>hR k hk' hk⟩
theorem Ow.perm{L':J aG}(h:Ow B w0 w L)(hp:L.Perm L'):Ow B w0 w L':=⟨h.base,h.vP,h.held.perm hp⟩
theorem Ow.take(h:Ow B w0 w L)(i:S){A:aG}(hi:L[i]?=X A):Ow B w0 w (A::L.eraseIdx i):=⟨h.base,h.vP,h.held.take i hi⟩
theorem Ow.drop{A:aG}(h:Ow B w0 w (A::R)):Ow B w0 w R:=⟨h.base,h.vP,h.held.drop⟩
theorem Ow.step{A A':aG}{w':W}(h:Ow B w0 w (A::R))
  (hs:∀alc,A.holds alc w->(∀k,alc k->B<=k/\k<w.heap.size)->iA alc w w'/\∃G',A'.holds G' w'/\∀k,G' k->(alc k\/w.heap.size<=k)/\k<w'.heap.size):Ow B w0 w' (A'::R):=by
 refine⟨h.base,?_,h.held.step hs h.size⟩;obtain⟨alc,hA,hG,_⟩:=h.held.dy;exact h.vP.trans (hs alc hA hG).1 λk _ hk=>(hG k hk).1
theorem Ow.new{A':aG}{w':W}(h:Ow B w0 w R)(hu:iA No w w'){G':S->Prop}(hA':A'.holds G' w')(hG':∀k,G' k->w.heap.size<=k/\k<w'.heap.size):Ow B w0 w' (A'::R):=
 ⟨h.base,h.vP.no hu,h.held.new hu hA' hG' h.size⟩
theorem Ow.same{w':W}(h:Ow B w0 w R)(hu:iA No w w'):Ow B w0 w' R:=⟨h.base,h.vP.no hu,h.held.same hu⟩
theorem Ow.head{A:aG}{p:Prop}(h:Ow B w0 w (A::R))(hp:∀alc,A.holds alc w->p):p:=by obtain⟨alc,hA,_⟩:=h.held.dy;exact hp alc hA
theorem Ow.conv{A A':aG}(h:Ow B w0 w (A::R))(hc:∀alc,A.holds alc w->A'.holds alc w):Ow B w0 w (A'::R):=
 h.step λalc hA hG=>⟨iA.refl _ _,alc,hc alc hA,λk hk=>⟨.inl hk,(hG k hk).2⟩⟩
def ae(b:S)(l:J V):aG where
 holds alc w:=alc b/\uq w b l
 loc alc w w' h hk:=⟨h.1,by obtain⟨t,ht⟩:=h.2;exact⟨t,by rw[hk b h.1];exact ht⟩⟩
 up alc G' w h hk:=⟨hk b h.1,h.2⟩
def Jf(z:S)(s:Sl)(cs:J V):aG where
 holds alc w:=s.In alc/\lP z w s cs
 loc alc w w' h hk:=⟨h.1,by
  cases h.2 with
  |nil a b c d=>exact .nil a b c d
  |mk b o l a hb c d e=>
   obtain⟨t,ht⟩:=hb;exact .mk b o l a ⟨t,by rw[hk b (h.1 _ a)];exact ht⟩ c d e⟩
 up alc G' w h hk:=⟨λa ha=>hk _ (h.1 a ha),h.2⟩
def mw{K alb:Type}(enc:K->V)(encV:alb->V)(m:S)(L:J (K × alb)):aG where
 holds alc w:=alc m/\lJ enc encV w m L
 loc alc w w' h hk:=⟨h.1,by obtain⟨es,c,h1,h2⟩:=h.2.ex;exact⟨⟨es,c,by unfold oc at *;rw[hk m h.1];exact h1,h2⟩,h.2.nodup⟩⟩
 up alc G' w h hk:=⟨hk m h.1,h.2⟩
def dw(p:Prop):aG where
 holds _ _:=p
 loc _ _ _ h _:=h
 up _ _ _ h _:=h
def oA{α:Type}(f:α->aG):aG where
 holds alc w:=∃x,(f x).holds alc w
 loc alc w w' h hk:=by obtain⟨x,h⟩:=h;exact⟨x,(f x).loc alc w w' h hk⟩
 up alc G' w h hk:=by obtain⟨x,h⟩:=h;exact⟨x,(f x).up alc G' w h hk⟩
def aQ(M:J aG):aG where
 holds alc w:=∃ald:J (aG ×(S->Prop)),ald.map (·.1)=M/\(∀p∈ald,p.1.holds p.2 w/\∀k,p.2 k->alc k)/\ald.Pairwise λp q=>∀k,p.2 k->¬q.2 k
 loc alc w w' h hk:=by obtain⟨ald,h1,h2,h3⟩:=h;exact⟨ald,h1,λp hp=>⟨p.1.loc p.2 w w' (h2 p hp).1 λk hk'=>hk k ((h2 p hp).2 k hk'),(h2 p hp).2⟩,h3⟩
 up alc G' w h hk:=by obtain⟨ald,h1,h2,h3⟩:=h;exact⟨ald,h1,λp hp=>⟨(h2 p hp).1,λk hk'=>hk k ((h2 p hp).2 k hk')⟩,h3⟩
theorem Ow.ex{α:Type}{f:α->aG}(h:Ow B w0 w (oA f::R)):∃x,Ow B w0 w (f x::R):=by obtain⟨alc,⟨x,hx⟩,_⟩:=h.held.dy;obtain⟨alc,hA,hG,ald,h1,h2,h3,h4⟩:=h.held.dy;obtain⟨x,hx⟩:=hA;exact⟨x,h.base,h.vP,gL.pS hx hG h1 h2 h3 h4⟩
theorem Ow.eu{α:Type}{f:α->aG}(x:α)(h:Ow B w0 w (f x::R)):Ow B w0 w (oA f::R):=h.conv λ_ h=>⟨x,h⟩
theorem Ow.pure{p:Prop}(h:Ow B w0 w (dw p::R)):p/\Ow B w0 w R:=⟨h.head λ_ h=>h,h.drop⟩
theorem Ow.cI{p:Prop}(hp:p)(h:Ow B w0 w R):Ow B w0 w (dw p::R):=by obtain⟨ald,h1,h2,h3⟩:=h.held;exact⟨h.base,h.vP,gL.pS (alc:=No) hp (λ_ h=>h.elim) h1 h2 h3 λ_ _ _ h=>h.elim⟩
theorem Ow.star{M:J aG}(h:Ow B w0 w (aQ M::R)):Ow B w0 w (M++R):=by
 obtain⟨alc,hA,hG,ald,h1,h2,h3,h4⟩:=h.held.dy;obtain⟨ala,y1,y2,y3⟩:=hA;refine⟨h.base,h.vP,ala++ald,by simp[y1,h1],λp hp=>?_,Vm.2 ⟨y3,h3,λp hp q hq k hk=>h4 q hq k ((y2 p hp).2 k hk)⟩⟩;rcases Tv.1 hp with hp|hp
 .exact ⟨(y2 p hp).1,λk hk=>hG k ((y2 p hp).2 k hk)⟩
 .exact h2 p hp
theorem Ow.aR{M:J aG}(h:Ow B w0 w (M++R)):Ow B w0 w (aQ M::R):=by
 obtain⟨ald,h1,h2,h3⟩:=h.held;have h1:ald.map (·.1)=M++R:=h1;obtain⟨ala,Z',hYZ,hY,hZ⟩:=List.map_eq_append_iff.1 h1;subst hYZ;obtain⟨p1,p2,p3⟩:=Vm.1 h3;refine⟨h.base,h.vP,gL.pS (alc:=λk=>∃p∈ala,p.2 k) ⟨ala,hY,λp hp=>⟨(h2 p (by simp[hp])).1,λk hk=>⟨p,hp,hk⟩⟩,p1⟩ (λk hk=>?_) hZ (λp hp=>h2 p (by simp[hp])) p2 ?_⟩
 .obtain ⟨p,hp,hk⟩:=hk;exact(h2 p (by simp[hp])).2 k hk
 .rintro q hq k ⟨p,hp,hk⟩;exact p3 p hp q hq k hk
theorem Ow.al{l:J V}{t:qi}{k:W->Prop}(h:Ow B w0 w R)(hk:∀w',Ow B w0 w' (ae w.heap.size l::R)->k w'):Al w (.cells ⟨l⟩ t) k:=
 Al.mk' λw' hu hs hb=>hk w' (h.new (A':=ae w.heap.size l) (G':=λk=>k=w.heap.size) hu ⟨O,hb⟩ λk e=>by omega)
abbrev _root_.Nat.p(n:S):qf:= .mk n 0 Q
abbrev A2(w:W)(l:J V)(t:qi)(k:S->W->Prop):Prop:=Al w (.cells ⟨l⟩ t) (k w.heap.size)
theorem Ow.a{l:J V}{t:qi}{k:S->W->Prop}(h:Ow B w0 w R)(hk:∀c w',Ow B w0 w' (ae c l::R)->k c w'):A2 w l t k:=h.al λw' h=>hk _ w' h
theorem Ow.Gb{K alb:Type}(enc:K->V)(encV:alb->V){k:W->Prop}(h:Ow B w0 w R)(hk:∀w',Ow B w0 w' (mw enc encV w.heap.size []::R)->k w'):Al w (.map #[] 0) k:=
 Al.map' λw' hu hs hb=>hk w' (h.new (A':=mw enc encV w.heap.size []) (G':=λk=>k=w.heap.size) hu ⟨O,⟨⟨#[],0,hb,qc,qc,qc⟩,qc⟩⟩ λk e=>by omega)
theorem Ow.dr{k:W->Prop}(h:Ow B w0 w R)(hk:∀w',Ow B w0 w' R->k w'):Dr w k:=Dr.mk' λw' hu _=>hk w' (h.same hu)
theorem Ow.yX{b:S}{l:J V}(h:Ow B w0 w L)(i:S)(hi:L[i]?=X (ae b l)):uq w b l:=(h.take i hi).head λ_ h=>h.2
theorem Ow.ld{b o n:S}{l:J V}{v:V}(h:Ow B w0 w L)(i:S)(hi:L[i]?=X (ae b l))(hv:l[o+n]?=X v):w.cell? ((Addr.mk b o Q).add n)=X v:=(h.yX i hi).Pl hv
theorem Ow.iJ{b o:S}{l:J V}{v:V}(h:Ow B w0 w L)(i:S)(hi:L[i]?=X (ae b l))(hv:l[o]?=X v):w.cell? (Addr.mk b o Q)=X v:=(h.yX i hi).Pk hv
theorem Ow.set{A A':aG}(h:Ow B w0 w (A'::L.eraseIdx 0))(hi:L[0]?=X A):Ow B w0 w (L.set 0 A'):=by
 cases L with
 |nil=>simp at hi
 |cons x L=>simpa using h
def ins{α:Type _}:J α->S->α->J α
 |l,0,a=>a::l
 | [],_+1,a=>[a]
 |x::l,n+1,a=>x::ins l n a
theorem BG{α:Type _}{a x:α}:∀{l:J α}{n:S},x∈ins l n a->x=a\/x∈l
 |l,0,h=>by simpa [ins]using h
 | [],_+1,h=>by simp[ins]at h;exact .inl h
 |y::l,n+1,h=>by
  simp only[ins,SH]at h;rcases h with h|h
  .exact .inr (by simp[h])
  .rcases BG h with h|h
   .exact .inl h
   .exact .inr (by simp[h])
theorem gL.put{A':aG}{i:S}(h:gL B w (A'::L.eraseIdx i))(hi:i<L.length):gL B w (L.set i A'):=by
 obtain⟨alc,hA,hG,ald,h1,h2,h3,h4⟩:=h.dy;refine⟨ins ald i (A',alc),?_,λp hp=>?_,?_⟩
 .have:∀(ald:J (aG ×(S->Prop)))(L:J aG)(i:S),ald.map (·.1)=L.eraseIdx i->i<L.length->(ins ald i (A',alc)).map (·.1)=L.set i A':=by
   intro ald;induction ald with
   |nil=>
    intro L i h hi;cases L with
    |nil=>simp at hi
    |cons x L=>
     cases i with
     |zero=>simp at h;subst h;simp[ins]
     |succ i=>simp at h
   |cons z ald ih=>
    intro L i h hi;cases L with
    |nil=>simp at hi
    |cons x L=>
     cases i with
     |zero=>simp at h;simp[ins,h]
     |succ i=>
      simp only[S7,UB,List.cons.injEq]at h;simp only[ins,S7,S1,h.1];rw[ih L i h.2 (by simpa using hi)]
  exact this ald L i h1 hi
 .rcases BG hp with rfl|hp
  .exact ⟨hA,hG⟩
  .exact h2 p hp
 .have:∀(ald:J (aG ×(S->Prop)))(i:S),ald.Pairwise (λp q=>∀k,p.2 k->¬q.2 k)->(∀q∈ald,∀k,alc k->¬q.2 k)->(ins ald i (A',alc)).Pairwise (λp q=>∀k,p.2 k->¬q.2 k):=by
   intro ald;induction ald with
   |nil=>intro i _ _;cases i<;>simp[ins]
   |cons z ald ih=>
    intro i hp hq;obtain⟨h5,h6⟩:=TP.1 hp;cases i with
    |zero=>simp only[ins];exact TP.2 ⟨hq,hp⟩
    |succ i=>
     simp only[ins];refine TP.2 ⟨λq hq'=>?_,ih i h6 λq hq'=>hq q (by simp[hq'])⟩;rcases BG hq' with rfl|hq'
     .intro k hk hk';exact hq z qc k hk' hk
     .exact h5 q hq'
  exact this ald i h3 h4
theorem Ow.put{A':aG}{i:S}(h:Ow B w0 w (A'::L.eraseIdx i))(hi:i<L.length):Ow B w0 w (L.set i A'):=⟨h.base,h.vP,h.held.put hi⟩
theorem cT{α:Type}{L:J α}{i:S}{A:α}(h:L[i]?=X A):i<L.length:=(Sz.1 h).1
theorem Ow.st{b o:S}{l:J V}{v:V}{k:W->Prop}(h:Ow B w0 w L)(i:S)(hi:L[i]?=X (ae b l))(ho:(l[o]?).isSome=G)(hv:v.oneCell'=G)
  (hk:∀w',Ow B w0 w' (L.set i (ae b (l.set o v)))->k w'):St w ⟨b,o,Q⟩ v k:=
 St.mk' (h.yX i hi) (by simpa using ho) hv λw' hu hs hb=>hk w' (((h.take i hi).step (A':=ae b (l.set o v)) λalc hA hG=>⟨hu.mono λk _ e=>by rw[e];exact hA.1,alc,⟨hA.1,hb⟩,λk hk=>⟨.inl hk,by have:=(hG k hk).2;omega⟩⟩).put (cT hi))
theorem Ow.Sw{b o n:S}{l:J V}{v:V}{k:W->Prop}(h:Ow B w0 w L)(i:S)(hi:L[i]?=X (ae b l))(ho:(l[o+n]?).isSome=G)(hv:v.oneCell'=G)
  (hk:∀w',Ow B w0 w' (L.set i (ae b (l.set (o+n) v)))->k w'):St w ((Addr.mk b o Q).add n) v k:=by
 rw[aL];exact h.st i hi ho hv hk
theorem wr{x:U}(h1: -9223372036854775808<=x)(h2:x<9223372036854775808):qj.wrap x=x:=by
 have e1:(2:U)^64=18446744073709551616:=qb
 have e2:(2:U)^63=9223372036854775808:=qb
 simp only[IntKind.wrap,IntKind.bits,IntKind.signed,Nat.reduceSub,e1,e2,Uo,qF];split<;>omega
theorem wI(i:S)(h:i<9223372036854775807):qj.wrap ((i:U)+1)=((i+1:S):U):=by rw[wr om om];omega
theorem OV{x:U}(h1:0<=x)(h2:x<18446744073709551616):qA.wrap x=x:=by
 have e1:(2:U)^64=18446744073709551616:=qb
 simp only[IntKind.wrap,IntKind.bits,IntKind.signed,e1,Bool.false_and,SX,qB];omega
structure dX(α:Type)where
 z:S
 enc:α->J V
 len:∀x,(enc x).length=z
 one:∀x,∀v∈enc x,v.oneCell'=G
 pos:1<=z
def ax:dX U:=⟨1,λn=>[.int .i64 n],λ_=>rfl,λx v h=>by simp at h;subst h;rfl,SA _⟩
theorem aO{α:Type}(E:dX α):∀(xs:J α),(xs.flatMap E.enc).length=xs.length*E.z
 | []=>by simp
 |x::xs=>by simp[aO E xs,E.len,UM,VT]
theorem oX{α:Type}(E:dX α):∀(xs:J α)(j c:S)(x:α),xs[j]?=X x->c<E.z->(xs.flatMap E.enc)[j*E.z+c]?=(E.enc x)[c]?
 | [],j,c,x,h,_=>by simp at h
 |y::xs,0,c,x,h,hc=>by simp at h;subst h;simp only[T5,Vz,SS];rw[SM (by rw[E.len];exact hc)]
 |y::xs,j+1,c,x,h,hc=>by simp only[T5];have:=oX E xs j c x (by simpa using h) hc;rw[SP (by rw[E.len,UM];omega),E.len,UM];rw[show j*E.z+E.z+c-E.z=j*E.z+c from by omega];exact this
theorem oY{α:Type}(E:dX α):∀(xs:J α)(j:S)(x:α),j<xs.length->(xs.set j x).flatMap E.enc=putAt (xs.flatMap E.enc) (j*E.z) (E.enc x)
 | [],j,x,h=>by simp at h
 |y::xs,0,x,h=>by
  have:∀(us vs cs:J V),us.length=vs.length->putAt (us++cs) 0 vs=vs++cs:=by
   intro us;induction us with
   |nil=>intro vs cs h;cases vs with|nil=>simp[kD]|cons _ _=>simp at h
   |cons u us ih=>intro vs cs h;cases vs with|nil=>simp at h|cons v vs=>simp[putAt,ih vs cs (by simpa using h)]
  simp only[List.set_cons_zero,T5,Vz];rw[this _ _ _ (by rw[E.len,E.len])]
 |y::xs,j+1,x,h=>by
  have:∀(us cs vs:J V)(o:S),putAt (us++cs) (us.length+o) vs=us++putAt cs o vs:=by
   intro us;induction us with
   |nil=>intro cs vs o;simp
   |cons u us ih=>
    intro cs vs o;simp only[List.cons_append,SJ];rw[show us.length+1+o=(us.length+o)+1 from by omega];cases vs with
    |nil=>rw[kD,kD]
    |cons v vs=>simp only[putAt];rw[ih]
  simp only[S1,T5,UM];rw[oY E xs j x (by simpa using h),show j*E.z+E.z=(E.enc y).length+j*E.z from by rw[E.len];omega,this]
def ag{α:Type}(E:dX α)(s:Sl)(xs:J α):aG where
 holds alc w:=s.In alc/\s.len=xs.length/\lP E.z w s (xs.flatMap E.enc)
 loc alc w w' h hk:=⟨h.1,h.2.1,((Jf E.z s _).loc alc w w' ⟨h.1,h.2.2⟩ hk).2⟩
 up alc G' w h hk:=⟨λa ha=>hk _ (h.1 a ha),h.2⟩
end
section
variable{P:qo}{B:S}{w0 w:W}{L R:J aG}{α:Type}{E:dX α}
theorem Ow.tX{s:Sl}{xs:J α}(h:Ow B w0 w L)(i:S)(hi:L[i]?=X (ag E s xs)):lP E.z w s (xs.flatMap E.enc):=(h.take i hi).head λ_ h=>h.2.2
theorem Ow.len{s:Sl}{xs:J α}(h:Ow B w0 w L)(i:S)(hi:L[i]?=X (ag E s xs)):s.len=xs.length:=(h.take i hi).head λ_ h=>h.2.1
theorem lP.get{s:Sl}{xs:J α}(h:lP E.z w s (xs.flatMap E.enc)){j:S}{x:α}(hj:xs[j]?=X x):
  ∃b o,s.a=X ⟨b,o,Q⟩/\∀c v,(E.enc x)[c]?=X v->w.cell? ⟨b,o+(j*E.z+c),Q⟩=X v:=by
 have hz:=E.pos;have hg:∀c v,(E.enc x)[c]?=X v->(xs.flatMap E.enc)[j*E.z+c]?=X v:=λc v hv=>by rw[oX E xs j c x hj (by have:=(Sz.1 hv).1;rw[E.len]at this;exact this)];exact hv
 cases h with
 |nil ha hl hc hcs=>
  have hl:=aO E xs;rw[hcs]at hl;have:xs.length=0:=by
   rcases Wl.1 hl.symm with h|h
   .exact h
   .omega
  have:=(Sz.1 hj).1;omega
 |mk b o l ha hb hl hc hcs=>
  refine⟨b,o,ha,λc v hv=>?_⟩;obtain⟨b',o',ha',h'⟩:=lP.cell (.mk b o l ha hb hl hc hcs:lP E.z w s (xs.flatMap E.enc)) (hg c v hv);rw[ha]at ha';simp only[Option.some.injEq,Addr.mk.injEq]at ha';rw[ha'.1,ha'.2.1];exact h'
theorem Ow.get{s:Sl}{xs:J α}(h:Ow B w0 w L)(i:S)(hi:L[i]?=X (ag E s xs)){j:S}{x:α}(hj:xs[j]?=X x):
  ∃b o,s.a=X ⟨b,o,Q⟩/\∀c v,(E.enc x)[c]?=X v->w.cell? ⟨b,o+(j*E.z+c),Q⟩=X v:=(h.tX i hi).get hj
theorem Ow.Kf{s:Sl}{xs:J U}(h:Ow B w0 w L)(i:S)(hi:L[i]?=X (ag ax s xs)){j:S}{x:U}(hj:xs[j]?=X x):
  ∃a,s.a=X a/\w.cell? (a.add (j*1))=X (.int .i64 x):=by
 obtain⟨b,o,ha,hc⟩:=h.get i hi hj;exact⟨_,ha,by rw[aL];exact hc 0 _ O⟩
theorem Ow.Sb{s:Sl}{xs:J α}{k:W->Prop}(h:Ow B w0 w L)(i:S)(hi:L[i]?=X (ag E s xs)){j:S}(hj:j<xs.length)(x:α){b o:S}(ha:s.a=X ⟨b,o,Q⟩)
  {v:V} (hx:E.enc x= [v]) (hk:∀w',Ow B w0 w' (L.set i (ag E s (xs.set j x)))->k w'):St w ⟨b,o+j*E.z,Q⟩ v k:=by
 have hz:E.z=1:=by rw[<-E.len x,hx];rfl
 have hone:v.oneCell'=true:=E.one x v (by rw[hx];simp);have hs:=h.tX i hi;have hl:=h.len i hi;cases hs with
 |nil ha' _ _ _=>rw[ha']at ha;cases ha
 |mk b' o' l ha' hb hle hc hcs=>
  rw[ha']at ha;simp only[Option.some.injEq,Addr.mk.injEq,and_true]at ha;obtain⟨rfl,rfl⟩:=ha;have hfl:=aO E xs;have hlt:j*E.z<xs.length*E.z:=by rw[hz];omega
  have hle2:s.len*E.z<=s.cap*E.z:=Ta _ hle;rw[<-hl]at hlt;refine St.mk' hb om hone λw' hu hsz hb'=>hk w' (((h.take i hi).step (A':=ag E s (xs.set j x)) λalc hA hG=>⟨hu.mono λk _ e=>by rw[e];exact hA.1 _ ha',alc,⟨hA.1,by simpa using hl,?_⟩,λk hk=>⟨.inl hk,by have:=(hG k hk).2;omega⟩⟩).put (cT hi));refine .mk b' o' _ ha' hb' hle (by simpa using hc) ?_;rw[oY E xs j x hj,hx,hcs];have key:∀(l:J V)(o n m:S),o+n<=l.length->m<n->putAt ((l.drop o).take n) m [v]=((l.set (o+m) v).drop o).take n:=by
   intro l o n m h1 h2;apply Td;intro t;rw[dF _ _ _ _ (by simp;omega)];simp only[List.length_singleton,S5,S8,To];by_cases e:m=t
   .subst e
    rw[Z om,Z h2,Z O,Z om];simp
   .rw[Y om,Y (show ¬o+m=o+t by omega)]
  exact key l o' (s.len*E.z) (j*E.z) om hlt
theorem Ow.Pd{T el:qi}{inf:qL}{zv:V}{s x:Sl}{xs ys:J α}{k:Sl->W->Prop}
  (hu:P.underlying T=X (.slice el)) (hi:P.info? el=X inf) (hz:inf.zero=X zv) (hsz:inf.size=E.z) (hzc:zv.cells.size=E.z) (hb:1<=inf.bytes)
  (h:Ow B w0 w L) (i:S) (hL:L[i]?=X (ag E s xs)) (hdl:(ys.flatMap E.enc).length=x.len*E.z) (hnew:∀ak9:W,ak9.heap=w.heap->(Builtin.firstCells E.z x.len (.slice x.a x.len x.cap)).run P ak9= .ok ⟨ys.flatMap E.enc⟩ ak9) (hxl:x.len=ys.length) (hbig:(17*(xs.length+ys.length)+16000)*inf.bytes<=2^48)
  (hk:∀s' w',s'.len=xs.length+ys.length->Ow B w0 w' (L.set i (ag E s' (xs++ys)))->k s' w'):
  ∃s' w',dO P [T,T] T (.slice s.a s.len s.cap) (.slice x.a x.len x.cap) w s' w'/\k s' w':=by
 have hs:=h.tX i hL;have hl:=h.len i hL;have hone:∀v∈ys.flatMap E.enc,v.oneCell'=true:=λv hv=>by obtain⟨y,_,hy⟩:=VC.1 hv;exact E.one y v hy
 obtain⟨s',w',h1,h2,h3⟩:=JG (P:=P) (T:=T) hu hi hz hsz hzc hb hs hdl hnew hone (by rw[hl,hxl];exact hbig);refine⟨s',w',h1,hk s' w' (by rw[h2,hl,hxl]) (((h.take i hL).step (A':=ag E s' (xs++ys)) λalc hA hG=>⟨h3.vP.mono λk _⟨a,ha,e⟩=>by rw[<-e];exact hA.1 a ha,λk=>s'.In (λj=>j≠k)->qm,⟨?_,?_,?_⟩,?_⟩).put (cT hL))⟩
 .intro a ha hn;exact hn a ha O
 .rw[h2,hl,hxl,SG]
 .rw[Tp];exact h3.own
 .intro k hk
  have:∃a,s'.a=X a/\a.block=k:=by refine Classical.byContradiction λhn=>hk λa ha e=>hn ⟨a,ha,e⟩
  obtain⟨a,ha,rfl⟩:=this;refine⟨?_,h3.own.lt a ha⟩;rcases h3.here a ha with⟨a0,h4,h5⟩|h4
  .rw[<-h5];exact .inl (hA.1 a0 h4)
  .exact .inr om
theorem Ow.app{T el:qi}{inf:qL}{zv:V}{s x:Sl}{xs ys:J α}{k:Sl->W->Prop}
  (hu:P.underlying T=X (.slice el)) (hi:P.info? el=X inf) (hz:inf.zero=X zv) (hsz:inf.size=E.z) (hzc:zv.cells.size=E.z) (hb:1<=inf.bytes)
  (h:Ow B w0 w L) (i:S) (hL:L[i]?=X (ag E s xs)) (hx:lP E.z w x (ys.flatMap E.enc)) (hxl:x.len=ys.length) (hbig:(17*(xs.length+ys.length)+16000)*inf.bytes<=2^48)
  (hk:∀s' w',s'.len=xs.length+ys.length->Ow B w0 w' (L.set i (ag E s' (xs++ys)))->k s' w'):
  ∃s' w',dO P [T,T] T (.slice s.a s.len s.cap) (.slice x.a x.len x.cap) w s' w'/\k s' w':=
 Ow.Pd hu hi hz hsz hzc hb h i hL hx.length (xv hx) hxl hbig hk
theorem Ow.L8{T el:qi}{inf:qL}{zv:V}{s:Sl}{xs:J α}{y:α}{b:S}{k:Sl->W->Prop}
  (hu:P.underlying T=X (.slice el)) (hi:P.info? el=X inf) (hz:inf.zero=X zv) (hsz:inf.size=E.z) (hzc:zv.cells.size=E.z) (hb:1<=inf.bytes)
  (h:Ow B w0 w (ae b (E.enc y)::L)) (i:S) (hL:L[i]?=X (ag E s xs)) (hbig:(17*(xs.length+1)+16000)*inf.bytes<=2^48)
  (hk:∀s' w',s'.len=xs.length+1->Ow B w0 w' (L.set i (ag E s' (xs++ [y])))->k s' w'):
  ∃s' w',dO P [T,T] T (.slice s.a s.len s.cap) (.slice (X (Addr.mk b 0 Q)) 1 1) w s' w'/\k s' w':=by
 have hx:lP E.z w ⟨X (Addr.mk b 0 Q),1,1⟩ ([y].flatMap E.enc):=by
  refine .mk b 0 (E.enc y) O (h.yX 0 O) (SA _) (by simp[E.len]) ?_;have:(1:S)*E.z=(E.enc y).length:=by rw[E.len];omega
  simp only[T5,List.flatMap_nil,SL,T9,this,UC]
 have h':Ow B w0 w L:=h.drop;exact h'.app (x:=⟨X (Addr.mk b 0 Q),1,1⟩) (ys:=[y]) hu hi hz hsz hzc hb i hL hx O (by simpa using hbig) (by simpa using hk)
theorem Ow.Sf{l:J V}{t:qi}{k:W->Prop}(h:Ow B w0 w R)(hk:∀w',iA No w w'->Ow B w0 w' (ae w.heap.size l::R)->k w'):Al w (.cells ⟨l⟩ t) k:=
 Al.mk' λw' hu hs hb=>hk w' hu (h.new (A':=ae w.heap.size l) (G':=λk=>k=w.heap.size) hu ⟨O,hb⟩ λk e=>by omega)
theorem lP.no{z:S}{w':W}{s:Sl}{cs:J V}(h:lP z w s cs)(u:iA No w w'):lP z w' s cs:=h.vP u λ_ _ h=>h
theorem Ow.OM{ak7 A:aG}(h:Ow B w0 w (ak7::L))(i:S)(hi:L[i]?=X A):Ow B w0 w (L.set i ak7):=by have h2:=h.take (i+1) (A:=A) (by simpa using hi);have h3:Ow B w0 w (ak7::L.eraseIdx i):=h2.drop;exact h3.put (cT hi)
theorem lP.sub{z:S}{s:Sl}{cs:J V}(h:lP z w s cs){l hh:S}(hl:l<=hh)(hh':hh<=s.len):lP z w ⟨mn s.a l s.cap z,hh-l,s.cap-l⟩ ((cs.take (hh*z)).drop (l*z)):=by
 cases h with
 |nil ha h1 h2 h3=>
  have:l=0/\hh=0:=om
  obtain⟨rfl,rfl⟩:=this;exact .nil (by simp[mn,ha]) O (by simp[h2]) (by simp[h3])
 |mk b o ls ha hb hle hc hcs=>
  have m1:l*z<=hh*z:=Ta _ hl;have m2:hh*z<=s.len*z:=Ta _ hh';have m3:s.len*z<=s.cap*z:=Ta _ hle;by_cases e:s.cap=l
  .have e2:hh=l:=om
   refine .mk b o ls (by simp[mn,e,ha]) hb ?_ ?_ ?_
   .show hh-l<=s.cap-l
    omega
   .show o+(s.cap-l)*z<=ls.length
    rw[e,Uh,Vz];omega
   .rw[e2]
    simp only[Uh,Vz,List.take_zero];apply Vf;rw[SN];omega
  .refine .mk b (o+l*z) ls ?_ hb ?_ ?_ ?_
   .simp only[mn,Y e,ha,TM,aL]
   .show hh-l<=s.cap-l
    omega
   .show o+l*z+(s.cap-l)*z<=ls.length
    rw[Wv];omega
   .show _=(ls.drop (o+l*z)).take ((hh-l)*z)
    rw[hcs,U1,TL m2,Wv,List.drop_take,TK]
theorem Ow.Be{b:S}{l l':J V}(h:Ow B w0 w (ae b l::R))(e:l=l'):Ow B w0 w (ae b l'::R):=e▸h
theorem aY{id:S}{first cap:qw V}{args:J V}{R:Ending->W->Prop}(h:okF P id (Calls P id (first++⟨args⟩++cap) w R)):fP P (.func (.func id) first cap) args w R:=⟨id,first,cap,O,h⟩
theorem Ow.empty{b:S}(h:Ow B w0 w (ae b []::R)):Ow B w0 w (ag E ⟨X (Addr.mk b 0 Q),0,0⟩ []::R):=
 h.conv λalc hG=>⟨λa ha=>by cases ha;exact hG.1,O,.mk b 0 [] O hG.2 (SA _) qc qc⟩
theorem Ow.cB(h:Ow B w0 w R):Ow B w0 w (ag E ⟨Q,0,0⟩ []::R):=by have:=Ow.cI (p:=qu) trivial h;exact this.conv λalc _=>⟨(λa ha=>by cases ha),rfl,.nil O O O O⟩
theorem IN(a:qg qf)(cap z:S)(h:∀x,a=X x->x.spot=Q):mn a 0 cap z=a:=by
 unfold mn;split
 .rfl
 .cases a with
  |none=>rfl
  |some x=>simp[Addr.add]
theorem lP.spot{z:S}{s:Sl}{cs:J V}(h:lP z w s cs):∀x,s.a=X x->x.spot=none:=λx hx=>by
 cases h with
 |nil ha _ _ _=>rw[ha]at hx;cases hx
 |mk b o l ha _ _ _ _=>rw[ha]at hx;cases hx;rfl
theorem Ow.pre{s:Sl}{xs:J α}(h:Ow B w0 w L)(i:S)(hi:L[i]?=X (ag E s xs)){n:S}(hn:n<=xs.length):Ow B w0 w (L.set i (ag E ⟨s.a,n,s.cap⟩ (xs.take n))):=by
 refine(Ow.conv (h.take i hi) λalc hG=>?_).put (cT hi);have hfl:=aO E xs;refine⟨λa ha=>hG.1 a ha,by simp[hn],?_⟩;have htake:(xs.take n).flatMap E.enc=(xs.flatMap E.enc).take (n*E.z):=by
  have h1:xs.flatMap E.enc=(xs.take n).flatMap E.enc++(xs.drop n).flatMap E.enc:=by rw[<-Tp,Tl]
  have h2:((xs.take n).flatMap E.enc).length=n*E.z:=by rw[aO];simp[hn]
  rw[h1,<-h2,U0]
 cases hG.2.2 with
 |nil ha hl hc hcs=>
  have h0:xs.length=0:=by rw[<-hG.2.1];exact hl
  have:n=0:=om
  subst this;exact .nil ha O hc qc
 |mk b o l ha hb hl hc hcs=>
  have:=hG.2.1;refine .mk b o l ha hb (by show n<=s.cap;omega) hc ?_;rw[htake,hcs];show _=(l.drop o).take (n*E.z);rw[U1];congr 1;have:n*E.z<=s.len*E.z:=Ta _ om;omega
theorem Ow.clear{T el t:qi}{zv:V}{z0:α}{s:Sl}{xs:J α}{C:W->Prop}(hu:P.underlying T=X (.slice el))(hz:∀w,(qK el).run P w= .ok zv w)(hzc:zv.cells.toList=E.enc z0)
  (h:Ow B w0 w L) (i:S) (hi:L[i]?=X (ag E s xs)) {n:S} (hn:n<=xs.length) (hC:∀w',Ow B w0 w' (L.set i (ag E s (xs.take n++SB (xs.length-n) z0)))->C w'):
  ∃w',wQ P [T] t (.slice (mn s.a n s.cap E.z) (s.len-n) (s.cap-n)) w w'/\C w':=by
 have hs:=h.tX i hi;have hl:=h.len i hi;by_cases hnl:n=xs.length
 .refine ⟨w,?_,hC w ?_⟩
  .unfold wQ Builtin.clear_
   have:s.len-n=0:=om
   rw[this];simp only[Ud,TI,Sem.run_bind,bf hu,Result.andThen_ok];cases mn s.a n s.cap E.z<;>rfl
  .have:xs.take n++SB (xs.length-n) z0=xs:=by rw[hnl];simp
   rw[this];have hset:L.set i (ag E s xs)=L:=by
    apply Td;intro j;rw[To];by_cases e:i=j
    .subst e;rw[Z O,Z (cT hi),hi]
    .simp[e]
   rw[hset];exact h
 .cases hs with
  |nil ha hl' hc hcs=>omega
  |mk b o l ha hb hle hc hcs=>
   have hzl:zv.cells.size=E.z:=by rw[<-TH,hzc,E.len]
   have hfl:=aO E xs;have hlt:n<s.len:=om
   have hmul:s.len*E.z<=s.cap*E.z:=Ta _ hle;have hnm:n*E.z<=s.len*E.z:=Ta _ om;have hA:mn s.a n s.cap E.z=X ⟨b,o+n*E.z,Q⟩:=by unfold mn;rw[Y om,ha];simp only[TM,aL]
   let zs:J V:=(Builtin.zeroCells zv.cells (s.len-n)).toList
   have hzs:zs=(SB (xs.length-n) z0).flatMap E.enc:=by
    have h1:(Builtin.zeroCells zv.cells (s.len-n))=⟨rep (s.len-n) zv.cells.toList⟩:=by unfold Builtin.zeroCells;exact ui zv.cells (s.len-n) (by rw[hzl];exact E.pos)
    have h2:∀m,rep m (E.enc z0)=(SB m z0).flatMap E.enc:=by
     intro m;induction m with
     |zero=>rfl
     |succ m ih=>simp[rep,US,ih]
    show(Builtin.zeroCells zv.cells (s.len-n)).toList=_;rw[h1,hzc,h2,hl]
   have hzlen:zs.length=(s.len-n)*E.z:=by rw[hzs,aO];simp[hl]
   have hroom:o+n*E.z+zs.length<=l.length:=by rw[hzlen,Wv];omega
   have hone:∀v∈zs,v.oneCell'=true:=λv hv=>by rw[hzs]at hv;obtain⟨y,_,hy⟩:=VC.1 hv;exact E.one y v hy
   obtain⟨w',h1,h2,h3,h4⟩:=iW (P:=P) zs l (o+n*E.z) w hb hroom hone 0 (o+n*E.z) om;refine⟨w',?_,hC w' (((h.take i hi).step (A':=ag E s (xs.take n++SB (xs.length-n) z0)) λalc hA' hG=>⟨h2.mono λk _ e=>by rw[e];exact hA'.1 _ ha,alc,⟨hA'.1,?_,?_⟩,λk hk=>⟨.inl hk,by have:=(hG k hk).2;omega⟩⟩).put (cT hi))⟩
   .unfold wQ Builtin.clear_
    rw[hA];obtain⟨d,hd⟩:∃d,s.len-n=d+1:=⟨s.len-n-1,om⟩
    simp only[Ud,TI,Sem.run_bind,bf hu,Result.andThen_ok];have h1':(storeCells ⟨b,o+n*E.z,Q⟩ (Builtin.zeroCells zv.cells (d+1)).toList).run P w= .ok () w':=by rw[<-hd];exact h1
    rw[hd];simp only[hz,Sem.run_bind,Result.andThen_ok,h1'];rfl
   .simp[hl];omega
   .refine .mk b o _ ha h4 hle (by rw[iN];exact hc) ?_
    have hpre:(xs.take n).flatMap E.enc=(xs.flatMap E.enc).take (n*E.z):=by
     have g1:xs.flatMap E.enc=(xs.take n).flatMap E.enc++(xs.drop n).flatMap E.enc:=by rw[<-Tp,Tl]
     have g2:((xs.take n).flatMap E.enc).length=n*E.z:=by rw[aO];simp[hn]
     rw[g1,<-g2,U0]
    rw[Tp,<-hzs,hpre,hcs];apply Td;intro t;rw[S5,S8,dF _ _ _ _ hroom,U1,TL hnm];by_cases e:t<n*E.z
    .rw[SM (by simp;omega),S5,Z e,S8,Z om,Y om]
    .have hl2:(List.take (n*E.z) (List.drop o l)).length=n*E.z:=by simp;omega
     rw[SP om,hl2];by_cases e2:t<s.len*E.z
     .rw[Z e2,Z (by rw[hzlen,Wv];omega)]
      congr 1;omega
     .rw[Y e2]
      apply SZ;rw[hzlen,Wv];omega
theorem Ow.vB{T kt el:qi}{K alb:Type}[qS K]{enc:K->V}{encV:alb->V}{m:S}{M:J (K × alb)}{k:K}{v:alb}(hu:P.underlying T=X (.map kt el))(hk:lN P kt enc)
  (h:Ow B w0 w L) (i:S) (hi:L[i]?=X (mw enc encV m M)) (hl:dQ M k=X v):Ev P T (.map (X m)) (enc k) (encV v) G w/\F9 P T (.map (X m)) (enc k) (encV v) w:=
 ((h.take i hi).head λ_ h=>h.2).H3 hu hk hl
theorem Ow.xJ{T kt el:qi}{K alb:Type}[qS K]{enc:K->V}{encV:alb->V}{m:S}{M:J (K × alb)}{k:K}{z:V}(hu:P.underlying T=X (.map kt el))(hk:lN P kt enc)(hz:∀w,(qK el).run P w= .ok z w)
  (h:Ow B w0 w L) (i:S) (hi:L[i]?=X (mw enc encV m M)) (hl:dQ M k=Q):Ev P T (.map (X m)) (enc k) z qd w/\F9 P T (.map (X m)) (enc k) z w:=
 ((h.take i hi).head λ_ h=>h.2).fW hu hk hz hl
theorem Ow.lM{T kt el:qi}{K alb:Type}[qS K]{enc:K->V}{encV:alb->V}{m:S}{M:J (K × alb)}{k:K}{v:alb}{C:W->Prop}(hu:P.underlying T=X (.map kt el))(hk:lN P kt enc)
  (h:Ow B w0 w L) (i:S) (hi:L[i]?=X (mw enc encV m M)) (hC:∀w',Ow B w0 w' (L.set i (mw enc encV m (ko M k v)))->C w'):∃w',za P T (.map (X m)) (enc k) (encV v) w w'/\C w':=by
 obtain⟨w',h1,h2,h3,h4⟩:=((h.take i hi).head λ_ h=>h.2).put (P:=P) (T:=T) hu hk k v;exact⟨w',h1,hC w' (((h.take i hi).step (A':=mw enc encV m (ko M k v)) λalc hA hG=>⟨h2.mono λk _ e=>by rw[e];exact hA.1,alc,⟨hA.1,h4⟩,λk hk=>⟨.inl hk,by have:=(hG k hk).2;omega⟩⟩).put (cT hi))⟩
theorem Ow.MK{T kt el t:qi}{ts:J qi}{K alb:Type}[qS K]{enc:K->V}{encV:alb->V}{m:S}{M:J (K × alb)}{k:K}{C:W->Prop}(hu:P.underlying T=X (.map kt el))(hk:lN P kt enc)
  (h:Ow B w0 w L) (i:S) (hi:L[i]?=X (mw enc encV m M)) (hC:∀w',Ow B w0 w' (L.set i (mw enc encV m (mA M k)))->C w'):∃w',He P (T::ts) t (.map (X m)) (enc k) w w'/\C w':=by
 obtain⟨w',h1,h2,h3,h4⟩:=((h.take i hi).head λ_ h=>h.2).del (P:=P) (T:=T) (t:=t) (ts:=ts) hu hk k;exact⟨w',h1,hC w' (((h.take i hi).step (A':=mw enc encV m (mA M k)) λalc hA hG=>⟨h2.mono λk _ e=>by rw[e];exact hA.1,alc,⟨hA.1,h4⟩,λk hk=>⟨.inl hk,by have:=(hG k hk).2;omega⟩⟩).put (cT hi))⟩
structure Jd{α:Type}(E:dX α)(w0:W)(s:Sl)(xs:J α):Prop where
 len:s.len=xs.length
 cap:s.len<=s.cap
 Px:∀j x,xs[j]?=X x->∃a,s.a=X a/\a.block<w0.heap.size/\∀c v,(E.enc x)[c]?=X v->w0.cell? ((a.add (j*E.z)).add c)=X v
theorem zH(a:qf)(n:S):(a.add n).block=a.block:=by unfold Addr.add;split<;>rfl
theorem add_nil(a:qf):a.add 0=a:=by simp[Addr.add]
theorem Jd.get{α:Type}{E:dX α}{w0 w:W}{s:Sl}{xs:J α}{L:J aG}(hi:Jd E w0 s xs)(h:Ow w0.heap.size w0 w L){j:S}{x:α}(hj:xs[j]?=X x):
  ∃a,s.a=X a/\∀c v,(E.enc x)[c]?=X v->w.cell? ((a.add (j*E.z)).add c)=X v:=by
 obtain⟨a,h1,h2,h3⟩:=hi.Px j x hj;refine⟨a,h1,λc v hv=>?_⟩;rw[h.below.cell (by rw[zH,zH];exact h2)];exact h3 c v hv
theorem Jd.lt{α:Type}{E:dX α}{w0:W}{s:Sl}{xs:J α}(h:Jd E w0 s xs){i:S}(hi:(i:U)<(s.len:U)):∃x,xs[i]?=X x:=⟨_,gE (by have:=h.len;omega)⟩
theorem LD(a:qg qf)(m z:S):mn a 0 m z=a:=by
 unfold mn;split
 .rfl
 .cases a with
  |none=>rfl
  |some x=>simp[Addr.add]
theorem A9(a:qf)(i j:S):(a.add i).add j=a.add (i+j):=by
 unfold Addr.add;by_cases hj:j=0
 .subst hj;simp
 .by_cases hi:i=0
  .subst hi;simp[hj]
  .simp[hi,hj,UN]
end
section
variable{P:qo}{α:Type}{E:dX α}{w0 w:W}{L:J aG}
theorem tm(E:dX α):∀(xs:J α)(i:S)(v:V),(xs.flatMap E.enc)[i]?=X v->∃j x c,xs[j]?=X x/\(E.enc x)[c]?=X v/\i=j*E.z+c
 | [],i,v,h=>by simp at h
 |x::xs,i,v,h=>by
  rw[T5]at h;by_cases hi:i<E.z
  .rw[SM (by rw[E.len];exact hi)]at h
   exact⟨0,x,i,O,h,om⟩
  .rw[SP (by rw[E.len];omega),E.len]at h
   obtain⟨j,y,c,h1,h2,h3⟩:=tm E xs (i-E.z) v h;exact⟨j+1,y,c,h1,h2,by rw[TX];omega⟩
theorem Ow.Qk{T el:qi}{inf:qL}{zv:V}{s x:Sl}{xs ys:J α}{n:S}{k:Sl->W->Prop}
  (hu:P.underlying T=X (.slice el)) (hf:P.info? el=X inf) (hz:inf.zero=X zv) (hsz:inf.size=E.z) (hzc:zv.cells.size=E.z) (hb:1<=inf.bytes) (hi:Jd E w0 x ys) (hn:n<=ys.length)
  (h:Ow w0.heap.size w0 w L) (i:S) (hL:L[i]?=X (ag E s xs)) (hbig:(17*(xs.length+n)+16000)*inf.bytes<=2^48)
  (hk:∀s' w',s'.len=xs.length+n->Ow w0.heap.size w0 w' (L.set i (ag E s' (xs++ys.take n)))->k s' w'):
  ∃s' w',dO P [T,T] T (.slice s.a s.len s.cap) (.slice (mn x.a 0 x.cap E.z) (n-0) (x.cap-0)) w s' w'/\k s' w':=by
 rw[LD];have hl:(ys.take n).length=n:=by rw[SN];omega
 refine Ow.Pd (x:=⟨x.a,n-0,x.cap-0⟩) (ys:=ys.take n) hu hf hz hsz hzc hb h i hL (by rw[aO,hl];rfl) (λak9 hW=>?_) (by rw[hl];rfl) (by rw[hl];exact hbig) (by rw[hl];exact hk);cases hx:x.a with
 |none=>
  have hy:ys.take n= []:=by
   cases ys with
   |nil=>simp
   |cons y ys=>obtain⟨a,ha,_⟩:=hi.Px 0 y O;rw[hx]at ha;cases ha
  rw[hy];rfl
 |some a=>
  have hc:∀j v,((ys.take n).flatMap E.enc)[j]?=X v->ak9.cell? (a.add j)=X v:=λj v hv=>by
   obtain⟨q,y,c,h1,h2,h3⟩:=tm E _ j v hv;rw[S5]at h1;split at h1
   .obtain ⟨a',ha',hg⟩:=hi.get h h1
    rw[hx]at ha';cases ha';have:=hg c v h2;rw[A9]at this;rw[h3];unfold World.cell? at this|-;rw[hW];exact this
   .cases h1
  have hlen:((ys.take n).flatMap E.enc).length=n*E.z:=by rw[aO,hl]
  simp only[Builtin.firstCells];unfold loadCells;have:=dJ (P:=P) ak9 a ((ys.take n).flatMap E.enc) 0 #[] (λj v hj=>by rw[dY]at hj;rw[SS];exact hc j v hj);rw[hlen]at this;rw[show n-0=n from O,this];simp
def Mo(f:qi->J V->J V->qg I)(z:qi->S)(xs ys:J V):J (qi × S)->qg I
 | []=>X G
 |(t,o)::r=>match f t ((xs.drop o).take (z t)) ((ys.drop o).take (z t)),Mo f z xs ys r with
  |some p,X q=>X (p&&q)
  |_,_=>Q
def rC(P:qo):S->qi->J V->J V->qg I
 |0,_,_,_=>Q
 |d+1,t,xs,ys=>match P.underlying t with
  |some .bool=>(match xs,ys with| [.bool a],[.bool b]=>X (a==b)|_,_=>Q)
  |some (.int _)=>(match xs,ys with| [.int k a],[.int k' b]=>if k=k' then X (a==b)else Q|_,_=>Q)
  |some .string=>(match xs,ys with| [.string a],[.string b]=>X (a==b)|_,_=>Q)
  |some (.array n e)=>if TA (P.cellsOf e) 0 then Q else Mo (rC P d) P.cellsOf xs ys ((SF n).map λi=>(e,i*P.cellsOf e))
  |some (.struct fs)=>if P.stoodInHeld t||fs.any (λf=>f.name== "_" ||TA (P.cellsOf f.type) 0) then Q else Mo (rC P d) P.cellsOf xs ys (fs.toList.map λf=>(f.type,f.offset))
  |_=>Q
def ow(P:qo)(t:qi)(xs:J V):V:=match P.underlying t with
 |some (.array _ _)|some (.struct _)=> .agg ⟨xs⟩
 |_=>xs.headD (.bool qd)
theorem BQ{P:qo}{t:qi}{d:S}{xs ys:J V}{o:S}{r:I}(z0:P.cellsOf t≠0)(h:rC P d t ((xs.drop o).take (P.cellsOf t)) ys=X r\/rC P d t ys ((xs.drop o).take (P.cellsOf t))=X r)(w:W):
  (part t ⟨xs⟩ o).run P w= .ok (ow P t ((xs.drop o).take (P.cellsOf t))) w:=by
 have key:∀v,(xs.drop o).take (P.cellsOf t)= [v]->xs[o]?=X v:=λv hv=>by
  have:((xs.drop o).take (P.cellsOf t))[0]?=X v:=by rw[hv];rfl
  rw[S5,Z om,S8]at this;simpa using this
 cases d with
 |zero=>rcases h with h|h<;>simp[rC]at h
 |succ d=>
  cases hu:P.underlying t with
  |none=>rcases h with h|h<;>simp[rC,hu]at h
  |some k=>
   have hi:∃i,P.info? t=X i:=by
    cases hi:P.info? t with
    |none=>simp[Program.underlying,hi]at hu
    |some i=>exact⟨i,O⟩
   obtain⟨i,hi⟩:=hi;have plain:(∃v,(xs.drop o).take (P.cellsOf t)= [v])->(∀n e,k≠ .array n e)->(∀fs,k≠ .struct fs)->(part t ⟨xs⟩ o).run P w= .ok (ow P t ((xs.drop o).take (P.cellsOf t))) w:=by
    intro⟨v,hv⟩ n1 n2;have hx:=key v hv;have hx':(⟨xs⟩:qw V)[o]?=X v:=by simpa using hx
    rw[hv];cases k<;>simp_all [part,isAgg,run_underlying hu,ow]
   cases k with
   |array n e=>
    simp[part,isAgg,run_underlying hu,run_sizeOf w hi,ow,hu,List.extract]
   |struct fs=>simp[part,isAgg,run_underlying hu,run_sizeOf w hi,ow,hu,List.extract]
   |bool=>
    refine plain ?_ (by intros;simp) (by intros;simp);rcases h with h|h<;>simp only[rC,hu]at h<;>split at h<;>simp_all
   |int q=>
    refine plain ?_ (by intros;simp) (by intros;simp);rcases h with h|h<;>simp only[rC,hu]at h<;>split at h<;>simp_all
   |string=>
    refine plain ?_ (by intros;simp) (by intros;simp);rcases h with h|h<;>simp only[rC,hu]at h<;>split at h<;>simp_all
   |_=>rcases h with h|h<;>simp[rC,hu]at h
theorem uB{P:qo}:∀(d:S){t:qi}{xs ys:J V}{r:I},rC P d t xs ys=X r->∀(dd:S)(w:W),d<=dd->(Op.equalIn dd t (ow P t xs) (ow P t ys)).run P w= .ok r w:=by
 intro d;induction d with
 |zero=>intro t xs ys r h;simp[rC]at h
 |succ d ih=>
  intro t xs ys r h dd w hd;obtain⟨dd,rfl⟩:∃n,dd=n+1:=⟨dd-1,om⟩
  cases hu:P.underlying t with
  |none=>simp[rC,hu]at h
  |some k=>
   simp only[rC,hu]at h;cases k with
   |bool=>
    simp only at h;split at h
    .cases h;simp only[ow,hu,XB];exact run_equalIn_bool w dd t _ _ hu
    .cases h
   |int q=>
    simp only at h;split at h
    .split at h
     .rename_i e;subst e;cases h;simp only[ow,hu,XB];exact run_equalIn_int w dd t _ _ _ _ hu
     .cases h
    .cases h
   |string=>
    simp only at h;split at h
    .cases h;simp only[ow,hu,XB,beq_toListBytes];exact run_equalIn_string w dd t _ _ hu
    .cases h
   |array n e=>
    simp only at h;split at h
    .cases h
    .rename_i hz
     have hz:P.cellsOf e≠0:=λe=>hz (by rw[e];rfl);have hi:∃i,P.info? e=X i:=by
      cases hi:P.info? e with
      |none=>exfalso;apply hz;simp[Program.cellsOf,hi]
      |some i=>exact⟨i,O⟩
     obtain⟨i,hi⟩:=hi;simp only[ow,hu];rw[run_equalIn_array w dd _ _ hu hi];generalize SF n=is at h;induction is generalizing r with
     |nil=>simp only[Uf,Mo,Option.some.injEq]at h;subst h;simp[Op.eqItems]
     |cons j is ihl=>
      simp only[S7,Mo]at h;cases hp:rC P d e ((xs.drop (j*P.cellsOf e)).take (P.cellsOf e)) ((ys.drop (j*P.cellsOf e)).take (P.cellsOf e))with
      |none=>rw[hp]at h;simp at h
      |some p=>
       cases hq:Mo (rC P d) P.cellsOf xs ys (is.map λi=>(e,i*P.cellsOf e))with
       |none=>rw[hp,hq]at h;simp at h
       |some q=>
        rw[hp,hq]at h;simp only[Option.some.injEq]at h;subst h;simp only[Op.eqItems,Sem.run_bind,BQ hz (.inl hp),BQ hz (.inr hp),Result.andThen_ok,ih hp dd w om];cases p
        .simp
        .simp only[T1,SX,qB,Uo];exact ihl hq
   |struct fs=>
    simp only at h;split at h
    .cases h
    .rename_i hc
     simp only[TV,not_or,Bool.not_eq_true]at hc;obtain⟨hst,hfs⟩:=hc;have hf:P.fieldsOf t=fs:=by simp[Program.fieldsOf,hu]
     simp only[ow,hu];rw[run_equalIn_struct w dd t _ _ (by rw[hf];exact hu) hst,hf];have hfs:∀f∈fs.toList,f.name≠ "_" /\P.cellsOf f.type≠0:=λf hf'=>by have:=(Array.any_eq_false'.1 hfs) f (U4.1 hf');simp only[TV,qN,not_or] at this;exact ⟨this.1,λe=>this.2 (by rw[e];rfl)⟩
     generalize fs.toList=ls at h hfs;induction ls generalizing r with
     |nil=>simp only[Uf,Mo,Option.some.injEq]at h;subst h;simp[Op.eqFields]
     |cons f ls ihl=>
      simp only[S7,Mo]at h;obtain⟨hn,hz⟩:=hfs f qc;cases hp:rC P d f.type ((xs.drop f.offset).take (P.cellsOf f.type)) ((ys.drop f.offset).take (P.cellsOf f.type))with
      |none=>rw[hp]at h;simp at h
      |some p=>
       cases hq:Mo (rC P d) P.cellsOf xs ys (ls.map λf=>(f.type,f.offset))with
       |none=>rw[hp,hq]at h;simp at h
       |some q=>
        rw[hp,hq]at h;simp only[Option.some.injEq]at h;subst h;simp only[Op.eqFields,hn,ne_eq,not_false_iff,qE,Sem.run_bind,BQ hz (.inl hp),BQ hz (.inr hp),Result.andThen_ok,ih hp dd w om];cases p
        .simp
        .simp only[T1,SX,qB,Uo];exact ihl hq λf hf'=>hfs f (by simp[hf'])
   |_=>simp at h
theorem JZ{P:qo}{t:qi}{x y:qD}{xs ys:J V}{r:I}(ha:ow P t xs= .agg ⟨xs⟩)(hb:ow P t ys= .agg ⟨ys⟩)(hg:P.eqGuardType P.depth t=qd)(h:rC P 9 t xs ys=X r):LY P .eql t x y (.agg ⟨xs⟩) (.agg ⟨ys⟩) r:=by intro w;have:=uB 9 h 10000 w qb;rw[ha,hb]at this;simp only[Sem.run_bind,run_eqGuard_agg w .eql t x y _ _ hg,Result.andThen_ok,run_eql_struct,this]
theorem KR{P:qo}{t:qi}{x y:qD}{xs ys:J V}{r:I}(ha:ow P t xs= .agg ⟨xs⟩)(hb:ow P t ys= .agg ⟨ys⟩)(hg:P.eqGuardType P.depth t=qd)(h:rC P 9 t xs ys=X r):LY P .neq t x y (.agg ⟨xs⟩) (.agg ⟨ys⟩) (!r):=by intro w;have:=uB 9 h 10000 w qb;rw[ha,hb]at this;simp only[Sem.run_bind,run_eqGuard_agg w .neq t x y _ _ hg,Result.andThen_ok,run_neq_struct,this]
end
end Go.Vc
namespace Go.Vc
open Go.ChangeShapes Go.WideShapes
inductive SK
 |int (k:qO)|bool|str
def SK.fit:SK->V->Prop
 | .int k,v=>∃n,v= .int k n/\(Lit.int k n).wf=G
 | .bool,v=>∃b,v= .bool b
 | .str,v=>∃s:ByteArray,v= .string s/\s.size<=maxLen
inductive Fits:J SK->J V->Prop
 |nil:Fits [] []
 |cons {k:SK} {v:V} {ks:J SK} {vs:J V} (h:k.fit v) (hs:Fits ks vs):Fits (k::ks) (v::vs)
theorem Fits.length{ks:J SK}{vs:J V}(h:Fits ks vs):vs.length=ks.length:=by induction h<;>simp_all
theorem Fits.dy{k:SK}{ks:J SK}{vs:J V}(h:Fits (k::ks) vs):∃v vs',vs=v::vs'/\k.fit v/\Fits ks vs':=by
 cases h with
 |cons h hs=>exact⟨_,_,O,h,hs⟩
theorem Fits.BM{vs:J V}(h:Fits [] vs):vs= []:=by cases h;rfl
end Go.Vc
namespace Go.Vc
open Go.ChangeMaps (setBlock)
section
variable{P:qo}{B:S}{w0 w:W}{L R:J aG}{K alb:Type}{enc:K->V}{encV:alb->V}{m:S}{M:J (K × alb)}
structure Nq{K alb:Type}(enc:K->V)(encV:alb->V)(w:W)(m it:S)(M left:J (K × alb)):Prop where
 ex:∃es c since seen c0,oc w m es c/\es.toList.map (λe=>(e.key,e.val))=M.map (λp=>(enc p.1,encV p.2))/\(es.toList.map (·.born)).Nodup/\(∀e∈es.toList,e.born<c)/\
  w.heap[it]?=X (.mapIter (X m) since seen c0)/\(∀e∈es.toList,e.born<since)/\since<=c0/\since<=c/\
  (leftOf es seen).toList.map (λe=>(e.key,e.val))=left.map (λp=>(enc p.1,encV p.2))
 nodup:(M.map (·.1)).Nodup
 sub:left.Sublist M
def sS{K alb:Type}(enc:K->V)(encV:alb->V)(m it:S)(M left:J (K × alb)):aG where
 holds alc w:=(alc m/\alc it)/\Nq enc encV w m it M left
 loc alc w w' h hk:=⟨h.1,by obtain⟨es,c,since,seen,c0,h1,h2,h3,h4,h5,h6⟩:=h.2.ex;exact⟨⟨es,c,since,seen,c0,by unfold oc at *;rw[hk m h.1.1];exact h1,h2,h3,h4,by rw[hk it h.1.2];exact h5,h6⟩,h.2.nodup,h.2.sub⟩⟩
 up alc G' w h hk:=⟨⟨hk _ h.1.1,hk _ h.1.2⟩,h.2⟩
theorem vr:∀(l:J qH)(j:S)(e:qH),(l.map (·.born)).Nodup->l[j]?=X e->l.filter (λx=>x.born !=e.born)=l.eraseIdx j
 | [],j,e,_,h=>by simp at h
 |a::l,0,e,hn,h=>by simp only[TI,Option.some.injEq]at h;subst h;rw[S7,Tx]at hn;rw[Tk];simp only[bne_self_eq_false,SX,qB,List.eraseIdx_cons_zero,List.filter_eq_self,qQ,ne_eq];intro x hx e';exact hn.1 (Tj.2 ⟨x,hx,e'⟩)
 |a::l,j+1,e,hn,h=>by
  rw[S7,Tx]at hn;rw[SR]at h;have hne:(a.born !=e.born)=true:=by simp only[qQ,ne_eq];intro e';exact hn.1 (Tj.2 ⟨e,SU h,e'.symm⟩)
  rw[Tk,hne,Z O,UB,vr l j e hn.2 h]
theorem Ow.range{T kt el:qi}{C:qf->W->Prop}(hu:P.underlying T=X (.map kt el))(h:Ow B w0 w L)(i:S)(hi:L[i]?=X (mw enc encV m M))(hC:∀w',Ow B w0 w' (L.set i (sS enc encV m w.heap.size M M))->C ⟨w.heap.size,0,Q⟩ w'):
  ∃(it:qf)(w':W),AY P T (.map (X m)) w it w'/\C it w':=by
 have hM:lJ enc encV w m M:=(h.take i hi).head λ_ h=>h.2;obtain⟨es,c,h1,h2,h3,h4⟩:=hM.ex;refine⟨_,_,run_range_map w T kt el m es c hu h1,hC _ (((h.take i hi).step (A':=sS enc encV m w.heap.size M M) λalc hA hG=>?_).put (cT hi))⟩;have hu':=ff w (.mapIter (X m) c #[] c);refine⟨hu'.KX,λk=>alc k\/k=w.heap.size,⟨⟨.inl hA.1,.inr O⟩,⟨⟨es,c,c,#[],c,h1.vP hu' (λh=>h),h2,h3,h4,heap_alloc_new _ _,h4,SA _,SA _,?_⟩,hM.nodup,List.Sublist.refl _⟩⟩,λk hk=>?_⟩
 .have:leftOf es #[]=es:=by unfold leftOf;simp
  rw[this];exact h2
 .have hsz:(w.alloc (.mapIter (X m) c #[] c)).heap.size=w.heap.size+1:=by show(w.heap.push _).size=_;simp
  rcases hk with hk|hk
  .exact ⟨.inl hk,by have:=(hG k hk).2;omega⟩
  .exact ⟨.inr om,om⟩
theorem Cp(w:W)(r:S)(o:Obj):iA (·=r) w (setBlock w r o):=by refine⟨O,O,O,by simp[setBlock],λk hk hn=>?_⟩;simp[setBlock,UE (show r≠k from λe=>hn e.symm)]
theorem Ow.next{ty:qi}{it:S}{left:J (K × alb)}{C:I->J V->W->Prop}(h:Ow B w0 w L)(i:S)(hi:L[i]?=X (sS enc encV m it M left))
  (hend:left= []->C qd [] w)
  (hgo:∀(j:S)(k:K)(v:alb)(w':W),left[j]?=X (k,v)->Ow B w0 w' (L.set i (sS enc encV m it M (left.eraseIdx j)))->AW P (.pointer (X ⟨it,0,Q⟩)) (enc k) (encV v) w'->C G [enc k,encV v] w'):
  ∃(more:I)(l:J V)(w':W),Ga P (.pointer (X ⟨it,0,Q⟩)) qd ty w more l w'/\C more l w':=by
 have hM:Nq enc encV w m it M left:=(h.take i hi).head λ_ h=>h.2;obtain⟨es,c,since,seen,c0,h1,h2,h3,h4,h5,h6,h7,h8,h9⟩:=hM.ex;rcases run_next_at (P:=P) w ty it m since c0 seen es c h5 h1 h6 h7 with⟨hsz,hrun⟩|⟨e,he,w1,hw1,hrun⟩
 .refine ⟨qd,[],w,hrun,hend ?_⟩
  have:(leftOf es seen).toList= []:=TQ (by simpa using hsz);rw[this]at h9;simpa using h9.symm
 .obtain ⟨j,hj⟩:=List.getElem?_of_mem he
  have hkv:=qz (λl=>l[j]?) h9;simp only[S2,hj,TM]at hkv;cases hl:left[j]? with
  |none=>rw[hl]at hkv;cases hkv
  |some p=>
   rw[hl]at hkv;simp only[TM,Option.some.injEq,Prod.mk.injEq]at hkv;have hu1:iA No w w1:=by
    rcases hw1 with rfl|rfl
    .exact iA.refl _ _
    .exact pO O O O O
   have hmem:e∈es.toList:=by have:=U4.1 he;unfold leftOf at this;exact U4.2 (Array.mem_filter.1 this).1
   have hne:m≠it:=λe'=>by subst e';rw[h1]at h5;cases h5
   have hset:(setBlock w1 it (.mapIter (X m) since (seen.push e.born) c)).heap[it]?=X (.mapIter (X m) since (seen.push e.born) c):=by
    have hlt:it<w1.heap.size:=by have:=(Te.1 h5).1;exact Ub this hu1.size
    simp[setBlock,U9 hlt]
   have hu2:=Cp w1 it (.mapIter (X m) since (seen.push e.born) c);have Gv:oc (setBlock w1 it (.mapIter (X m) since (seen.push e.born) c)) m es c:=(h1.vP hu1 (λh=>h)).vP hu2 hne;have hleft:(leftOf es (seen.push e.born)).toList.map (λe=>(e.key,e.val))=(left.eraseIdx j).map (λp=>(enc p.1,encV p.2)):=by
    have e1:(leftOf es (seen.push e.born)).toList=(leftOf es seen).toList.filter λx=>x.born !=e.born:=by unfold leftOf;rw[Va,Va,List.filter_filter];congr 1;funext x;rw[Array.contains_push];cases hq:(x.born==e.born)<;>simp[bne,hq]
    have hnd:((leftOf es seen).toList.map (·.born)).Nodup:=by unfold leftOf;rw[Va];exact h3.sublist (List.filter_sublist.map _)
    rw[e1,vr _ j e hnd hj,iq,iq,h9]
   refine⟨G,[e.key,e.val],_,hrun,?_⟩;rw[hkv.1,hkv.2];refine hgo j p.1 p.2 _ hl (((h.take i hi).step (A':=sS enc encV m it M (left.eraseIdx j)) λalc hA hG=>⟨?_,alc,⟨hA.1,⟨⟨es,c,since,seen.push e.born,c,Gv,h2,h3,h4,hset,h6,h8,h8,hleft⟩,hM.nodup,?_⟩⟩,λk hk=>⟨.inl hk,?_⟩⟩).put (cT hi)) ?_
   .exact (hu1.KX (F:=alc)).then (hu2.mono λk _ e'=>by rw[e'];exact hA.1.2)
   .exact (Vj _ _).trans hM.sub
   .exact Ub (hG k hk).2 (SY hu1.size hu2.size)
   .have:=run_entry_at (P:=P) _ it m since seen es c e hset Gv hmem h3
    rw[hkv.1,hkv.2]at this;exact this
theorem Ow.MD{it:S}{left:J (K × alb)}(h:Ow B w0 w L)(i:S)(hi:L[i]?=X (sS enc encV m it M left)):Ow B w0 w (L.set i (mw enc encV m M)):=
 ((h.take i hi).conv (A':=mw enc encV m M) λalc hG=>by obtain⟨es,c,since,seen,c0,h1,h2,h3,h4,_⟩:=hG.2.ex;exact⟨hG.1.1,⟨⟨es,c,h1,h2,h3,h4⟩,hG.2.nodup⟩⟩).put (cT hi)
theorem Ow.HP{it:S}{left:J (K × alb)}(h:Ow B w0 w L)(i:S)(hi:L[i]?=X (sS enc encV m it M left)):(M.map (·.1)).Nodup/\left.Sublist M:=
 (h.take i hi).head λ_ h=>⟨h.2.nodup,h.2.sub⟩
theorem vA{K alb:Type}[qS K]:∀{M:J (K × alb)}{k:K}{v:alb},(M.map (·.1)).Nodup->(k,v)∈M->dQ M k=X v
 | [],_,_,_,h=>by cases h
 |(a,b)::M,k,v,hn,h=>by
  rw[S7,Tx]at hn;simp only[dQ];rcases SH.1 h with e|h
  .cases e;simp
  .have:a≠k:=λe=>hn.1 (Tj.2 ⟨(k,v),h,e.symm⟩)
   rw[Y this];exact vA hn.2 h
end
end Go.Vc
namespace Go.Vc
section
variable{P:qo}{B:S}{w0 w:W}{L L':J aG}{b o n:S}{l:J V}{R:J aG}{α:Type}{E:dX α}{ss:J Sl}{rows:J (J α)}{s:Sl}{xs:J α}
theorem oW{K:Type}[qS K]{kt:qi}{enc:K->V}(heq:∀k x w,(Op.equal kt (enc k) (enc x)).run P w= .ok (qe (x=k)) w)(k:K):∀(es:J qH)(ks:J K)(j:S)(w:W),es.map (·.key)=ks.map enc->
  (Instr.findAsking kt (enc k) es j).run P w= .ok ((ks.findIdx? λx=>qe (x=k)).bind λi=>(es[i]?).map λe=>(j+i,e.val)) w
 | [],ks,j,w,h=>by
  cases ks with
  |nil=>simp[Instr.findAsking]
  |cons _ _=>simp at h
 |e::es,ks,j,w,h=>by
  cases ks with
  |nil=>simp at h
  |cons x ks=>
   simp only[S7,List.cons.injEq]at h;simp only[Instr.findAsking,Sem.run_bind,h.1,heq,Result.andThen_ok];by_cases hx:x=k
   .subst hx;simp[UY]
   .simp only[hx,decide_false,SX,qB]
    rw[oW heq k es ks (j+1) w h.2];simp only[UY,hx,decide_false,SX,qB];cases hq:ks.findIdx? (λx=>qe (x=k))with
    |none=>rfl
    |some q=>
     simp only[V9,TM,SR];congr 3;funext e;congr 1;omega
def eF(p:U × U):V:= .agg #[.int .i64 p.1,.int .i64 p.2]
theorem E4 {kt:qi} {f0 f1:Field} (hu:P.underlying kt=X (.struct #[f0,f1])) (h0:P.underlying f0.type=X (.int .i64)) (h1:P.underlying f1.type=X (.int .i64)) (n0:f0.name≠ "_") (n1:f1.name≠ "_") (o0:f0.offset=0) (o1:f1.offset=1)
  (heq:∀a b c d:U,rC P 9 kt [.int .i64 a,.int .i64 b] [.int .i64 c,.int .i64 d]=X (a==c&&(b==d&&G))):lN P kt eF:=by
 refine⟨λem k w=>?_,λk es ks w h=>?_,λk=>by unfold Instr.sameBits eF;simp[Instr.sameBits]⟩
 .have p0:(part f0.type #[Value.int .i64 k.1,.int .i64 k.2] f0.offset).run P w= .ok (.int .i64 k.1) w:=run_part_plain w (by simp[Program.plainKey,h0]) (by rw[o0];rfl)
  have p1:(part f1.type #[Value.int .i64 k.1,.int .i64 k.2] f1.offset).run P w= .ok (.int .i64 k.2) w:=run_part_plain w (by simp[Program.plainKey,h1]) (by rw[o1];rfl);have c0:∀n v,(Instr.checkKey em (n+1) f0.type (.int .i64 v)).run P w= .ok () w:=λn v=>by unfold Instr.checkKey;rw[Sem.run_bind,run_underlying h0];rfl
  have c1:∀n v,(Instr.checkKey em (n+1) f1.type (.int .i64 v)).run P w= .ok () w:=λn v=>by unfold Instr.checkKey;rw[Sem.run_bind,run_underlying h1];rfl
  unfold Instr.checkKey eF;rw[Sem.run_bind,run_underlying hu];simp only[Result.andThen_ok];rw[<-Array.forIn_toList];simp[n0,n1,Sem.run_bind,p0,p1,c0,c1]
 .have heq':∀(k x:U × U)(w:W),(Op.equal kt (eF k) (eF x)).run P w= .ok (qe (x=k)) w:=λk x w=>by
   have:=uB 9 (heq k.1 k.2 x.1 x.2) 10000 w qb;have e:∀p:U × U,ow P kt [.int .i64 p.1,.int .i64 p.2]=eF p:=λp=>by simp[ow,hu,eF]
   rw[e k,e x]at this;show(Op.equalIn 10000 kt (eF k) (eF x)).run P w=_;rw[this];congr 1;rw[Bool.eq_iff_iff];simp only[Bool.and_true,S4,qN,qF,Prod.ext_iff];constructor
   .rintro ⟨h1,h2⟩;exact⟨h1.symm,h2.symm⟩
   .rintro ⟨h1,h2⟩;exact⟨h1.symm,h2.symm⟩
  rw[run_findKey_eq w (by simp[hu])];have:=oW heq' k es ks 0 w h;simpa using this
theorem IL{l:J V}{o:S}{v:V}{vs:J V}(h:o+(vs.length+1)<=l.length):putAt (l.set o v) (o+1) vs=putAt l o (v::vs):=by
 apply Td;intro i;rw[dF _ _ _ _ (by rw[Ti];omega),dF _ _ _ _ (by simpa using h)];simp only[SJ,To];by_cases e:o=i
 .subst e
  rw[Y om,Z O,Z om,Z om,Uh];rfl
 .by_cases e2:o+1<=i/\i<o+1+vs.length
  .rw[Z e2,Z om,show i-o=(i-(o+1))+1 from by omega,SR]
  .rw[Y e2,Y e,Y om]
theorem oy.mk'{b:S}:∀(vs:J V){w:W}{o p:S}{l:J V}{k:W->Prop},uq w b l->o+p+vs.length<=l.length->vs.all Value.oneCell'=G->
  (∀w',iA (·=b) w w'->w'.heap.size=w.heap.size->uq w' b (putAt l (o+p) vs)->k w')->oy w ⟨b,o,Q⟩ p vs k
 | [],w,o,p,l,k,hb,_,_,hk=>hk w (iA.refl _ _) O (by rw[kD];exact hb)
 |v::vs,w,o,p,l,k,hb,hl,hone,hk=>by
  simp only[List.all_cons,S4]at hone;simp only[SJ]at hl;show St w ((Addr.mk b o Q).add p) v _;rw[aL];refine St.mk' hb om hone.1 λw' hu hs hb'=>?_;refine oy.mk' vs hb' (by rw[Ti];omega) hone.2 λw2 hu2 hs2 hb2=>?_;refine hk w2 (hu.then hu2) (hs2.trans hs) ?_;rw[show o+(p+1)=o+p+1 from by omega,IL om]at hb2;exact hb2
theorem rl{l:J V}{o:S}{vs:J V}(h:o+vs.length<=l.length):(putAt l o vs).length=l.length:=by
 apply Nat.le_antisymm
 .refine WH λhlt=>?_
  have:=dF l o vs l.length h;rw[Y om,SZ (SA _)]at this;rw[gE hlt]at this;cases this
 .refine WH λhlt=>?_
  have:=dF l o vs (putAt l o vs).length h;rw[SZ (SA _)]at this;split at this
  .rename_i h2
   rw[gE om]at this;cases this
  .rw[gE hlt]at this;cases this
theorem Ow.Ji{b o:S}{l vs:J V}{k:W->Prop}(h:Ow B w0 w L)(i:S)(hi:L[i]?=X (ae b l))(hle:U2 (o+vs.length) l.length=G)(hone:vs.all Value.oneCell'=G)
  (hk:∀w',Ow B w0 w' (L.set i (ae b (putAt l o vs)))->k w'):oy w ⟨b,o,Q⟩ 0 vs k:=
 oy.mk' vs (h.yX i hi) (UI hle) hone λw' hu hs hb=>hk w' (((h.take i hi).step (A':=ae b (putAt l o vs)) λalc hA hG=>⟨hu.mono λk _ e=>by rw[e];exact hA.1,alc,⟨hA.1,hb⟩,λk hk=>⟨.inl hk,by have:=(hG k hk).2;omega⟩⟩).put (cT hi))
theorem Ow.Q9{s:Sl}{xs:J α}{k:W->Prop}(h:Ow B w0 w L)(i:S)(hi:L[i]?=X (ag E s xs)){j:S}(hj:j<xs.length)(x:α){b o:S}(ha:s.a=X ⟨b,o,Q⟩)
  (hk:∀w',Ow B w0 w' (L.set i (ag E s (xs.set j x)))->k w'):oy w ⟨b,o+j*E.z,Q⟩ 0 (E.enc x) k:=by
 have hone:(E.enc x).all Value.oneCell'=true:=Vd.2 λv hv=>E.one x v hv;have hs:=h.tX i hi;have hl:=h.len i hi;cases hs with
 |nil ha' _ _ _=>rw[ha']at ha;cases ha
 |mk b' o' l ha' hb hle hc hcs=>
  rw[ha']at ha;simp only[Option.some.injEq,Addr.mk.injEq,and_true]at ha;obtain⟨rfl,rfl⟩:=ha;have hfl:=aO E xs;have hlx:=E.len x;have m1:(j+1)*E.z<=xs.length*E.z:=Ta _ om;rw[UM]at m1;have m2:s.len*E.z<=s.cap*E.z:=Ta _ hle;rw[hl]at m2;have hfit:o'+j*E.z+(E.enc x).length<=l.length:=by rw[hlx];omega
  refine oy.mk' (E.enc x) (o:=o'+j*E.z) (p:=0) hb (by simpa using hfit) hone λw' hu hsz hb'=>hk w' (((h.take i hi).step (A':=ag E s (xs.set j x)) λalc hA hG=>⟨hu.mono λk _ e=>by rw[e];exact hA.1 _ ha',alc,⟨hA.1,by simpa using hl,?_⟩,λk hk=>⟨.inl hk,by have:=(hG k hk).2;omega⟩⟩).put (cT hi));refine .mk b' o' _ ha' hb' hle (by rw[rl (by simpa using hfit)];exact hc) ?_;rw[oY E xs j x hj,hcs,UD];apply Td;intro t;have hlen2:((l.drop o').take (s.len*E.z)).length=xs.length*E.z:=by rw[<-hcs];exact hfl
  rw[dF _ _ _ _ (by rw[hlen2,hlx];omega),S5,S5,S8,S8,dF _ _ _ _ hfit,hlx];have hz:s.len*E.z=xs.length*E.z:=by rw[hl]
  by_cases e:j*E.z<=t/\t<j*E.z+E.z
  .rw[Z e,Z om,Z om]
   congr 1;omega
  .rw[Y e]
   split
   .rw[Y om]
   .rfl
theorem Ow.Sx{s:Sl}{xs:J α}{k:W->Prop}{x:α}{v:V}(h:Ow B w0 w L)(i:S)(hi:L[i]?=X (ag E s xs)){j c:S}(hj:xs[j]?=X x)(x':α)(hx:E.enc x'=(E.enc x).set c v)(hc:c<E.z)(hv:v.oneCell'=G){b o:S}(ha:s.a=X ⟨b,o,Q⟩)
  (hk:∀w',Ow B w0 w' (L.set i (ag E s (xs.set j x')))->k w'):St w ⟨b,o+j*E.z+c,Q⟩ v k:=by
 have hs:=h.tX i hi;have hl:=h.len i hi;have hjl:=(Sz.1 hj).1;cases hs with
 |nil ha' _ _ _=>rw[ha']at ha;cases ha
 |mk b' o' l ha' hb hle hc' hcs=>
  rw[ha']at ha;simp only[Option.some.injEq,Addr.mk.injEq,and_true]at ha;obtain⟨rfl,rfl⟩:=ha;have hfl:=aO E xs;have hlx:=E.len x;have hlx':=E.len x';have m1:(j+1)*E.z<=xs.length*E.z:=Ta _ om;rw[UM]at m1;have m2:s.len*E.z<=s.cap*E.z:=Ta _ hle;rw[hl]at m2;refine St.mk' hb om hv λw' hu hsz hb'=>hk w' (((h.take i hi).step (A':=ag E s (xs.set j x')) λalc hA hG=>⟨hu.mono λk _ e=>by rw[e];exact hA.1 _ ha',alc,⟨hA.1,by simpa using hl,?_⟩,λk hk=>⟨.inl hk,by have:=(hG k hk).2;omega⟩⟩).put (cT hi));refine .mk b' o' _ ha' hb' hle (by rw[Ti];exact hc') ?_;rw[oY E xs j x' hjl];apply Td;intro t;rw[dF _ _ _ _ (by rw[hfl,hlx'];omega),hlx',S5,S8,To];have hz:s.len*E.z=xs.length*E.z:=by rw[hl]
  have hold:(xs.flatMap E.enc)[t]?=if t<s.len*E.z then l[o'+t]? else none:=by rw[hcs,S5,S8]
  by_cases e:j*E.z<=t/\t<j*E.z+E.z
  .rw[Z e,hx,To,hlx]
   have hg:=oX E xs j (t-j*E.z) x hj om;rw[show j*E.z+(t-j*E.z)=t from by omega,hold,Z om]at hg;rw[Z (show t<s.len*E.z by omega),<-hg];by_cases e2:c=t-j*E.z
   .rw[Z e2,Z hc,Z om,Z om]
   .rw[Y e2,Y om]
  .rw[Y e,hold]
   split
   .rw[Y om]
   .rfl
theorem Ow.rZ{b o:S}{l:J V}{c0 c1:Sc}{x0:c0.D}{x1:c1.D}{f:c0.D->c1.D->Prop}(h:Ow B w0 w L)(i:S)(hi:L[i]?=X (ae b l))(hl:(l.drop o).take 2= [c0.mk x0,c1.mk x1])(hf:f x0 x1):hI w ⟨b,o,Q⟩ 0 [c0,c1] f:=by
 have g:∀j,j<2->w.cell? ((Addr.mk b o Q).add j)= [c0.mk x0,c1.mk x1][j]?:=λj hj=>by rw[aL,(h.yX i hi).cell,<-hl,S5,Z hj,S8]
 exact⟨_,g 0 qb,_,g 1 qb,hf⟩
theorem Ow.QT{b o:S}{l:J V}{c0 c1 c2:Sc}{x0:c0.D}{x1:c1.D}{x2:c2.D}{f:c0.D->c1.D->c2.D->Prop}(h:Ow B w0 w L)(i:S)(hi:L[i]?=X (ae b l))(hl:(l.drop o).take 3= [c0.mk x0,c1.mk x1,c2.mk x2])(hf:f x0 x1 x2):hI w ⟨b,o,Q⟩ 0 [c0,c1,c2] f:=by
 have g:∀j,j<3->w.cell? ((Addr.mk b o Q).add j)= [c0.mk x0,c1.mk x1,c2.mk x2][j]?:=λj hj=>by rw[aL,(h.yX i hi).cell,<-hl,S5,Z hj,S8]
 exact⟨_,g 0 qb,_,g 1 qb,_,g 2 qb,hf⟩
theorem Ow.QU{b o:S}{l:J V}{c0 c1 c2 c3:Sc}{x0:c0.D}{x1:c1.D}{x2:c2.D}{x3:c3.D}{f:c0.D->c1.D->c2.D->c3.D->Prop}(h:Ow B w0 w L)(i:S)(hi:L[i]?=X (ae b l))(hl:(l.drop o).take 4= [c0.mk x0,c1.mk x1,c2.mk x2,c3.mk x3])(hf:f x0 x1 x2 x3):hI w ⟨b,o,Q⟩ 0 [c0,c1,c2,c3] f:=by
 have g:∀j,j<4->w.cell? ((Addr.mk b o Q).add j)= [c0.mk x0,c1.mk x1,c2.mk x2,c3.mk x3][j]?:=λj hj=>by rw[aL,(h.yX i hi).cell,<-hl,S5,Z hj,S8]
 exact⟨_,g 0 qb,_,g 1 qb,_,g 2 qb,_,g 3 qb,hf⟩
theorem Ow.vU{b o:S}{l:J V}{c0 c1 c2 c3 c4 c5:Sc}{x0:c0.D}{x1:c1.D}{x2:c2.D}{x3:c3.D}{x4:c4.D}{x5:c5.D}{f:c0.D->c1.D->c2.D->c3.D->c4.D->c5.D->Prop}(h:Ow B w0 w L)(i:S)(hi:L[i]?=X (ae b l))(hl:(l.drop o).take 6= [c0.mk x0,c1.mk x1,c2.mk x2,c3.mk x3,c4.mk x4,c5.mk x5])(hf:f x0 x1 x2 x3 x4 x5):hI w ⟨b,o,Q⟩ 0 [c0,c1,c2,c3,c4,c5] f:=by
 have g:∀j,j<6->w.cell? ((Addr.mk b o Q).add j)= [c0.mk x0,c1.mk x1,c2.mk x2,c3.mk x3,c4.mk x4,c5.mk x5][j]?:=λj hj=>by rw[aL,(h.yX i hi).cell,<-hl,S5,Z hj,S8]
 exact⟨_,g 0 qb,_,g 1 qb,_,g 2 qb,_,g 3 qb,_,g 4 qb,_,g 5 qb,hf⟩
theorem Ow.QV{b o:S}{l:J V}{c0 c1 c2 c3 c4 c5 c6:Sc}{x0:c0.D}{x1:c1.D}{x2:c2.D}{x3:c3.D}{x4:c4.D}{x5:c5.D}{x6:c6.D}{f:c0.D->c1.D->c2.D->c3.D->c4.D->c5.D->c6.D->Prop}(h:Ow B w0 w L)(i:S)(hi:L[i]?=X (ae b l))(hl:(l.drop o).take 7= [c0.mk x0,c1.mk x1,c2.mk x2,c3.mk x3,c4.mk x4,c5.mk x5,c6.mk x6])(hf:f x0 x1 x2 x3 x4 x5 x6):hI w ⟨b,o,Q⟩ 0 [c0,c1,c2,c3,c4,c5,c6] f:=by
 have g:∀j,j<7->w.cell? ((Addr.mk b o Q).add j)= [c0.mk x0,c1.mk x1,c2.mk x2,c3.mk x3,c4.mk x4,c5.mk x5,c6.mk x6][j]?:=λj hj=>by rw[aL,(h.yX i hi).cell,<-hl,S5,Z hj,S8]
 exact⟨_,g 0 qb,_,g 1 qb,_,g 2 qb,_,g 3 qb,_,g 4 qb,_,g 5 qb,_,g 6 qb,hf⟩
theorem Ow.QW{b o:S}{l:J V}{c0 c1 c2 c3 c4 c5 c6 c7:Sc}{x0:c0.D}{x1:c1.D}{x2:c2.D}{x3:c3.D}{x4:c4.D}{x5:c5.D}{x6:c6.D}{x7:c7.D}{f:c0.D->c1.D->c2.D->c3.D->c4.D->c5.D->c6.D->c7.D->Prop}(h:Ow B w0 w L)(i:S)(hi:L[i]?=X (ae b l))(hl:(l.drop o).take 8= [c0.mk x0,c1.mk x1,c2.mk x2,c3.mk x3,c4.mk x4,c5.mk x5,c6.mk x6,c7.mk x7])(hf:f x0 x1 x2 x3 x4 x5 x6 x7):hI w ⟨b,o,Q⟩ 0 [c0,c1,c2,c3,c4,c5,c6,c7] f:=by
 have g:∀j,j<8->w.cell? ((Addr.mk b o Q).add j)= [c0.mk x0,c1.mk x1,c2.mk x2,c3.mk x3,c4.mk x4,c5.mk x5,c6.mk x6,c7.mk x7][j]?:=λj hj=>by rw[aL,(h.yX i hi).cell,<-hl,S5,Z hj,S8]
 exact⟨_,g 0 qb,_,g 1 qb,_,g 2 qb,_,g 3 qb,_,g 4 qb,_,g 5 qb,_,g 6 qb,_,g 7 qb,hf⟩
theorem Ow.PG{b o:S}{l:J V}{c0 c1 c2 c3 c4 c5 c6 c7 c8 c9:Sc}{x0:c0.D}{x1:c1.D}{x2:c2.D}{x3:c3.D}{x4:c4.D}{x5:c5.D}{x6:c6.D}{x7:c7.D}{x8:c8.D}{x9:c9.D}{f:c0.D->c1.D->c2.D->c3.D->c4.D->c5.D->c6.D->c7.D->c8.D->c9.D->Prop}(h:Ow B w0 w L)(i:S)(hi:L[i]?=X (ae b l))(hl:(l.drop o).take 10= [c0.mk x0,c1.mk x1,c2.mk x2,c3.mk x3,c4.mk x4,c5.mk x5,c6.mk x6,c7.mk x7,c8.mk x8,c9.mk x9])(hf:f x0 x1 x2 x3 x4 x5 x6 x7 x8 x9):hI w ⟨b,o,Q⟩ 0 [c0,c1,c2,c3,c4,c5,c6,c7,c8,c9] f:=by
 have g:∀j,j<10->w.cell? ((Addr.mk b o Q).add j)= [c0.mk x0,c1.mk x1,c2.mk x2,c3.mk x3,c4.mk x4,c5.mk x5,c6.mk x6,c7.mk x7,c8.mk x8,c9.mk x9][j]?:=λj hj=>by rw[aL,(h.yX i hi).cell,<-hl,S5,Z hj,S8]
 exact⟨_,g 0 qb,_,g 1 qb,_,g 2 qb,_,g 3 qb,_,g 4 qb,_,g 5 qb,_,g 6 qb,_,g 7 qb,_,g 8 qb,_,g 9 qb,hf⟩
theorem Ow.PH{b o:S}{l:J V}{c0 c1 c2 c3 c4 c5 c6 c7 c8 c9 c10 c11:Sc}{x0:c0.D}{x1:c1.D}{x2:c2.D}{x3:c3.D}{x4:c4.D}{x5:c5.D}{x6:c6.D}{x7:c7.D}{x8:c8.D}{x9:c9.D}{x10:c10.D}{x11:c11.D}{f:c0.D->c1.D->c2.D->c3.D->c4.D->c5.D->c6.D->c7.D->c8.D->c9.D->c10.D->c11.D->Prop}(h:Ow B w0 w L)(i:S)(hi:L[i]?=X (ae b l))(hl:(l.drop o).take 12= [c0.mk x0,c1.mk x1,c2.mk x2,c3.mk x3,c4.mk x4,c5.mk x5,c6.mk x6,c7.mk x7,c8.mk x8,c9.mk x9,c10.mk x10,c11.mk x11])(hf:f x0 x1 x2 x3 x4 x5 x6 x7 x8 x9 x10 x11):hI w ⟨b,o,Q⟩ 0 [c0,c1,c2,c3,c4,c5,c6,c7,c8,c9,c10,c11] f:=by
 have g:∀j,j<12->w.cell? ((Addr.mk b o Q).add j)= [c0.mk x0,c1.mk x1,c2.mk x2,c3.mk x3,c4.mk x4,c5.mk x5,c6.mk x6,c7.mk x7,c8.mk x8,c9.mk x9,c10.mk x10,c11.mk x11][j]?:=λj hj=>by rw[aL,(h.yX i hi).cell,<-hl,S5,Z hj,S8]
 exact⟨_,g 0 qb,_,g 1 qb,_,g 2 qb,_,g 3 qb,_,g 4 qb,_,g 5 qb,_,g 6 qb,_,g 7 qb,_,g 8 qb,_,g 9 qb,_,g 10 qb,_,g 11 qb,hf⟩
theorem bh{p:Prop}[Decidable p]{A C:Prop}(h1:p->A)(h2:¬p->C):bif qe p then A else C:=by
 by_cases h:p
 .rw[qp h];exact h1 h
 .rw[ql h];exact h2 h
theorem az{p:Prop}[Decidable p]{A C:Prop}(h:p)(h1:A):bif qe p then A else C:=by rw[qp h];exact h1
theorem av{p:Prop}[Decidable p]{A C:Prop}(h:¬p)(h1:C):bif qe p then A else C:=by rw[ql h];exact h1
theorem cb{b:I}{A C:Prop}(h1:b=G->A)(h2:b=qd->C):bif b then A else C:=by
 cases b with
 |true=>exact h1 O
 |false=>exact h2 O
theorem aW{b:I}{A C:Prop}(h:b=G)(h1:A):bif b then A else C:=by rw[h];exact h1
theorem aV{b:I}{A C:Prop}(h:b=qd)(h1:C):bif b then A else C:=by rw[h];exact h1
theorem Nu{b:I}{A C:Prop}(h1:b=qd->A)(h2:b=G->C):bif !b then A else C:=by
 cases b with
 |true=>exact h2 O
 |false=>exact h1 O
theorem dW{x y:U}{A C:Prop}(h1:x=y->A)(h2:x≠y->C):bif x==y then A else C:=by
 by_cases h:x=y
 .rw[show(x==y)=G from by simpa using h];exact h1 h
 .rw[show(x==y)=qd from by simpa using h];exact h2 h
theorem gC{x y:U}{A C:Prop}(h:x=y)(h1:A):bif x==y then A else C:=by rw[show(x==y)=G from by simpa using h];exact h1
theorem jk{x y:U}{A C:Prop}(h:x≠y)(h1:C):bif x==y then A else C:=by rw[show(x==y)=qd from by simpa using h];exact h1
theorem pR{x y:U}{A C:Prop}(h1:x≠y->A)(h2:x=y->C):bif x !=y then A else C:=by
 by_cases h:x=y
 .rw[show(x !=y)=qd from by simpa using h];exact h2 h
 .rw[show(x !=y)=G from by simpa using h];exact h1 h
theorem iw{x y:U}{A C:Prop}(h:x≠y)(h1:A):bif x !=y then A else C:=by rw[show(x !=y)=G from by simpa using h];exact h1
theorem fh{x y:U}{A C:Prop}(h:x=y)(h1:C):bif x !=y then A else C:=by rw[show(x !=y)=qd from by simpa using h];exact h1
class eB(b:S)(L:J aG)(l:outParam (J V))where
 i:S
 at_:L[i]?=X (ae b l)
instance eB.tail{b:S}{ak7:aG}{L:J aG}{l:J V}[ale:eB b L l]:eB b (ak7::L) l:=⟨ale.i+1,by simpa using ale.at_⟩
instance eB.head{b:S}{L:J aG}{l:J V}:eB b (ae b l::L) l:=⟨0,O⟩
class vn(b:S)(L:J aG)(l:outParam (J V))(f:J V->J V)(L':outParam (J aG))where
 i:S
 at_:L[i]?=X (ae b l)
 up:L'=L.set i (ae b (f l))
instance vn.tail{b:S}{ak7:aG}{L L':J aG}{l:J V}{f:J V->J V}[ale:vn b L l f L']:vn b (ak7::L) l f (ak7::L'):=⟨ale.i+1,by simpa using ale.at_,(qz (ak7::·) ale.up)⟩
instance vn.head{b:S}{L:J aG}{l:J V}{f:J V->J V}:vn b (ae b l::L) l f (ae b (f l)::L):=⟨0,O,O⟩
theorem Ow.aE{v:V}[ale:eB b L l](h:Ow B w0 w L)(hv:l[o]?=X v):w.cell? (Addr.mk b o Q)=X v:=h.iJ ale.i ale.at_ hv
theorem Ow.aA{v:V}[ale:eB b L l](h:Ow B w0 w L)(hv:l[o+n]?=X v):w.cell? ((Addr.mk b o Q).add n)=X v:=h.ld ale.i ale.at_ hv
class AZ(l:J V)(n:S)(v:V)(r:outParam (J V)):Prop where
 e:l.set n v=r
instance(priority:=low)AZ.any {l:J V} {n:S} {v:V}:AZ l n v (l.set n v):=⟨O⟩
instance AZ.here{x v:V}{l:J V}:AZ (x::l) 0 v (v::l):=⟨O⟩
instance AZ.skip{x v:V}{n:S}{l r:J V}[ale:AZ l n v r]:AZ (x::l) (n+1) v (x::r):=⟨by rw[S1,ale.e]⟩
theorem Ow.jD{v:V}{r:J V}{k:W->Prop}[I0:eB b L l][ak8:AZ l o v r][ale:vn b L l (λ_=>r) L'](h:Ow B w0 w L)(ho:(l[o]?).isSome=G)(hv:v.oneCell'=G)(hk:∀w',Ow B w0 w' L'->k w'):St w ⟨b,o,Q⟩ v k:=
 h.st ale.i ale.at_ ho hv λw' h'=>hk w' (by rw[ak8.e]at h';rw[ale.up];exact h')
theorem Ow.fD{v:V}{r:J V}{k:W->Prop}[I0:eB b L l][ak8:AZ l (o+n) v r][ale:vn b L l (λ_=>r) L'](h:Ow B w0 w L)(ho:(l[o+n]?).isSome=G)(hv:v.oneCell'=G)(hk:∀w',Ow B w0 w' L'->k w'):St w ((Addr.mk b o Q).add n) v k:=
 h.Sw ale.i ale.at_ ho hv λw' h'=>hk w' (by rw[ak8.e]at h';rw[ale.up];exact h')
theorem Ow.aM{c0 c1:Sc}{x0:c0.D}{x1:c1.D}{f:c0.D->c1.D->Prop}[ale:eB b L l](h:Ow B w0 w L)(hl:(l.drop o).take 2= [c0.mk x0,c1.mk x1])(hf:f x0 x1):hI w ⟨b,o,Q⟩ 0 [c0,c1] f:=h.rZ ale.i ale.at_ hl hf
theorem Ow.nq{c0 c1 c2:Sc}{x0:c0.D}{x1:c1.D}{x2:c2.D}{f:c0.D->c1.D->c2.D->Prop}[ale:eB b L l](h:Ow B w0 w L)(hl:(l.drop o).take 3= [c0.mk x0,c1.mk x1,c2.mk x2])(hf:f x0 x1 x2):hI w ⟨b,o,Q⟩ 0 [c0,c1,c2] f:=h.QT ale.i ale.at_ hl hf
theorem Ow.gn{c0 c1 c2 c3:Sc}{x0:c0.D}{x1:c1.D}{x2:c2.D}{x3:c3.D}{f:c0.D->c1.D->c2.D->c3.D->Prop}[ale:eB b L l](h:Ow B w0 w L)(hl:(l.drop o).take 4= [c0.mk x0,c1.mk x1,c2.mk x2,c3.mk x3])(hf:f x0 x1 x2 x3):hI w ⟨b,o,Q⟩ 0 [c0,c1,c2,c3] f:=h.QU ale.i ale.at_ hl hf
theorem Ow.eE{c0 c1 c2 c3 c4 c5:Sc}{x0:c0.D}{x1:c1.D}{x2:c2.D}{x3:c3.D}{x4:c4.D}{x5:c5.D}{f:c0.D->c1.D->c2.D->c3.D->c4.D->c5.D->Prop}[ale:eB b L l](h:Ow B w0 w L)(hl:(l.drop o).take 6= [c0.mk x0,c1.mk x1,c2.mk x2,c3.mk x3,c4.mk x4,c5.mk x5])(hf:f x0 x1 x2 x3 x4 x5):hI w ⟨b,o,Q⟩ 0 [c0,c1,c2,c3,c4,c5] f:=h.vU ale.i ale.at_ hl hf
theorem Ow.zj{c0 c1 c2 c3 c4 c5 c6:Sc}{x0:c0.D}{x1:c1.D}{x2:c2.D}{x3:c3.D}{x4:c4.D}{x5:c5.D}{x6:c6.D}{f:c0.D->c1.D->c2.D->c3.D->c4.D->c5.D->c6.D->Prop}[ale:eB b L l](h:Ow B w0 w L)(hl:(l.drop o).take 7= [c0.mk x0,c1.mk x1,c2.mk x2,c3.mk x3,c4.mk x4,c5.mk x5,c6.mk x6])(hf:f x0 x1 x2 x3 x4 x5 x6):hI w ⟨b,o,Q⟩ 0 [c0,c1,c2,c3,c4,c5,c6] f:=h.QV ale.i ale.at_ hl hf
theorem Ow.MF{c0 c1 c2 c3 c4 c5 c6 c7:Sc}{x0:c0.D}{x1:c1.D}{x2:c2.D}{x3:c3.D}{x4:c4.D}{x5:c5.D}{x6:c6.D}{x7:c7.D}{f:c0.D->c1.D->c2.D->c3.D->c4.D->c5.D->c6.D->c7.D->Prop}[ale:eB b L l](h:Ow B w0 w L)(hl:(l.drop o).take 8= [c0.mk x0,c1.mk x1,c2.mk x2,c3.mk x3,c4.mk x4,c5.mk x5,c6.mk x6,c7.mk x7])(hf:f x0 x1 x2 x3 x4 x5 x6 x7):hI w ⟨b,o,Q⟩ 0 [c0,c1,c2,c3,c4,c5,c6,c7] f:=h.QW ale.i ale.at_ hl hf
theorem Ow.jJ{c0 c1 c2 c3 c4 c5 c6 c7 c8 c9:Sc}{x0:c0.D}{x1:c1.D}{x2:c2.D}{x3:c3.D}{x4:c4.D}{x5:c5.D}{x6:c6.D}{x7:c7.D}{x8:c8.D}{x9:c9.D}{f:c0.D->c1.D->c2.D->c3.D->c4.D->c5.D->c6.D->c7.D->c8.D->c9.D->Prop}[ale:eB b L l](h:Ow B w0 w L)(hl:(l.drop o).take 10= [c0.mk x0,c1.mk x1,c2.mk x2,c3.mk x3,c4.mk x4,c5.mk x5,c6.mk x6,c7.mk x7,c8.mk x8,c9.mk x9])(hf:f x0 x1 x2 x3 x4 x5 x6 x7 x8 x9):hI w ⟨b,o,Q⟩ 0 [c0,c1,c2,c3,c4,c5,c6,c7,c8,c9] f:=h.PG ale.i ale.at_ hl hf
theorem Ow.Di{c0 c1 c2 c3 c4 c5 c6 c7 c8 c9 c10 c11:Sc}{x0:c0.D}{x1:c1.D}{x2:c2.D}{x3:c3.D}{x4:c4.D}{x5:c5.D}{x6:c6.D}{x7:c7.D}{x8:c8.D}{x9:c9.D}{x10:c10.D}{x11:c11.D}{f:c0.D->c1.D->c2.D->c3.D->c4.D->c5.D->c6.D->c7.D->c8.D->c9.D->c10.D->c11.D->Prop}[ale:eB b L l](h:Ow B w0 w L)(hl:(l.drop o).take 12= [c0.mk x0,c1.mk x1,c2.mk x2,c3.mk x3,c4.mk x4,c5.mk x5,c6.mk x6,c7.mk x7,c8.mk x8,c9.mk x9,c10.mk x10,c11.mk x11])(hf:f x0 x1 x2 x3 x4 x5 x6 x7 x8 x9 x10 x11):hI w ⟨b,o,Q⟩ 0 [c0,c1,c2,c3,c4,c5,c6,c7,c8,c9,c10,c11] f:=h.PH ale.i ale.at_ hl hf
theorem Ow.cC{a0 a1:aG}(h:Ow B w0 w (a0::a1::L)):Ow B w0 w (a1::a0::L):=h.take 1 O
theorem Ow.vI{a0 a1:aG}(h:Ow B w0 w (a0::a1::L)):Ow B w0 w (a0::L):=h.cC.drop
theorem Ow.lI{a0 a1 a2:aG}(h:Ow B w0 w (a0::a1::a2::L)):Ow B w0 w (a2::a0::a1::L):=h.take 2 O
theorem Ow.Ll{a0 a1 a2:aG}(h:Ow B w0 w (a0::a1::a2::L)):Ow B w0 w (a0::a1::L):=h.lI.drop
theorem Ow.yQ{a0 a1 a2 a3:aG}(h:Ow B w0 w (a0::a1::a2::a3::L)):Ow B w0 w (a3::a0::a1::a2::L):=h.take 3 O
theorem Ow.O6{a0 a1 a2 a3:aG}(h:Ow B w0 w (a0::a1::a2::a3::L)):Ow B w0 w (a0::a1::a2::L):=h.yQ.drop
class xd(l:J V)(o:S)(vs:J V)(r:outParam (J V)):Prop where
 e:putAt l o vs=r
instance(priority:=low)xd.any {l:J V} {o:S} {vs:J V}:xd l o vs (putAt l o vs):=⟨O⟩
instance xd.nil{l:J V}:xd l 0 [] l:=⟨kD l 0⟩
instance xd.here{x v:V}{l vs r:J V}[ale:xd l 0 vs r]:xd (x::l) 0 (v::vs) (v::r):=⟨by show v::putAt l 0 vs=_;rw[ale.e]⟩
instance xd.skip{x v:V}{o:S}{l vs r:J V}[ale:xd l o (v::vs) r]:xd (x::l) (o+1) (v::vs) (x::r):=⟨by show x::putAt l o (v::vs)=_;rw[ale.e]⟩
theorem Ow.aB{vs r:J V}{k:W->Prop}[I0:eB b L l][ak8:xd l o vs r][ale:vn b L l (λ_=>r) L'](h:Ow B w0 w L)(hle:U2 (o+vs.length) l.length=G)(hone:vs.all Value.oneCell'=G)(hk:∀w',Ow B w0 w' L'->k w'):oy w ⟨b,o,Q⟩ 0 vs k:=
 h.Ji ale.i ale.at_ hle hone λw' h'=>hk w' (by rw[ak8.e]at h';rw[ale.up];exact h')
class eL(A:aG)(L:J aG)(R:outParam (J aG)):Prop where
 perm:L.Perm (A::R)
instance eL.tail{A ak7:aG}{L R:J aG}[ale:eL A L R]:eL A (ak7::L) (ak7::R):=⟨(ale.perm.cons ak7).trans (List.Perm.swap _ _ _)⟩
instance eL.head{A:aG}{L:J aG}:eL A (A::L) L:=⟨List.Perm.refl _⟩
class y9(L L':J aG):Prop where
 sub:∃ald,L.Perm (ald++L')
instance y9.skip{ak7:aG}{L L':J aG}[ale:y9 L L']:y9 (ak7::L) L':=⟨by obtain⟨ald,h⟩:=ale.sub;exact⟨ak7::ald,h.cons ak7⟩⟩
instance y9.pick{A:aG}{L R L':J aG}[ale:eL A L R][ak8:y9 R L']:y9 L (A::L'):=⟨by obtain⟨ald,h⟩:=ak8.sub;exact⟨ald,ale.perm.trans ((h.cons A).trans List.perm_middle.symm)⟩⟩
instance y9.same{L:J aG}:y9 L L:=⟨[],List.Perm.refl _⟩
theorem Ow.Nw{B:S}{w0 w:W}{L:J aG}:∀{ald:J aG},Ow B w0 w (ald++L)->Ow B w0 w L
 | [],h=>h
 |_::ald,h=>Ow.Nw (ald:=ald) h.drop
theorem Ow.sub{B:S}{w0 w:W}{L L':J aG}[ale:y9 L L'](h:Ow B w0 w L):Ow B w0 w L':=by obtain⟨ald,hp⟩:=ale.sub;exact(h.perm hp).Nw
theorem Ow.pick{B:S}{w0 w:W}{L R:J aG}{A:aG}[ale:eL A L R](h:Ow B w0 w L):Ow B w0 w (A::R):=h.perm ale.perm
theorem Jo{w:W}{A:qf}{C:Prop}:∀(vs:J V)(i:S),(∀j v,vs[j]?=X v->w.cell? (A.add (i+j))=X v)->C->Np w A i vs C
 | [],_,_,hC=>hC
 |v::vs,i,h,hC=>⟨h 0 v O,Jo vs (i+1) (λj u hj=>by rw[show i+1+j=i+(j+1)from by omega];exact h (j+1) u (by simpa using hj)) hC⟩
theorem Ow.hd{B:S}{w0 w:W}{L:J aG}{b o:S}{l vs:J V}{C:Prop}[ale:eB b L l](h:Ow B w0 w L)(hl:(l.drop o).take vs.length=vs)(hC:C):Np w ⟨b,o,Q⟩ 0 vs C:=
 Jo vs 0 (λj v hj=>by
  rw[aL,(h.yX ale.i ale.at_).cell,SS];rw[<-hl,S5]at hj;split at hj
  .rw[S8]at hj;exact hj
  .cases hj) hC
theorem fy{α:Type}{x:α}{alc:α->Prop}(h:alc x):∃a,X x=X a/\alc a:=⟨x,O,h⟩
theorem a2{p:Prop}(h:p):p/\qu:=⟨h,trivial⟩
class bG(s:Sl)(L:J aG)(α:outParam Type)(E:outParam (dX α))(xs:outParam (J α))where
 i:S
 at_:L[i]?=X (ag E s xs)
instance bG.tail{s:Sl}{ak7:aG}{L:J aG}{α:Type}{E:dX α}{xs:J α}[ale:bG s L α E xs]:bG s (ak7::L) α E xs:=⟨ale.i+1,by simpa using ale.at_⟩
instance bG.head{s:Sl}{L:J aG}{α:Type}{E:dX α}{xs:J α}:bG s (ag E s xs::L) α E xs:=⟨0,O⟩
theorem Ow.aF(s:Sl)[ale:bG s L α E xs](h:Ow B w0 w L):s.len=xs.length:=h.len ale.i ale.at_
theorem Jw{b o i j z:S}(c:S)(hij:i=j):((Addr.mk b o Q).add (i*z)).add c=⟨b,o+(j*z+c),Q⟩:=by rw[aL,aL,hij,UN]
theorem Jv{b o i j z:S}(hij:i=j):(Addr.mk b o Q).add (i*z)=⟨b,o+(j*z+0),Q⟩:=by rw[aL,hij,UD]
theorem Ow.cd[ale:bG s L α E xs]{i:U}{j:S}{x:α}{alc:qf->Prop}(h:Ow B w0 w L)(hij:i=(j:U))(hj:xs[j]?=X x)
  (hG:∀a,s.a=X a->(∀v,(E.enc x)[0]?=X v->w.cell? (a.add (i.toNat*E.z))=X v)->(∀c v,(E.enc x)[c]?=X v->w.cell? ((a.add (i.toNat*E.z)).add c)=X v)->alc a):
  ∃a,s.a=X a/\0<=i/\i<(s.len:U)/\alc a:=by
 obtain⟨b,o,ha,hc⟩:=h.get ale.i ale.at_ hj;have hlen:=h.len ale.i ale.at_;have hlt:=(Sz.1 hj).1;have hn:i.toNat=j:=om
 refine⟨_,ha,om,om,hG _ ha (λv hv=>?_) λc v hv=>?_⟩
 .rw[Jv hn];exact hc 0 v hv
 .rw[Jw c hn];exact hc c v hv
theorem Ow.O0[ale:bG s L α E xs]{i:U}{j:S}{x:α}(h:Ow B w0 w L)(hij:i=(j:U))(hj:xs[j]?=X x){a:qf}(ha:s.a=X a):
  (∀v,(E.enc x)[0]?=X v->w.cell? (a.add (i.toNat*E.z))=X v)/\(∀c v,(E.enc x)[c]?=X v->w.cell? ((a.add (i.toNat*E.z)).add c)=X v):=by
 obtain⟨b,o,ha',hc⟩:=h.get ale.i ale.at_ hj;rw[ha]at ha';simp only[Option.some.injEq]at ha';subst ha';have hn:i.toNat=j:=om
 refine⟨λv hv=>?_,λc v hv=>?_⟩
 .rw[Jv hn];exact hc 0 v hv
 .rw[Jw c hn];exact hc c v hv
theorem Ow.yA(s:Sl)[ale:bG s L α E xs](h:Ow B w0 w L){a:qf}(ha:s.a=X a):a=⟨a.block,a.off,Q⟩:=by have:=(h.tX ale.i ale.at_).spot a ha;cases a;simp at this;subst this;rfl
theorem xQ{A:aG}{L R:J aG}(ale:eL A L R)(h:Ow B w0 w L):Ow B w0 w (A::R):=h.perm ale.perm
theorem Ow.Ce[ale:bG s L α E xs]{R:J aG}[ak8:eL (ag E s xs) L R]{i:U}{j:S}{a:qf}{v:V}{k:W->Prop}(h:Ow B w0 w L)(x:α)(hij:i=(j:U))(hj:j<xs.length)(ha:s.a=X a)(hx:E.enc x= [v])
  (hk:∀w',Ow B w0 w' (ag E s (xs.set j x)::R)->k w'):St w (a.add (i.toNat*E.z)) v k:=by
 have e:=h.yA s ha;have hn:i.toNat=j:=om
 rw[e,aL,hn];exact(xQ ak8 h).Sb 0 O hj x (by rw[ha];exact qz X e) hx hk
theorem Ow.uc[ale:bG s L α E xs]{R:J aG}[ak8:eL (ag E s xs) L R]{i:U}{j:S}{a:qf}{k:W->Prop}(h:Ow B w0 w L)(x:α)(hij:i=(j:U))(hj:j<xs.length)(ha:s.a=X a)
  (hk:∀w',Ow B w0 w' (ag E s (xs.set j x)::R)->k w'):oy w (a.add (i.toNat*E.z)) 0 (E.enc x) k:=by
 have e:=h.yA s ha;have hn:i.toNat=j:=om
 rw[e,aL,hn];exact(xQ ak8 h).Q9 0 O hj x (by rw[ha];exact qz X e) hk
theorem Ow.mT[ale:bG s L α E xs]{R:J aG}[ak8:eL (ag E s xs) L R]{i:U}{j c:S}{a:qf}{x:α}{v:V}{k:W->Prop}(h:Ow B w0 w L)(x':α)(hij:i=(j:U))(hj:xs[j]?=X x)(ha:s.a=X a)(hx:E.enc x'=(E.enc x).set c v)(hc:c<E.z)(hv:v.oneCell'=G)
  (hk:∀w',Ow B w0 w' (ag E s (xs.set j x')::R)->k w'):St w ((a.add (i.toNat*E.z)).add c) v k:=by
 have e:=h.yA s ha;have hn:i.toNat=j:=om
 rw[e,aL,aL,hn];exact(xQ ak8 h).Sx 0 O hj x' hx hc hv (by rw[ha];exact qz X e) hk
theorem Ow.eZ{T el:qi}{inf:qL}{zv:V}{y:α}{b:S}{k:Sl->W->Prop}[ale:bG s L α E xs]{R:J aG}[ak8:eL (ag E s xs) L R]
  (hu:P.underlying T=X (.slice el)) (hi:P.info? el=X inf) (hz:inf.zero=X zv) (hsz:inf.size=E.z) (hzc:zv.cells.size=E.z) (hb:1<=inf.bytes)
  (h:Ow B w0 w (ae b (E.enc y)::L)) (hbig:(17*(xs.length+1)+16000)*inf.bytes<=2^48)
  (hk:∀s' w',s'.len=xs.length+1->Ow B w0 w' (ag E s' (xs++ [y])::R)->k s' w'):
  ∃s' w',dO P [T,T] T (.slice s.a s.len s.cap) (.slice (X (Addr.mk b 0 Q)) 1 1) w s' w'/\k s' w':=
 Ow.L8 hu hi hz hsz hzc hb (h.perm (ak8.perm.cons _)) 0 O hbig hk
theorem Ow.si{T el:qi}{inf:qL}{zv:V}{z0:α}{n:U}{k:Sl->W->Prop}(hu:P.underlying T=X (.slice el))(hi:P.info? el=X inf)(hz:inf.zero=X zv)(hsz:inf.size=E.z)(hzc:zv.cells.toList=E.enc z0)
  (h:Ow B w0 w L) (h0:0<=n) (hn:(inf.bytes:U)*n<=2^48) (hnn:n<=2^48) (hk:∀s' w',s'.len=n.toNat->Ow B w0 w' (ag E s' (SB n.toNat z0)::L)->k s' w'):
  ∃s' w',sU P T (.int .i64 n) (.int .i64 n) w s' w'/\k s' w':=by
 obtain⟨m,rfl⟩:=Int.eq_ofNat_of_zero_le h0;have hp48:(2:U)^48=281474976710656:=qb
 rw[hp48]at hn hnn;have hw:qj.wrap (m:U)=(m:U):=wr om om;have hzl:zv.cells.size=E.z:=by rw[<-TH,hzc,E.len]
 let row:J V:=rep m (E.enc z0)
 have hrow:row=(SB m z0).flatMap E.enc:=by
  show rep m (E.enc z0)=_;clear hk hw hn hnn h0;induction m with
  |zero=>rfl
  |succ m ih=>simp[rep,US,ih]
 have hrl:row.length=m*E.z:=by rw[hrow,aO];simp
 have hcells:(WO (m*sz P el)).map (λi=>(if m*sz P el=0 then(#[]:qw V)else zv.cells)[i%(if m*sz P el=0 then(#[]:qw V)else zv.cells).size]!)=⟨row⟩:=by
  have hsz2:sz P el=zv.cells.size:=by simp[sz,hi,hsz,hzl]
  by_cases e:m*sz P el=0
  .have hpos:=E.pos
   have:m=0:=by
    rcases Wl.1 e with e|e
    .exact e
    .rw[hsz2,hzl]at e;omega
   subst this;simp[row,rep]
  .simp only[Y e]
   rw[hsz2,ui zv.cells m (by rw[hzl];exact E.pos),hzc]
 refine⟨⟨X ⟨w.heap.size,0,Q⟩,m,m⟩,w.alloc (.cells ⟨row⟩ el),?_,hk _ _ O ?_⟩
 .unfold sU Instr.makeSlice
  have hsize:∀w,(sizeOf el).run P w= .ok (sz P el) w:=λw=>gv hi w;have hinfo:∀w,(typeInfo el).run P w= .ok inf w:=λw=>by simp[typeInfo,hi]
  have hzero:∀w,(qK el).run P w= .ok zv w:=λw=>by simp[qK,hinfo,hz]
  have hint:∀w,(asInt (.int .i64 (m:U))).run P w= .ok (m:U) w:=λw=>by simp[asInt,asIntOf]
  have c2:¬((inf.bytes:U)*(m:U)>2^48):=by rw[hp48];omega
  have c0:¬((m:U)<0):=om
  have c3:¬((m:U)>(m:U)):=om
  simp only[Sem.run_bind,bf hu,Result.andThen_ok,hint,hinfo,hw,ql c2,ql c0,ql c3,Vr,SX,qB,SD,run_askRoom,hsize];by_cases e:m*sz P el=0
  .simp only[Z e]at hcells
   simp only[e,qE,Sem.run_pure,Result.andThen_ok,newRow,Sem.run_bind,run_newObj];rw[e]at hcells;rw[hcells];rfl
  .simp only[Y e]at hcells
   simp only[e,qB,Sem.run_bind,hzero,Sem.run_pure,Result.andThen_ok,newRow,run_newObj];rw[hcells];rfl
 .refine h.new (A':=ag E ⟨X ⟨w.heap.size,0,Q⟩,m,m⟩ (SB m z0)) (G':=λk=>k=w.heap.size) (ff _ _) ⟨λa ha=>by cases ha;rfl,qc,?_⟩ λk e=>by subst e;simp
  refine .mk w.heap.size 0 row O ⟨el,heap_alloc_new _ _⟩ (SA _) (by rw[hrl];simp) ?_;show _=(row.drop 0).take (m*E.z);rw[T9,<-hrl,UC,hrow]
def bA{α:Type}(E:dX α)(ss:J Sl)(rows:J (J α)):aG:=oA λ_:Unit=>aQ (dw (ss.length=rows.length)::SC (ag E) ss rows)
def lH:dX Sl:=⟨1,λs=>[.slice s.a s.len s.cap],λ_=>rfl,λx v h=>by simp at h;subst h;rfl,SA _⟩
theorem Ow.DS(h:Ow B w0 w (bA E ss rows::R)):ss.length=rows.length/\Ow B w0 w (SC (ag E) ss rows++R):=by obtain⟨_,h⟩:=h.ex;exact Ow.pure h.star
theorem Ow.BI(hl:ss.length=rows.length)(h:Ow B w0 w (SC (ag E) ss rows++R)):Ow B w0 w (bA E ss rows::R):=
 Ow.eu () (Ow.aR (Ow.cI hl h))
theorem Nk{j:S}{s:Sl}{row:J α}(hs:ss[j]?=X s)(hr:rows[j]?=X row)(R:J aG):(SC (ag E) ss rows++R)[j]?=X (ag E s row):=by have h1:=(Sz.1 hs).1;have h2:=(Sz.1 hr).1;rw[SM (by simp;omega),List.getElem?_zipWith,hs,hr]
theorem Ow.row(h:Ow B w0 w (bA E ss rows::R)){j:S}{s:Sl}{row:J α}(hs:ss[j]?=X s)(hr:rows[j]?=X row):
  Ow B w0 w (ag E s row::((SC (ag E) ss rows).eraseIdx j++R)):=by
 obtain⟨hl,h⟩:=h.DS;have h1:=(Sz.1 hs).1;have:=h.take j (Nk hs hr R)
 rwa [Uz (by simp;omega)]at this
theorem G8{s':Sl}{row':J α}:∀(ss:J Sl)(rows:J (J α))(j:S),SC (ag E) (ss.set j s') (rows.set j row')=(SC (ag E) ss rows).set j (ag E s' row')
 | [],rows,j=>by simp
 |_::_,[],j=>by cases j<;>simp
 |s::ss,r::rows,0=>by simp
 |s::ss,r::rows,j+1=>by simp[G8 ss rows j]
theorem Ow.DR{j:S}{s':Sl}{row':J α}(hl:ss.length=rows.length)(hj:j<rows.length)(h:Ow B w0 w (ag E s' row'::((SC (ag E) ss rows).eraseIdx j++R))):
  Ow B w0 w (bA E (ss.set j s') (rows.set j row')::R):=by
 refine Ow.BI (by simp[hl]) ?_;rw[G8];have hj':j<(SC (ag E) ss rows).length:=by simp;omega
 have h2:Ow B w0 w (ag E s' row'::(SC (ag E) ss rows++R).eraseIdx j):=by rwa [Uz hj']
 have:=h2.put (by simp;omega)
 rwa [List.set_append_left _ _ hj']at this
theorem Ow.ym(h:Ow B w0 w R):Ow B w0 w (bA E [] []::R):=Ow.BI O h
theorem Ek{s:Sl}{row:J α}:∀(ss:J Sl)(rows:J (J α)),ss.length=rows.length->SC (ag E) (ss++ [s]) (rows++ [row])=SC (ag E) ss rows++ [ag E s row]
 | [],[],_=>rfl
 | [],_::_,h=>by simp at h
 |_::_,[],h=>by simp at h
 |a::ss,b::rows,h=>by simp[Ek ss rows (by simpa using h)]
theorem Ow.B7{s:Sl}{row:J α}(h:Ow B w0 w (ag E s row::bA E ss rows::R)):Ow B w0 w (bA E (ss++ [s]) (rows++ [row])::R):=by have h2:Ow B w0 w (bA E ss rows::ag E s row::R):=h.perm (List.Perm.swap _ _ _);obtain⟨hl,h3⟩:=h2.DS;refine Ow.BI (by simp[hl]) ?_;rw[Ek _ _ hl,S6];exact h3
theorem Ow.wg(h:Ow B w0 w (bA E ss rows::R)){j k:S}{s:Sl}{row:J α}{x:α}{i:U}{alc:qf->Prop}(hs:ss[j]?=X s)(hr:rows[j]?=X row)(hik:i=(k:U))(hk:row[k]?=X x)
  (hG:∀a,s.a=X a->(∀v,(E.enc x)[0]?=X v->w.cell? (a.add (i.toNat*E.z))=X v)->(∀c v,(E.enc x)[c]?=X v->w.cell? ((a.add (i.toNat*E.z)).add c)=X v)->alc a):
  ∃a,s.a=X a/\0<=i/\i<(s.len:U)/\alc a:=(h.row hs hr).cd hik hk hG
theorem Ow.M4(h:Ow B w0 w (bA E ss rows::R)){j k:S}{s:Sl}{row:J α}{i:U}{a:qf}{K:W->Prop}(x:α)(hs:ss[j]?=X s)(hr:rows[j]?=X row)(hik:i=(k:U))(hk:k<row.length)(ha:s.a=X a)
  (hK:∀w',Ow B w0 w' (bA E ss (rows.set j (row.set k x))::R)->K w'):oy w (a.add (i.toNat*E.z)) 0 (E.enc x) K:=by
 obtain⟨hl,_⟩:=h.DS;have h1:=(Sz.1 hr).1;refine(h.row hs hr).uc x hik hk ha λw' h'=>hK w' ?_;have:=h'.DR (ss:=ss) (rows:=rows) (j:=j) hl h1;have hset:ss.set j s=ss:=by
  apply Td;intro t;rw[To];by_cases e:j=t
  .subst e;rw[Z O,Z om,hs]
  .rw[Y e]
 rwa [hset]at this
theorem Ow.gY(h:Ow B w0 w (bA E ss rows::R)){j:S}{s:Sl}{row:J α}(hs:ss[j]?=X s)(hr:rows[j]?=X row):s.len=row.length:=(h.row hs hr).len 0 O
end
end Go.Vc
namespace Go.Vc
open Go.ChangeShapes Go.WideShapes
section
variable{B:S}{w0 w:W}{L L':J aG}{α:Type}{E:dX α}{s:Sl}{xs:J α}
structure Rd{α:Type}(E:dX α)(B:S)(w0:W)(L:J aG)(s:Sl)(xs:J α):Prop where
 len:s.len=xs.length
 Px:∀w',Ow B w0 w' L->∀(i:U)(j:S)(x:α),i=(j:U)->xs[j]?=X x->∃a,s.a=X a/\(∀v,(E.enc x)[0]?=X v->w'.cell? (a.add (i.toNat*E.z))=X v)/\(∀c v,(E.enc x)[c]?=X v->w'.cell? ((a.add (i.toNat*E.z)).add c)=X v)
theorem Rd.own[ale:bG s L α E xs](hl:s.len=xs.length):Rd E B w0 L s xs:=⟨hl,λw' h i j x hij hj=>by obtain⟨b,o,ha,_⟩:=h.get ale.i ale.at_ hj;exact⟨_,ha,h.O0 hij hj ha⟩⟩
theorem Rd.more(hr:Rd E B w0 L s xs)[ale:y9 L' L]:Rd E B w0 L' s xs:=⟨hr.len,λw' h=>hr.Px w' h.sub⟩
theorem Rd.ix(hr:Rd E B w0 L s xs)(h:Ow B w0 w L){i:U}{j:S}{x:α}{alc:qf->Prop}(hij:i=(j:U))(hj:xs[j]?=X x)
  (hG:∀a,s.a=X a->(∀v,(E.enc x)[0]?=X v->w.cell? (a.add (i.toNat*E.z))=X v)->(∀c v,(E.enc x)[c]?=X v->w.cell? ((a.add (i.toNat*E.z)).add c)=X v)->alc a):
  ∃a,s.a=X a/\0<=i/\i<(s.len:U)/\alc a:=by
 obtain⟨a,ha,h0,hc⟩:=hr.Px w h i j x hij hj;have h1:=(Sz.1 hj).1;have h2:=hr.len;exact⟨a,ha,om,om,hG a ha h0 hc⟩
theorem Ow.CO{b:S}{L:J aG}{l:J V}(h:Ow B w0 w (ae b l::L))(xs:J α)(hl:l=xs.flatMap E.enc):Ow B w0 w (ag E ⟨X ⟨b,0,Q⟩,xs.length,xs.length⟩ xs::L):=by
 subst hl;refine h.conv λalc hG=>⟨λa ha=>by cases ha;exact hG.1,O,.mk b 0 _ O hG.2 (SA _) ?_ ?_⟩
 .rw[aO];simp
 .rw[T9,<-aO,UC]
end
end Go.Vc
namespace Go.Vc
section
variable{P:qo}{B:S}{w0 w:W}{L R:J aG}{α:Type}{E:dX α}{s:Sl}{xs:J α}
theorem Fm(l:J V)(o n:S){q:S}{vs:J V}(h1:o+n<=l.length)(h2:q+vs.length<=n):((putAt l (o+q) vs).drop o).take n=putAt ((l.drop o).take n) q vs:=by
 apply Td;intro t;rw[S5,dF _ _ _ _ (by simp;omega),S5];by_cases e:t<n
 .rw[Z e,Z e,S8,dF _ _ _ _ om,S8]
  by_cases e2:q<=t/\t<q+vs.length
  .rw[Z e2,Z om];congr 1;omega
  .rw[Y e2,Y om]
 .rw[Y e,Y e]
  by_cases e2:q<=t/\t<q+vs.length
  .omega
  .rw[Y e2]
theorem C4{α:Type}(E:dX α)(xs ys:J α)(p:S)(h:p+ys.length<=xs.length):putAt (xs.flatMap E.enc) (p*E.z) (ys.flatMap E.enc)=(xs.take p++ys++xs.drop (p+ys.length)).flatMap E.enc:=by
 have hl:=aO E xs;have hly:=aO E ys;have hm:(p+ys.length)*E.z<=xs.length*E.z:=Ta _ h;rw[TX]at hm;have htake:∀n,(xs.take n).flatMap E.enc=(xs.flatMap E.enc).take (n*E.z):=λn=>by
  by_cases hn:n<=xs.length
  .have h1:xs.flatMap E.enc=(xs.take n).flatMap E.enc++(xs.drop n).flatMap E.enc:=by rw[<-Tp,Tl]
   have h2:((xs.take n).flatMap E.enc).length=n*E.z:=by rw[aO];simp[hn]
   rw[h1,<-h2,U0]
  .rw[SE om,SE]
   rw[hl];exact Ta _ om
 have hdrop:(xs.drop (p+ys.length)).flatMap E.enc=(xs.flatMap E.enc).drop ((p+ys.length)*E.z):=by
  have h1:xs.flatMap E.enc=(xs.take (p+ys.length)).flatMap E.enc++(xs.drop (p+ys.length)).flatMap E.enc:=by rw[<-Tp,Tl]
  have h2:((xs.take (p+ys.length)).flatMap E.enc).length=(p+ys.length)*E.z:=by rw[aO,SN,TL h]
  rw[h1,<-h2,Ws]
 rw[Tp,Tp,htake,hdrop];generalize xs.flatMap E.enc=cs at*
 generalize ys.flatMap E.enc=ds at*
 apply Td;intro t;rw[dF _ _ _ _ (by rw[hl,hly];exact hm)];have hlt:(cs.take (p*E.z)).length=p*E.z:=by simp;omega
 by_cases e1:t<p*E.z
 .rw[Y om,S6,SM om,S5,Z e1]
 .by_cases e2:t<p*E.z+ds.length
  .rw[Z om,SM (by rw[SG];omega),SP om,hlt]
  .rw[Y om,SP (by rw[SG];omega),SG,hlt,S8,TX,<-hly]
   congr 1;omega
theorem Ow.lF(h:Ow B w0 w (ag E s xs::R)):lP E.z w s (xs.flatMap E.enc):=h.tX 0 O
theorem Ow.GY{z:S}{cs ds:J V}{q b o:S}(h:Ow B w0 w (Jf z s cs::R))(ha:s.a=X ⟨b,o,Q⟩)(hq:q+ds.length<=cs.length)(hone:∀v∈ds,v.oneCell'=G):
  ∃w',(storeCells ⟨b,o+q,Q⟩ ds 0).run P w= .ok () w'/\Ow B w0 w' (Jf z s (putAt cs q ds)::R):=by
 have hs:lP z w s cs:=h.head λ_ h=>h.2;have hlen:=hs.length;cases hs with
 |nil ha' _ _ _=>rw[ha']at ha;cases ha
 |mk b' o' l ha' hb hle hc hcs=>
  rw[ha']at ha;simp only[Option.some.injEq,Addr.mk.injEq,and_true]at ha;obtain⟨rfl,rfl⟩:=ha;have m1:s.len*z<=s.cap*z:=Ta z hle;obtain⟨w',h1,h2,h3,h4⟩:=iW (P:=P) ds l (o'+q) w hb om hone 0 (o'+q) om;refine⟨w',h1,h.step (A':=Jf z s (putAt cs q ds)) λalc hA hG=>⟨h2.mono λk _ e=>by rw[e];exact hA.1 _ ha',alc,⟨hA.1,?_⟩,λk hk=>⟨.inl hk,by have:=(hG k hk).2;omega⟩⟩⟩;refine .mk b' o' _ ha' h4 hle (by rw[rl om];exact hc) ?_;rw[hcs,Fm l o' (s.len*z) om om]
theorem Ow.Se(h:Ow B w0 w (ag E s xs::R)):Ow B w0 w (Jf E.z s (xs.flatMap E.enc)::R):=h.conv λ_ h=>⟨h.1,h.2.2⟩
theorem Ow.QX{cs:J V}(hl:s.len=xs.length)(hc:cs=xs.flatMap E.enc)(h:Ow B w0 w (Jf E.z s cs::R)):Ow B w0 w (ag E s xs::R):=h.conv λ_ h=>⟨h.1,hl,hc▸h.2⟩
theorem zf{z n:S}{a:qf}{cap len:S}{ds:J V}(hn:ds.length=n*z)(hg:∀j v,ds[j]?=X v->w.cell? (a.add j)=X v):(Builtin.firstCells z n (.slice (X a) len cap)).run P w= .ok ⟨ds⟩ w:=by simp only[Builtin.firstCells];unfold loadCells;have:=dJ (P:=P) w a ds 0 #[] (λj v hj=>by rw[dY]at hj;rw[SS];exact hg j v hj);rw[hn]at this;rw[this];simp
theorem Ow.JT{T el t:qi}{inf:qL}{z p dl dc b o sl sc:S}{cs ds:J V}{sa:qf}{k:U->W->Prop}(hu:P.underlying T=X (.slice el))(hi:P.info? el=X inf)(hsz:inf.size=z)
  (h:Ow B w0 w (Jf z s cs::R)) (ha:s.a=X ⟨b,o,Q⟩) (hd:ds.length=min sl dl*z) (hone:∀v∈ds,v.oneCell'=G) (hp:(p+min sl dl)*z<=cs.length)
  (hsrc:∀j v,ds[j]?=X v->w.cell? (sa.add j)=X v) (hk:∀w',Ow B w0 w' (Jf z s (putAt cs (p*z) ds)::R)->k ((min sl dl:S):U) w'):
  ∃n w',wS P [T,T] t (.slice (X ⟨b,o+p*z,Q⟩) dl dc) (.slice (X sa) sl sc) w n w'/\k n w':=by
 have hsize:∀w,(sizeOf el).run P w= .ok z w:=λw=>by rw[gv hi w];simp[sz,hi,hsz]
 rw[TX]at hp;obtain⟨w',h1,h2⟩:=h.GY (P:=P) (q:=p*z) (ds:=ds) ha om hone;refine⟨_,w',?_,hk w' h2⟩;unfold wS Builtin.copy_;simp only[Ud,TI,SR,Sem.run_bind,bf hu,Result.andThen_ok,hsize,Builtin.lenOf,Sem.run_pure];rw[show Nat.min sl dl=min sl dl from O,zf (w:=w) hd hsrc];simp only[Result.andThen_ok,h1];rfl
theorem Ow.xk{T el:qi}{inf:qL}{i j:S}{k:Sl->W->Prop}(hu:P.underlying T=X (.slice el))(hi:P.info? el=X inf)(hsz:inf.size=E.z)(h:Ow B w0 w (ag E s xs::R))(hij:i<=j)(hj:j<=xs.length)(hi0:i<xs.length)
  (hk:∀w',Ow B w0 w' (ag E s (xs.take i++xs.drop j++xs.drop (i+(xs.length-j)))::R)->k ⟨s.a,i+(xs.length-j),s.cap⟩ w'):
  ∃t w',dO P [T,T] T (.slice (mn s.a 0 s.cap E.z) (i-0) (s.cap-0)) (.slice (mn s.a j s.cap E.z) (s.len-j) (s.cap-j)) w t w'/\k t w':=by
 have hsize:∀w,(sizeOf el).run P w= .ok E.z w:=λw=>by rw[gv hi w];simp[sz,hi,hsz]
 have hl:=h.len 0 O;have hs:=h.lF;have hsp:=hs.spot;have hsub:=hs.sub (l:=j) (hh:=s.len) om (SA _);have hds:((xs.flatMap E.enc).take (s.len*E.z)).drop (j*E.z)=(xs.drop j).flatMap E.enc:=by
  rw[hl,<-aO,UC];have h1:xs.flatMap E.enc=(xs.take j).flatMap E.enc++(xs.drop j).flatMap E.enc:=by rw[<-Tp,Tl]
  have h2:((xs.take j).flatMap E.enc).length=j*E.z:=by rw[aO];simp[hj]
  rw[h1,<-h2,Ws]
 rw[hds]at hsub;have hcells:=iH (P:=P) hsub (s.len-j) (SA _);have hdl:((xs.drop j).flatMap E.enc).length=(s.len-j)*E.z:=by rw[aO,UK,hl]
 rw[<-hdl,UC]at hcells;have hcap:=hs.ga;obtain⟨b,o,ha,_⟩:=h.get 0 O (gE hi0);obtain⟨w',h1,h2⟩:=h.Se.GY (P:=P) (q:=i*E.z) (ds:=(xs.drop j).flatMap E.enc) ha (by
  rw[aO,aO,UK,<-TX];exact Ta _ om) (λv hv=>by
  obtain⟨y,_,hy⟩:=VC.1 hv;exact E.one y v hy)
 have e0:mn s.a 0 s.cap E.z=s.a:=IN _ _ _ hsp;refine⟨_,w',?_,hk w' (Ow.QX (cs:=putAt (xs.flatMap E.enc) (i*E.z) ((xs.drop j).flatMap E.enc)) ?_ ?_ h2)⟩
 .unfold dO Builtin.append_
  rw[e0];simp only[Xl];simp only[Ud,TI,SR,Sem.run_bind,bf hu,Result.andThen_ok,hsize,Builtin.lenOf,Sem.run_pure,SX,qB,T4];rw[Z (show i+(s.len-j)<=s.cap by omega)];simp only[qE];rw[Sem.run_bind,hcells];simp only[Result.andThen_ok,ha,aL];rw[Sem.run_bind,h1,hl];rfl
 .simp;omega
 .rw[C4 E xs (xs.drop j) i (by rw[UK];omega),UK]
theorem iU{a:qg qf}{b o i cap z:S}(ha:a=X ⟨b,o,Q⟩)(hne:cap≠i):Vc.mn a i cap z=X ⟨b,o+i*z,Q⟩:=by unfold Vc.mn;rw[Y hne,ha];simp only[TM,aL]
theorem Ow.Gl{T el t:qi}{inf:qL}{p dl dc sl sc b o:S}{sa:qf}{zs:J α}{k:U->W->Prop}(hu:P.underlying T=X (.slice el))(hi:P.info? el=X inf)(hsz:inf.size=E.z)
  (h:Ow B w0 w (ag E s xs::R)) (ha:s.a=X ⟨b,o,Q⟩) (hzl:zs.length=min sl dl) (hp:p+zs.length<=xs.length) (hsrc:∀j v,(zs.flatMap E.enc)[j]?=X v->w.cell? (sa.add j)=X v)
  (hk:∀w',Ow B w0 w' (ag E s (xs.take p++zs++xs.drop (p+zs.length))::R)->k ((min sl dl:S):U) w'):
  ∃n w',wS P [T,T] t (.slice (X ⟨b,o+p*E.z,Q⟩) dl dc) (.slice (X sa) sl sc) w n w'/\k n w':=by
 have hl:=h.len 0 O;refine h.Se.JT hu hi hsz ha (p:=p) (ds:=zs.flatMap E.enc) (by rw[aO,hzl]) (λv hv=>by obtain⟨y,_,hy⟩:=VC.1 hv;exact E.one y v hy) (by rw[aO,<-hzl];exact Ta _ hp) hsrc λw' h'=>hk w' (Ow.QX ?_ (C4 E xs zs p hp) h');simp;omega
theorem Ow.grow{m:S}(h:Ow B w0 w (ag E s xs::R))(hm:xs.length+m<=s.cap){b o:S}(ha:s.a=X ⟨b,o,Q⟩):∃junk:J V,junk.length=m*E.z/\Ow B w0 w (Jf E.z ⟨s.a,xs.length+m,s.cap⟩ (xs.flatMap E.enc++junk)::R):=by
 obtain⟨alc,hA,hG,ald,h1,h2,h3,h4⟩:=h.held.dy;obtain⟨hin,hlen,hs⟩:=hA;cases hs with
 |nil ha' _ _ _=>rw[ha']at ha;cases ha
 |mk b' o' l ha' hb hle hc hcs=>
  have m1:(xs.length+m)*E.z<=s.cap*E.z:=Ta _ hm;rw[TX]at m1;refine⟨(l.drop (o'+xs.length*E.z)).take (m*E.z),by simp;omega,h.base,h.vP,gL.pS (A:=Jf E.z ⟨s.a,xs.length+m,s.cap⟩ _) ⟨hin,.mk b' o' l ha' hb hm hc ?_⟩ hG h1 h2 h3 h4⟩;show _=(l.drop o').take ((xs.length+m)*E.z);rw[hcs,hlen,TX,List.take_add,TK]
theorem Ow.NS{A A':aG}{p:Prop}(h:Ow B w0 w (A::A'::R))(hp:∀alc G',A.holds alc w->A'.holds G' w->(∀k,alc k->¬G' k)->p):p:=by
 obtain⟨ald,h1,h2,h3⟩:=h.held
 match ald,h1 with
 |x::y::ald,h1=>
  simp only[S7,List.cons.injEq]at h1;obtain⟨rfl,rfl,_⟩:=h1;exact hp x.2 y.2 (h2 x qc).1 (h2 y qc).1 ((TP.1 h3).1 y qc)
theorem Ow.overlaps {f:FuncId} {fn:Func} {tS tR e:qi} {size la ca lb cb c b o o' z:S} {l:J V} {cs:J V} {s':Sl} (hf:P.funcs[f]?=X fn) (hname:(fn.name== "runtime.NumGoroutine")=qd) (hb:fn.body.isNone=G) (hn:Extern.findNext fn=Q)
  (he:Extern.find fn=X (Extern.SlicesOverlaps.overlaps #[tS,tS] #[tR])) (ht:P.underlying tS=X (.slice e)) (hz:∀w,(Go.sizeOf e).run P w= .ok size w)
  (h:Ow B w0 w (ae c l::Jf z s' cs::R)) (ha:s'.a=X ⟨b,o,Q⟩) (hcs:cs≠ []):Et P f #[.slice (X ⟨c,0,Q⟩) la ca,.slice (X ⟨b,o',Q⟩) lb cb] w (.bool qd) w:=by
 refine h.NS λalc G' hA hA' hd=>?_;have hne:c≠b:=λe=>hd c hA.1 (by have:=hA'.1 _ ha;rw[e];exact this);obtain⟨t1,ht1⟩:=hA.2;cases hA'.2 with
 |nil ha' _ _ _=>rw[ha']at ha;cases ha
 |mk b' o2 l' ha' hb' hle hc hcs'=>
  rw[ha']at ha;simp only[Option.some.injEq,Addr.mk.injEq,and_true]at ha;obtain⟨rfl,rfl⟩:=ha;obtain⟨t2,ht2⟩:=hb';have hl':l'.length≠0:=λe=>by have:l'= []:=TQ e;subst this;simp at hcs';exact hcs hcs'
  unfold Et;rw[run_callFunc_extern hf hname hb hn he,Lib.run_overlaps_apart w tS tR e ht size hz ⟨c,0,Q⟩ ⟨b',o',Q⟩ la ca lb cb hne t1 t2 l.length l'.length
   (by simp[World.shape?,ht1]) (by simp[World.shape?,ht2]) hl' (by simp[World.frozen?,ht1]) (by simp[World.frozen?,ht1])]
  rfl
theorem Ow.Ql{T ak5 el:qi}{inf:qL}{zv:V}{z0:α}{i m:S}{ku:qO}{k:Sl->W->Prop}(hu:P.underlying T=X (.slice el))(hui:P.underlying ak5=X (.int ku))(hi:P.info? el=X inf)(hz:inf.zero=X zv)(hsz:inf.size=E.z)(hzc:zv.cells.toList=E.enc z0)(hb:1<=inf.bytes)
  (h:Ow B w0 w (ag E s xs::R)) (hi0:i<=xs.length) (Cs:1<=m) (hcap:s.cap<i+m) (hbig:(17*(i+m)+16000)*inf.bytes<=2^48)
  (hk:∀s' w',s'.len=i+m->s'.len<=s'.cap->Ow B w0 w' (ag E s' (xs.take i++SB m z0)::ag E s xs::R)->k s' w'):
  ∃s' w',dO P [T,ak5] T (.slice (mn s.a 0 s.cap E.z) (i-0) (s.cap-0)) (.int .i64 (m:U)) w s' w'/\k s' w':=by
 have hsize:∀w,(sizeOf el).run P w= .ok E.z w:=λw=>by rw[gv hi w];simp[sz,hi,hsz]
 have hinfo:∀w,(typeInfo el).run P w= .ok inf w:=λw=>by simp[typeInfo,hi]
 have hzero:∀w,(qK el).run P w= .ok zv w:=λw=>by simp[qK,hinfo,hz]
 have hl:=h.len 0 O;have hs:=h.lF;have hlc:=hs.ga;have hsp:=hs.spot;have e0:mn s.a 0 s.cap E.z=s.a:=IN _ _ _ hsp;have hzl:zv.cells.size=E.z:=by rw[<-TH,hzc,E.len]
 let need:=i+m
 let q:Question:= .appendCap need s.cap el
 let n:=q.cut (w.tape w.drawn q)
 have hle:=xL need s.cap;have hlim:¬(Builtin.nextslicecap need s.cap*inf.bytes>2^48):=by
  have h0:Builtin.nextslicecap need s.cap<=17*(i+m)+16000:=by refine SY hle ?_;show i+m+16*s.cap+16000<=_;generalize 16000=y;omega
  have:Builtin.nextslicecap need s.cap*inf.bytes<=(17*(i+m)+16000)*inf.bytes:=Ta _ h0;omega
 have hneedb:need<=2^44:=by have h1:(17*(i+m)+16000)*1<=(17*(i+m)+16000)*inf.bytes:=Xc _ hb;show i+m<=_;omega
 have e44:(2:S)^44=17592186044416:=qb
 rw[e44]at hneedb;have hneedb:i+m<=17592186044416:=hneedb;have hn1:need<=n:=by show need<=need+_%_;omega
 let row:J V:=(xs.take i).flatMap E.enc++(SB m z0).flatMap E.enc++(Builtin.zeroCells zv.cells (n-need)).toList
 let w':=w.drew.alloc (.cells ⟨row⟩ el)
 have hpre:(xs.take i).flatMap E.enc=(xs.flatMap E.enc).take (i*E.z):=by
  have g1:xs.flatMap E.enc=(xs.take i).flatMap E.enc++(xs.drop i).flatMap E.enc:=by rw[<-Tp,Tl]
  have g2:((xs.take i).flatMap E.enc).length=i*E.z:=by rw[aO];simp[hi0]
  rw[g1,<-g2,U0]
 have hold:(Builtin.firstCells E.z i (.slice s.a i s.cap)).run P w.drew= .ok ⟨(xs.take i).flatMap E.enc⟩ w.drew:=by have h1:=h.drop;have hp:=(h.same (w':=w.drew) (pO O O O O)).pre 0 O (n:=i) hi0;have:=iH (P:=P) (hp.tX 0 O) i (SA _);rw[this,SE (by rw[aO];simp[hi0])]
 have hzs:(Builtin.zeroCells zv.cells m).toList=(SB m z0).flatMap E.enc:=by
  have h1:(Builtin.zeroCells zv.cells m)=⟨rep m zv.cells.toList⟩:=by unfold Builtin.zeroCells;exact ui zv.cells m (by rw[hzl];exact E.pos)
  have h2:∀m,rep m (E.enc z0)=(SB m z0).flatMap E.enc:=by
   intro m;induction m with
   |zero=>rfl
   |succ m ih=>simp[rep,US,ih]
  rw[h1,hzc,h2]
 have hzl2:(Builtin.zeroCells zv.cells (n-need)).toList.length=(n-need)*E.z:=by simp[Builtin.zeroCells,hzl]
 refine⟨⟨X ⟨w.heap.size,0,Q⟩,need,n⟩,w',?_,hk _ _ O hn1 ?_⟩
 .have hint:∀w,(asInt (.int .i64 (m:U))).run P w= .ok (m:U) w:=λw=>by simp[asInt,asIntOf]
  have hwm:qj.wrap (m:U)=(m:U):=wr om om;have hmb:¬((m:U)*(inf.bytes:U)>2^48):=by
   have h1:m*inf.bytes<=(17*(i+m)+16000)*inf.bytes:=Ta _ om;have h2:m*inf.bytes<=2^48:=SY h1 hbig;have e48:(2:U)^48=((2^48:S):U):=qb
   rw[e48,<-Int.natCast_mul];omega
  have OZ:¬((m:U)<0):=om
  have hcap2:¬(i+m<=s.cap):=om
  have hmax:¬(((i+m:S):U)>qj.max/\(qu\/inf.bytes=0)):=by
   have:qj.max=9223372036854775807:=qb
   rw[this];omega
  unfold dO Builtin.append_;rw[e0];simp only[Xl];have hint2:∀w,(asIntOf (.int .i64 (m:U))).run P w= .ok (.i64,(m:U)) w:=λw=>by simp[asIntOf]
  simp only[Ud,TI,SR,Sem.run_bind,bf hu,bf hui,Result.andThen_ok,hsize,Sem.run_pure,qE,hint,hwm,OZ,qB,hinfo,hmb,SD,hcap2,T1,SX];rw[Y hmax,Sem.run_bind,hinfo];simp only[Result.andThen_ok];rw[Y hlim,Sem.run_bind,run_choose];have hf:Question.forced (.appendCap (i+m) s.cap el)=false:=rfl;simp only[hf,SX,qB,Result.andThen_ok,World.drew_eq];rw[Sem.run_bind,hinfo];simp only[Result.andThen_ok];rw[Sem.run_bind,run_askRoom];simp only[Result.andThen_ok];rw[Sem.run_bind,hold];simp only[Result.andThen_ok];have hmz:¬(m*E.z=0):=by have hpos:=E.pos;intro e;rcases Wl.1 e with e|e<;>omega
  rw[Y hmz];simp only[Sem.run_bind,hzero,Result.andThen_ok,Sem.run_pure,newRow,run_newObj];have hrow:((⟨(xs.take i).flatMap E.enc⟩:qw V)++Builtin.zeroCells zv.cells m++Builtin.zeroCells zv.cells (n-need))=⟨row⟩:=by apply Ve;simp only[row,Array.toList_append,hzs]
  show Result.ok (Value.slice (X ⟨w.heap.size,0,Q⟩) (i+m) n) (w.drew.alloc (.cells ((⟨(xs.take i).flatMap E.enc⟩:qw V)++Builtin.zeroCells zv.cells m++Builtin.zeroCells zv.cells (n-need)) el))=_;rw[hrow]
 .have hrl:row.length=n*E.z:=by simp only[row,SG,aO,hzl2,SN,TL hi0,List.length_replicate];rw[<-TX,<-TX];congr 1;show i+m+(n-(i+m))=n;have:i+m<=n:=hn1;omega
  have h2:=h.same (w':=w.drew) (pO O O O O);refine h2.new (A':=ag E ⟨X ⟨w.heap.size,0,Q⟩,need,n⟩ (xs.take i++SB m z0)) (G':=λk=>k=w.heap.size) (ff _ _) ⟨λa ha=>by cases ha;rfl,by simp[need,hi0],?_⟩ λk e=>by subst e;exact⟨SA _,by simp[w']⟩
  refine .mk w.heap.size 0 row O ⟨el,heap_alloc_new w.drew _⟩ hn1 (by rw[hrl];show 0+n*E.z<=n*E.z;omega) ?_;show _=(row.drop 0).take ((i+m)*E.z);have:(i+m)*E.z=((xs.take i++SB m z0).flatMap E.enc).length:=by rw[aO];simp[hi0]
  rw[this,T9];simp only[row];rw[<-Tp,U0]
theorem Ow.NL[ale:bG s L α E xs](h:Ow B w0 w L){p n t:S}(hp:p+n<=xs.length)(ht:t<n):
  ∃a a0,s.a=X a0/\Vc.mn s.a p s.cap E.z=X a/\a.add (t*E.z)=a0.add ((p+t)*E.z):=by
 obtain⟨b,o,ha,_⟩:=h.get ale.i ale.at_ (gE (show p<xs.length by omega));have hl:=h.len ale.i ale.at_;have hc:=(h.tX ale.i ale.at_).ga;refine⟨_,_,ha,iU ha om,?_⟩;rw[aL,aL,TX,UN]
theorem Rd.part[ale:bG s L α E xs]{p n c:S}(hp:p+n<=xs.length):Rd E B w0 L ⟨Vc.mn s.a p s.cap E.z,n,c⟩ ((xs.drop p).take n):=by
 refine⟨by simp;omega,λw' h i j x hij hj=>?_⟩;rw[S5]at hj;split at hj
 .rename_i hjn
  rw[S8]at hj;obtain⟨a,a0,ha0,ha,he⟩:=h.NL (s:=s) (E:=E) (p:=p) (n:=n) (t:=j) hp hjn;obtain⟨h0,hc⟩:=h.O0 (s:=s) (E:=E) (i:=((p+j:S):U)) (j:=p+j) O hj ha0;have hi:i.toNat=j:=om
  rw[SD]at h0 hc;refine⟨a,ha,λv hv=>?_,λc v hv=>?_⟩
  .rw[hi,he];exact h0 v hv
  .rw[hi,he];exact hc c v hv
 .cases hj
end
end Go.Vc
