/- What the row rests on: the declarations that it needs, out of my texts (part 1). -/
import Derived.ChangeKeysEq
import Derived.Deep.Slices
import Derived.Laws.StructEq
import Derived.Lib.Overlaps
import Derived.Lib.SmallJoins
import Derived.Maps.RangeRun
import Derived.Orders
import Derived.ProofKit
import Derived.WalkKit
import Derived.WideKeyRuns
open Bool renaming false->G,true->Z
open Decidable renaming decide->V
open Go renaming Addr->qg,IntKind->qM,MapEntry->qE,Oper->qw,Operand->qD,Program->qq,TypeId->qi,TypeInfo->qL,Value->Q,World->J,execOp->qx,zeroValue->qK
open Go.IntKind renaming i64->qf,u64->qv
open Option renaming none->N,some->S
open _root_ renaming Array->qo,Bool->W,DecidableEq->qP,False->qk,Int->O,List->Y,Nat->X,Option->qh,True->I,absurd->qj,beq_iff_eq->qH,bne_iff_ne->qN,cond_false->qp,cond_true->ql,congrArg->qz,decide_eq_false->qm,decide_eq_true->qu,decide_eq_true_eq->qB,if_false->qy,if_neg->F,if_pos->qd,if_true->qC,rfl->U
open Array renaming all_eq_true_iff_forall_mem->OK,append_empty->PQ,empty_append->PR,ext'->NV,getD_eq_getD_getElem?->MQ,getElem?_eq_getElem->O8,getElem?_eq_some_iff->LW,getElem?_modify->NF,getElem?_setIfInBounds->O2,getElem?_setIfInBounds_ne->Nn,getElem?_setIfInBounds_self_of_lt->NN,getElem?_toList->L8,length_toList->Mo,mapM_eq_mapM_toList->O9,mem_def->PF,mem_toList_iff->NK,range->Pn,replicate->Qb,toList_eraseIdxIfInBounds->N7,toList_extract->Pz,toList_filter->NR,toList_push->P0
open Bool renaming and_eq_true->LO,false_eq_true->LK,false_or->N8,not_false->MK,not_true->MM,or_eq_false_iff->OS,or_eq_true->MC,or_false->N9,or_true->NL,true_and->M6,true_or->PT
open Int renaming toNat_natCast->Lw
open List renaming all_eq_true->NT,append_assoc->LN,append_nil->LQ,drop_drop->ML,drop_eq_getElem_cons->Mr,drop_eq_nil_of_le->Nz,drop_left->O3,drop_zero->M3,eq_nil_of_length_eq_zero->MA,eraseIdx_append_of_lt_length->Ni,eraseIdx_cons_succ->Nk,eraseIdx_sublist->NZ,ext_getElem?->L5,extract_eq_take_drop->Pa,filter_cons->Mc,findIdx?_cons->NG,findIdx?_eq_some_iff_getElem->L9,flatMap_append->Me,flatMap_cons->MP,getElem?_append_left->LI,getElem?_append_right->LH,getElem?_cons_succ->LG,getElem?_cons_zero->Mn,getElem?_drop->LR,getElem?_eq_none->L0,getElem?_eq_some_iff->Lu,getElem?_map->LV,getElem?_of_mem->PA,getElem?_set->Mb,getElem?_take->LS,getElem?_toArray->MT,headD->Qg,length_append->LC,length_cons->LL,length_drop->Ns,length_nil->M5,length_set->MJ,length_take->LX,mapM_cons->Py,map_cons->L1,map_nil->M9,mem_append->Mm,mem_cons->LD,mem_cons_of_mem->MF,mem_flatMap->Oj,mem_iff_getElem?->Mp,mem_map->L2,mem_of_getElem?->L4,mem_range->Nf,mem_singleton->Mk,nil_append->Mw,nodup_cons->Mj,pairwise_append->N5,pairwise_cons->My,range->LA,replicate->Ly,replicate_succ->N6,reverse_nil->OM,set_cons_succ->LM,take_append_drop->Ma,take_left->NH,take_length->Nt,take_of_length_le->Lz,take_take->NU,zipWith->Lx
open Nat renaming add_assoc->Nv,add_comm->OB,add_mul->MG,add_zero->NB,beq->Mg,beq_refl->PV,ble->NI,eq_of_beq_eq_true->Md,land->PD,le_of_ble_eq_true->Nq,le_of_not_lt->Pf,le_refl->Lv,le_trans->LY,lor->M4,lt_of_lt_of_le->MR,lt_or_ge->OV,min_eq_left->Ms,mod_lt->OC,mul_comm->OW,mul_eq_zero->OX,mul_le_mul_left->PN,mul_le_mul_right->LZ,mul_one->NW,pow_succ->Pj,shiftLeft->MI,sub_mul->O4,sub_self->MV,sub_zero->PX,succ_mul->Nu,testBit_and->Qk,zero_add->LF,zero_mul->Of
open Option renaming bind_some->OO,getD_some->Nd,isSome_iff_exists->MS,map_eq_some_iff->MZ,map_some->Mx
set_option maxRecDepth 100000
set_option maxHeartbeats 4000000
set_option linter.all false
section
theorem om{p:Prop}(h:p:=by omega):p:=h
theorem qa{p:Prop}(h:p:=by kernel_rfl):p:=h
theorem qb{p:Prop}(h:p:=by decide):p:=h
theorem qc{p:Prop}(h:p:=by simp):p:=h
theorem gE{α:Type _}{l:Y α}{i:X}(h:i<l.length):l[i]?=S l[i]:=List.getElem?_eq_getElem h
end
namespace Go.Vc
section
variable{ds:Y Deferred}{P:qq}
abbrev Env:=X->qh Q
def nth{α:Type}:Y α->X->qh α
 | [],_=>N
 |x::_,0=>S x
 |_::l,n+1=>nth l n
def Env.set(e:Env)(d:X)(v:qh Q):Env:=λt=>bif Mg t d then v else e t
def Env.put(e:Env)(d:qh X)(v:Q):Env:=match d with|some d=>e.set d (S v)|none=>e
def bit(m t:X):W:=Mg (PD (Nat.shiftRight m t) 1) 1
def Env.forget(e:Env)(m:X):Env:=λt=>bif bit m t then N else e t
def ev(e:Env):qD->qh Q
 | .tmp t=>e t
 | .const v=>S v
 | .global g=>S (.pointer (S ⟨g,0,N⟩))
 | .func f=>S (.func (.func f) #[] #[])
def IK(e:Env):Y qD->(Y Q->Prop)->Prop
 | [],k=>k []
 |x::l,k=>match ev e x with|some v=>IK e l (λvs=>k (v::vs))|none=>qk
def Jb(e:Env):Y (X × qD)->(Y (X × Q)->Prop)->Prop
 | [],k=>k []
 |(i,x)::l,k=>match ev e x with|some v=>Jb e l (λvs=>k ((i,v)::vs))|none=>qk
def KN(d:qh X):X:=match d with|some d=>MI 1 d|none=>0
def HJ:Y qw->X
 | []=>0
 |o::l=>M4 (KN o.dst) (HJ l)
def dm:Code->X
 | .region _ ops _=>HJ ops.toList
 | .seq a b=>M4 (dm a) (dm b)
 | .cond _ a b=>M4 (dm a) (dm b)
 | .block _ b=>dm b
 | .loop b=>dm b
 |_=>0
structure Sl where
 a:qh qg
 len:X
 cap:X
inductive Sc where
 |i (k:qM)|b|p|q|s|m|v|t
abbrev Sc.D:Sc->Type
 | .i _=>O| .b=>W| .p=>qh qg| .q=>qg| .s=>Sl| .m=>qh X| .v=>Q| .t=>ByteArray
abbrev Sc.mk:(c:Sc)->c.D->Q
 | .i k,n=> .int k n
 | .b,x=> .bool x
 | .p,x=> .pointer x
 | .q,x=> .pointer (S x)
 | .s,x=> .slice x.a x.len x.cap
 | .m,x=> .map x
 | .v,x=>x
 | .t,x=> .string x
def Sc.un(c:Sc)(v:Q)(k:c.D->Prop):Prop:=
 match c,v,k with
 | .i j,.int j' n,k=>if j'=j then k n else qk
 | .b,.bool x,k=>k x
 | .p,.pointer x,k=>k x
 | .q,.pointer (S x),k=>k x
 | .s,.slice a l c,k=>k ⟨a,l,c⟩
 | .m,.map r,k=>k r
 | .v,v,k=>k v
 | .t,.string x,k=>k x
 |_,_,_=>qk
inductive Sh where
 |c (x:Sc)|a (l:Y Sc)|big
def Iw(P:qq)(t:qi):Sc:=
 match P.underlying t with
 |some (.int k)=> .i k
 |some .bool=> .b
 |some (.pointer _)=> .p
 |some (.slice _)=> .s
 |some (.map _ _)=> .m
 |some .string=> .t
 |_=> .v
def sz(P:qq)(t:qi):X:=match P.info? t with|some i=>i.size|none=>0
def agg(P:qq)(t:qi):W:=match P.underlying t with|some (.struct _)=>Z|some (.array _ _)=>Z|_=>G
def rep{α:Type}:X->Y α->Y α
 |0,_=>[]
 |n+1,l=>l++rep n l
def JF(P:qq):X->qi->Y Sc
 |0,_=>[]
 |n+1,t=>match P.underlying t with
  |some (.struct fs)=>fs.toList.flatMap λf=>JF P n f.type
  |some (.array len el)=>rep len (JF P n el)
  |_=>[Iw P t]
def sg(P:qq)(t:qi):Sh:=
 bif agg P t then(bif NI (sz P t) 24 then(let l:=JF P 8 t;bif Mg l.length (sz P t)then .a l else .big)else .big)else .c (Iw P t)
def Gb(P:qq)(t:qi):Y Sh:=
 match P.underlying t with
 |some (.tuple ts)=>ts.toList.map (sg P)
 |_=>[sg P t]
def tU:Y Sc->Type->Type
 | [],r=>r
 |c::l,r=>c.D->tU l r
def vN:Y (X × Sh)->Type
 | []=>J->Prop
 |(_,.c x)::l=>x.D->vN l
 |(_,.a ss)::l=>tU ss (vN l)
 |(_,.big)::l=>qo Q->vN l
def Df{r:Type}:(ss:Y Sc)->Y Q->(Y Q->r)->tU ss r
 | [],acc,f=>f acc.reverse
 |c::l,acc,f=>λv=>Df l (c.mk v::acc) f
def uj:(cs:Y (X × Sh))->(Env->J->Prop)->Env->vN cs
 | [],f,e=>f e
 |(s,.c x)::l,f,e=>λv=>uj l f (e.set s (S (x.mk v)))
 |(s,.a ss)::l,f,e=>Df ss [] (λvs=>uj l f (e.set s (S (.agg ⟨vs⟩))))
 |(s,.big)::l,f,e=>λcs=>uj l f (e.set s (S (.agg cs)))
def yE{r:Type}:(ss:Y Sc)->Y Q->tU ss r->(r->Prop)->Prop
 | [],[],g,k=>k g
 |c::ss,v::vs,g,k=>c.un v (λd=>yE ss vs (g d) k)
 | [],_::_,_,_=>qk
 |_::_,[],_,_=>qk
def iH:(cs:Y (X × Sh))->vN cs->Env->J->Prop
 | [],g,_,w=>g w
 |(s,.c x)::l,g,e,w=>match e s with|some v=>x.un v (λd=>iH l (g d) e w)|none=>qk
 |(s,.a ss)::l,g,e,w=>match e s with|some (.agg cs)=>yE ss cs.toList g (λg'=>iH l g' e w)|_=>qk
 |(s,.big)::l,g,e,w=>match e s with|some (.agg cs)=>iH l (g cs) e w|_=>qk
def Ic{r:Type}:(ss:Y Sc)->tU ss r->tU ss r->(r->r->Prop)->Prop
 | [],f,g,k=>k f g
 |c::l,f,g,k=>∀d:c.D,Ic l (f d) (g d) k
def imp:(cs:Y (X × Sh))->vN cs->vN cs->Prop
 | [],f,g=>∀w,f w->g w
 |(_,.c x)::l,f,g=>∀d:x.D,imp l (f d) (g d)
 |(_,.a ss)::l,f,g=>Ic ss f g (imp l)
 |(_,.big)::l,f,g=>∀cs:qo Q,imp l (f cs) (g cs)
def J4:Y Sc->Y Q->(Y Q->Prop)->Prop
 | [],acc,k=>k acc.reverse
 |c::l,acc,k=>∃d:c.D,J4 l (c.mk d::acc) k
def Jd(s:Sh)(k:Q->Prop):Prop:=
 match s with
 | .c x=>∃d:x.D,k (x.mk d)
 | .a l=>J4 l [] (λvs=>k (.agg ⟨vs⟩))
 | .big=>∃cs:qo Q,k (.agg cs)
def Jc:Y Sh->Y Q->(Y Q->Prop)->Prop
 | [],acc,k=>k acc.reverse
 |s::l,acc,k=>Jd s (λv=>Jc l (v::acc) k)
def xU:Y Q->Q
 | [v]=>v
 |vs=> .tuple ⟨vs⟩
def Ef(P:qq)(t:qi)(p:Prop):Prop:=match P.underlying t with|none=>qk|some _=>p
def Cf:Y Sc->qg->X->J->Y Q->(Q->Prop)->Prop
 | [],_,_,_,acc,k=>k (.agg ⟨acc.reverse⟩)
 |c::l,a,i,w,acc,k=>∃d:c.D,w.cell? (a.add i)=S (c.mk d)/\Cf l a (i+1) w (c.mk d::acc) k
def zf(P:qq)(t:qi)(a:qg)(w:J)(k:Q->Prop):Prop:=
 Ef P t<|
 match sg P t with
 | .c x=>∃d:x.D,w.cell? a=S (x.mk d)/\k (x.mk d)
 | .a l=>Cf l a 0 w [] k
 | .big=>∃cs:qo Q,cs.size=sz P t/\(∀i,i<sz P t->w.cell? (a.add i)=cs[i]?)/\k (.agg cs)
def St(w:J)(a:qg)(v:Q)(k:J->Prop):Prop:=
 (w.cell? a).isSome=Z/\w.frozen? a=G/\v.oneCell'=Z/\k (w.setCell a v)
def BM:Y Q->qg->X->J->(J->Prop)->Prop
 | [],_,_,w,k=>k w
 |v::l,a,i,w,k=>St w (a.add i) v (λw'=>BM l a (i+1) w' k)
def BN(P:qq)(t:qi)(a:qg)(v:Q)(w:J)(k:J->Prop):Prop:=
 Ef P t<|
 bif agg P t then
  match v with
  | .agg cs=>bif Mg cs.toList.length (sz P t)then BM cs.toList a 0 w k else qk
  |_=>qk
 else bif Mg (sz P t) 1 then St w a v k else qk
def ic(k:qM)(x y:O):O:=k.wrap (x*2^(min y.toNat k.bits))
def kd(k:qM)(x y:O):O:=x.fdiv (2^(min y.toNat k.bits))
def di(k:qM)(x y:O):O:=k.wrap ((BitVec.ofInt k.bits x &&& BitVec.ofInt k.bits y).toNat)
def FD(k:qM)(x y:O):O:=k.wrap ((BitVec.ofInt k.bits x ||| BitVec.ofInt k.bits y).toNat)
def Hw(k:qM)(x y:O):O:=k.wrap ((BitVec.ofInt k.bits x ^^^ BitVec.ofInt k.bits y).toNat)
def fE(k:qM)(x y:O):O:=k.wrap ((BitVec.ofInt k.bits x &&& ~~~ BitVec.ofInt k.bits y).toNat)
def Jw(x y:O):O:=if y>x then y else x
def Jy(x y:O):O:=if y<x then y else x
def isNil:qD->W
 | .const (.pointer N)=>Z
 | .const (.slice N _ _)=>Z
 | .const (.map N)=>Z
 |_=>G
def FA(P:qq)(t:qi)(x y:Q)(k:W->Prop):Prop:=
 match P.underlying t,x,y with
 |some (.pointer _),.pointer a,.pointer N=>k a.isNone
 |some (.slice _),.slice a _ _,.slice N _ _=>k a.isNone
 |some (.map _ _),.map a,.map N=>k a.isNone
 |_,_,_=>qk
def Ie(op:BinOp)(j:qM)(a b:O)(k:Q->Prop):Prop:=
 match op with
 | .add=>k (.int j (j.wrap (a+b)))
 | .sub=>k (.int j (j.wrap (a-b)))
 | .mul=>k (.int j (j.wrap (a*b)))
 | .quo=>b≠0/\k (.int j (j.wrap (a.tdiv b)))
 | .rem=>b≠0/\k (.int j (a.tmod b))
 | .and=>k (.int j (di j a b))
 | .or=>k (.int j (FD j a b))
 | .xor=>k (.int j (Hw j a b))
 | .andNot=>k (.int j (fE j a b))
 | .eql=>k (.bool (a==b))
 | .neq=>k (.bool (a !=b))
 | .lss=>k (.bool (a<b))
 | .leq=>k (.bool (a<=b))
 | .gtr=>k (.bool (a>b))
 | .geq=>k (.bool (a>=b))
 |_=>qk
def vl(P:qq)(op:BinOp)(t:qi)(x y:qD)(vx vy:Q)(b:W):Prop:=∀w:J,(do eqGuard op t x y vx vy;binOp op t vx vy:Sem Q).run P w= .ok (.bool b) w
def H0(P:qq)(op:BinOp)(t:qi)(x y:qD)(vx vy:Q)(k:Q->Prop):Prop:=
 match op,vx,vy with
 | .shl,.int j a,.int _ b=>0<=b/\k (.int j (ic j a b))
 | .shr,.int j a,.int _ b=>0<=b/\k (.int j (kd j a b))
 |op,.int j a,.int j' b=>if j=j' then Ie op j a b k else qk
 | .eql,.bool a,.bool b=>(match P.underlying t with|some .bool=>k (.bool (a==b))|_=>qk)
 | .neq,.bool a,.bool b=>(match P.underlying t with|some .bool=>k (.bool (!(a==b)))|_=>qk)
 | .add,.string a,.string b=>((a.size+b.size:X):O)<=qf.max/\k (.string (a++b))
 |op,vx,vy=>bif isNil y then
   FA P t vx vy λb=>(match op with| .eql=>k (.bool b)| .neq=>k (.bool (!b))|_=>qk)
  else ∃b:W,vl P op t x y vx vy b/\k (.bool b)
def KJ(op:UnOp)(v:Q)(k:Q->Prop):Prop:=
 match op,v with
 | .not,.bool b=>k (.bool (!b))
 | .neg,.int j n=>k (.int j (j.wrap (0-n)))
 | .xor,.int j n=>k (.int j (Hw j (if j.signed then -1 else j.max) n))
 |_,_=>qk
def kA(P:qq)(s:qi)(f:X):qh (qi × X):=
 match P.underlying s with
 |some (.struct fs)=>match nth fs.toList f with|some fl=>S (fl.type,fl.offset)|none=>N
 |_=>N
def Cm(P:qq)(t:qi)(cs:Y Q)(off:X)(k:Q->Prop):Prop:=
 Ef P t<|
 bif agg P t then k (.agg ⟨(cs.drop off).take (sz P t)⟩)
 else match nth cs off with|some v=>k v|none=>qk
def Cl:Y Sc->qo Q->X->X->Y Q->(Q->Prop)->Prop
 | [],_,_,_,acc,k=>k (.agg ⟨acc.reverse⟩)
 |c::l,cs,o,i,acc,k=>∃d:c.D,cs[o+i]?=S (c.mk d)/\Cl l cs o (i+1) (c.mk d::acc) k
def FG(P:qq)(t:qi)(cs:qo Q)(off:X)(k:Q->Prop):Prop:=
 Ef P t<|
 match sg P t with
 | .c x=>∃d:x.D,cs[off]?=S (x.mk d)/\k (x.mk d)
 | .a l=>Cl l cs off 0 [] k
 | .big=>qk
def eU(a:qh qg)(l m size:X):qh qg:=if m=l then a else a.map (·.add (l*size))
def s6(a:qh qg)(l h m size:X):Q:= .slice (eU a l m size) (h-l) (m-l)
def bound(e:Env)(x:qh qD)(dflt:X)(top:X)(k:X->Prop):Prop:=
 match x with
 |none=>k dflt
 |some x=>match ev e x with|some (.int _ n)=>0<=n/\n<=(top:O)/\k n.toNat|_=>qk
def vj(P:qq)(t:qi):qh (Y Q):=match P.info? t with|some i=>(match i.zero with|some z=>S z.cells.toList|none=>N)|none=>N
def putAt:Y Q->X->Y Q->Y Q
 |cs,_,[]=>cs
 | [],_,_=>[]
 |c::cs,o+1,vs=>c::putAt cs o vs
 |_::cs,0,v::vs=>v::putAt cs 0 vs
def nV(place:X->qh (X × X))(n:X):Y Q->Y (X × Q)->qh (Y Q)
 |cs,[]=>S cs
 |cs,(i,v)::l=>match place i with
  |none=>N
  |some (off,size)=>bif Mg v.cells.toList.length size&&NI (off+size) n then nV place n (putAt cs off v.cells.toList) l else N
def G5(P:qq)(t:qi):W:=bif agg P t then G else(match Iw P t with| .v=>Mg (sz P t) 1|_=>G)
def Hb(n:X):Y Q->Y (X × Q)->qh (Y Q)
 |cs,[]=>S cs
 |cs,(i,v)::l=>bif NI (i+1) n then Hb n (putAt cs i [v]) l else N
def Iq:Y (X × Q)->Prop->Prop
 | [],C=>C
 |(_,v)::l,C=>v.oneCell'=Z/\Iq l C
def px(P:qq)(t:qi):W:=
 match P.underlying t with
 |some (.struct fs)=>fs.toList.all λf=>(P.info? f.type).isSome
 |some (.array _ el)=>(P.info? el).isSome
 |_=>G
def placeOf(P:qq)(t:qi)(i:X):qh (X × X):=
 match P.underlying t with
 |some (.struct fs)=>(match nth fs.toList i with|some f=>S (f.offset,sz P f.type)|none=>N)
 |some (.array _ el)=>S (i*sz P el,sz P el)
 |_=>N
def H6(d:X)(i:X):Y qw->qh qi
 | []=>N
 |o::l=>match o.op with
  | .extract (.tmp t) j=>bif Mg t d&&Mg j i then S o.type else H6 d i l
  |_=>H6 d i l
def Je(P:qq)(d:qh X)(i:X)(l:Y qw):Sh:=
 match d with
 |some d=>(match H6 d i l with|some t=>sg P t|none=> .c .v)
 |none=> .c .v
def okF(P:qq)(f:FuncId)(p:Prop):Prop:=match P.funcs[f]? with|none=>qk|some fn=>(match fn.body with|none=>qk|some _=>p)
def HF(P:qq)(f:FuncId)(args:qo Q)(t:qi)(w:J)(k:Q->J->Prop):Prop:=
 okF P f<|Calls P f args w λen w'=>Jc (Gb P t) [] λvs=>en= .returned (xU vs)/\k (xU vs) w'
def B8(P:qq)(f:FuncId):W:=match P.funcs[f]? with|some fn=>fn.body.isSome|none=>G
def yp(P:qq)(f:FuncId)(args:qo Q)(w:J)(v:Q)(w':J):Prop:=(callFunc f args).run P w= .ok (.value v) w'
def Jf(P:qq)(f:FuncId)(args:qo Q)(t:qi)(w:J)(k:Q->J->Prop):Prop:=Jc (Gb P t) [] λvs=>∃w',yp P f args w (xU vs) w'/\k (xU vs) w'
def JY(P:qq)(ta t:qi)(r:qh X)(w:J)(n:O):Prop:=(Builtin.len_ #[ta] t #[.map r]).run P w= .ok (.int .i64 n) w
def aM(P:qq)(ts:Y qi)(t:qi)(x y:Q)(w:J)(s:Sl)(w':J):Prop:=(Builtin.append_ ⟨ts⟩ t #[x,y]).run P w= .ok (.slice s.a s.len s.cap) w'
def ki(P:qq)(ts:Y qi)(t:qi)(x y:Q)(w:J)(n:O)(w':J):Prop:=(Builtin.copy_ ⟨ts⟩ t #[x,y]).run P w= .ok (.int .i64 n) w'
def kL(P:qq)(ts:Y qi)(t:qi)(x:Q)(w w':J):Prop:=(Builtin.clear_ ⟨ts⟩ t #[x]).run P w= .ok (.tuple #[]) w'
def wS(P:qq)(ts:Y qi)(t:qi)(x y:Q)(w w':J):Prop:=(Builtin.delete_ ⟨ts⟩ t #[x,y]).run P w= .ok (.tuple #[]) w'
def mi(P:qq)(b:Builtin)(ts:Y qi)(t:qi)(vs:Y Q)(w:J)(k:Q->J->Prop):Prop:=
 match b,vs with
 | .len,[v]=>(match ts with
  | [ta]=>(match P.underlying ta,v with
   |some (.slice _),.slice _ n _=>k (.int .i64 n) w
   |some (.array n _),_=>k (.int .i64 n) w
   |some (.map _ _),.map r=>∃n:O,JY P ta t r w n/\k (.int .i64 n) w
   |some .string,.string s=>k (.int .i64 s.size) w
   |_,_=>qk)
  |_=>qk)
 | .cap,[.slice _ _ n]=>(match ts with| [ta]=>(match P.underlying ta with|some (.slice _)=>k (.int .i64 n) w|_=>qk)|_=>qk)
 | .max,[.int j a,.int _ b]=>k (.int j (Jw a b)) w
 | .min,[.int j a,.int _ b]=>k (.int j (Jy a b)) w
 | .append,[.slice a l c,x]=>∃s:Sl,∃w',aM P ts t (.slice a l c) x w s w'/\k (.slice s.a s.len s.cap) w'
 | .copy,[x,y]=>∃n:O,∃w',ki P ts t x y w n w'/\k (.int .i64 n) w'
 | .clear,[x]=>∃w',kL P ts t x w w'/\k (.tuple #[]) w'
 | .delete,[x,y]=>∃w',wS P ts t x y w w'/\k (.tuple #[]) w'
 |_,_=>qk
def Hz(P:qq)(s d:qi)(x:Q)(w:J)(b:ByteArray):Prop:=(convert s d x).run P w= .ok (.string b) w
def Ep(s:ByteArray)(n b:O):Prop:=0<=n/\∃x:UInt8,s[n.toNat]?=S x/\b=x.toNat
def Al(w:J)(o:Obj)(k:J->Prop):Prop:=k (w.alloc o)
def Dr(w:J)(k:J->Prop):Prop:=k w.drew
def sC(P:qq)(t:qi)(m key v:Q)(b:W)(w:J):Prop:=(Instr.lookup t m key Z).run P w= .ok (.tuple #[v,.bool b]) w
def yv(P:qq)(t:qi)(m key v:Q)(w:J):Prop:=(Instr.lookup t m key G).run P w= .ok v w
def gh(P:qq)(t:qi)(m key v:Q)(w w':J):Prop:=(Instr.mapUpdate t m key v).run P w= .ok () w'
def km(P:qq)(t:qi)(x y:Q)(w:J)(s:Sl)(w':J):Prop:=(Instr.makeSlice t x y).run P w= .ok (.slice s.a s.len s.cap) w'
def wW(P:qq)(t:qi)(v:Q)(w:J)(a:qg)(w':J):Prop:=(Instr.range t v).run P w= .ok (.pointer (S a)) w'
def BV(P:qq)(v:Q)(b:W)(t:qi)(w:J)(y:W)(l:Y Q)(w':J):Prop:=(Instr.next v b t).run P w= .ok (.tuple ⟨.bool y::l⟩) w'
def wT(P:qq)(v a b:Q)(w:J):Prop:=(Instr.entry v).run P w= .ok (.tuple #[a,b]) w
def dU(P:qq)(fv:Q)(args:Y Q)(w:J)(R:Ending->J->Prop):Prop:=
 ∃id first cap,fv= .func (.func id) first cap/\okF P id (Calls P id (first++⟨args⟩++cap) w R)
def KE(P:qq)(rest:Y qw)(o:qw)(e:Env)(w:J)(k:Q->J->Prop):Prop:=
 match o.op with
 | .move x=>(match ev e x with|some v=>k v w|none=>qk)
 | .assign x=>(match ev e x with|some v=>k v w|none=>qk)
 | .pick c a b=>(match ev e c with
  |some (.bool Z)=>(match ev e a with|some v=>k v w|none=>qk)
  |some (.bool G)=>(match ev e b with|some v=>k v w|none=>qk)
  |_=>qk)
 | .box t x=>(match ev e x with|some v=>k (.pointer (S ⟨w.heap.size,0,N⟩)) (w.alloc (.cells v.cells t))|none=>qk)
 | .alloc t=>(match vj P t with|some z=>k (.pointer (S ⟨w.heap.size,0,N⟩)) (w.alloc (.cells ⟨z⟩ t))|none=>qk)
 | .build t ps=>bif !px P t then qk else Jb e ps.toList λvs=>(match vj P t with
   |some z=>(match nV (placeOf P t) z.length z vs with|some cs=>k (.agg ⟨cs⟩) w|none=>qk)
   |none=>qk)
 | .buildSlice t len ps=>Jb e ps.toList λvs=>(match P.underlying t with
   |some (.slice el)=>(match vj P el with
    |some z=>bif NI (len*sz P el) 1000&&Mg z.length (sz P el)&&NI 1 (sz P el)then
      bif G5 P el then(match Hb len (rep len z) vs with
       |some cs=>Iq vs (k (.slice (S ⟨w.heap.size,0,N⟩) len len) (w.alloc (.cells ⟨cs⟩ el)))
       |none=>qk)else(match nV (λi=>S (i*sz P el,sz P el)) (len*sz P el) (rep len z) vs with
       |some cs=>k (.slice (S ⟨w.heap.size,0,N⟩) len len) (w.alloc (.cells ⟨cs⟩ el))
       |none=>qk)else qk
    |none=>qk)
   |_=>qk)
 | .load t a=>(match ev e a with|some (.pointer (S a))=>zf P t a w (λv=>k v w)|_=>qk)
 | .store t a x=>(match ev e a,ev e x with|some (.pointer (S a)),S v=>BN P t a v w (λw'=>k undef w')|_,_=>qk)
 | .nilCheck x=>(match ev e x with
  |some (.pointer p)=>∃a,p=S a/\k (.pointer (S a)) w
  |some (.func (.func f) x y)=>k (.func (.func f) x y) w
  |_=>qk)
 | .fieldAddr s x f=>(match ev e x,kA P s f with
  |some (.pointer (S a)),S (ft,off)=>bif Mg (sz P ft) 0 then qk else k (.pointer (S (a.add off))) w
  |_,_=>qk)
 | .field s x f=>(match ev e x,kA P s f with
  |some (.agg cs),S (ft,off)=>Cm P ft cs.toList off (λv=>k v w)
  |_,_=>qk)
 | .indexAddr t x i=>(match P.underlying t,ev e x,ev e i with
  |some (.array len el),S (.pointer (S a)),S (.int _ n)=>bif Mg (sz P el) 0 then qk else 0<=n/\n<(len:O)/\k (.pointer (S (a.add (n.toNat*sz P el)))) w
  |some (.slice el),S (.slice b len _),S (.int _ n)=>bif Mg (sz P el) 0 then qk else ∃a,b=S a/\0<=n/\n<(len:O)/\k (.pointer (S (a.add (n.toNat*sz P el)))) w
  |_,_,_=>qk)
 | .index t x i=>(match P.underlying t,ev e x,ev e i with
  |some (.array len el),S (.agg cs),S (.int _ n)=>bif Mg (sz P el) 0 then qk else 0<=n/\n<(len:O)/\FG P el cs (n.toNat*sz P el) (λv=>k v w)
  |some .string,S (.string s),S (.int _ n)=>∃b:O,Ep s n b/\k (.int .u8 b) w
  |_,_,_=>qk)
 | .binOp op t x y _=>(match ev e x,ev e y with|some vx,S vy=>H0 P op t x y vx vy (λv=>k v w)|_,_=>qk)
 | .unOp op _ x=>(match ev e x with|some v=>KJ op v (λv=>k v w)|none=>qk)
 | .convert t d x=>Ef P t (match P.underlying d,ev e x with
  |some (.int j),S (.int _ n)=>k (.int j (j.wrap n)) w
  |some .string,S (.slice a l c)=>(match P.underlying t with|some (.slice _)=>∃s:ByteArray,Hz P t d (.slice a l c) w s/\k (.string s) w|_=>qk)
  |_,_=>qk)
 | .makeFunc fn a b=>IK e a.toList λxs=>IK e b.toList λys=>k (.func fn ⟨xs⟩ ⟨ys⟩) w
 | .makeMap _ N=>k (.map (S w.heap.size)) (w.alloc (.map #[] 0))
 | .makeSlice t l c=>(match ev e l,ev e c with
  |some x,S y=>∃s:Sl,∃w',km P t x y w s w'/\k (.slice s.a s.len s.cap) w'
  |_,_=>qk)
 | .slice t x lo hi mx=>(match P.underlying t,ev e x with
  |some (.slice el),S (.slice a len cap)=>bif Mg (sz P el) 0 then qk else bound e mx cap cap λm=>bound e hi len m λh=>bound e lo 0 h λl=>(match mx,hi with|some _,N=>qk|_,_=>k (s6 a l h m (sz P el)) w)
  |some (.array n el),S (.pointer (S a))=>bif Mg (sz P el) 0 then qk else bound e mx n n λm=>bound e hi n m λh=>bound e lo 0 h λl=>(match mx,hi with|some _,N=>qk|_,_=>k (s6 (S a) l h m (sz P el)) w)
  |some .string,S (.string s)=>(match mx with|some _=>qk|none=>bound e N s.size s.size λm=>bound e hi s.size m λh=>bound e lo 0 h λl=>(match(N:qh qD),hi with|some _,N=>qk|_,_=>k (.string (s.extract l h)) w))
  |_,_=>qk)
 | .lookup t x i ok=>(match P.underlying t,ev e x,ev e i with
  |some (.map _ el),S m,S key=>Jd (sg P el) λv=>bif ok then
    ∃b:W,sC P t m key v b w/\k (.tuple #[v,.bool b]) w
   else yv P t m key v w/\k v w
  |_,_,_=>qk)
 | .mapUpdate t m i x=>(match ev e m,ev e i,ev e x with
  |some m,S i,S x=>∃w',gh P t m i x w w'/\k undef w'
  |_,_,_=>qk)
 | .insert t m i x=>(match ev e m,ev e i,ev e x with
  |some m,S i,S x=>∃w',gh P t m i x w w'/\k undef w'
  |_,_,_=>qk)
 | .range t x=>(match ev e x with|some v=>∃a w',wW P t v w a w'/\k (.pointer (S a)) w'|none=>qk)
 | .next x b=>(match ev e x with|some v=>∃(y:W)(l:Y Q)(w':J),BV P v b o.type w y l w'/\k (.tuple ⟨.bool y::l⟩) w'|none=>qk)
 | .entry x=>(match ev e x with|some v=>Jd (Je P o.dst 0 rest) λa=>Jd (Je P o.dst 1 rest) λb=>wT P v a b w/\k (.tuple #[a,b]) w|none=>qk)
 | .extract x i=>(match ev e x with|some (.tuple vs)=>(match nth vs.toList i with|some v=>k v w|none=>qk)|_=>qk)
 | .call c=>IK e c.args.toList λvs=>(match c.callee with
  | .value (.func f)=>bif B8 P f then HF P f ⟨vs⟩ o.type w k else Jf P f ⟨vs⟩ o.type w k
  | .value f=>(match ev e f with
   |some fv=>dU P fv vs w λen w'=>Jc (Gb P o.type) [] λvs=>en= .returned (xU vs)/\k (xU vs) w'
   |none=>qk)
  | .builtin b=>mi P b c.argTypes.toList o.type vs w k
  |_=>qk)
 |_=>qk
def Ia:Y qw->X
 | []=>0
 |o::l=>M4 (match o.guard with|some (j,_)=>MI 1 j|none=>0) (Ia l)
def guarded(all:Y qw)(o:qw)(e:Env)(run skip:Prop):Prop:=
 match o.guard with
 |none=>run
 |some (j,want)=>match nth all j with
  |some g=>(match g.dst with
   |some d=>(match e d with
    |some (.bool b)=>(match b,want with|true,Z=>run|false,G=>run|true,G=>skip|false,Z=>skip)
    |some (.tuple _)=>skip
    |_=>qk)
   |none=>qk)
  |none=>qk
def split(b:W)(v:Q)(k:Q->Prop):Prop:=
 match b with
 |false=>k v
 |true=>(match v with| .bool x=>bif x then k (.bool Z)else k (.bool G)|v=>k v)
def zR(P:qq)(all rest:Y qw)(gm i:X)(o:qw)(abz:Env->J->Prop)(e:Env)(w:J):Prop:=
 guarded all o e (KE P rest o e w λv w'=>split (bit gm i) v λv'=>abz (e.put o.dst v') w') (abz (e.put o.dst undef) w)
def opsV(P:qq)(all:Y qw)(gm:X):Y qw->X->(Env->J->Prop)->Env->J->Prop
 | [],_,abz,e,w=>abz e w
 |o::rest,i,abz,e,w=>zR P all rest gm i o (opsV P all gm rest (i+1) abz) e w
inductive Hy where
 |pure|read|alloc|other
 deriving DecidableEq
def cls(P:qq)(o:qw):Hy:=
 match o.op with
 | .move _| .assign _| .pick .. | .nilCheck _| .fieldAddr .. | .field .. | .indexAddr .. | .index .. | .binOp .. | .unOp .. | .makeFunc .. | .slice .. | .extract .. | .build .. => .pure
 | .convert t d _=>(match P.underlying t,P.underlying d with|some (.slice _),S .string=> .other|_,_=> .pure)
 | .load .. => .read
 | .box .. | .alloc _| .makeMap _ N| .buildSlice .. => .alloc
 | .call c=>match c.callee with
  | .builtin .len=>(match c.argTypes.toList with| [t]=>(match P.underlying t with|some (.map _ _)=> .other|_=> .pure)|_=> .other)
  | .builtin .cap| .builtin .max| .builtin .min=> .pure
  |_=> .other
 |_=> .other
def FE(P:qq)(o:qw):W:=match cls P o with| .other=>Z|_=>G
def sub(a b:X):W:=Mg (PD a b) a
inductive bB where
 |done
 |one (i u:X) (p:bB)
 |hold (i u s:X) (p:bB)
 |alt (i:X) (p q:bB)
 |none
structure oY where
 s:X
 t:qi
 a:qg
 v:Q
def yr(w:J)(a:qg):X->Y Q->Prop->Prop
 |_,[],C=>C
 |i,v::l,C=>w.cell? (a.add i)=S v/\yr w a (i+1) l C
def E3(P:qq)(h:oY)(w:J)(C:Prop):Prop:=
 Ef P h.t<|
 match sg P h.t with
 | .c _=>w.cell? h.a=S h.v/\C
 | .a _=>(match h.v with| .agg cs=>bif Mg cs.toList.length (sz P h.t)then yr w h.a 0 cs.toList C else qk|_=>qk)
 | .big=>qk
def FB(P:qq)(m:X):Y oY->J->Prop->Prop
 | [],_,C=>C
 |h::l,w,C=>bif sub m h.s then E3 P h w (FB P m l w C)else FB P m l w C
def Ew(P:qq)(o:qw)(m:X)(hs:Y oY)(w:J)(C:Prop):Prop:=bif FE P o then FB P m hs w C else C
def mI(P:qq)(all:Y qw)(gm:X):bB->X->Y oY->(Env->J->Prop)->Env->J->Prop
 | .done,_,_,abz,e,w=>abz e w
 | .one i _ p,m,hs,abz,e,w=>(match nth all i with
  |some o=>zR P all all gm i o (λe w=>Ew P o (M4 m (MI 1 i)) hs w (mI P all gm p (M4 m (MI 1 i)) hs abz e w)) e w
  |none=>qk)
 | .hold i _ s p,m,hs,abz,e,w=>(match nth all i with
  |some o=>(match o.op,o.dst with
   | .load t x,S d=>(match ev e x with
    |some (.pointer (S a))=>zf P t a w λv=>mI P all gm p (M4 m (MI 1 i)) (⟨s,t,a,v⟩::hs) abz (e.put (S d) v) w
    |_=>qk)
   |_,_=>qk)
  |none=>qk)
 | .alt i p q,m,hs,abz,e,w=>(match nth all i with
  |some o=>zR P all all gm i o (λe w=>Ew P o (M4 m (MI 1 i)) hs w (mI P all gm p (M4 m (MI 1 i)) hs abz e w)) e w
  |none=>qk)/\mI P all gm q m hs abz e w
 | .none,_,_,_,_,_=>I
inductive An where
 |u
 |r (j:qh (Y (X × Sh))) (p:bB)
 |t (j:qh (Y (X × Sh))) (a b:An)
def An.j:An->qh (Y (X × Sh))| .u=>N| .r j _=>j| .t j _ _=>j
def An.a:An->An| .t _ a _=>a|_=> .u
def An.b:An->An| .t _ _ b=>b|_=> .u
def An.p:An->bB| .r _ p=>p|_=> .done
def Ab(j:qh (Y (X × Sh)))(m:X)(abz:Env->J->Prop)(e:Env)(body:(Env->J->Prop)->Prop):Prop:=
 match j with
 |none=>body abz
 |some cs=>∀k:vN cs,imp cs (uj cs abz (e.forget m)) k->body (iH cs k)
def vc(P:qq):Code->An->(Env->J->Prop)->(X->Env->J->Prop)->(Env->J->Prop)->Env->J->Prop
 | .skip,_,abz,_,_,e,w=>abz e w
 | .region _ ops d,an,abz,_,_,e,w=>
  Ab an.j (HJ ops.toList) abz e λabz=>bif d then mI P ops.toList (Ia ops.toList) an.p 0 [] abz e w.drew else opsV P ops.toList (Ia ops.toList) ops.toList 0 abz e w
 | .seq a b,an,abz,abo,R,e,w=>vc P a an.a (vc P b an.b abz abo R) abo R e w
 | .cond c a b,an,abz,abo,R,e,w=>
  Ab an.j (M4 (dm a) (dm b)) abz e λabz=>match ev e c with
   |some (.bool x)=>bif x then vc P a an.a abz abo R e w else vc P b an.b abz abo R e w
   |_=>qk
 | .block id b,an,abz,abo,R,e,w=>
  Ab an.j (dm b) abz e λabz=>vc P b an.a abz (λi=>bif Mg i id then abz else abo i) R e w
 | .loop b,an,_,abo,R,e,w=>(match an.j with
  |some cs=>∀L:vN cs,imp cs (uj cs (vc P b an.a (iH cs L) abo R) (e.forget (dm b))) L->iH cs L e w
  |none=>qk)
 | .exit id,_,_,abo,_,e,w=>abo id e w
 | .ret,_,_,_,R,e,w=>R e w
 |_,_,_,_,_,_,_=>qk
def pT(P:qq):Y ResultVar->Env->J->Y Q->(Y Q->Prop)->Prop
 | [],_,_,acc,k=>k acc.reverse
 | .tmp t::l,e,w,acc,k=>(match e t with|some v=>pT P l e w (v::acc) k|none=>qk)
 | .cell a t::l,e,w,acc,k=>(match e a with|some (.pointer (S p))=>zf P t p w λv=>pT P l e w (v::acc) k|_=>qk)
def JN(P:qq)(fn:Func)(c:Code)(an:An)(cs:Y (X × Sh))(args:Y Q)(K:vN cs)(w:J):Prop:=
 vc P c an (λe w'=>pT P fn.results.toList e w' [] λvs=>iH cs K (nth vs) w') (λ_ _ _=>qk)
  (λe w'=>pT P fn.results.toList e w' [] λvs=>iH cs K (nth vs) w') (nth args) w
def EK:(cs:Y (X × Sh))->vN cs->Y Q->Ending->J->Prop
 | [],K,acc,en,w=>en= .returned (xU acc.reverse)/\K w
 |(_,.c x)::l,K,acc,en,w=>∃d:x.D,EK l (K d) (x.mk d::acc) en w
 |(_,.a ss)::l,K,acc,en,w=>exKA ss [] K λvs K'=>EK l K' (.agg ⟨vs⟩::acc) en w
 |(_,.big)::l,K,acc,en,w=>∃cs:qo Q,EK l (K cs) (.agg cs::acc) en w
where
 exKA {r:Type}:(ss:Y Sc)->Y Q->tU ss r->(Y Q->r->Prop)->Prop
 | [],acc,K,k=>k acc.reverse K
 |c::l,acc,K,k=>∃d:c.D,exKA l (c.mk d::acc) (K d) k
def Rel(ds:Y Deferred)(n:X)(e:Env)(a:Act):Prop:=a.tmps.size=n/\a.defers=ds/\∀t v,e t=S v->a.tmps.getD t undef=v
theorem EZ(x:qo Q)(d t:X)(v:Q)(h:d<x.size):(x.setIfInBounds d v).getD t undef=if t=d then v else x.getD t undef:=by
 simp only[MQ];rw[O2];by_cases e:d=t
 .subst e;simp[h]
 .rw[F e,F (λh=>e h.symm)]
theorem Rel.put{n:X}{e:Env}{a:Act}(h:Rel ds n e a){d:qh X}(hd:∀x,d=S x->x<n)(v:Q):Rel ds n (e.put d v) (a.put d v):=by
 obtain⟨h1,h2,h3⟩:=h;cases d with
 |none=>exact⟨h1,h2,h3⟩
 |some d=>
  refine⟨by simp[Act.put,h1],h2,λt u ht=>?_⟩;simp only[Act.put];rw[EZ _ _ _ _ (by rw[h1];exact hd d U)];simp only[Env.put,Env.set]at ht;by_cases e:t=d
  .subst e
   rw[qd U];have:Mg t t=true:=PV t;rw[this]at ht;simpa using ht
  .rw[F e]
   have:Mg t d=false:=by
    cases hb:Mg t d with
    |true=>exact qj (Md hb) e
    |false=>rfl
   rw[this]at ht;exact h3 t u ht
theorem Rel.ev{n:X}{e:Env}{a:Act}(h:Rel ds n e a){x:qD}{v:Q}(hx:Vc.ev e x=S v):a.eval x=v:=by
 cases x with
 |tmp t=>exact h.2.2 t v hx
 |const c=>simpa [Vc.ev,Act.eval]using hx
 |global g=>simpa [Vc.ev,Act.eval]using hx
 |func f=>simpa [Vc.ev,Act.eval]using hx
theorem nm{n:X}{e:Env}{a:Act}(h:Rel ds n e a):∀(l:Y qD)(k:Y Q->Prop),IK e l k->k (l.map a.eval)
 | [],k,hk=>hk
 |x::l,k,hk=>by
  simp only[IK]at hk;split at hk
  .rename_i v hv
   have:=nm h l _ hk;simpa [h.ev hv]using this
  .exact hk.elim
theorem rz{n:X}{e:Env}{a:Act}(h:Rel ds n e a):∀(l:Y (X × qD))(k:Y (X × Q)->Prop),Jb e l k->k (l.map λ(i,x)=>(i,a.eval x))
 | [],k,hk=>hk
 |(i,x)::l,k,hk=>by
  simp only[Jb]at hk;split at hk
  .rename_i v hv
   have:=rz h l _ hk;simpa [h.ev hv]using this
  .exact hk.elim
def Ext(w w':J):Prop:=∀a x,w.cell? a=S x->w'.cell? a=S x
theorem Ext.refl(w:J):Ext w w:=λ_ _ h=>h
theorem Ext.trans{a b c:J}(h:Ext a b)(h':Ext b c):Ext a c:=λx v hx=>h' x v (h x v hx)
theorem Ext.alloc(w:J)(o:Obj):Ext w (w.alloc o):=λa x h=>by rw[World.cell?_alloc_lt _ _ _ (World.block_lt_of_cell? _ _ h)];exact h
def jw(P:qq)(o:qw)(c:Hy)(a:Act)(w:J)(K:Q->J->Prop):Prop:=
 match c with
 | .pure=>∃v,(∀w',(qx a.eval o).run P w'= .ok (.value v) w')/\K v w
 | .read=>∃v,(∀w',Ext w w'->(qx a.eval o).run P w'= .ok (.value v) w')/\K v w
 | .alloc=>∃v w',(qx a.eval o).run P w= .ok (.value v) w'/\Ext w w'/\K v w'
 | .other=>(∃v w',(qx a.eval o).run P w= .ok (.value v) w'/\K v w')\/(∃w',(qx a.eval o).run P w= .ok .skip w'/\K undef w')\/
   (∃f args,(qx a.eval o).run P w= .ok (.enter f args) w/\Calls P f args w λen w''=>∃v,en= .returned v/\K v w'')
theorem jw.mono{P:qq}{o:qw}{c:Hy}{a:Act}{w:J}{K K':Q->J->Prop}(h:jw P o c a w K)(hk:∀v w',K v w'->K' v w'):jw P o c a w K':=by
 cases c with
 |pure=>obtain⟨v,h1,h2⟩:=h;exact⟨v,h1,hk _ _ h2⟩
 |read=>obtain⟨v,h1,h2⟩:=h;exact⟨v,h1,hk _ _ h2⟩
 |alloc=>obtain⟨v,w',h1,h2,h3⟩:=h;exact⟨v,w',h1,h2,hk _ _ h3⟩
 |other=>
  rcases h with⟨v,w',h1,h2⟩|⟨w',h1,h2⟩|⟨f,args,h1,h2⟩
  .exact .inl ⟨v,w',h1,hk _ _ h2⟩
  .exact .inr (.inl ⟨w',h1,hk _ _ h2⟩)
  .exact .inr (.inr ⟨f,args,h1,h2.mono λen w''⟨v,hv,hK⟩=>⟨v,hv,hk _ _ hK⟩⟩)
theorem jw.zk{P:qq}{o:qw}{c:Hy}{a:Act}{w:J}{K K':Q->J->Prop}(hc:c≠ .other)(h:jw P o c a w K)(hk:∀v w',Ext w w'->K v w'->K' v w'):jw P o c a w K':=by
 cases c with
 |pure=>obtain⟨v,h1,h2⟩:=h;exact⟨v,h1,hk _ _ (Ext.refl _) h2⟩
 |read=>obtain⟨v,h1,h2⟩:=h;exact⟨v,h1,hk _ _ (Ext.refl _) h2⟩
 |alloc=>obtain⟨v,w',h1,h2,h3⟩:=h;exact⟨v,w',h1,h2,hk _ _ h2 h3⟩
 |other=>exact qj U hc
theorem aU{t:qi}{d:TypeDesc}(h:P.underlying t=S d)(w:J):(underlying t).run P w= .ok d w:=by simp[underlying,h]
theorem y7{t:qi}{d:TypeDesc}(h:P.underlying t=S d):∃i,P.info? t=S i:=by
 cases hi:P.info? t with
 |none=>simp[Program.underlying,hi]at h
 |some i=>exact⟨i,U⟩
theorem fu{t:qi}{i:qL}(h:P.info? t=S i)(w:J):(sizeOf t).run P w= .ok (sz P t) w:=by simp[sizeOf,typeInfo,h,sz]
theorem kK{t:qi}{d:TypeDesc}(h:P.underlying t=S d)(w:J):(sizeOf t).run P w= .ok (sz P t) w:=by obtain⟨i,hi⟩:=y7 h;exact fu hi w
theorem tF{t:qi}{d:TypeDesc}(h:P.underlying t=S d)(w:J):(isAgg t).run P w= .ok (agg P t) w:=by unfold isAgg agg;rw[Sem.run_bind,aU h w,h];simp only[Result.andThen_ok];cases d<;>rfl
theorem kc{w:J}{a:qg}{v:Q}(h:w.cell? a=S v):(load a).run P w= .ok v w:=by rw[run_load,h]
theorem dA(w:J)(a:qg):∀(vs:Y Q)(i:X)(acc:qo Q),(∀j v,nth vs j=S v->w.cell? (a.add (i+j))=S v)->
  (loadCellsFrom a i vs.length acc).run P w= .ok (acc++vs.toArray) w
 | [],i,acc,_=>by simp[loadCellsFrom]
 |v::vs,i,acc,h=>by
  have h0:w.cell? (a.add i)=S v:=h 0 v U;simp only[LL,loadCellsFrom];rw[Sem.run_bind,kc h0];simp only[Result.andThen_ok];rw[dA w a vs (i+1) (acc.push v) (λj u hj=>by have:=h (j+1) u hj;rw[show i+1+j=i+(j+1)from by omega];exact this)];simp
theorem dw{α:Type}:∀(l:Y α)(i:X),nth l i=l[i]?
 | [],i=>by simp[nth]
 |x::l,0=>by simp[nth]
 |x::l,i+1=>by simp[nth,dw l i]
theorem sJ(a:qg)(w:J):∀(l:Y Sc)(i:X)(acc:Y Q)(k:Q->Prop),Cf l a i w acc k->
  ∃vs:Y Q,vs.length=l.length/\(∀j v,nth vs j=S v->w.cell? (a.add (i+j))=S v)/\k (.agg ⟨acc.reverse++vs⟩)
 | [],i,acc,k,h=>⟨[],U,λj v h=>by simp[nth]at h,by simpa [Cf]using h⟩
 |c::l,i,acc,k,h=>by
  obtain⟨d,hd,h⟩:=h;obtain⟨vs,h1,h2,h3⟩:=sJ a w l (i+1) (c.mk d::acc) k h;refine⟨c.mk d::vs,by simp[h1],λj v hj=>?_,by simpa using h3⟩;cases j with
  |zero=>simp[nth]at hj;subst hj;exact hd
  |succ j=>have:=h2 j v hj;rw[show i+(j+1)=i+1+j from by omega];exact this
theorem BK{t:qi}{x:Sc}(h:sg P t= .c x):agg P t=false:=by
 unfold sg at h;cases ha:agg P t with
 |false=>rfl
 |true=>
  rw[ha]at h;simp only[ql]at h;cases h1:NI (sz P t) 24<;>rw[h1]at h<;>simp only[ql,qp]at h
  .cases h
  .cases h2:Mg (JF P 8 t).length (sz P t)<;>rw[h2]at h<;>simp only[ql,qp]at h<;>cases h
theorem BJ{t:qi}{l:Y Sc}(h:sg P t= .a l):agg P t=Z/\l.length=sz P t:=by
 unfold sg at h;cases ha:agg P t with
 |false=>rw[ha]at h;simp only[qp]at h;cases h
 |true=>
  rw[ha]at h;simp only[ql]at h;cases h1:NI (sz P t) 24<;>rw[h1]at h<;>simp only[ql,qp]at h
  .cases h
  .cases h2:Mg (JF P 8 t).length (sz P t)<;>rw[h2]at h<;>simp only[ql,qp]at h
   .cases h
   .cases h;exact⟨U,Md h2⟩
theorem Ga{t:qi}(h:sg P t= .big):agg P t=true:=by
 unfold sg at h;cases ha:agg P t with
 |false=>rw[ha]at h;simp only[qp]at h;cases h
 |true=>rfl
theorem mE{t:qi}{a:qg}{w:J}{k:Q->Prop}(h:zf P t a w k):∃v,k v/\∀w',Ext w w'->(loadVar t a).run P w'= .ok v w':=by
 unfold zf Ef at h;split at h
 .exact h.elim
 rename_i d hd;have hs:=λw=>kK hd w;have ha:=λw=>tF hd w;split at h
 .rename_i x hx
  obtain⟨v,hv,hk⟩:=h;refine⟨_,hk,λw' hw=>?_⟩;unfold loadVar;rw[Sem.run_bind,ha,BK hx];simp only[Result.andThen_ok,LK,qy];exact kc (hw _ _ hv)
 .rename_i l hl
  obtain⟨h1,h2⟩:=BJ hl;obtain⟨vs,h3,h4,h5⟩:=sJ a w l 0 [] k h;refine⟨_,h5,λw' hw=>?_⟩;unfold loadVar;rw[Sem.run_bind,ha,h1];simp only[Result.andThen_ok,qC];rw[Sem.run_bind,hs];simp only[Result.andThen_ok];rw[Sem.run_bind];unfold loadCells;rw[<-h2,<-h3,dA w' a vs 0 #[] (λj v hj=>hw _ _ (h4 j v hj))];simp
 .rename_i hl
  have h1:=Ga hl;obtain⟨cs,h2,h3,h4⟩:=h;refine⟨_,h4,λw' hw=>?_⟩;unfold loadVar;rw[Sem.run_bind,ha,h1];simp only[Result.andThen_ok,qC];rw[Sem.run_bind,hs];simp only[Result.andThen_ok];rw[Sem.run_bind];unfold loadCells;have:=dA (P:=P) w' a cs.toList 0 #[] (λj v hj=>hw _ _ (by
   rw[dw]at hj;simp only[L8]at hj;have hlt:j<sz P t:=by rw[<-h2];exact(LW.1 hj).1
   rw[LF,h3 j hlt];exact hj))
  rw[Mo,h2]at this;rw[this];simp
theorem tT{w:J}{a:qg}{v:Q}{k:J->Prop}(h:St w a v k):(store a v).run P w= .ok () (w.setCell a v)/\k (w.setCell a v):=by
 obtain⟨h1,h2,h3,h4⟩:=h;refine⟨?_,h4⟩;rw[run_store _ _ _ _ _ h3];cases hc:w.cell? a with
 |none=>rw[hc]at h1;simp at h1
 |some x=>simp[h2]
theorem p8(a:qg):∀(vs:Y Q)(i:X)(w:J)(k:J->Prop),BM vs a i w k->∃w',(storeCells a vs i).run P w= .ok () w'/\k w'
 | [],i,w,k,h=>⟨w,by simp[storeCells],h⟩
 |v::vs,i,w,k,h=>by obtain⟨h1,h2⟩:=tT (P:=P) h;obtain⟨w',h3,h4⟩:=p8 a vs (i+1) _ k h2;refine⟨w',?_,h4⟩;simp only[storeCells];rw[Sem.run_bind,h1];exact h3
theorem ya{t:qi}{a:qg}{v:Q}{w:J}{k:J->Prop}(h:BN P t a v w k):∃w',(storeVar t a v).run P w= .ok () w'/\k w':=by
 unfold BN Ef at h;split at h
 .exact h.elim
 rename_i d hd;have hs:=kK hd w;cases ha:agg P t with
 |true=>
  rw[ha]at h;simp only[ql]at h;split at h
  .rename_i cs
   cases hb:Mg cs.toList.length (sz P t)<;>rw[hb]at h<;>simp only[ql,qp]at h
   have hb:=Md hb;obtain⟨w',h1,h2⟩:=p8 (P:=P) a cs.toList 0 w k h;refine⟨w',?_,h2⟩;unfold storeVar;rw[Sem.run_bind,hs];have hsz:cs.size=sz P t:=by rw[<-hb];simp
   simp only[Result.andThen_ok,Value.cells,hsz,ne_eq,not_true_eq_false,qy];exact h1
  .exact h.elim
 |false=>
  rw[ha]at h;simp only[qp]at h;cases hb:Mg (sz P t) 1<;>rw[hb]at h<;>simp only[ql,qp]at h
  have hb:=Md hb;have h3:=h.2.2.1;obtain⟨h1,h2⟩:=tT (P:=P) h;have hcells:v.cells= #[v]:=by cases v<;>first|rfl|simp[Value.oneCell']at h3
  refine⟨_,?_,h2⟩;unfold storeVar;rw[Sem.run_bind,hs,hb];simp only[Result.andThen_ok,hcells];have:(storeCells a [v] 0).run P w= .ok () (w.setCell a v):=by simp only[storeCells];rw[Sem.run_bind];rw[show a.add 0=a from by simp[Addr.add],h1];rfl
  simpa using this
theorem B5:∀(l:Y Sc)(acc:Y Q)(k:Y Q->Prop),J4 l acc k->∃vs,k vs
 | [],_,_,h=>⟨_,h⟩
 |_::l,_,k,⟨_,h⟩=>B5 l _ k h
theorem tA{s:Sh}{k:Q->Prop}(h:Jd s k):∃v,k v:=by
 cases s with
 |c x=>obtain⟨d,h⟩:=h;exact⟨_,h⟩
 |a l=>obtain⟨vs,h⟩:=B5 _ _ _ h;exact⟨_,h⟩
 |big=>obtain⟨cs,h⟩:=h;exact⟨_,h⟩
theorem xn:∀(l:Y Sh)(acc:Y Q)(k:Y Q->Prop),Jc l acc k->∃vs,k vs
 | [],_,_,h=>⟨_,h⟩
 |_::l,_,k,h=>by obtain⟨v,h⟩:=tA h;exact xn l _ k h
theorem F4(d:X){t:qi}{x y:Q}{k:W->Prop}(h:FA P t x y k):∃b,k b/\∀w,(Op.equalIn (d+1) t x y).run P w= .ok b w:=by
 unfold FA at h;split at h
 .rename_i a hu
  exact⟨_,h,λw=>by cases a<;>simp[Op.equalIn,aU hu]⟩
 .rename_i a _ _ _ _ hu
  exact⟨_,h,λw=>by cases a<;>simp[Op.equalIn,aU hu]⟩
 .rename_i a hu
  exact⟨_,h,λw=>by cases a<;>simp[Op.equalIn,aU hu]⟩
 .exact h.elim
theorem zI(d:X){t:qi}(a b:W)(h:P.underlying t=S .bool)(w:J):(Op.equalIn (d+1) t (.bool a) (.bool b)).run P w= .ok (a==b) w:=by simp[Op.equalIn,aU h]
theorem AW{op:BinOp}{j:qM}{a b:O}{k:Q->Prop}{t:qi}(h:Ie op j a b k):∃v,k v/\∀w,(binOp op t (.int j a) (.int j b)).run P w= .ok v w:=by
 cases op<;>simp only[Ie]at h
 case add=>exact⟨_,h,λw=>by simp[binOp,Op.intArith]⟩
 case sub=>exact⟨_,h,λw=>by simp[binOp,Op.intArith]⟩
 case mul=>exact⟨_,h,λw=>by simp[binOp,Op.intArith]⟩
 case quo=>exact⟨_,h.2,λw=>by simp[binOp,Op.intDiv,h.1]⟩
 case rem=>exact⟨_,h.2,λw=>by simp[binOp,Op.intDiv,h.1]⟩
 case and=>exact⟨_,h,λw=>by simp[binOp,Op.intBits,di]⟩
 case or=>exact⟨_,h,λw=>by simp[binOp,Op.intBits,FD]⟩
 case xor=>exact⟨_,h,λw=>by simp[binOp,Op.intBits,Hw]⟩
 case andNot=>exact⟨_,h,λw=>by simp[binOp,Op.intBits,fE]⟩
 case eql=>exact⟨_,h,λw=>by simp[binOp,Op.intCmp]⟩
 case neq=>exact⟨_,h,λw=>by simp[binOp,Op.intCmp]⟩
 case lss=>exact⟨_,h,λw=>by simp[binOp,Op.intCmp]⟩
 case leq=>exact⟨_,h,λw=>by simp[binOp,Op.intCmp]⟩
 case gtr=>exact⟨_,h,λw=>by simp[binOp,Op.intCmp]⟩
 case geq=>exact⟨_,h,λw=>by simp[binOp,Op.intCmp]⟩
theorem ey{op:BinOp}{t:qi}{x y:qD}{a b:Q}(w:J)(h1:¬(a= .nilIface/\b= .nilIface))(h2:∀c d,¬(a= .agg c/\b= .agg d)):
  (eqGuard op t x y a b).run P w= .ok () w:=by
 unfold eqGuard;cases op<;>first|rfl|(cases a<;>cases b<;>first|rfl|(exact qj ⟨U,U⟩ h1)|(exact qj ⟨U,U⟩ (h2 _ _)))
theorem AI{op:BinOp}{t:qi}{x y:qD}{vx vy:Q}{k:Q->Prop}(h:H0 P op t x y vx vy k):
  ∃v,k v/\∀w,(do eqGuard op t x y vx vy;binOp op t vx vy:Sem Q).run P w= .ok v w:=by
 unfold H0 at h;split at h
 .obtain ⟨h1,h2⟩:=h
  refine⟨_,h2,λw=>?_⟩;rw[Sem.run_bind,ey _ qc qc];simp only[Result.andThen_ok];rename_i b;have hb:¬b<0:=om
  simp[binOp,Op.shift,ic,hb]
 .obtain ⟨h1,h2⟩:=h
  refine⟨_,h2,λw=>?_⟩;rw[Sem.run_bind,ey _ qc qc];simp only[Result.andThen_ok];rename_i b;have hb:¬b<0:=om
  simp[binOp,Op.shift,kd,hb]
 .split at h
  .rename_i hj
   subst hj;obtain⟨v,h1,h2⟩:=AW (P:=P) (t:=t) h;refine⟨v,h1,λw=>?_⟩;rw[Sem.run_bind,ey _ qc qc];exact h2 w
  .exact h.elim
 .split at h
  .rename_i hu
   refine⟨_,h,λw=>?_⟩;rw[Sem.run_bind,ey _ qc qc];rename_i a b _;have h3:(Op.equal t (.bool a) (.bool b)).run P w= .ok (a==b) w:=zI 9999 a b hu w;simp[binOp,h3]
  .exact h.elim
 .split at h
  .rename_i hu
   refine⟨_,h,λw=>?_⟩;rw[Sem.run_bind,ey _ qc qc];rename_i a b _;have h3:(Op.equal t (.bool a) (.bool b)).run P w= .ok (a==b) w:=zI 9999 a b hu w;simp[binOp,h3]
  .exact h.elim
 .obtain ⟨h1,h2⟩:=h
  refine⟨_,h2,λw=>?_⟩;rw[Sem.run_bind,ey _ qc qc];rename_i a b;have h3:¬((a.size+b.size:X):O)>qf.max:=Int.not_lt.2 h1;simp only[Result.andThen_ok,binOp,Op.stringOp,F h3];rfl
 .cases hn:isNil y with
  |false=>
   rw[hn]at h;simp only[qp]at h;obtain⟨b,h1,h2⟩:=h;exact⟨_,h2,h1⟩
  |true=>
   rw[hn]at h;simp only[ql]at h;obtain⟨b,h1,h2⟩:=F4 (P:=P) 9999 h;have hg:∀w,(eqGuard op t x y vx vy).run P w= .ok () w:=by
    intro w;unfold FA at h;split at h
    .exact ey _ qc qc
    .exact ey _ qc qc
    .exact ey _ qc qc
    .exact h.elim
   have hb:∀op,(op= .eql\/op= .neq)->∀w,(binOp op t vx vy).run P w= .ok (.bool (if op= .eql then b else !b)) w:=by
    intro op hop w;have h3:(Op.equal t vx vy).run P w= .ok b w:=h2 w;unfold FA at h;split at h
    .rcases hop with rfl|rfl<;>(unfold binOp;simp[h3])
    .rcases hop with rfl|rfl<;>(unfold binOp;simp[h3])
    .rcases hop with rfl|rfl<;>(unfold binOp;simp[h3])
    .exact h.elim
   split at h1
   .exact ⟨_,h1,λw=>by rw[Sem.run_bind,hg];simpa using hb .eql (.inl U) w⟩
   .exact ⟨_,h1,λw=>by rw[Sem.run_bind,hg];simpa using hb .neq (.inr U) w⟩
   .exact h1.elim
theorem D5{op:UnOp}{v:Q}{k:Q->Prop}(h:KJ op v k):∃u,k u/\∀w,(Op.unary op v).run P w= .ok u w:=by
 unfold KJ at h;split at h
 .exact ⟨_,h,λw=>by simp[Op.unary]⟩
 .exact ⟨_,h,λw=>by simp[Op.unary,Op.intArith]⟩
 .exact ⟨_,h,λw=>by simp[Op.unary,Op.intBits,Hw]⟩
 .exact h.elim
theorem pw{s:qi}{f:X}{ft:qi}{off:X}(h:kA P s f=S (ft,off)):
  ∃fs fl,P.underlying s=S (.struct fs)/\fs[f]?=S fl/\fl.type=ft/\fl.offset=off:=by
 unfold kA at h;split at h
 .rename_i fs hu
  split at h
  .rename_i fl hf
   rw[dw,L8]at hf;simp only[Option.some.injEq,Prod.mk.injEq]at h;exact⟨fs,fl,hu,hf,h.1,h.2⟩
  .cases h
 .cases h
theorem extract_eq(cs:qo Q)(o n:X):cs.extract o (o+n)=⟨(cs.toList.drop o).take n⟩:=by apply NV;rw[Pz];simp[Pa]
theorem zp{t:qi}{cs:qo Q}{off:X}{k:Q->Prop}(h:Cm P t cs.toList off k):∃v,k v/\∀w,(part t cs off).run P w= .ok v w:=by
 unfold Cm Ef at h;split at h
 .exact h.elim
 rename_i d hd;have hs:=λw=>kK hd w;have ha:=λw=>tF hd w;cases hag:agg P t with
 |true=>
  rw[hag]at h;simp only[ql]at h;refine⟨_,h,λw=>?_⟩;unfold part;rw[Sem.run_bind,ha,hag];simp only[Result.andThen_ok,qC];rw[Sem.run_bind,hs];simp only[Result.andThen_ok,extract_eq];rfl
 |false=>
  rw[hag]at h;simp only[qp]at h;split at h
  .rename_i v hv
   refine⟨_,h,λw=>?_⟩;rw[dw,L8]at hv;unfold part;rw[Sem.run_bind,ha,hag];simp[hv]
  .exact h.elim
theorem sN(cs:qo Q)(o:X):∀(l:Y Sc)(i:X)(acc:Y Q)(k:Q->Prop),Cl l cs o i acc k->
  ∃vs:Y Q,vs.length=l.length/\(∀j v,vs[j]?=S v->cs[o+(i+j)]?=S v)/\k (.agg ⟨acc.reverse++vs⟩)
 | [],i,acc,k,h=>⟨[],U,λj v h=>by simp at h,by simpa [Cl]using h⟩
 |c::l,i,acc,k,h=>by
  obtain⟨d,hd,h⟩:=h;obtain⟨vs,h1,h2,h3⟩:=sN cs o l (i+1) (c.mk d::acc) k h;refine⟨c.mk d::vs,by simp[h1],λj v hj=>?_,by simpa using h3⟩;cases j with
  |zero=>simp at hj;subst hj;exact hd
  |succ j=>have:=h2 j v (by simpa using hj);rw[show i+(j+1)=i+1+j from by omega];exact this
theorem zo{t:qi}{cs:qo Q}{off:X}{k:Q->Prop}(h:FG P t cs off k):∃v,k v/\∀w,(part t cs off).run P w= .ok v w:=by
 unfold FG Ef at h;split at h
 .exact h.elim
 rename_i d hd;have hs:=λw=>kK hd w;have ha:=λw=>tF hd w;split at h
 .rename_i x hx
  obtain⟨v,hv,hk⟩:=h;refine⟨_,hk,λw=>?_⟩;unfold part;rw[Sem.run_bind,ha,BK hx];simp[hv]
 .rename_i l hl
  obtain⟨h1,h2⟩:=BJ hl;obtain⟨vs,h3,h4,h5⟩:=sN cs off l 0 [] k h;refine⟨_,h5,λw=>?_⟩;unfold part;rw[Sem.run_bind,ha,h1];simp only[Result.andThen_ok,qC];rw[Sem.run_bind,hs];simp only[Result.andThen_ok,OM,Mw];have:cs.extract off (off+sz P t)=⟨vs⟩:=by
   apply NV;rw[Pz];simp only[Pa,Nat.add_sub_cancel_left];apply L5;intro j;rw[LS];by_cases hj:j<sz P t
   .rw[qd hj,LR]
    have hlt:j<vs.length:=om
    have:=h4 j vs[j] (gE hlt);rw[LF]at this;rw[L8,this,gE hlt]
   .rw[F hj]
    symm
    apply L0;omega
  rw[this];rfl
 .exact h.elim
theorem mg{n:X}{e:Env}{a:Act}(hr:Rel ds n e a){x:qh qD}{d top:X}{k:X->Prop}(h:bound e x d top k):
  ∃m,k m/\(x=N->m=d)/\∀o,x=S o->∀c w,(Instr.sliceBound (a.eval o) top c).run P w= .ok m w:=by
 unfold bound at h;cases x with
 |none=>exact⟨d,h,λ_=>rfl,(λo h=>by cases h)⟩
 |some x=>
  simp only at h;split at h
  .rename_i j m hm
   obtain⟨h1,h2,h3⟩:=h;refine⟨_,h3,(λh=>by cases h),λo ho c w=>?_⟩;cases ho;rw[hr.ev hm];unfold Instr.sliceBound;simp[asIntOf,h1,h2]
  .exact h.elim
theorem kP{n:X}{e:Env}{a:Act}(hr:Rel ds n e a){lo hi mx:qh qD}{len cap:X}{is:W}{k:X->X->X->Prop}
  (h:bound e mx cap cap λm=>bound e hi len m λh=>bound e lo 0 h λl=>(match mx,hi with|some _,N=>qk|_,_=>k l h m)):
  ∃l h m,k l h m/\∀w,(Instr.sliceBounds is len cap (lo.map a.eval) (hi.map a.eval) (mx.map a.eval)).run P w= .ok (l,h,m) w:=by
 obtain⟨m,h,hm0,hm⟩:=mg (P:=P) hr h;obtain⟨y,h,hy0,hy⟩:=mg (P:=P) hr h;obtain⟨l,h,hl0,hl⟩:=mg (P:=P) hr h;cases mx with
 |none=>
  have hk:k l y m:=h;obtain rfl:=hm0 U;refine⟨l,y,m,hk,λw=>?_⟩;unfold Instr.sliceBounds;cases hi with
  |none=>
   obtain rfl:=hy0 U;cases lo with
   |none=>obtain rfl:=hl0 U;simp
   |some o=>simp[hl o U]
  |some o=>
   cases lo with
   |none=>obtain rfl:=hl0 U;simp[hy o U]
   |some o'=>simp[hy o U,hl o' U]
 |some u=>
  cases hi with
  |none=>exact h.elim
  |some o=>
   have hk:k l y m:=h;refine⟨l,y,m,hk,λw=>?_⟩;unfold Instr.sliceBounds;cases lo with
   |none=>obtain rfl:=hl0 U;simp[hm u U,hy o U]
   |some o'=>simp[hm u U,hy o U,hl o' U]
theorem oJ:∀(cs:Y Q)(o:X)(v:Q)(vs:Y Q),putAt cs o (v::vs)=putAt (cs.set o v) (o+1) vs
 | [],o,v,vs=>by cases vs<;>simp[putAt]
 |c::cs,0,v,vs=>by cases vs<;>simp[putAt]
 |c::cs,o+1,v,vs=>by
  have h:=oJ cs o v vs;cases vs with
  |nil=>simp[putAt]at h|-;exact h
  |cons u us=>simp[putAt]at h|-;exact h
theorem gy:∀(cs:Y Q)(o:X)(vs:Y Q),(putAt cs o vs).length=cs.length
 |cs,o,[]=>by cases cs<;>cases o<;>simp[putAt]
 | [],o,v::vs=>by simp[putAt]
 |c::cs,0,v::vs=>by simp[putAt,gy cs 0 vs]
 |c::cs,o+1,v::vs=>by simp[putAt,gy cs o (v::vs)]
theorem vY(off:X):∀(l:Y Q)(k:X)(A:qo Q),
  ((l.zipIdx k).foldl (λcs(x:Q × X)=>cs.setIfInBounds (off+x.2) x.1) A).toList=putAt A.toList (off+k) l
 | [],k,A=>by cases h:A.toList<;>cases h2:off+k<;>simp[putAt,h]
 |v::l,k,A=>by rw[List.zipIdx_cons,List.foldl_cons,vY off l (k+1),oJ];simp[Nv]
theorem kR{place:X->qh (X × X)}{n:X}:∀(l:Y (X × Q))(A:qo Q)(cs:Y Q),A.size=n->nV place n A.toList l=S cs->
  Instr.fill place A l=S ⟨cs⟩
 | [],A,cs,_,h=>by simp only[nV,Option.some.injEq]at h;subst h;rfl
 |(i,v)::l,A,cs,hn,h=>by
  simp only[nV]at h;split at h
  .cases h
  .rename_i off size hp
   cases hc:(Mg v.cells.toList.length size&&NI (off+size) n)<;>rw[hc]at h<;>simp only[ql,qp]at h
   .cases h
   rw[LO]at hc;have h1:=Md hc.1;have h2:=Nq hc.2;rw[Mo]at h1;simp only[Instr.fill,hp];rw[F (by simp[h1];omega)];have h3:(Array.foldl (λcs(x:Q × X)=>cs.setIfInBounds (off+x.2) x.1) A v.cells.zipIdx).toList=putAt A.toList off v.cells.toList:=by rw[<-Array.foldl_toList,Array.toList_zipIdx];exact vY off v.cells.toList 0 A
   refine kR (n:=n) l _ cs ?_ ?_
   .rw[<-Mo,h3,gy,Mo,hn]
   .rw[h3];exact h
theorem oO{α:Type}(l:Y α):∀n,(rep n l).length=n*l.length
 |0=>by simp[rep]
 |n+1=>by simp[rep,oO l n,Nu,OB]
theorem Cq{α:Type}(l:Y α):∀(n i:X),i<n*l.length->(rep n l)[i]?=l[i%l.length]?
 |0,i,h=>by simp at h
 |n+1,i,h=>by
  simp only[rep];rcases OV i l.length with hi|hi
  .rw[LI hi,Nat.mod_eq_of_lt hi]
  .rw[LH hi,Cq l n (i-l.length) (by rw[Nu]at h;omega)]
   congr 1
   conv=>rhs;rw[show i=(i-l.length)+l.length from by omega,Nat.add_mod_right]
theorem rf(z:qo Q)(len:X)(hz:1<=z.size):(Pn (len*z.size)).map (λi=>z[i%z.size]!)=⟨rep len z.toList⟩:=by
 apply NV;apply L5;intro i;simp only[Array.toList_map,Array.toList_range,LV];rcases OV i (len*z.size)with h|h
 .rw[List.getElem?_range h,Cq _ _ _ (by simpa using h)]
  have hlt:i%z.size<z.size:=OC _ om;simp[hlt]
 .have hl:(rep len z.toList).length=len*z.size:=by rw[oO];simp
  rw[L0 (l:=LA _) (by simpa using h),L0 om];rfl
theorem sx{t:qi}{z:Y Q}(h:vj P t=S z):∃v i,P.info? t=S i/\v.cells.toList=z/\∀w,(qK t).run P w= .ok v w:=by
 unfold vj at h;split at h
 .rename_i i hi
  split at h
  .rename_i v hv
   simp only[Option.some.injEq]at h;exact⟨v,i,hi,h,λw=>by simp[qK,typeInfo,hi,hv]⟩
  .cases h
 .cases h
theorem xh (hn:∀(f:X) (fn:Func),P.funcs[f]?=S fn->(fn.name== "runtime.NumGoroutine")=G) {f:FuncId} {p:Prop} (h:okF P f p) (args:qo Q) (w:J):
  (callFunc f args).run P w= .ok (.enter f args) w/\p:=by
 unfold okF at h;split at h
 .exact h.elim
 rename_i fn hf;split at h
 .exact h.elim
 rename_i c hb;refine⟨?_,h⟩;have:=hn f fn hf;simp only[callFunc,Sem.run_bind,run_program,Result.andThen_ok,hf,this,LK,qy,hb,Option.isNone_some,Sem.run_pure]
theorem uC(fs:qo Field)(w:J)(h:∀f∈fs,∃i,P.info? f.type=S i):
  ∀(l:Y Field),(∀f∈l,∃i,P.info? f.type=S i)->(l.mapM λf=>(do pure (f.offset,<-sizeOf f.type):Sem (X × X))).run P w= .ok (l.map λf=>(f.offset,sz P f.type)) w
 | [],_=>by simp
 |f::l,hl=>by
  obtain⟨i,hi⟩:=hl f qc;rw[Py,Sem.run_bind];have h1:(do pure (f.offset,<-sizeOf f.type):Sem (X × X)).run P w= .ok (f.offset,sz P f.type) w:=by rw[Sem.run_bind,fu hi];rfl
  rw[h1];simp only[Result.andThen_ok];rw[Sem.run_bind,uC fs w h l (λg hg=>hl g (by simp[hg]))];rfl
theorem wN{t:qi}(h:Mg (sz P t) 0=G):sz P t≠0/\∀w,(sizeOf t).run P w= .ok (sz P t) w:=by
 have h1:sz P t≠0:=λe=>by rw[e]at h;exact qj h qb
 refine⟨h1,λw=>?_⟩;cases hi:P.info? t with
 |none=>simp[sz,hi]at h1
 |some i=>exact fu hi w
theorem Db{t el:qi}{len:X}{a:qg}{j:qM}{n:O}(hu:P.underlying t=S (.array len el))(hs:Mg (sz P el) 0=G)(h0:0<=n)(h1:n<(len:O))(w:J):
  (Instr.indexAt t (.pointer (S a)) (.int j n)).run P w= .ok (.pointer (S (a.add (n.toNat*sz P el)))) w:=by
 obtain⟨_,h2⟩:=wN hs;unfold Instr.indexAt;simp[asIntOf,aU hu,Instr.sureAddr,h0,h1,h2]
theorem AT{t el:qi}{len cap:X}{a:qg}{j:qM}{n:O}(hu:P.underlying t=S (.slice el))(hs:Mg (sz P el) 0=G)(h0:0<=n)(h1:n<(len:O))(w:J):
  (Instr.indexAt t (.slice (S a) len cap) (.int j n)).run P w= .ok (.pointer (S (a.add (n.toNat*sz P el)))) w:=by
 obtain⟨_,h2⟩:=wN hs;unfold Instr.indexAt;simp[asIntOf,aU hu,h0,h1,h2]
theorem C5{s ft:qi}{f off:X}{a:qg}(h:kA P s f=S (ft,off))(hs:Mg (sz P ft) 0=G)(w:J):
  (Instr.fieldAt s (.pointer (S a)) f).run P w= .ok (.pointer (S (a.add off))) w:=by
 obtain⟨fs,fl,h1,h2,h3,h4⟩:=pw h;obtain⟨h5,h6⟩:=wN hs;subst h3 h4;unfold Instr.fieldAt;simp[aU h1,h2,Instr.sureAddr,fieldPlace,h6,h5]
theorem Bf{s ft:qi}{f off:X}{cs:qo Q}{k:Q->Prop}(h:kA P s f=S (ft,off))(hp:Cm P ft cs.toList off k):
  ∃v,k v/\∀w,(Instr.field s (.agg cs) f).run P w= .ok v w:=by
 obtain⟨fs,fl,h1,h2,h3,h4⟩:=pw h;obtain⟨v,h5,h6⟩:=zp hp;subst h3 h4;refine⟨v,h5,λw=>?_⟩;unfold Instr.field;simp[aU h1,h2,asAgg,h6]
theorem CY{t:qi}{z cs:Y Q}{vs:Y (X × Q)}(hok:px P t=Z)(hz:vj P t=S z)(hf:nV (placeOf P t) z.length z vs=S cs)(w:J):
  (Instr.build t vs.toArray).run P w= .ok (.agg ⟨cs⟩) w:=by
 obtain⟨v,i,hi,hv,hrun⟩:=sx hz;have hvs:v.cells.size=z.length:=by rw[<-hv,Mo]
 unfold px at hok;unfold Instr.build;rw[Sem.run_bind,hrun];simp only[Result.andThen_ok];split at hok
 .rename_i fs hu
  rw[Sem.run_bind,aU hu];simp only[Result.andThen_ok];have hall:∀f∈fs.toList,∃i,P.info? f.type=S i:=λf hf=>by have:=NT.1 hok f hf;exact MS.1 this
  have hm:(fs.mapM λf=>(do pure (f.offset,<-sizeOf f.type):Sem (X × X))).run P w= .ok (fs.toList.map λf=>(f.offset,sz P f.type)).toArray w:=by rw[O9,Sem.run_map,uC fs w (λf hf=>hall f (PF.1 hf)) fs.toList hall];rfl
  rw[Sem.run_bind,hm];simp only[Result.andThen_ok];have hp:(λx=>((fs.toList.map λf=>(f.offset,sz P f.type)).toArray)[x]?)=placeOf P t:=by funext x;simp only[placeOf,hu,dw];simp only[MT,LV,L8];cases fs[x]?<;>rfl
  rw[hp,kR (n:=z.length) vs v.cells cs hvs (by rw[hv];exact hf)];rfl
 .rename_i len el hu
  rw[Sem.run_bind,aU hu];simp only[Result.andThen_ok];obtain⟨ie,hie⟩:=MS.1 hok;rw[Sem.run_bind,fu hie];simp only[Result.andThen_ok];have hp:(λi=>S (i*sz P el,sz P el))=placeOf P t:=by funext x;simp only[placeOf,hu]
  rw[hp,kR (n:=z.length) vs v.cells cs hvs (by rw[hv];exact hf)];rfl
 .cases hok
theorem G6{t:qi}(h:G5 P t=Z):sz P t=1:=by
 unfold G5 at h;cases ha:agg P t<;>rw[ha]at h<;>simp only[ql,qp]at h
 .split at h
  .exact Md h
  .cases h
 .cases h
theorem uD{n:X}{C:Prop}:∀{vs:Y (X × Q)}{cs out:Y Q},Hb n cs vs=S out->Iq vs C->C/\nV (λi=>S (i*1,1)) n cs vs=S out
 | [],cs,out,h,hC=>⟨hC,h⟩
 |(i,v)::l,cs,out,h,hC=>by
  obtain⟨h3,hC⟩:=hC;have hcells:v.cells= #[v]:=by cases v<;>first|rfl|simp[Value.oneCell']at h3
  simp only[Hb]at h;cases hb:NI (i+1) n<;>rw[hb]at h<;>simp only[ql,qp]at h
  .cases h
  obtain⟨h1,h2⟩:=uD h hC;refine⟨h1,?_⟩;simp only[nV,hcells,NW,hb];simpa using h2
theorem mh{t el:qi}{len:X}{z cs:Y Q}{vs:Y (X × Q)}(hu:P.underlying t=S (.slice el))(hz:vj P el=S z)
  (hb:(NI (len*sz P el) 1000&&Mg z.length (sz P el)&&NI 1 (sz P el))=Z) (hf:nV (λi=>S (i*sz P el,sz P el)) (len*sz P el) (rep len z) vs=S cs) (w:J):
  (Instr.buildSlice t len vs.toArray).run P w= .ok (.slice (S ⟨w.heap.size,0,N⟩) len len) (w.alloc (.cells ⟨cs⟩ el)):=by
 obtain⟨v,i,hi,hv,hrun⟩:=sx hz;rw[LO,LO]at hb;have h1:=Nq hb.1.1;have h2:=Md hb.1.2;have h3:=Nq hb.2;have hvs:v.cells.size=sz P el:=by rw[<-h2,<-hv,Mo]
 unfold Instr.buildSlice;rw[Sem.run_bind,aU hu];simp only[Result.andThen_ok];rw[Sem.run_bind,fu hi];simp only[Result.andThen_ok];rw[F om];have hfill:=kR (place:=λi=>S (i*sz P el,sz P el)) (n:=len*sz P el) vs ⟨rep len z⟩ cs (by show(rep len z).length=_;rw[oO,h2]) hf;by_cases h0:len*sz P el=0
 .rw[qd h0]
  have hl:len=0:=by
   rcases OX.1 h0 with h|h
   .exact h
   .omega
  subst hl;have hc:(Pn (0*sz P el)).map (λx=>(#[]:qo Q)[x%(#[]:qo Q).size]!)=⟨rep 0 z⟩:=by simp[rep]
  rw[Sem.run_bind];simp only[Sem.run_pure,Result.andThen_ok];rw[hc,hfill];rfl
 .rw[F h0]
  have hc:(Pn (len*sz P el)).map (λx=>v.cells[x%v.cells.size]!)=⟨rep len z⟩:=by rw[<-hvs,rf v.cells len om,hv]
  rw[Sem.run_bind,hrun];simp only[Result.andThen_ok];rw[Sem.run_bind];simp only[Sem.run_pure,Result.andThen_ok];rw[hc,hfill];rfl
theorem DY{n:X}{e:Env}{act:Act}(hr:Rel ds n e act){t el:qi}{a:qh qg}{len cap:X}{lo hi mx:qh qD}{k:Q->Prop}(hu:P.underlying t=S (.slice el))(hs:Mg (sz P el) 0=G)
  (h:bound e mx cap cap λm=>bound e hi len m λh=>bound e lo 0 h λl=>(match mx,hi with|some _,N=>qk|_,_=>k (s6 a l h m (sz P el)))):
  ∃v,k v/\∀w,(Instr.sliceAt t (.slice a len cap) (lo.map act.eval) (hi.map act.eval) (mx.map act.eval)).run P w= .ok v w:=by
 obtain⟨l,y,m,h1,h2⟩:=kP (P:=P) hr (is:=Z) (k:=λl h m=>k (s6 a l h m (sz P el))) h;obtain⟨_,h3⟩:=wN hs;refine⟨_,h1,λw=>?_⟩;unfold Instr.sliceAt;rw[Sem.run_bind,aU hu];simp only[Result.andThen_ok,Instr.slice];rw[Sem.run_bind,aU hu];simp only[Result.andThen_ok];rw[Sem.run_bind,h2];simp only[Result.andThen_ok];rw[Sem.run_bind,h3];rfl
theorem BL{n:X}{e:Env}{act:Act}(hr:Rel ds n e act){t el:qi}{a:qg}{len:X}{lo hi mx:qh qD}{k:Q->Prop}(hu:P.underlying t=S (.array len el))(hs:Mg (sz P el) 0=G)
  (h:bound e mx len len λm=>bound e hi len m λh=>bound e lo 0 h λl=>(match mx,hi with|some _,N=>qk|_,_=>k (s6 (S a) l h m (sz P el)))):
  ∃v,k v/\∀w,(Instr.sliceAt t (.pointer (S a)) (lo.map act.eval) (hi.map act.eval) (mx.map act.eval)).run P w= .ok v w:=by
 obtain⟨l,y,m,h1,h2⟩:=kP (P:=P) hr (is:=G) (k:=λl h m=>k (s6 (S a) l h m (sz P el))) h;obtain⟨_,h3⟩:=wN hs;refine⟨_,h1,λw=>?_⟩;unfold Instr.sliceAt;rw[Sem.run_bind,aU hu];simp only[Result.andThen_ok,Instr.sureAddr];simp[h2,h3,s6,eU];split<;>rfl
theorem eR{b:Builtin}{ts:Y qi}{t:qi}{vs:Y Q}{w:J}{k:Q->J->Prop}(hb:b= .cap\/b= .max\/b= .min\/(b= .len/\∀ta,ts= [ta]->∀x y,P.underlying ta≠S (.map x y)))
  (h:mi P b ts t vs w k):∃v,k v w/\∀w' cs,(builtin b ⟨ts⟩ t cs ⟨vs⟩).run P w'= .ok (.value v) w':=by
 unfold mi at h;split at h
 .split at h
  .rename_i v ta
   split at h
   .rename_i hu;exact⟨_,h,λw' cs=>by simp[builtin,Builtin.len_,aU hu,goInt]⟩
   .rename_i hu;exact⟨_,h,λw' cs=>by simp[builtin,Builtin.len_,aU hu,goInt]⟩
   .rename_i x y _ hu
    rcases hb with hb|hb|hb|hb
    .cases hb
    .cases hb
    .cases hb
    .exact qj hu (hb.2 ta U x y)
   .rename_i hu;exact⟨_,h,λw' cs=>by simp[builtin,Builtin.len_,aU hu,goInt]⟩
   .exact h.elim
  .exact h.elim
 .split at h
  .split at h
   .rename_i hu;exact⟨_,h,λw' cs=>by simp[builtin,Builtin.cap_,aU hu,goInt]⟩
   .exact h.elim
  .exact h.elim
 .exact ⟨_,h,λw' cs=>by simp[builtin,Builtin.max_,Builtin.max2,Jw]⟩
 .exact ⟨_,h,λw' cs=>by simp[builtin,Builtin.min_,Builtin.min2,Jy]⟩
 .rcases hb with hb|hb|hb|⟨hb,_⟩<;>cases hb
 .rcases hb with hb|hb|hb|⟨hb,_⟩<;>cases hb
 .rcases hb with hb|hb|hb|⟨hb,_⟩<;>cases hb
 .rcases hb with hb|hb|hb|⟨hb,_⟩<;>cases hb
 .exact h.elim
theorem yQ{b:Builtin}{ts:Y qi}{t:qi}{vs:Y Q}{w:J}{k:Q->J->Prop}
  (h:mi P b ts t vs w k):∃v w',k v w'/\∀cs,(builtin b ⟨ts⟩ t cs ⟨vs⟩).run P w= .ok (.value v) w':=by
 have h0:=h;unfold mi at h;split at h
 .split at h
  .rename_i v ta
   split at h
   .obtain ⟨v,h1,h2⟩:=eR (.inr (.inr (.inr ⟨U,λtb e=>by cases e;simp[*]⟩))) h0;exact⟨v,w,h1,h2 w⟩
   .obtain ⟨v,h1,h2⟩:=eR (.inr (.inr (.inr ⟨U,λtb e=>by cases e;simp[*]⟩))) h0;exact⟨v,w,h1,h2 w⟩
   .obtain ⟨n,h1,h2⟩:=h
    exact⟨_,w,h2,λcs=>by simp only[builtin];rw[Sem.run_bind,h1];rfl⟩
   .obtain ⟨v,h1,h2⟩:=eR (.inr (.inr (.inr ⟨U,λtb e=>by cases e;simp[*]⟩))) h0;exact⟨v,w,h1,h2 w⟩
   .exact h.elim
  .exact h.elim
 .obtain ⟨v,h1,h2⟩:=eR (.inl U) h0;exact⟨v,w,h1,h2 w⟩
 .obtain ⟨v,h1,h2⟩:=eR (.inr (.inl U)) h0;exact⟨v,w,h1,h2 w⟩
 .obtain ⟨v,h1,h2⟩:=eR (.inr (.inr (.inl U))) h0;exact⟨v,w,h1,h2 w⟩
 .obtain ⟨s,w',h1,h2⟩:=h
  exact⟨_,w',h2,λcs=>by simp only[builtin];rw[Sem.run_bind,h1];rfl⟩
 .obtain ⟨s,w',h1,h2⟩:=h
  exact⟨_,w',h2,λcs=>by simp only[builtin];rw[Sem.run_bind,h1];rfl⟩
 .obtain ⟨w',h1,h2⟩:=h
  exact⟨_,w',h2,λcs=>by simp only[builtin];rw[Sem.run_bind,h1];rfl⟩
 .obtain ⟨w',h1,h2⟩:=h
  exact⟨_,w',h2,λcs=>by simp only[builtin];rw[Sem.run_bind,h1];rfl⟩
 .exact h.elim
theorem EL{f:FuncId}{args:qo Q}{t:qi}{w:J}{k:Q->J->Prop}(h:Jf P f args t w k):∃v w',yp P f args w v w'/\k v w':=by obtain⟨vs,w',h⟩:=xn _ _ _ h;exact⟨_,w',h⟩
theorem vT{f:FuncId}{args:qo Q}{t:qi}{w:J}{k:Q->J->Prop}
  (hn:∀(f:X) (fn:Func),P.funcs[f]?=S fn->(fn.name== "runtime.NumGoroutine")=G) (h:HF P f args t w k):
  (callFunc f args).run P w= .ok (.enter f args) w/\Calls P f args w λen w''=>∃v,en= .returned v/\k v w'':=by
 obtain⟨h1,h2⟩:=xh hn h args w;refine⟨h1,h2.mono λen w' h=>?_⟩;obtain⟨vs,hv⟩:=xn _ _ _ h;exact⟨_,hv⟩
theorem bK{o:qw}{a:Act}{w:J}{k:Q->J->Prop}(hc:cls P o= .pure){v:Q}(hk:k v w)(hrun:∀w',(qx a.eval o).run P w'= .ok (.value v) w'):jw P o (cls P o) a w k:=by rw[hc];exact⟨v,hrun,hk⟩
theorem ji{o:qw}{a:Act}{w w':J}{k:Q->J->Prop}(hc:cls P o= .alloc){v:Q}(hk:k v w')(hx:Ext w w')(hrun:(qx a.eval o).run P w= .ok (.value v) w'):jw P o (cls P o) a w k:=by rw[hc];exact⟨v,w',hrun,hx,hk⟩
theorem dN{o:qw}{a:Act}{w w':J}{k:Q->J->Prop}(hc:cls P o= .other){v:Q}(hk:k v w')(hrun:(qx a.eval o).run P w= .ok (.value v) w'):jw P o (cls P o) a w k:=by rw[hc];exact .inl ⟨v,w',hrun,hk⟩
theorem si{o:qw}{a:Act}{w w':J}{k:Q->J->Prop}(hc:cls P o= .other)(hk:k undef w')(hrun:(qx a.eval o).run P w= .ok .skip w'):jw P o (cls P o) a w k:=by rw[hc];exact .inr (.inl ⟨w',hrun,hk⟩)
theorem Dx (hn:∀(f:X) (fn:Func),P.funcs[f]?=S fn->(fn.name== "runtime.NumGoroutine")=G) {rest:Y qw} {o:qw} {n:X} {e:Env} {a:Act} {w:J} {k:Q->J->Prop}
  (hr:Rel ds n e a) (h:KE P rest o e w k):jw P o (cls P o) a w k:=by
 unfold KE at h;split at h
 .rename_i x hop
  split at h
  .rename_i v hv;exact bK (by simp[cls,hop]) h λw'=>by simp[qx,hop,hr.ev hv]
  .exact h.elim
 .rename_i x hop
  split at h
  .rename_i v hv;exact bK (by simp[cls,hop]) h λw'=>by simp[qx,hop,hr.ev hv]
  .exact h.elim
 .rename_i c x y hop
  split at h
  .rename_i hc
   split at h
   .rename_i v hv;exact bK (by simp[cls,hop]) h λw'=>by simp[qx,hop,hr.ev hv,hr.ev hc,asBool]
   .exact h.elim
  .rename_i hc
   split at h
   .rename_i v hv;exact bK (by simp[cls,hop]) h λw'=>by simp[qx,hop,hr.ev hv,hr.ev hc,asBool]
   .exact h.elim
  .exact h.elim
 .rename_i t x hop
  split at h
  .rename_i v hv;exact ji (by simp[cls,hop]) h (Ext.alloc _ _) (by simp[qx,hop,hr.ev hv,Instr.box,newVar,newRow])
  .exact h.elim
 .rename_i t hop
  split at h
  .rename_i z hz
   obtain⟨v,i,hi,hv,hrun⟩:=sx hz;subst hv;exact ji (by simp[cls,hop]) h (Ext.alloc _ _) (by simp[qx,hop,Instr.alloc,newVar,newRow,hrun])
  .exact h.elim
 .rename_i t ps hop
  cases hok:px P t<;>rw[hok]at h<;>simp only[MM,MK,ql,qp]at h
  have h:=rz hr _ _ h;split at h
  .rename_i z hz
   split at h
   .rename_i cs hcs
    refine bK (by simp[cls,hop]) h λw'=>?_;have hm:(ps.map λ(x:X × qD)=>(x.1,a.eval x.2))=(ps.toList.map λ(x:X × qD)=>(x.1,a.eval x.2)).toArray:=by apply NV;simp
    simp only[qx,hop,Sem.run_bind];rw[hm,CY hok hz hcs];rfl
   .exact h.elim
  .exact h.elim
 .rename_i t len ps hop
  have h:=rz hr _ _ h;split at h
  .rename_i el hu
   split at h
   .rename_i z hz
    cases hb:(NI (len*sz P el) 1000&&Mg z.length (sz P el)&&NI 1 (sz P el))<;>rw[hb]at h<;>simp only[ql,qp]at h
    have hm:(ps.map λ(x:X × qD)=>(x.1,a.eval x.2))=(ps.toList.map λ(x:X × qD)=>(x.1,a.eval x.2)).toArray:=by apply NV;simp
    cases ho:G5 P el<;>rw[ho]at h<;>simp only[ql,qp]at h
    rotate_left
    .split at h
     .rename_i cs hcs
      obtain⟨h,hf⟩:=uD hcs h;refine ji (by simp[cls,hop]) h (Ext.alloc _ _) ?_;simp only[qx,hop,Sem.run_bind];have h1:=G6 ho;rw[hm,mh hu hz hb (cs:=cs) (by rw[h1,NW];simpa only[NW]using hf)];rfl
     .exact h.elim
    split at h
    .rename_i cs hcs
     refine ji (by simp[cls,hop]) h (Ext.alloc _ _) ?_;have hm:(ps.map λ(x:X × qD)=>(x.1,a.eval x.2))=(ps.toList.map λ(x:X × qD)=>(x.1,a.eval x.2)).toArray:=by apply NV;simp
     simp only[qx,hop,Sem.run_bind];rw[hm,mh hu hz hb hcs];rfl
    .exact h.elim
   .exact h.elim
  .exact h.elim
 .rename_i t x hop
  split at h
  .rename_i p hp
   obtain⟨v,hk,hrun⟩:=mE h;rw[show cls P o= .read from by simp[cls,hop]];exact⟨v,λw' hw=>by simp[qx,hop,hr.ev hp,Instr.loadAt,Instr.sureAddr,hrun w' hw],hk⟩
  .exact h.elim
 .rename_i t x y hop
  split at h
  .rename_i p v hp hv
   obtain⟨w',hrun,hk⟩:=ya h;exact si (by simp[cls,hop]) hk (by simp[qx,hop,hr.ev hp,hr.ev hv,Instr.storeAt,Instr.sureAddr,hrun])
  .exact h.elim
 .rename_i x hop
  split at h
  .rename_i p hp
   obtain⟨b,rfl,hk⟩:=h;exact bK (by simp[cls,hop]) hk λw'=>by simp[qx,hop,hr.ev hp]
  .rename_i f x y hp
   exact bK (by simp[cls,hop]) h λw'=>by simp[qx,hop,hr.ev hp]
  .exact h.elim
 .rename_i s x f hop
  split at h
  .rename_i p ft off hp hf
   cases hb:Mg (sz P ft) 0<;>rw[hb]at h<;>simp only[ql,qp]at h
   exact bK (by simp[cls,hop]) h λw'=>by simp[qx,hop,hr.ev hp,C5 hf hb]
  .exact h.elim
 .rename_i s x f hop
  split at h
  .rename_i cs ft off hp hf
   obtain⟨v,hk,hrun⟩:=Bf hf h;exact bK (by simp[cls,hop]) hk λw'=>by simp[qx,hop,hr.ev hp,hrun]
  .exact h.elim
 .rename_i t x i hop
  split at h
  .rename_i len el p _ m hu hx hi
   cases hb:Mg (sz P el) 0<;>rw[hb]at h<;>simp only[ql,qp]at h
   exact bK (by simp[cls,hop]) h.2.2 λw'=>by simp[qx,hop,hr.ev hx,hr.ev hi,Db hu hb h.1 h.2.1]
  .rename_i el p len _ _ m hu hx hi
   cases hb:Mg (sz P el) 0<;>rw[hb]at h<;>simp only[ql,qp]at h
   obtain⟨b,rfl,h0,h1,hk⟩:=h;exact bK (by simp[cls,hop]) hk λw'=>by simp[qx,hop,hr.ev hx,hr.ev hi,AT hu hb h0 h1]
  .exact h.elim
 .rename_i t x i hop
  split at h
  .rename_i len el cs _ m hu hx hi
   cases hb:Mg (sz P el) 0<;>rw[hb]at h<;>simp only[ql,qp]at h
   obtain⟨h0,h1,h⟩:=h;obtain⟨v,hk,hrun⟩:=zo h;obtain⟨_,hs⟩:=wN hb;exact bK (by simp[cls,hop]) hk λw'=>by simp[qx,hop,hr.ev hx,hr.ev hi,Instr.index,asIntOf,aU hu,h0,h1,hs,hrun]
  .rename_i s _ m hu hx hi
   obtain⟨b,⟨h0,x,h1,h2⟩,hk⟩:=h;subst h2;exact bK (by simp[cls,hop]) hk λw'=>by simp[qx,hop,hr.ev hx,hr.ev hi,Instr.index,asIntOf,aU hu,h0,h1]
  .exact h.elim
 .rename_i op t x y yt hop
  split at h
  .rename_i vx vy hx hy
   obtain⟨v,hk,hrun⟩:=AI h;refine bK (by simp[cls,hop]) hk λw'=>?_;simp only[qx,hop,hr.ev hx,hr.ev hy];rw[Sem.run_bind,hrun];rfl
  .exact h.elim
 .rename_i op t x hop
  split at h
  .rename_i v hx
   obtain⟨u,hk,hrun⟩:=D5 (P:=P) h;exact bK (by simp[cls,hop]) hk λw'=>by simp[qx,hop,hr.ev hx,hrun]
  .exact h.elim
 .rename_i s d x hop
  unfold Ef at h;split at h
  .exact h.elim
  rename_i ds hs;split at h
  .rename_i j _ m hu hx
   exact bK (by cases ds<;>simp[cls,hop,hs,hu]) h λw'=>by simp[qx,hop,hr.ev hx,convert,aU hs,aU hu,Conv.intToInt]
  .rename_i a l c hu hx
   split at h
   .rename_i el hs2
    obtain⟨b,h1,h2⟩:=h;unfold Hz at h1;exact dN (by simp[cls,hop,hs2,hu]) h2 (by simp[qx,hop,hr.ev hx,h1])
   .exact h.elim
  .exact h.elim
 .rename_i fn xs ys hop
  have h:=nm hr _ _ h;have h:=nm hr _ _ h;refine bK (by simp[cls,hop]) h λw'=>?_;simp only[qx,hop,Instr.makeFunc];have h1:xs.map a.eval=⟨xs.toList.map a.eval⟩:=by apply NV;simp
  have h2:ys.map a.eval=⟨ys.toList.map a.eval⟩:=by apply NV;simp
  rw[h1,h2];rfl
 .rename_i t hop
  exact ji (by simp[cls,hop]) h (Ext.alloc _ _) (by simp[qx,hop,Instr.makeMap])
 .rename_i t l c hop
  split at h
  .rename_i x y hx hy
   obtain⟨s,w',hrun,hk⟩:=h;unfold km at hrun;exact dN (by simp[cls,hop]) hk (by simp[qx,hop,hr.ev hx,hr.ev hy,hrun])
  .exact h.elim
 .rename_i t x lo hi mx hop
  split at h
  .rename_i el b len cap hu hx
   cases hb:Mg (sz P el) 0<;>rw[hb]at h<;>simp only[ql,qp]at h
   obtain⟨v,hk,hrun⟩:=DY (k:=λv=>k v w) hr hu hb h;exact bK (by simp[cls,hop]) hk λw'=>by simp[qx,hop,hr.ev hx,hrun]
  .rename_i len el b hu hx
   cases hb:Mg (sz P el) 0<;>rw[hb]at h<;>simp only[ql,qp]at h
   obtain⟨v,hk,hrun⟩:=BL (k:=λv=>k v w) hr hu hb h;exact bK (by simp[cls,hop]) hk λw'=>by simp[qx,hop,hr.ev hx,hrun]
  .rename_i s hu hx
   cases mx with
   |some _=>exact h.elim
   |none=>
    obtain⟨l',h',m',hk,hrun⟩:=kP (P:=P) (is:=G) hr h;refine bK (by simp[cls,hop]) hk λw'=>?_;have h1:=hrun w';simp only[Option.map_none]at h1;have h2:(Instr.sliceAt t (.string s) (lo.map a.eval) (hi.map a.eval) N).run P w'= .ok (.string (s.extract l' h')) w':=by unfold Instr.sliceAt;rw[Sem.run_bind,aU hu];simp only[Result.andThen_ok,Instr.slice];rw[Sem.run_bind,aU hu];simp[h1]
    simp[qx,hop,hr.ev hx,h2]
  .exact h.elim
 .rename_i t x i ok hop
  split at h
  .rename_i kt el m key hu hx hi
   obtain⟨v,h⟩:=tA h;cases ok<;>simp only[ql,qp]at h
   .obtain ⟨h1,h2⟩:=h
    unfold yv at h1;exact dN (by simp[cls,hop]) h2 (by simp[qx,hop,hr.ev hx,hr.ev hi,h1])
   .obtain ⟨b,h1,h2⟩:=h
    unfold sC at h1;exact dN (by simp[cls,hop]) h2 (by simp[qx,hop,hr.ev hx,hr.ev hi,h1])
  .exact h.elim
 .rename_i t m i x hop
  split at h
  .rename_i vm vi vx hm hi hx
   obtain⟨w',hrun,hk⟩:=h;unfold gh at hrun;exact si (by simp[cls,hop]) hk (by simp[qx,hop,hr.ev hx,hr.ev hi,hr.ev hm,hrun])
  .exact h.elim
 .rename_i t m i x hop
  split at h
  .rename_i vm vi vx hm hi hx
   obtain⟨w',hrun,hk⟩:=h;unfold gh at hrun;exact si (by simp[cls,hop]) hk (by simp[qx,hop,hr.ev hx,hr.ev hi,hr.ev hm,hrun])
  .exact h.elim
 .rename_i t x hop
  split at h
  .rename_i v hv
   obtain⟨b,w',hrun,hk⟩:=h;unfold wW at hrun;exact dN (by simp[cls,hop]) hk (by simp[qx,hop,hr.ev hv,hrun])
  .exact h.elim
 .rename_i x b hop
  split at h
  .rename_i v hv
   obtain⟨y,l,w',hrun,hk⟩:=h;unfold BV at hrun;exact dN (by simp[cls,hop]) hk (by simp[qx,hop,hr.ev hv,hrun])
  .exact h.elim
 .rename_i x hop
  split at h
  .rename_i v hv
   obtain⟨u,h⟩:=tA h;obtain⟨v',h1,h2⟩:=tA h;unfold wT at h1;exact dN (by simp[cls,hop]) h2 (by simp[qx,hop,hr.ev hv,h1])
  .exact h.elim
 .rename_i x i hop
  split at h
  .rename_i vs hv
   split at h
   .rename_i v hi
    rw[dw,L8]at hi;exact bK (by simp[cls,hop]) h λw'=>by simp[qx,hop,hr.ev hv,Instr.extract,hi]
   .exact h.elim
  .exact h.elim
 .rename_i c hop
  have h:=nm hr _ _ h;have hargs:c.args.map a.eval=⟨c.args.toList.map a.eval⟩:=by apply NV;simp
  split at h
  .rename_i f hcal
   have hc:cls P o= .other:=by simp[cls,hop,hcal]
   cases hb:B8 P f with
   |false=>
    rw[hb,qp]at h;obtain⟨v,w',h1,h2⟩:=EL h;rw[hc];refine .inl ⟨v,w',?_,h2⟩;simp only[qx,hop,resolve,hcal,Sem.run_bind,hargs,Act.eval,Deferred.ofValue,Sem.run_pure,Result.andThen_ok,invoke,PR,PQ];exact h1
   |true=>
   rw[hb,ql]at h;obtain⟨h1,h2⟩:=vT hn h;rw[hc];refine .inr (.inr ⟨f,_,?_,h2⟩);simp only[qx,hop,resolve,hcal,Sem.run_bind,hargs,Act.eval,Deferred.ofValue,Sem.run_pure,Result.andThen_ok,invoke,PR,PQ];exact h1
  .rename_i f hne hcal
   split at h
   .rename_i fv hf
    obtain⟨id,first,cap,rfl,h⟩:=h;obtain⟨h1,h2⟩:=vT (t:=o.type) (k:=k) hn h;have hc:cls P o= .other:=by simp[cls,hop,hcal]
    rw[hc];refine .inr (.inr ⟨id,_,?_,h2⟩);simp only[qx,hop,resolve,hcal,Sem.run_bind,hargs,hr.ev hf,Deferred.ofValue,Sem.run_pure,Result.andThen_ok,invoke];exact h1
   .exact h.elim
  .rename_i b hcal
   obtain⟨v,w',hk,hrun⟩:=yQ h;have hts:(⟨c.argTypes.toList⟩:qo qi)=c.argTypes:=by cases c.argTypes;rfl
   rw[hts]at hrun;have hx:(qx a.eval o).run P w= .ok (.value v) w':=by simp only[qx,hop,resolve,hcal,Sem.run_bind,hargs,Sem.run_pure,Result.andThen_ok,invoke];exact hrun _
   have hpure:(b= .cap\/b= .max\/b= .min\/(b= .len/\∀ta,c.argTypes.toList= [ta]->∀x y,P.underlying ta≠S (.map x y)))->∃v,k v w/\∀w',(qx a.eval o).run P w'= .ok (.value v) w':=by intro hb;obtain⟨v,h1,h2⟩:=eR hb h;rw[hts]at h2;refine⟨v,h1,λw'=>?_⟩;simp only[qx,hop,resolve,hcal,Sem.run_bind,hargs,Sem.run_pure,Result.andThen_ok,invoke];exact h2 _ _
   cases b
   case cap=>obtain⟨v,h1,h2⟩:=hpure (.inl U);exact bK (by simp[cls,hop,hcal]) h1 h2
   case max=>obtain⟨v,h1,h2⟩:=hpure (.inr (.inl U));exact bK (by simp[cls,hop,hcal]) h1 h2
   case min=>obtain⟨v,h1,h2⟩:=hpure (.inr (.inr (.inl U)));exact bK (by simp[cls,hop,hcal]) h1 h2
   case len=>
    by_cases hm:∀ta,c.argTypes.toList= [ta]->∀x y,P.underlying ta≠S (.map x y)
    .obtain ⟨v,h1,h2⟩:=hpure (.inr (.inr (.inr ⟨U,hm⟩)))
     have hx2:=h2 w;cases hts2:c.argTypes.toList with
     |nil=>exact dN (by simp[cls,hop,hcal,hts2]) h1 (h2 w)
     |cons ta tl=>
      cases tl with
      |cons _ _=>exact dN (by simp[cls,hop,hcal,hts2]) h1 (h2 w)
      |nil=>
       refine bK ?_ h1 h2;have:=hm ta hts2;simp only[cls,hop,hcal,hts2]
       try (split;(rename_i x y hu;exact qj hu (this x y)))
    .obtain ⟨ta,hta,x,y,hu⟩:∃ta,c.argTypes.toList= [ta]/\∃x y,P.underlying ta=S (.map x y):=by simp only[Classical.not_forall,Classical.not_not]at hm;obtain⟨ta,hta,x,y,hu⟩:=hm;exact⟨ta,hta,x,y,hu⟩
     exact dN (by simp[cls,hop,hcal,hta,hu]) hk hx
   all_goals exact dN (by simp[cls,hop,hcal]) hk hx
  .exact h.elim
 .exact h.elim
theorem me(m t:X):bit m t=m.testBit t:=by
 unfold bit;have h1:PD (Nat.shiftRight m t) 1=m / 2^t%2:=by show(m >>> t) &&& 1=_;rw[Nat.and_one_is_mod,Nat.shiftRight_eq_div_pow]
 rw[h1,Nat.testBit_eq_decide_div_mod_eq];have:m / 2^t%2<2:=OC _ om;generalize m / 2^t%2=x at*
 match x,this with
 |0,_=>rfl
 |1,_=>rfl
theorem eQ(a b t:X):bit (M4 a b) t=(bit a t||bit b t):=by rw[me,me,me];exact Nat.testBit_or a b t
theorem kp(d t:X):bit (MI 1 d) t=(t==d):=by
 rw[me];show Nat.testBit (1 <<< d) t=_;rw[Nat.one_shiftLeft,Nat.testBit_two_pow];by_cases h:d=t
 .subst h;simp
 .simp[h];exact λe=>h e.symm
theorem mf(t:X):bit 0 t=false:=by rw[me];simp
theorem GJ(d t:X):bit (KN (S d)) t=(t==d):=kp d t
def fD(m:X)(a0 a:Act):Prop:=∀t,bit m t=G->a.tmps.getD t undef=a0.tmps.getD t undef
theorem fD.refl(m:X)(a:Act):fD m a a:=λ_ _=>rfl
theorem fD.trans{m:X}{a b c:Act}(h:fD m a b)(h':fD m b c):fD m a c:=λt ht=>(h' t ht).trans (h t ht)
theorem fD.mono{m m':X}{a b:Act}(h:fD m a b)(hm:∀t,bit m t=Z->bit m' t=Z):fD m' a b:=λt ht=>h t (by
 cases hb:bit m t with
 |false=>rfl
 |true=>rw[hm t hb]at ht;cases ht)
theorem fD.put{m:X}{a0 a:Act}(h:fD m a0 a){d:qh X}(hd:∀x,d=S x->bit m x=Z)(v:Q):fD m a0 (a.put d v):=λt ht=>by
 cases d with
 |none=>exact h t ht
 |some d=>
  have hne:t≠d:=λe=>by subst e;rw[hd t U]at ht;cases ht
  rw[<-h t ht];simp only[Act.put,MQ];rw[Nn (λe=>hne e.symm)]
theorem y5{ops:qo qw}{o:qw}{n:X}{e:Env}{a:Act}(hr:Rel ds n e a){run skip:Prop}(h:guarded ops.toList o e run skip):
  (Region.wanted o (yielded ops a.tmps)=Z/\run)\/(Region.wanted o (yielded ops a.tmps)=G/\skip):=by
 unfold guarded at h;split at h
 .rename_i hg;exact .inl ⟨by simp[Region.wanted,hg],h⟩
 .rename_i j want hg
  split at h
  .rename_i g hj
   rw[dw,L8]at hj;split at h
   .rename_i d hd
    have hy:yielded ops a.tmps j=(match a.tmps[d]? with|some (.bool b)=>S b|_=>N):=by simp only[yielded,hj,OO,hd];rfl
    split at h
    .rename_i b hb
     have hv:=hr.2.2 d _ hb;have h1:a.tmps[d]?=S (.bool b):=by
      rw[MQ]at hv;cases hx:a.tmps[d]? with
      |none=>rw[hx]at hv;simp[undef]at hv
      |some v=>rw[hx]at hv;simp at hv;rw[hv]
     rw[h1]at hy;have hw:Region.wanted o (yielded ops a.tmps)=(S b==S want):=by simp[Region.wanted,hg,hy]
     rw[hw];cases b<;>cases want<;>simp at h|-<;>exact h
    .rename_i vs hb
     have hv:=hr.2.2 d _ hb;refine .inr ⟨?_,h⟩;have h1:yielded ops a.tmps j=none:=by
      rw[hy];rw[MQ]at hv;cases hx:a.tmps[d]? with
      |none=>rfl
      |some v=>rw[hx]at hv;simp at hv;rw[hv]
     simp[Region.wanted,hg,h1]
    .exact h.elim
   .exact h.elim
  .exact h.elim
theorem D1{b:W}{v:Q}{k:Q->Prop}(h:split b v k):k v:=by
 unfold split at h;cases b with
 |false=>exact h
 |true=>
  cases v<;>first|exact h|skip
  rename_i x;cases x<;>exact h
def rL(P:qq)(ops:qo qw)(i:X)(K:Act->J->Prop)(a:Act)(w:J):Prop:=
 ∃o,ops[i]?=S o/\((Region.wanted o (yielded ops a.tmps)=Z/\jw P o (cls P o) a w (λv w'=>K (a.put o.dst v) w'))\/
  (Region.wanted o (yielded ops a.tmps)=G/\K (a.put o.dst undef) w))
theorem rL.mono{ops:qo qw}{i:X}{K K':Act->J->Prop}{a:Act}{w:J}(h:rL P ops i K a w)(hk:∀a w,K a w->K' a w):rL P ops i K' a w:=by
 obtain⟨o,ho,h⟩:=h;refine⟨o,ho,?_⟩;rcases h with⟨h1,h2⟩|⟨h1,h2⟩
 .exact .inl ⟨h1,h2.mono λ_ _ h=>hk _ _ h⟩
 .exact .inr ⟨h1,hk _ _ h2⟩
theorem rL.wpOp{ops:qo qw}{i:X}{K:Act->J->Prop}{aby:Exit->Act->J->Prop}{a:Act}{w:J}(h:rL P ops i K a w):wpOp P ops aby i K a w:=by
 obtain⟨o,ho,h⟩:=h;unfold Go.wpOp;simp only[ho];rcases h with⟨h1,h2⟩|⟨h1,h2⟩
 .simp only[h1,qC]
  refine .inl ?_;unfold Oper.wp;generalize cls P o=c at h2;cases c with
  |pure=>obtain⟨v,h3,h4⟩:=h2;rw[h3];exact h4
  |read=>obtain⟨v,h3,h4⟩:=h2;rw[h3 w (Ext.refl w)];exact h4
  |alloc=>obtain⟨v,w',h3,h4,h5⟩:=h2;rw[h3];exact h5
  |other=>
   rcases h2 with⟨v,w',h3,h4⟩|⟨w',h3,h4⟩|⟨f,args,h3,h4⟩
   .rw[h3];exact h4
   .rw[h3];exact h4
   .rw[h3]
    refine h4.mono ?_;rintro en w' ⟨v,rfl,hK⟩;exact hK
 .simp only[h1,LK,qy];exact h2
def At(ds:Y Deferred)(n m:X)(a0:Act)(abz:Env->J->Prop)(a:Act)(w:J):Prop:=fD m a0 a/\∃e,Rel ds n e a/\abz e w
theorem sV (hn:∀(f:X) (fn:Func),P.funcs[f]?=S fn->(fn.name== "runtime.NumGoroutine")=G) {ops:qo qw} {rest:Y qw} {gm i n m:X} {o:qw} {abz:Env->J->Prop} {e:Env} {a a0:Act} {w:J}
  (ho:ops[i]?=S o) (hd:∀x,o.dst=S x->x<n/\bit m x=Z) (hr:Rel ds n e a) (hk:fD m a0 a) (h:zR P ops.toList rest gm i o abz e w):
  rL P ops i (At ds n m a0 abz) a w:=by
 refine⟨o,ho,?_⟩;rcases y5 hr h with⟨h1,h2⟩|⟨h1,h2⟩
 .refine .inl ⟨h1,(Dx hn hr h2).mono λv w' h=>?_⟩
  exact⟨hk.put (λx hx=>(hd x hx).2) v,_,hr.put (λx hx=>(hd x hx).1) v,D1 h⟩
 .exact .inr ⟨h1,hk.put (λx hx=>(hd x hx).2) _,_,hr.put (λx hx=>(hd x hx).1) _,h2⟩
def nr(n:X):Y qw->W
 | []=>Z
 |o::l=>(match o.dst with|some d=>Nat.blt d n|none=>Z)&&nr n l
theorem sG{n:X}:∀{l:Y qw},nr n l=Z->∀(i:X)(o:qw),l[i]?=S o->∀x,o.dst=S x->x<n/\bit (HJ l) x=Z
 | [],_,i,o,h,_,_=>by simp at h
 |p::l,hf,0,o,h,x,hx=>by simp only[Mn,Option.some.injEq]at h;subst h;simp only[nr,hx,LO]at hf;refine⟨Nq hf.1,?_⟩;simp only[HJ,eQ,hx,GJ];simp
 |p::l,hf,i+1,o,h,x,hx=>by simp only[nr,LO]at hf;have:=sG hf.2 i o (by simpa using h) x hx;refine⟨this.1,?_⟩;simp only[HJ,eQ,this.2,NL]
theorem wC (hn:∀(f:X) (fn:Func),P.funcs[f]?=S fn->(fn.name== "runtime.NumGoroutine")=G) {ops:qo qw} {gm n m:X} {abz:Env->J->Prop} {a0:Act} {aby:Exit->Act->J->Prop}
  (hd:∀(i:X)(o:qw),ops[i]?=S o->∀x,o.dst=S x->x<n/\bit m x=Z) (hQ:∀a w,At ds n m a0 abz a w->aby .normal a w):
  ∀(l:Y qw)(i:X),(∀(j:X)(o:qw),l[j]?=S o->ops[i+j]?=S o)->∀(e:Env)(a:Act)(w:J),Rel ds n e a->fD m a0 a->opsV P ops.toList gm l i abz e w->
   wpOps P ops aby (List.range' i l.length) a w
 | [],i,_,e,a,w,hr,hk,h=>hQ a w ⟨hk,e,hr,h⟩
 |o::l,i,hl,e,a,w,hr,hk,h=>by
  have ho:ops[i]?=S o:=hl 0 o qc;rw[LL,List.range'_succ,wpOps_cons];refine((sV hn ho (hd i o ho) hr hk h).mono λa' w'⟨hk',e',hr',h'⟩=>?_).wpOp;exact wC hn hd hQ l (i+1) (λj o hj=>by have:=hl (j+1) o (by simpa using hj);rw[show i+1+j=i+(j+1)from by omega];exact this) e' a' w' hr' hk' h'
theorem jP{P:qq}{o:qw}{c:Hy}{a a':Act}{w:J}{K:Q->J->Prop}(h:qx a'.eval o=qx a.eval o)(hs:jw P o c a w K):jw P o c a' w K:=by cases c<;>simp only[jw,h]at hs|-<;>exact hs
def lA(o:qw):W:=match o.op with| .select _ _=>G|_=>Z
theorem nE{o:qw}(h:lA o=Z):∀cs b,o.op≠ .select cs b:=λcs b e=>by simp[lA,e]at h
def mn:Hy->Hy->W
 | .pure,_=>Z
 | .read,.pure=>Z
 | .read,.read=>Z
 | .read,.alloc=>Z
 |_,_=>G
theorem Fw{P:qq}{ops:qo qw}{i j:X}{x y:qw}(hx:ops[i]?=S x)(hy:ops[j]?=S y)(hap:x.apart ops y=Z)(hsx:lA x=Z)(hsy:lA y=Z)
  (hc:mn (cls P x) (cls P y)=Z) {K:Act->J->Prop} {a:Act} {w:J} (h:rL P ops i (rL P ops j K) a w):rL P ops j (rL P ops i K) a w:=by
 obtain⟨h1,h2,h3⟩:=Oper.apart_spec hap;obtain⟨x',hx',h⟩:=h;obtain rfl:x=x':=by rw[hx]at hx';simpa using hx'
 have exX:∀(a:Act)u,qx (a.put y.dst u).eval x=qx a.eval x:=λa u=>execOp_put x (nE hsx) a y.dst u h3;have exY:∀(a:Act)u,qx (a.put x.dst u).eval y=qx a.eval y:=λa u=>execOp_put y (nE hsy) a x.dst u h1;have waX:∀(a:Act)u,Region.wanted x (yielded ops (a.put y.dst u).tmps)=Region.wanted x (yielded ops a.tmps):=λa u=>wanted_put x a y.dst u h3;have waY:∀(a:Act)u,Region.wanted y (yielded ops (a.put x.dst u).tmps)=Region.wanted y (yielded ops a.tmps):=λa u=>wanted_put y a x.dst u h1;have cm:∀(a:Act)u v,(a.put x.dst u).put y.dst v=(a.put y.dst v).put x.dst u:=λa u v=>Act.put_comm a u v h2;refine⟨y,hy,?_⟩;rcases h with⟨hw,h⟩|⟨hw,h⟩
 .generalize hcx:cls P x=cx at hc h
  cases cx with
  |alloc=>simp[mn]at hc
  |other=>simp[mn]at hc
  |pure=>
   obtain⟨v,hv,y',hy',h⟩:=h;obtain rfl:y=y':=by rw[hy]at hy';simpa using hy'
   rw[waY]at h;have fin:∀u w',K ((a.put x.dst v).put y.dst u) w'->rL P ops i K (a.put y.dst u) w':=λu w' hK=>by refine⟨x,hx,.inl ⟨by rw[waX];exact hw,?_⟩⟩;rw[hcx];exact⟨v,λw''=>by rw[exX];exact hv w'',by show K _ _;rw[<-cm];exact hK⟩
   rcases h with⟨hwy,h⟩|⟨hwy,h⟩
   .exact .inl ⟨hwy,(jP (exY a v).symm h).mono fin⟩
   .exact .inr ⟨hwy,fin _ _ h⟩
  |read=>
   obtain⟨v,hv,y',hy',h⟩:=h;obtain rfl:y=y':=by rw[hy]at hy';simpa using hy'
   rw[waY]at h;have fin:∀u w',Ext w w'->K ((a.put x.dst v).put y.dst u) w'->rL P ops i K (a.put y.dst u) w':=λu w' hE hK=>by refine⟨x,hx,.inl ⟨by rw[waX];exact hw,?_⟩⟩;rw[hcx];exact⟨v,λw'' hE'=>by rw[exX];exact hv w'' (hE.trans hE'),by show K _ _;rw[<-cm];exact hK⟩
   have hne:cls P y≠ .other:=λe=>by rw[e]at hc;simp[mn]at hc
   rcases h with⟨hwy,h⟩|⟨hwy,h⟩
   .exact .inl ⟨hwy,(jP (exY a v).symm h).zk hne fin⟩
   .exact .inr ⟨hwy,fin _ _ (Ext.refl w) h⟩
 .obtain ⟨y',hy',h⟩:=h
  obtain rfl:y=y':=by rw[hy]at hy';simpa using hy'
  rw[waY]at h;rcases h with⟨hwy,h⟩|⟨hwy,h⟩
  .refine .inl ⟨hwy,?_⟩
   refine(jP (exY a undef).symm h).mono λu w' hK=>?_;exact⟨x,hx,.inr ⟨by rw[waX];exact hw,by rw[<-cm];exact hK⟩⟩
  .exact .inr ⟨hwy,x,hx,.inr ⟨by rw[waX];exact hw,by rw[<-cm];exact h⟩⟩
def add(L:X->W)(i:X):X->W:=λt=>t==i||L t
def vp(ops:qo qw)(L:X->W)(i:X):Prop:=∃o,ops[i]?=S o/\L i=G/\∀x∈o.after.toList,Region.binds .any x=Z->L x.on=Z
def Ip(P:qq)(ops:qo qw)(abu:Act->J->Prop):X->(X->W)->Act->J->Prop
 |0,L,a,w=>(∀i,¬vp ops L i)/\abu a w
 |f+1,L,a,w=>((∀i,¬vp ops L i)->abu a w)/\∀i,vp ops L i->rL P ops i (Ip P ops abu f (add L i)) a w
theorem rT{ops:qo qw}{listed:qo W}{L:X->W}(hs:listed.size=ops.size)(hL:∀t,listed.getD t G=L t)(i:X):i∈Region.ready .any ops listed↔vp ops L i:=by
 unfold Region.ready vp;rw[List.mem_filter,Nf];have hd:∀t,t<ops.size->listed.getD t Z=L t:=λt ht=>by
  rw[<-hL];have:t<listed.size:=om
  simp[this]
 constructor
 .rintro ⟨h1,h2⟩
  rw[O8 h1]at h2;simp only[Mx,Nd,LO,OK]at h2;refine⟨_,O8 h1,?_,λx hx hb=>?_⟩
  .rw[<-hd i h1];simpa using h2.1
  .have:=h2.2 x (PF.2 hx)
   rw[hb,hL]at this;simpa using this
 .rintro ⟨o,h1,h2,h3⟩
  have hi:i<ops.size:=(LW.1 h1).1;refine⟨hi,?_⟩;rw[h1];simp only[Mx,Nd,LO,OK];refine⟨by rw[hd i hi,h2];rfl,λx hx=>?_⟩;rw[hL];cases hb:Region.binds .any x with
  |false=>rfl
  |true=>rw[h3 x (PF.1 hx) hb];rfl
theorem uw{P:qq}{ops:qo qw}{abu:Act->J->Prop}{aby:Exit->Act->J->Prop}(hQ:∀a w,abu a w->aby .normal a w):
  ∀(f:X)(listed:qo W)(L:X->W)(a:Act)(w:J),listed.size=ops.size->(∀t,listed.getD t G=L t)->Ip P ops abu f L a w->wpAny P .any ops aby f listed a w
 |0,listed,L,a,w,hs,hL,h=>by
  refine⟨?_,hQ _ _ h.2⟩;cases hr:Region.ready .any ops listed with
  |nil=>rfl
  |cons x xs=>exact qj ((rT hs hL x).1 (by rw[hr];simp)) (h.1 x)
 |f+1,listed,L,a,w,hs,hL,h=>by
  refine⟨λhr=>hQ _ _ (h.1 λi hi=>by have:=(rT hs hL i).2 hi;rw[hr]at this;simp at this),λi hi=>?_⟩;have hri:=(rT hs hL i).1 hi;have hlt:i<ops.size:=by obtain⟨o,h1,_⟩:=hri;exact(LW.1 h1).1
  refine((h.2 i hri).mono λa' w' h'=>?_).wpOp;refine uw hQ f _ (add L i) a' w' (by simp[hs]) (λt=>?_) h';simp only[add,MQ];rw[O2];by_cases e:i=t
  .subst e;simp[hs,hlt]
  .rw[F e,<-hL t,MQ]
   have:(t==i)=false:=by simpa using λh=>e h.symm
   rw[this];rfl
def I1(P:qq)(ops:qo qw)(i:X)(abm L:X->W):Prop:=
 ∀(j:X)(y:qw),ops[j]?=S y->L j=G->j≠i->(∀x∈y.after.toList,Region.binds .any x=Z->(L x.on||abm x.on)=Z)->
  abm j=Z/\∃x,ops[i]?=S x/\x.apart ops y=Z/\lA x=Z/\lA y=Z/\mn (cls P x) (cls P y)=Z
theorem add_comm(L:X->W)(i j:X):add (add L i) j=add (add L j) i:=by funext t;simp only[add];cases t==i<;>cases t==j<;>rfl
theorem rL.some{P:qq}{ops:qo qw}{i:X}{x:qw}{y:qw}{K:Act->J->Prop}{a:Act}{w:J}(hx:ops[i]?=S x)(hc:mn (cls P x) (cls P y)=Z)(h:rL P ops i K a w):∃a' w',K a' w':=by
 obtain⟨x',hx',h⟩:=h;obtain rfl:x=x':=by rw[hx]at hx';simpa using hx'
 rcases h with⟨_,h⟩|⟨_,h⟩
 .generalize cls P x=c at hc h
  cases c with
  |pure=>obtain⟨v,_,h⟩:=h;exact⟨_,_,h⟩
  |read=>obtain⟨v,_,h⟩:=h;exact⟨_,_,h⟩
  |alloc=>simp[mn]at hc
  |other=>simp[mn]at hc
 .exact ⟨_,_,h⟩
def fp(P:qq)(ops:qo qw)(abu:Act->J->Prop)(abq:(X->W)->J->Prop):X->(X->W)->Act->J->Prop
 |0,L,a,w=>abq L w/\(∀i,¬vp ops L i)/\abu a w
 |f+1,L,a,w=>abq L w/\((∀i,¬vp ops L i)->abu a w)/\∀i,vp ops L i->rL P ops i (fp P ops abu abq f (add L i)) a w
theorem fp.out{P:qq}{ops:qo qw}{abu:Act->J->Prop}{abq:(X->W)->J->Prop}:∀{f:X}{L:X->W}{a:Act}{w:J},fp P ops abu abq f L a w->Ip P ops abu f L a w
 |0,_,_,_,h=>h.2
 |_+1,_,_,_,h=>⟨h.2.1,λi hi=>(h.2.2 i hi).mono λ_ _ h=>h.out⟩
theorem fp.here{P:qq}{ops:qo qw}{abu:Act->J->Prop}{abq:(X->W)->J->Prop}{f:X}{L:X->W}{a:Act}{w:J}(h:fp P ops abu abq f L a w):abq L w:=by
 cases f with
 |zero=>exact h.1
 |succ f=>exact h.1
theorem fp.mono{P:qq}{ops:qo qw}{abu:Act->J->Prop}{abq J':(X->W)->J->Prop}:∀{f:X}{L:X->W}{a:Act}{w:J},fp P ops abu abq f L a w->(∀L w,abq L w->J' L w)->fp P ops abu J' f L a w
 |0,_,_,_,h,hJ=>⟨hJ _ _ h.1,h.2⟩
 |_+1,_,_,_,h,hJ=>⟨hJ _ _ h.1,h.2.1,λi hi=>(h.2.2 i hi).mono λ_ _ h=>h.mono hJ⟩
theorem EF{x y:Hy}(h:mn x y=Z):x= .pure\/x= .read:=by cases x<;>simp[mn]at h|-
theorem Bb{P:qq}{ops:qo qw}{i:X}{x:qw}{K:Act->J->Prop}{a:Act}{w:J}(hx:ops[i]?=S x)(hc:cls P x= .pure\/cls P x= .read)(h:rL P ops i K a w):∃a',K a' w:=by
 obtain⟨x',hx',h⟩:=h;obtain rfl:x=x':=by rw[hx]at hx';simpa using hx'
 rcases h with⟨_,h⟩|⟨_,h⟩
 .rcases hc with hc|hc<;>rw[hc]at h
  .obtain ⟨v,_,h⟩:=h;exact⟨_,h⟩
  .obtain ⟨v,_,h⟩:=h;exact⟨_,h⟩
 .exact ⟨_,h⟩
theorem y4{P:qq}{ops:qo qw}{abu:Act->J->Prop}{abq:(X->W)->J->Prop}{i:X}{o:qw}{abm:X->W}(ho:ops[i]?=S o)(hJ:(cls P o= .pure\/cls P o= .read)->∀L w,abq (add L i) w->abq L w):
  ∀(f:X)(L:X->W)(a:Act)(w:J),vp ops L i->I1 P ops i abm L->abq L w->rL P ops i (fp P ops abu abq f (add L i)) a w->fp P ops abu abq (f+1) L a w:=by
 intro f;induction f with
 |zero=>
  intro L a w hi hf hJL h;refine⟨hJL,λh0=>qj hi (h0 i),λj hj=>?_⟩;by_cases e:j=i
  .subst e;exact h
  .obtain ⟨y,hy,hLj,hpre⟩:=hj
   obtain⟨_,x,hx,hap,hsx,hsy,hc⟩:=hf j y hy hLj e (λz hz hb=>by rw[hpre z hz hb];rfl);obtain⟨a',w',h'⟩:=h.some hx hc;refine qj ⟨y,hy,?_,λz hz hb=>?_⟩ (h'.2.1 j)
   .simp only[add,hLj,N9];simpa using e
   .simp only[add,hpre z hz hb,NL]
 |succ f ih=>
  intro L a w hi hf hJL h;refine⟨hJL,λh0=>qj hi (h0 i),λj hj=>?_⟩;by_cases e:j=i
  .subst e;exact h
  .obtain ⟨y,hy,hLj,hpre⟩:=hj
   obtain⟨hU,x,hx,hap,hsx,hsy,hc⟩:=hf j y hy hLj e (λz hz hb=>by rw[hpre z hz hb];rfl);have hj':vp ops (add L i) j:=⟨y,hy,by simp only[add,hLj,N9];simpa using e,λz hz hb=>by simp only[add,hpre z hz hb,NL]⟩
   have h2:rL P ops i (rL P ops j (fp P ops abu abq f (add (add L i) j))) a w:=h.mono λa' w' h'=>h'.2.2 j hj';refine(Fw hx hy hap hsx hsy hc h2).mono λa' w' h'=>?_;rw[add_comm]at h';obtain rfl:o=x:=by rw[ho]at hx;simpa using hx
   have hpr:=EF hc;obtain⟨a'',h''⟩:=Bb ho hpr h';refine ih (add L j) a' w' ?_ ?_ (hJ hpr _ _ h''.here) h'
   .obtain ⟨x',hx',hLi,hpi⟩:=hi
    exact⟨x',hx',by simp only[add,hLi,N9];simpa using λh=>e h.symm,λz hz hb=>by simp only[add,hpi z hz hb,NL]⟩
   .intro j' y' hy' hL' hne hp'
    refine hf j' y' hy' ?_ hne (λz hz hb=>?_)
    .simp only[add,OS]at hL';exact hL'.2
    .have:=hp' z hz hb
     simp only[add,MC]at this|-;rcases this with (h|h)|h
     .have hz:z.on=j:=by simpa using h
      rw[hz];exact .inr hU
     .exact .inl h
     .exact .inr h
def HA(ops:qo qw)(i:X)(abm L:X->W):Prop:=
 ∀(j:X)(y:qw),ops[j]?=S y->L j=G->j≠i->(∀x∈y.after.toList,Region.binds .any x=Z->(L x.on||abm x.on)=Z)->
  abm j=Z/\∃x,ops[i]?=S x/\x.apart ops y=Z/\lA x=Z/\lA y=Z
theorem C8{P:qq}{ops:qo qw}{abu:Act->J->Prop}{abq:(X->W)->J->Prop}{i:X}{o:qw}{abm abn:X->W}{v:Q}{E:Sem Next}(ho:ops[i]?=S o)(hg:o.guard=N)(hcls:cls P o= .read)(hJ:∀L w,abq (add L i) w->abq L w)
  (hSi:abn i=Z) (hSU:∀t,abm t=Z->abn t=Z):
  ∀(f:X)(L:X->W)(a:Act)(w:J),vp ops L i->HA ops i abm L->(∀t,L t=Z->abn t=Z)->qx a.eval o=E->(∀w',Ext w w'->E.run P w'= .ok (.value v) w')->
   fp P ops abu (λL w=>abq L w/\((∀t,L t=Z->abn t=Z)->∀w',Ext w w'->E.run P w'= .ok (.value v) w')) f (add L i) (a.put o.dst v) w->fp P ops abu abq (f+1) L a w:=by
 intro f;have hwant:∀a:Act,Region.wanted o (yielded ops a.tmps)=true:=λa=>by simp[Region.wanted,hg]
 have now:∀(f:X)(L:X->W)(a:Act)(w:J),qx a.eval o=E->(∀w',Ext w w'->E.run P w'= .ok (.value v) w')->
   fp P ops abu (λL w=>abq L w/\((∀t,L t=Z->abn t=Z)->∀w',Ext w w'->E.run P w'= .ok (.value v) w')) f (add L i) (a.put o.dst v) w->rL P ops i (fp P ops abu abq f (add L i)) a w:=by
  intro f L a w hE hHd h;refine⟨o,ho,.inl ⟨hwant a,?_⟩⟩;rw[hcls];exact⟨v,λw' hw'=>by rw[hE];exact hHd w' hw',h.mono λ_ _ h=>h.1⟩
 induction f with
 |zero=>
  intro L a w hi hf hLS hE hHd h;refine⟨hJ _ _ h.here.1,λh0=>qj hi (h0 i),λj hj=>?_⟩;by_cases e:j=i
  .subst e;exact now 0 L a w hE hHd h
  .obtain ⟨y,hy,hLj,hpre⟩:=hj
   refine qj ⟨y,hy,?_,λz hz hb=>?_⟩ (h.2.1 j)
   .simp only[add,hLj,N9];simpa using e
   .simp only[add,hpre z hz hb,NL]
 |succ f ih=>
  intro L a w hi hf hLS hE hHd h;refine⟨hJ _ _ h.here.1,λh0=>qj hi (h0 i),λj hj=>?_⟩;by_cases e:j=i
  .subst e;exact now (f+1) L a w hE hHd h
  .obtain ⟨y,hy,hLj,hpre⟩:=id hj
   obtain⟨hU,x,hx,hap,hsx,hsy⟩:=hf j y hy hLj e (λz hz hb=>by rw[hpre z hz hb];rfl);obtain rfl:o=x:=by rw[ho]at hx;simpa using hx
   obtain⟨h1,h2,h3⟩:=Oper.apart_spec hap;have hj':vp ops (add L i) j:=⟨y,hy,by simp only[add,hLj,N9];simpa using e,λz hz hb=>by simp only[add,hpre z hz hb,NL]⟩
   have hop:=h.2.2 j hj';have exX:∀(a:Act)u,qx (a.put y.dst u).eval o=qx a.eval o:=λa u=>execOp_put o (nE hsx) a y.dst u h3;have exY:∀(a:Act)u,qx (a.put o.dst u).eval y=qx a.eval y:=λa u=>execOp_put y (nE hsy) a o.dst u h1;have waY:∀(a:Act)u,Region.wanted y (yielded ops (a.put o.dst u).tmps)=Region.wanted y (yielded ops a.tmps):=λa u=>wanted_put y a o.dst u h1;have cm:∀(a:Act)u v,(a.put o.dst u).put y.dst v=(a.put y.dst v).put o.dst u:=λa u v=>Act.put_comm a u v h2;have fin:∀u w',fp P ops abu (λL w=>abq L w/\((∀t,L t=Z->abn t=Z)->∀w',Ext w w'->E.run P w'= .ok (.value v) w')) f (add (add L i) j) ((a.put o.dst v).put y.dst u) w'->fp P ops abu abq (f+1) (add L j) (a.put y.dst u) w':=by
    intro u w' h';have hS':∀t,add (add L i) j t=Z->abn t=true:=λt ht=>by
     simp only[add,MC]at ht;rcases ht with ht|ht|ht
     .have:t=j:=by simpa using ht
      rw[this];exact hSU j hU
     .have:t=i:=by simpa using ht
      rw[this];exact hSi
     .exact hLS t ht
    have hHd':=h'.here.2 hS';rw[add_comm,cm]at h';refine ih (add L j) (a.put y.dst u) w' ?_ ?_ ?_ (by rw[exX];exact hE) hHd' h'
    .obtain ⟨x',hx',hLi,hpi⟩:=hi
     exact⟨x',hx',by simp only[add,hLi,N9];simpa using λh=>e h.symm,λz hz hb=>by simp only[add,hpi z hz hb,NL]⟩
    .intro j' y' hy' hL' hne hp'
     refine hf j' y' hy' ?_ hne (λz hz hb=>?_)
     .simp only[add,OS]at hL';exact hL'.2
     .have:=hp' z hz hb
      simp only[add,MC]at this|-;rcases this with (h|h)|h
      .have hz:z.on=j:=by simpa using h
       rw[hz];exact .inr hU
      .exact .inl h
      .exact .inr h
    .intro t ht
     simp only[add,MC]at ht;rcases ht with ht|ht
     .have:t=j:=by simpa using ht
      rw[this];exact hSU j hU
     .exact hLS t ht
   obtain⟨y',hy',hop⟩:=hop;obtain rfl:y=y':=by rw[hy]at hy';simpa using hy'
   refine⟨y,hy,?_⟩;rw[waY]at hop;rcases hop with⟨hw,hop⟩|⟨hw,hop⟩
   .exact .inl ⟨hw,(jP (exY a v).symm hop).mono fin⟩
   .exact .inr ⟨hw,fin _ _ hop⟩
def Gx:Y Edge->X
 | []=>0
 |x::l=>bif Region.binds .any x then M4 (MI 1 x.on) (Gx l)else Gx l
theorem nK{a b:X}:sub a b=Z↔∀t,bit a t=Z->bit b t=true:=by
 unfold sub;constructor
 .intro h t ht
  have h:=Md h;rw[me]at ht|-;have:(PD a b).testBit t=true:=by rw[h];exact ht
  have h2:(a &&& b).testBit t=true:=this;rw[Qk,LO]at h2;exact h2.2
 .intro h
  have:PD a b=a:=by
   apply Nat.eq_of_testBit_eq;intro t;show(a &&& b).testBit t=_;rw[Qk];cases ha:a.testBit t with
   |false=>rfl
   |true=>have:=h t (by rw[me];exact ha);rw[me]at this;rw[this];rfl
  rw[this];exact PV a
theorem pQ(abm:X->W):∀(l:Y Edge),(∀t,bit (Gx l) t=Z->abm t=Z)↔∀x∈l,Region.binds .any x=Z->abm x.on=Z
 | []=>by simp[Gx,mf]
 |x::l=>by
  simp only[Gx];cases hb:Region.binds .any x with
  |false=>
   simp only[qp,LD,forall_eq_or_imp,hb,LK,false_implies,true_and];exact pQ abm l
  |true=>
   simp only[ql,LD,forall_eq_or_imp,hb,true_implies];rw[<-pQ abm l];constructor
   .intro h
    refine⟨h x.on (by rw[eQ,kp];simp),λt ht=>h t (by rw[eQ,ht,NL])⟩
   .rintro ⟨h1,h2⟩ t ht
    rw[eQ,kp,MC]at ht;rcases ht with ht|ht
    .have:t=x.on:=by simpa using ht
     rw[this];exact h1
    .exact h2 t ht
def DL(all:Y qw)(m i:X):W:=match nth all i with|some o=> !bit m i&&sub (Gx o.after.toList) m|none=>G
theorem pS{ops:qo qw}{m i:X}:DL ops.toList m i=Z↔vp ops (bit m) i:=by
 unfold DL vp;rw[dw,L8];cases ho:ops[i]? with
 |none=>simp
 |some o=>
  simp only[LO,Option.some.injEq,exists_eq_left',nK,pQ (bit m)];simp
def Aw:X->(X->W)->W
 |0,_=>Z
 |n+1,p=>p n&&Aw n p
theorem ma:∀{n:X}{p:X->W},Aw n p=Z->∀i,i<n->p i=Z
 |n+1,p,h,i,hi=>by
  simp only[Aw,LO]at h;rcases OV i n with h'|h'
  .exact ma h.2 i h'
  .have:i=n:=om
   rw[this];exact h.1
def HM(P:qq)(ops:qo qw)(i u m:X):W:=
 Aw ops.toList.length λj=>bit m j||Mg j i||(match nth ops.toList i,nth ops.toList j with
  |some x,S y=> !sub (Gx y.after.toList) (M4 m u)||(bit u j&&x.apart ops y&&lA x&&lA y&&mn (cls P x) (cls P y))
  |_,_=>G)
theorem C7{P:qq}{ops:qo qw}{i u m:X}(h:HM P ops i u m=Z):I1 P ops i (bit u) (bit m):=by
 intro j y hy hm hne hp;have hlt:j<ops.toList.length:=by rw[Mo];exact(LW.1 hy).1
 have h:=ma h j hlt;rw[hm,N8,MC]at h;rcases h with h|h
 .exact qj (Md h) hne
 rw[dw,dw,L8,L8,hy]at h;split at h
 .rename_i x y' hx hy'
  simp only[Option.some.injEq]at hy';subst hy';rw[MC]at h;rcases h with h|h
  .have hs:sub (Gx y.after.toList) (M4 m u)=true:=by rw[nK,pQ (bit (M4 m u))];intro x hx hb;rw[eQ];exact hp x hx hb
   rw[hs]at h;cases h
  .simp only[LO]at h
   exact⟨h.1.1.1.1,x,hx,h.1.1.1.2,h.1.1.2,h.1.2,h.2⟩
 .cases h
def bB.len:bB->X
 | .done=>0
 | .one _ _ p=>p.len+1
 | .hold _ _ _ p=>p.len+1
 | .alt _ p q=>Nat.max (p.len+1) q.len
 | .none=>0
def EW(ops:qo qw)(i u m:X):W:=
 Aw ops.toList.length λj=>bit m j||Mg j i||(match nth ops.toList i,nth ops.toList j with
  |some x,S y=> !sub (Gx y.after.toList) (M4 m u)||(bit u j&&x.apart ops y&&lA x&&lA y)
  |_,_=>G)
theorem AP{ops:qo qw}{i u m:X}(h:EW ops i u m=Z):HA ops i (bit u) (bit m):=by
 intro j y hy hm hne hp;have hlt:j<ops.toList.length:=by rw[Mo];exact(LW.1 hy).1
 have h:=ma h j hlt;rw[hm,N8,MC]at h;rcases h with h|h
 .exact qj (Md h) hne
 rw[dw,dw,L8,L8,hy]at h;split at h
 .rename_i x y' hx hy'
  simp only[Option.some.injEq]at hy';subst hy';rw[MC]at h;rcases h with h|h
  .have hs:sub (Gx y.after.toList) (M4 m u)=true:=by rw[nK,pQ (bit (M4 m u))];intro x hx hb;rw[eQ];exact hp x hx hb
   rw[hs]at h;cases h
  .simp only[LO]at h
   exact⟨h.1.1.1,x,hx,h.1.1.2,h.1.2,h.2⟩
 .cases h
def B9(P:qq)(ops:qo qw)(i:X)(hs:Y X):W:=
 (match nth ops.toList i with|some o=>(match cls P o with| .pure=>hs.all (bit · i)| .read=>hs.all (bit · i)|_=>Z)|none=>G)
def dn(ops:qo qw)(i:X):W:=
 (match nth ops.toList i with|some o=>(match o.op,o.dst,o.guard with| .load _ _,S _,N=>Z|_,_,_=>G)|none=>G)
def Cj(P:qq)(ops:qo qw):bB->X->X->Y X->W
 | .done,m,c,_=>Mg c 0&&Aw ops.toList.length (bit m)
 | .one i u p,m,c,hs=>Mg c 0&&DL ops.toList m i&&HM P ops i u m&&B9 P ops i hs&&Cj P ops p (M4 m (MI 1 i)) 0 hs
 | .hold i u s p,m,c,hs=>Mg c 0&&DL ops.toList m i&&EW ops i u m&&B9 P ops i hs&&dn ops i&&sub m s&&sub u s&&bit s i&&Cj P ops p (M4 m (MI 1 i)) 0 (s::hs)
 | .alt i p q,m,c,hs=>DL ops.toList m i&&Cj P ops p (M4 m (MI 1 i)) 0 hs&&Cj P ops q m (M4 c (MI 1 i)) hs
 | .none,m,c,_=> !Mg c 0&&Aw ops.toList.length λj=> !DL ops.toList m j||bit c j
theorem xd(m i:X):add (bit m) i=bit (M4 m (MI 1 i)):=by funext t;rw[eQ,kp,Bool.or_comm];rfl
def KM(P:qq)(h:oY)(w:J):Prop:=∀w',Ext w w'->(loadVar h.t h.a).run P w'= .ok h.v w'
def JH(P:qq)(hs:Y oY)(L:X->W)(w:J):Prop:=∀h∈hs,(∀t,L t=Z->bit h.s t=Z)->KM P h w
theorem BU{w:J}{a:qg}:∀(l:Y Q)(i:X)(C:Prop),yr w a i l C->(∀j v,nth l j=S v->w.cell? (a.add (i+j))=S v)/\C
 | [],i,C,h=>⟨λj v hj=>by simp[nth]at hj,h⟩
 |x::l,i,C,h=>by
  obtain⟨h1,h2⟩:=h;obtain⟨h3,h4⟩:=BU l (i+1) C h2;refine⟨λj v hj=>?_,h4⟩;cases j with
  |zero=>simp only[nth,Option.some.injEq]at hj;subst hj;exact h1
  |succ j=>have:=h3 j v hj;rw[show i+(j+1)=i+1+j from by omega];exact this
theorem C9{h:oY}{w:J}{C:Prop}(hh:E3 P h w C):KM P h w/\C:=by
 unfold E3 Ef at hh;split at hh
 .exact hh.elim
 rename_i d hd;have hs:=λw=>kK hd w;have ha:=λw=>tF hd w;split at hh
 .rename_i x hx
  refine⟨λw' hw=>?_,hh.2⟩;unfold loadVar;rw[Sem.run_bind,ha,BK hx];simp only[Result.andThen_ok,LK,qy];exact kc (hw _ _ hh.1)
 .rename_i l hl
  obtain⟨h1,h2⟩:=BJ hl;split at hh
  .rename_i cs hv
   cases hb:Mg cs.toList.length (sz P h.t)<;>rw[hb]at hh<;>simp only[ql,qp]at hh
   have hb:=Md hb;obtain⟨h3,h4⟩:=BU _ _ _ hh;refine⟨λw' hw=>?_,h4⟩;unfold loadVar;rw[Sem.run_bind,ha,h1];simp only[Result.andThen_ok,qC];rw[Sem.run_bind,hs];simp only[Result.andThen_ok];rw[Sem.run_bind];unfold loadCells;rw[<-hb,dA w' h.a cs.toList 0 #[] (λj v hj=>hw _ _ (h3 j v hj)),hv];simp
  .exact hh.elim
 .exact hh.elim
theorem uz{m:X}{w:J}{C:Prop}:∀{hs:Y oY},FB P m hs w C->JH P hs (bit m) w/\C
 | [],h=>⟨(λ_ hx=>by cases hx),h⟩
 |x::l,h=>by
  unfold FB at h;cases hb:sub m x.s with
  |true=>
   rw[hb,ql]at h;obtain⟨h1,h2⟩:=C9 h;obtain⟨h3,h4⟩:=uz h2;refine⟨λy hy hL=>?_,h4⟩;rcases LD.1 hy with rfl|hy
   .exact h1
   .exact h3 y hy hL
  |false=>
   rw[hb,qp]at h;obtain⟨h3,h4⟩:=uz h;refine⟨λy hy hL=>?_,h4⟩;rcases LD.1 hy with rfl|hy
   .rw[nK.2 hL]at hb;cases hb
   .exact h3 y hy hL
theorem JH.ext{hs:Y oY}{L L':X->W}{w w':J}(h:JH P hs L w)(hw:Ext w w')(hL:∀t,L t=Z->L' t=Z):JH P hs L' w':=
 λx hx hs=>λw'' hw''=>h x hx (λt ht=>hs t (hL t ht)) w'' (hw.trans hw'')
theorem xE{ops:qo qw}{i:X}{o:qw}{K K':Act->J->Prop}{a:Act}{w:J}(ho:ops[i]?=S o)(hc:cls P o≠ .other)(h:rL P ops i K a w)(hk:∀a' w',Ext w w'->K a' w'->K' a' w'):rL P ops i K' a w:=by
 obtain⟨o',ho',h⟩:=h;obtain rfl:o=o':=by rw[ho]at ho';simpa using ho'
 refine⟨o,ho,?_⟩;rcases h with⟨h1,h2⟩|⟨h1,h2⟩
 .exact .inl ⟨h1,h2.zk hc λ_ _ hE h=>hk _ _ hE h⟩
 .exact .inr ⟨h1,hk _ _ (Ext.refl _) h2⟩
theorem Bg (hn:∀(f:X) (fn:Func),P.funcs[f]?=S fn->(fn.name== "runtime.NumGoroutine")=G) {ops:qo qw} {gm n mk:X} {abz:Env->J->Prop} {a0:Act}
  (hd:∀(i:X)(o:qw),ops[i]?=S o->∀x,o.dst=S x->x<n/\bit mk x=Z):
  ∀(p:bB)(m c f:X)(hs:Y oY)(e:Env)(a:Act)(w:J),Cj P ops p m c (hs.map (·.s))=Z->bB.len p<=f->Rel ds n e a->fD mk a0 a->JH P hs (bit m) w->mI P ops.toList gm p m hs abz e w->
   ((∀i,¬vp ops (bit m) i)->c=0->At ds n mk a0 abz a w)/\
   (∀j,vp ops (bit m) j->bit c j=G->∃f',f=f'+1/\rL P ops j (fp P ops (At ds n mk a0 abz) (JH P hs) f' (add (bit m) j)) a w):=by
 have close:∀(m f:X)(hs:Y oY)(a:Act)(w:J),JH P hs (bit m) w->((∀i,¬vp ops (bit m) i)->(0:X)=0->At ds n mk a0 abz a w)/\
   (∀j,vp ops (bit m) j->bit 0 j=G->∃f',f=f'+1/\rL P ops j (fp P ops (At ds n mk a0 abz) (JH P hs) f' (add (bit m) j)) a w)->fp P ops (At ds n mk a0 abz) (JH P hs) f (bit m) a w:=by
  intro m f hs a w hJ ⟨h1,h2⟩;cases f with
  |zero=>
   have h0:∀i,¬vp ops (bit m) i:=λi hi=>by obtain⟨f',hf,_⟩:=h2 i hi (mf i);omega
   exact⟨hJ,h0,h1 h0 U⟩
  |succ f=>
   refine⟨hJ,λh0=>h1 h0 U,λi hi=>?_⟩;obtain⟨f',hf,h⟩:=h2 i hi (mf i);obtain rfl:f=f':=om
   exact h
 have step:∀(p:bB)(i m f:X)(hs:Y oY)(o:qw)(e:Env)(a:Act)(w:J),ops[i]?=S o->Cj P ops p (M4 m (MI 1 i)) 0 (hs.map (·.s))=Z->bB.len p<=f->Rel ds n e a->fD mk a0 a->JH P hs (bit m) w->
   (∀(m c f:X)(hs:Y oY)(e:Env)(a:Act)(w:J),Cj P ops p m c (hs.map (·.s))=Z->bB.len p<=f->Rel ds n e a->fD mk a0 a->JH P hs (bit m) w->mI P ops.toList gm p m hs abz e w->
    ((∀i,¬vp ops (bit m) i)->c=0->At ds n mk a0 abz a w)/\(∀j,vp ops (bit m) j->bit c j=G->∃f',f=f'+1/\rL P ops j (fp P ops (At ds n mk a0 abz) (JH P hs) f' (add (bit m) j)) a w))->
   zR P ops.toList ops.toList gm i o (λe w=>Ew P o (M4 m (MI 1 i)) hs w (mI P ops.toList gm p (M4 m (MI 1 i)) hs abz e w)) e w->
   rL P ops i (fp P ops (At ds n mk a0 abz) (JH P hs) f (add (bit m) i)) a w:=by
  intro p i m f hs o e a w ho hok hlen hr hk hJ ih h;have h1:=sV hn ho (hd i o ho) hr hk h;by_cases hc:cls P o= .other
  .refine h1.mono λa' w'⟨hk',e',hr',h'⟩=>?_
   have ho':FE P o=true:=by unfold FE;rw[hc]
   unfold Ew at h';rw[ho',ql]at h';obtain⟨hJ',h'⟩:=uz h';rw[xd];exact close _ _ _ _ _ hJ' (ih _ 0 f hs e' a' w' hok hlen hr' hk' hJ' h')
  .refine xE ho hc h1 λa' w' hE⟨hk',e',hr',h'⟩=>?_
   have ho':FE P o=false:=by unfold FE;cases hcc:cls P o<;>first|rfl|exact qj hcc hc
   unfold Ew at h';rw[ho',qp]at h';rw[xd];have hJ':JH P hs (bit (M4 m (MI 1 i))) w':=hJ.ext hE λt ht=>by rw[eQ,ht];rfl
   exact close _ _ _ _ _ hJ' (ih _ 0 f hs e' a' w' hok hlen hr' hk' hJ' h')
 have outJ:∀(i:X)(hs:Y oY)(o:qw),ops[i]?=S o->B9 P ops i (hs.map (·.s))=Z->(cls P o= .pure\/cls P o= .read)->∀(L:X->W)w,JH P hs (add L i) w->JH P hs L w:=by
  intro i hs o ho hin hc L w hJ x hx hL;refine hJ x hx λt ht=>?_;have hall:(hs.map (·.s)).all (bit · i)=true:=by unfold B9 at hin;rw[dw,L8,ho]at hin;simp only at hin;rcases hc with hc|hc<;>rw[hc]at hin<;>exact hin
  simp only[add,MC]at ht;rcases ht with ht|ht
  .have:t=i:=by simpa using ht
   rw[this];exact NT.1 hall _ (L2.2 ⟨x,hx,U⟩)
  .exact hL t ht
 intro p;induction p with
 |done=>
  intro m c f hs e a w hok _ hr hk _ h;simp only[Cj,LO]at hok;refine⟨λ_ _=>⟨hk,e,hr,h⟩,λj hj=>?_⟩;obtain⟨o,ho,hl,_⟩:=hj;have:=ma hok.2 j (by rw[Mo];exact(LW.1 ho).1);rw[hl]at this;cases this
 |one i u p ih=>
  intro m c f hs e a w hok hlen hr hk hJ h;simp only[Cj,LO]at hok;have hi:=pS.1 hok.1.1.1.2;refine⟨λh0=>qj hi (h0 i),λj hj _=>?_⟩;simp only[bB.len]at hlen;obtain⟨f',rfl⟩:∃f',f=f'+1:=⟨f-1,om⟩
  refine⟨f',U,?_⟩;simp only[mI]at h;split at h
  .rename_i o ho
   rw[dw,L8]at ho;have h3:=step p i m f' hs o e a w ho hok.2 om hr hk hJ ih h;exact(y4 ho (outJ i hs o ho hok.1.2) f' (bit m) a w hi (C7 hok.1.1.2) hJ h3).2.2 j hj
  .exact h.elim
 |hold i u s p ih=>
  intro m c f hs e a w hok hlen hr hk hJ h;simp only[Cj,LO]at hok;obtain⟨⟨⟨⟨⟨⟨⟨⟨_,hok1⟩,hok2⟩,hok3⟩,hok4⟩,hok5⟩,hok6⟩,hok7⟩,hok8⟩:=hok;have hi:=pS.1 hok1;refine⟨λh0=>qj hi (h0 i),λj hj _=>?_⟩;simp only[bB.len]at hlen;obtain⟨f',rfl⟩:∃f',f=f'+1:=⟨f-1,om⟩
  refine⟨f',U,?_⟩;simp only[mI]at h;split at h
  .rename_i o ho
   have hheld:=hok4;unfold dn at hheld;rw[ho]at hheld;rw[dw,L8]at ho;simp only at hheld;split at h
   .rename_i t x d hop hdst
    rw[hop,hdst]at hheld;have hg:o.guard=none:=by
     cases hgd:o.guard with
     |none=>rfl
     |some g=>rw[hgd]at hheld;cases hheld
    split at h
    .rename_i ad hx
     obtain⟨v,hv,hrun⟩:=mE h;have hex:∀w',Ext w w'->(qx a.eval o).run P w'= .ok (.value v) w':=λw' hw=>by simp[qx,hop,hr.ev hx,Instr.loadAt,Instr.sureAddr,hrun w' hw]
     have hcls:cls P o= .read:=by simp[cls,hop]
     have hr':Rel ds n (e.put (S d) v) (a.put (S d) v):=hr.put (λy hy=>(hd i o ho y (by rw[hdst];exact hy)).1) v;have hk':fD mk a0 (a.put (S d) v):=hk.put (λy hy=>(hd i o ho y (by rw[hdst];exact hy)).2) v;have hJ':JH P (⟨s,t,ad,v⟩::hs) (bit (M4 m (MI 1 i))) w:=λy hy hL=>by
      rcases LD.1 hy with rfl|hy
      .exact hrun
      .exact hJ y hy λt ht=>hL t (by rw[eQ,ht];rfl)
     have h3:=close _ _ _ _ _ hJ' (ih _ 0 f' (⟨s,t,ad,v⟩::hs) _ _ w hok8 om hr' hk' hJ' hv);have h4:fp P ops (At ds n mk a0 abz) (λL w=>JH P hs L w/\((∀t,L t=Z->bit s t=Z)->∀w',Ext w w'->(qx a.eval o).run P w'= .ok (.value v) w')) f' (add (bit m) i) (a.put o.dst v) w:=by
      rw[hdst,xd];refine h3.mono λL w hJ=>⟨λy hy=>hJ y (MF _ hy),λhL w' hw'=>?_⟩
      have:=hJ _ (List.mem_cons_self ..) hL w' hw';simp[qx,hop,hr.ev hx,Instr.loadAt,Instr.sureAddr,this]
     exact(C8 ho hg hcls (outJ i hs o ho hok3 (.inr hcls)) hok7 (λt ht=>nK.1 hok6 t ht) f' (bit m) a w hi (AP hok2) (λt ht=>nK.1 hok5 t ht) U hex h4).2.2 j hj
    .exact h.elim
   .exact h.elim
  .exact h.elim
 |alt i p q ihp ihq=>
  intro m c f hs e a w hok hlen hr hk hJ h;simp only[Cj,LO]at hok;have hi:=pS.1 hok.1.1;refine⟨λh0=>qj hi (h0 i),λj hj hc=>?_⟩;simp only[bB.len]at hlen;have hlen:Nat.max (p.len+1) q.len<=f:=hlen;have hl1:p.len+1<=f:=LY (Nat.le_max_left _ _) hlen;have hl2:q.len<=f:=LY (Nat.le_max_right _ _) hlen;obtain⟨h1,h2⟩:=h;by_cases e':j=i
  .subst e'
   obtain⟨f',rfl⟩:∃f',f=f'+1:=⟨f-1,om⟩
   refine⟨f',U,?_⟩;split at h1
   .rename_i o ho
    rw[dw,L8]at ho;exact step p j m f' hs o e a w ho hok.1.2 om hr hk hJ ihp h1
   .exact h1.elim
  .refine (ihq m _ f hs e a w hok.2 hl2 hr hk hJ h2).2 j hj ?_
   rw[eQ,hc,kp];simpa using e'
 |none=>
  intro m c f hs e a w hok _ hr hk _ _;simp only[Cj,LO]at hok;refine⟨λ_ h0=>?_,λj hj hc=>?_⟩
  .subst h0;exact qj hok.1 qb
  .obtain ⟨o,ho,_⟩:=id hj
   have:=ma hok.2 j (by rw[Mo];exact(LW.1 ho).1);rw[pS.2 hj,hc]at this;cases this
theorem xT (hn:∀(f:X) (fn:Func),P.funcs[f]?=S fn->(fn.name== "runtime.NumGoroutine")=G) (hm:P.follows .mixedOrders=Z) {id:X} {ops:qo qw} {d:W} {p:bB} {n:X} {abz:Env->J->Prop} {aby:Exit->Act->J->Prop}
  (hf:nr n ops.toList=Z) (hp:d=Z->Cj P ops p 0 0 []=Z/\bB.len p<=ops.size) {e:Env} {a:Act} {w:J} (hr:Rel ds n e a)
  (hQ:∀a' w',At ds n (HJ ops.toList) a abz a' w'->aby .normal a' w')
  (h:bif d then mI P ops.toList (Ia ops.toList) p 0 [] abz e w.drew else opsV P ops.toList (Ia ops.toList) ops.toList 0 abz e w):
  (Code.region id ops d).wp P aby a w:=by
 have hd:∀(i:X)(o:qw),ops[i]?=S o->∀x,o.dst=S x->x<n/\bit (HJ ops.toList) x=true:=λi o ho x hx=>
  sG hf i o (by rw[L8];exact ho) x hx
 cases d with
 |false=>
  simp only[qp]at h;refine wp_region ?_;have:=wC hn (gm:=Ia ops.toList) hd hQ ops.toList 0 (λj o hj=>by rw[LF];rw[L8]at hj;exact hj) e a w hr (fD.refl _ _) h;rw[Mo]at this;rw[List.range_eq_range'];exact this
 |true=>
  simp only[ql]at h;refine wp_region_any hm ?_;obtain⟨h1,h2⟩:=hp U;have h3:=Bg hn (gm:=Ia ops.toList) hd p 0 0 ops.size [] e a w.drew h1 h2 hr (fD.refl _ _) (λ_ hx=>by cases hx) h;refine uw hQ ops.size _ (bit 0) a _ qc (λt=>?_) ?_
  .rw[mf,MQ]
   cases hx:(Qb ops.size G)[t]? with
   |none=>rfl
   |some b=>
    have:=LW.1 hx;obtain⟨h4,h5⟩:=this;simp at h5;simp[h5]
  .cases hsz:ops.size with
   |zero=>
    have h0:∀i,¬vp ops (bit 0) i:=λi hi=>by obtain⟨o,ho,_⟩:=hi;have:=(LW.1 ho).1;omega
    exact⟨h0,h3.1 h0 U⟩
   |succ f=>
    refine⟨λh0=>h3.1 h0 U,λi hi=>?_⟩;obtain⟨f',hf',h⟩:=h3.2 i hi (mf i);obtain rfl:f=f':=om
    exact h.mono λa w h=>h.out
theorem u6{c:Sc}{v:Q}{k:c.D->Prop}(h:c.un v k):∃d,v=c.mk d/\k d:=by
 unfold Sc.un at h;split at h
 .split at h
  .rename_i e;subst e;exact⟨_,U,h⟩
  .exact h.elim
 .exact ⟨_,U,h⟩
 .exact ⟨_,U,h⟩
 .exact ⟨_,U,h⟩
 .exact ⟨_,U,h⟩
 .exact ⟨_,U,h⟩
 .exact ⟨_,U,h⟩
 .exact ⟨_,U,h⟩
 .exact h.elim
theorem yF{r:Type}:∀(ss:Y Sc)(acc vs:Y Q)(abu:Y Q->r)(k:r->Prop),yE ss vs (Df ss acc abu) k->k (abu (acc.reverse++vs))
 | [],acc,[],abu,k,h=>by simpa [yE,Df]using h
 | [],_,_::_,_,_,h=>h.elim
 |_::_,_,[],_,_,h=>h.elim
 |c::ss,acc,v::vs,abu,k,h=>by obtain⟨d,rfl,h'⟩:=u6 (h:c.un v _);have:=yF ss (c.mk d::acc) vs abu k h';simpa using this
theorem pf(f:Env->J->Prop)(e:Env)(w:J):∀(cs:Y (X × Sh))(ef:Env),iH cs (uj cs f ef) e w->
  ∃e',f e' w/\∀t v,e' t=S v->e t=S v\/ef t=S v
 | [],ef,h=>⟨ef,h,λ_ _ h=> .inr h⟩
 |(s,.c x)::l,ef,h=>by
  simp only[iH]at h;split at h
  .rename_i v hv
   obtain⟨d,rfl,h'⟩:=u6 h;obtain⟨e',h1,h2⟩:=pf f e w l _ h';refine⟨e',h1,λt u ht=>?_⟩;rcases h2 t u ht with h3|h3
   .exact .inl h3
   .simp only[Env.set]at h3
    cases hb:Mg t s with
    |false=>rw[hb]at h3;exact .inr h3
    |true=>rw[hb]at h3;rw[Md hb];simp only[ql]at h3;exact .inl (hv.trans h3)
  .exact h.elim
 |(s,.a ss)::l,ef,h=>by
  simp only[iH]at h;split at h
  .rename_i cs hv
   have h:=yF ss [] cs.toList _ _ h;obtain⟨e',h1,h2⟩:=pf f e w l _ h;refine⟨e',h1,λt u ht=>?_⟩;rcases h2 t u ht with h3|h3
   .exact .inl h3
   .simp only[Env.set]at h3
    cases hb:Mg t s with
    |false=>rw[hb]at h3;exact .inr h3
    |true=>
     rw[hb]at h3;rw[Md hb];simp only[ql,OM,Mw]at h3;exact .inl (hv.trans h3)
  .exact h.elim
 |(s,.big)::l,ef,h=>by
  simp only[iH]at h;split at h
  .rename_i cs hv
   obtain⟨e',h1,h2⟩:=pf f e w l _ h;refine⟨e',h1,λt u ht=>?_⟩;rcases h2 t u ht with h3|h3
   .exact .inl h3
   .simp only[Env.set]at h3
    cases hb:Mg t s with
    |false=>rw[hb]at h3;exact .inr h3
    |true=>rw[hb]at h3;rw[Md hb];simp only[ql]at h3;exact .inl (hv.trans h3)
  .exact h.elim
theorem y6{r:Type}:∀(ss:Y Sc)(acc:Y Q)(abu abx:Y Q->r)(k:r->r->Prop),(∀vs,k (abu vs) (abx vs))->Ic ss (Df ss acc abu) (Df ss acc abx) k
 | [],acc,abu,abx,k,h=>h _
 |c::ss,acc,abu,abx,k,h=>λd=>y6 ss (c.mk d::acc) abu abx k h
theorem pF{abu abx:Env->J->Prop}(h:∀e w,abu e w->abx e w):∀(cs:Y (X × Sh))(ef:Env),imp cs (uj cs abu ef) (uj cs abx ef)
 | [],ef=>λw=>h ef w
 |(s,.c x)::l,ef=>λd=>pF h l _
 |(s,.a ss)::l,ef=>y6 ss [] _ _ _ λvs=>pF h l _
 |(s,.big)::l,ef=>λcs=>pF h l _
theorem Rel.forget{n m:X}{e e' e'':Env}{a0 a:Act}(h0:Rel ds n e a0)(hk:fD m a0 a)(h1:Rel ds n e' a)(h:∀t v,e'' t=S v->e' t=S v\/(e.forget m) t=S v):Rel ds n e'' a:=by
 refine⟨h1.1,h1.2.1,λt v ht=>?_⟩;rcases h t v ht with h2|h2
 .exact h1.2.2 t v h2
 .simp only[Env.forget]at h2
  cases hb:bit m t with
  |true=>rw[hb]at h2;simp at h2
  |false=>
   rw[hb]at h2;rw[hk t hb];exact h0.2.2 t v h2
theorem sv{j:qh (Y (X × Sh))}{n m:X}{abz:Env->J->Prop}{e:Env}{body:(Env->J->Prop)->Prop}{a0:Act}(hr:Rel ds n e a0)(h:Ab j m abz e body):
  ∃N',body N'/\∀a w,At ds n m a0 N' a w->At ds n m a0 abz a w:=by
 unfold Ab at h;split at h
 .exact ⟨abz,h,λ_ _ h=>h⟩
 .rename_i cs
  refine⟨_,h (uj cs abz (e.forget m)) (pF (λ_ _ h=>h) cs _),?_⟩;rintro a w ⟨hk,e',hr',h'⟩;obtain⟨e'',h1,h2⟩:=pf abz e' w cs _ h';exact⟨hk,e'',hr.forget hk hr' h2,h1⟩
def lift(ds:Y Deferred)(n m:X)(a0:Act)(abz:Env->J->Prop)(abo:X->Env->J->Prop)(R:Env->J->Prop):Exit->Act->J->Prop
 | .normal,a,w=>At ds n m a0 abz a w
 | .exit i,a,w=>At ds n m a0 (abo i) a w
 | .ret,a,w=>At ds n m a0 R a w
 |_,_,_=>qk
def Gs(P:qq)(n:X):Code->An->W
 | .region _ ops d,an=>nr n ops.toList&&(!d||(Cj P ops an.p 0 0 []&&NI an.p.len ops.toList.length))
 | .seq a b,an=>Gs P n a an.a&&Gs P n b an.b
 | .cond _ a b,an=>Gs P n a an.a&&Gs P n b an.b
 | .block _ b,an=>Gs P n b an.a
 | .loop b,an=>Gs P n b an.a
 |_,_=>Z
theorem At.up{n m m':X}{a0 a1:Act}{abz:Env->J->Prop}{a:Act}{w:J}(hk:fD m' a0 a1)(hm:∀t,bit m t=Z->bit m' t=Z)(h:At ds n m a1 abz a w):At ds n m' a0 abz a w:=
 ⟨hk.trans (h.1.mono hm),h.2⟩
theorem At.mono{n m:X}{a0:Act}{abz N':Env->J->Prop}{a:Act}{w:J}(h:At ds n m a0 abz a w)(hN:∀e w,abz e w->N' e w):At ds n m a0 N' a w:=
 let ⟨hk,e,hr,h⟩:=h;⟨hk,e,hr,hN _ _ h⟩
theorem xy{n m m':X}{a0 a1:Act}{abz N':Env->J->Prop}{abo:X->Env->J->Prop}{R:Env->J->Prop}(hk:fD m' a0 a1)(hm:∀t,bit m t=Z->bit m' t=Z)(hN:∀a w,At ds n m' a0 abz a w->At ds n m' a0 N' a w):
  ∀en a w,lift ds n m a1 abz abo R en a w->lift ds n m' a0 N' abo R en a w
 | .normal,a,w,h=>hN a w (At.up hk hm h)
 | .exit i,a,w,h=>At.up hk hm h
 | .ret,a,w,h=>At.up hk hm h
 | .goto _,_,_,h=>h
 | .panic _,_,_,h=>h
 | .outgrown,_,_,h=>h
theorem ni (hn:∀(f:X) (fn:Func),P.funcs[f]?=S fn->(fn.name== "runtime.NumGoroutine")=G) (hm:P.follows .mixedOrders=Z) {n:X}:
  ∀(c:Code)(an:An)(abz:Env->J->Prop)(abo:X->Env->J->Prop)(R:Env->J->Prop)(e:Env)(a:Act)(w:J),
   Gs P n c an=Z->Rel ds n e a->vc P c an abz abo R e w->c.wp P (lift ds n (dm c) a abz abo R) a w:=by
 intro c;induction c with
 |skip=>intro an abz abo R e a w _ hr h;exact wp_skip ⟨fD.refl _ _,e,hr,h⟩
 |region id ops d=>
  intro an abz abo R e a w hf hr h;simp only[Gs,LO,MC]at hf;obtain⟨N',h,hN⟩:=sv hr h;refine xT hn hm hf.1 (λhd=>?_) hr (λa' w' ha=>hN a' w' ha) h;rcases hf.2 with h1|h1
  .rw[hd]at h1;cases h1
  .exact ⟨h1.1,by have:=Nq h1.2;rw[Mo]at this;exact this⟩
 |seq x y ihx ihy=>
  intro an abz abo R e a w hf hr h;simp only[Gs,LO]at hf;refine wp_seq (wp_mono (ihx an.a _ abo R e a w hf.1 hr h) ?_);intro en a' w' hq;have hmx:∀t,bit (dm x) t=Z->bit (dm (.seq x y)) t=true:=λt ht=>by simp only[dm,eQ,ht,PT]
  have hmy:∀t,bit (dm y) t=Z->bit (dm (.seq x y)) t=true:=λt ht=>by simp only[dm,eQ,ht,NL]
  cases en with
  |normal=>
   obtain⟨hk,e',hr',h'⟩:=hq;exact wp_mono (ihy an.b abz abo R e' a' w' hf.2 hr' h') (xy (hk.mono hmx) hmy λ_ _ h=>h)
  |exit i=>exact At.up (fD.refl _ _) hmx hq
  |ret=>exact At.up (fD.refl _ _) hmx hq
  |goto l=>exact hq
  |panic ch=>exact hq
  |outgrown=>exact hq
 |cond c x y ihx ihy=>
  intro an abz abo R e a w hf hr h;simp only[Gs,LO]at hf;obtain⟨N',h,hN⟩:=sv hr h;split at h
  .rename_i b hb
   have hmx:∀t,bit (dm x) t=Z->bit (dm (.cond c x y)) t=true:=λt ht=>by simp only[dm,eQ,ht,PT]
   have hmy:∀t,bit (dm y) t=Z->bit (dm (.cond c x y)) t=true:=λt ht=>by simp only[dm,eQ,ht,NL]
   refine wp_cond_split (hr.ev hb) (λht=>?_) (λht=>?_)
   .rw[ht]at h
    exact wp_mono (ihx an.a N' abo R e a w hf.1 hr h) (xy (fD.refl _ _) hmx hN)
   .rw[ht]at h
    exact wp_mono (ihy an.b N' abo R e a w hf.2 hr h) (xy (fD.refl _ _) hmy hN)
  .exact h.elim
 |block id b ih=>
  intro an abz abo R e a w hf hr h;obtain⟨N',h,hN⟩:=sv hr h;refine wp_block (wp_mono (ih an.a N' _ R e a w hf hr h) ?_);intro en a' w' hq;cases en with
  |normal=>exact hN a' w' hq
  |exit i=>
   simp only[Exit.inBlock];by_cases hi:i=id
   .rw[qd hi]
    refine hN a' w' (At.mono hq λe w h=>?_);rw[hi,PV]at h;exact h
   .rw[F hi]
    refine At.mono hq λe w h=>?_;have:Mg i id=false:=by
     cases hb:Mg i id with
     |false=>rfl
     |true=>exact qj (Md hb) hi
    rw[this]at h;exact h
  |ret=>exact hq
  |goto l=>exact hq
  |panic ch=>exact hq
  |outgrown=>exact hq
 |loop b ih=>
  intro an abz abo R e a w hf hr h;simp only[vc]at h;split at h
  .rename_i cs _
   let aby:=lift ds n (dm b) a abz abo R
   let abx:Env->J->Prop:=λe' w'=>∀a',fD (dm b) a a'->Rel ds n e' a'->∀(fr:Frame)(k:Y Item)(ks:Y Frame),
    ∃en a2 w2,aby en a2 w2/\Arrives P (lone (fr.at a' (.code b:: .inLoop b::k)) ks w') fr k ks en a2 w2
   have close:∀a' w' e',fD (dm b) a a'->Rel ds n e' a'->iH cs (uj cs abx (e.forget (dm b))) e' w'->∀(fr:Frame)(k:Y Item)(ks:Y Frame),
     ∃en a2 w2,aby en a2 w2/\Arrives P (lone (fr.at a' (.code b:: .inLoop b::k)) ks w') fr k ks en a2 w2:=by
    intro a' w' e' hk hr' h';obtain⟨e'',h1,h2⟩:=pf abx e' w' cs _ h';exact h1 a' hk (hr.forget hk hr' h2)
   have hloop:iH cs (uj cs abx (e.forget (dm b))) e w:=by
    refine h _ (pF ?_ cs _);intro e' w' hb a' hk hr' fr k ks;obtain⟨en,a1,w1,hq,harr⟩:=ih an.a _ abo R e' a' w' hf hr' hb fr (.inLoop b::k) ks;cases en with
    |normal=>
     obtain⟨hk1,e1,hr1,h1⟩:=hq;obtain⟨en2,a2,w2,hq2,harr2⟩:=close a1 w1 e1 (hk.trans hk1) hr1 h1 fr k ks;exact⟨en2,a2,w2,hq2,.of_steps (Steps.trans harr (.one step_inLoop)) harr2⟩
    |exit id=>exact⟨.exit id,a1,w1,At.up hk (λ_ h=>h) hq,.pass (x:= .inLoop b) U (λ_ _=> .inl qc) harr⟩
    |goto l=>exact hq.elim
    |ret=>exact⟨.ret,a1,w1,At.up hk (λ_ h=>h) hq,.pass (x:= .inLoop b) U (λ_ _=> .inl qc) harr⟩
    |panic ch=>exact hq.elim
    |outgrown=>exact hq.elim
   intro fr k ks;obtain⟨en,a2,w2,hq,harr⟩:=close a w e (fD.refl _ _) hr hloop fr k ks;exact⟨en,a2,w2,hq,.of_steps (.one step_loop) harr⟩
  .exact h.elim
 |rangeFunc f ps x y _ _=>intro an abz abo R e a w _ hr h;exact h.elim
 |exit id=>intro an abz abo R e a w _ hr h;exact wp_exit ⟨fD.refl _ _,e,hr,h⟩
 |scope b _=>intro an abz abo R e a w _ hr h;exact h.elim
 |label l=>intro an abz abo R e a w _ hr h;exact h.elim
 |goto l=>intro an abz abo R e a w _ hr h;exact h.elim
 |ret=>intro an abz abo R e a w _ hr h;exact wp_ret ⟨fD.refl _ _,e,hr,h⟩
 |refuse s=>intro an abz abo R e a w _ hr h;exact h.elim
theorem yX{r:Type}:∀(ss:Y Sc)(acc vs:Y Q)(K:tU ss r)(k:Y Q->r->Prop),yE ss vs K (λg=>k (acc.reverse++vs) g)->EK.exKA ss acc K k
 | [],acc,[],K,k,h=>by simpa [yE,EK.exKA]using h
 | [],_,_::_,_,_,h=>h.elim
 |_::_,_,[],_,_,h=>h.elim
 |c::ss,acc,v::vs,K,k,h=>by obtain⟨d,rfl,h'⟩:=u6 (h:c.un v _);exact⟨d,yX ss (c.mk d::acc) vs (K d) k (by simpa using h')⟩
def DU:Y (X × Sh)->X->W
 | [],_=>Z
 |(s,_)::l,i=>Mg s i&&DU l (i+1)
theorem tz(w:J):∀(cs:Y (X × Sh))(i:X)(acc vs:Y Q)(K:vN cs),DU cs i=Z->vs.length=i+cs.length->iH cs K (nth vs) w->
  EK cs K acc (.returned (xU (acc.reverse++vs.drop i))) w
 | [],i,acc,vs,K,_,hl,h=>by simp only[M5,NB]at hl;refine⟨?_,h⟩;rw[Nz om,LQ]
 |(s,.c x)::l,i,acc,vs,K,hs,hl,h=>by
  simp only[DU,LO]at hs;have hsi:=Md hs.1;subst hsi;simp only[iH]at h;split at h
  .rename_i v hv
   rw[dw]at hv;obtain⟨d,rfl,h'⟩:=u6 h;refine⟨d,?_⟩;have:=tz w l (s+1) (x.mk d::acc) vs (K d) hs.2 (by simp at hl;omega) h';obtain⟨h1,h2⟩:=Lu.1 hv;rw[Mr h1,h2];simpa using this
  .exact h.elim
 |(s,.a ss)::l,i,acc,vs,K,hs,hl,h=>by
  simp only[DU,LO]at hs;have hsi:=Md hs.1;subst hsi;simp only[iH]at h;split at h
  .rename_i cs hv
   rw[dw]at hv;simp only[EK];refine yX ss [] cs.toList K _ ?_;obtain⟨h1,h2⟩:=Lu.1 hv;have key:∀(ss:Y Sc)(us:Y Q)(K:tU ss (vN l))(k k':vN l->Prop),(∀g,k g->k' g)->yE ss us K k->yE ss us K k':=by
    intro ss;induction ss with
    |nil=>intro us K k k' hk h;cases us with|nil=>exact hk _ h|cons _ _=>exact h.elim
    |cons c ss ih=>
     intro us K k k' hk h;cases us with
     |nil=>exact h.elim
     |cons u us=>
      have h:c.un u _:=h;show c.un u _;have un_mono:∀(c:Sc)(v:Q)(k k':c.D->Prop),(∀d,k d->k' d)->c.un v k->c.un v k':=by
       intro c v k k' hk h;unfold Sc.un at*
       split at h
       .split at h
        .rename_i e;simp only[e,qC];exact hk _ h
        .exact h.elim
       .exact hk _ h
       .exact hk _ h
       .exact hk _ h
       .exact hk _ h
       .exact hk _ h
       .exact hk _ h
       .exact hk _ h
       .exact h.elim
      exact un_mono c u _ _ (λd hd=>ih us (K d) k k' hk hd) h
   refine key ss cs.toList K _ _ (λg hg=>?_) h;have:=tz w l (s+1) (.agg cs::acc) vs g hs.2 (by simp at hl;omega) hg;rw[Mr h1,h2];simpa using this
  .exact h.elim
 |(s,.big)::l,i,acc,vs,K,hs,hl,h=>by
  simp only[DU,LO]at hs;have hsi:=Md hs.1;subst hsi;simp only[iH]at h;split at h
  .rename_i cs hv
   rw[dw]at hv;refine⟨cs,?_⟩;have:=tz w l (s+1) (.agg cs::acc) vs (K cs) hs.2 (by simp at hl;omega) h;obtain⟨h1,h2⟩:=Lu.1 hv;rw[Mr h1,h2];simpa using this
  .exact h.elim
theorem oP{n:X}{e:Env}{a:Act}{w:J}(hr:Rel ds n e a):∀(l:Y ResultVar)(acc:Y Q)(k:Y Q->Prop),pT P l e w acc k->
  ∃vs,k (acc.reverse++vs)/\vs.length=l.length/\
   (l.mapM λ(x:ResultVar)=>(match x with| .tmp t=>pure (a.tmps.getD t undef)| .cell b t=>do loadVar t (<-asAddr (a.tmps.getD b undef)):Sem Q)).run P w= .ok vs w
 | [],acc,k,h=>⟨[],by simpa [pT]using h,rfl,qc⟩
 | .tmp t::l,acc,k,h=>by
  simp only[pT]at h;split at h
  .rename_i v hv
   obtain⟨vs,h1,h2,h3⟩:=oP hr l (v::acc) k h;refine⟨v::vs,by simpa using h1,by simp[h2],?_⟩;rw[Py,Sem.run_bind];simp only[Sem.run_pure,Result.andThen_ok];rw[Sem.run_bind,h3,hr.2.2 t v hv];rfl
  .exact h.elim
 | .cell b t::l,acc,k,h=>by
  simp only[pT]at h;split at h
  .rename_i p hp
   obtain⟨v,h,hrun⟩:=mE h;obtain⟨vs,h1,h2,h3⟩:=oP hr l (v::acc) k h;refine⟨v::vs,by simpa using h1,by simp[h2],?_⟩;rw[Py,Sem.run_bind];have hl:(do loadVar t (<-asAddr (a.tmps.getD b undef)):Sem Q).run P w= .ok v w:=by rw[hr.2.2 b _ hp];simp only[asAddr,Sem.run_bind,Sem.run_pure,Result.andThen_ok];exact hrun w (Ext.refl w)
   rw[hl];simp only[Result.andThen_ok];rw[Sem.run_bind,h3];rfl
  .exact h.elim
def GQ(P:qq)(fn:Func)(c:Code)(an:An)(cs:Y (X × Sh))(na:X):W:=
 Gs P fn.ntmps c an&&NI na fn.ntmps&&DU cs 0&&Mg fn.results.toList.length cs.length
theorem EV (hn:∀(f:X) (fn:Func),P.funcs[f]?=S fn->(fn.name== "runtime.NumGoroutine")=G) (hm:P.follows .mixedOrders=Z) {f:FuncId} {fn:Func} {c:Code} {an:An} {cs:Y (X × Sh)}
  {args:Y Q} {K:vN cs} {w:J} (hf:P.funcs[f]?=S fn) (hb:fn.body=S c) (hok:GQ P fn c an cs args.length=Z) (h:JN P fn c an cs args K w):Calls P f ⟨args⟩ w (EK cs K []):=by
 simp only[GQ,LO]at hok;have hle:=Nq hok.1.1.2;have hlen:=Md hok.2;refine calls_of_wp hf hb ?_;have hr:Rel [] fn.ntmps (nth args) { tmps:=(⟨args⟩:qo Q)++Qb (fn.ntmps-(⟨args⟩:qo Q).size) undef,defers:=[]}:=by refine⟨by simp;omega,rfl,λt v ht=>?_⟩;rw[dw]at ht;obtain⟨h1,h2⟩:=Lu.1 ht;rw[MQ,Array.getElem?_append_left (by simpa using h1)];simp[ht]
 refine wp_mono (ni hn hm c an _ _ _ (nth args) _ w hok.1.1.1 hr h) ?_;have key:∀(e:Env)(a:Act)(w:J),Rel [] fn.ntmps e a->(pT P fn.results.toList e w [] λvs=>iH cs K (nth vs) w)->
   a.defers= []/\∃v,(results fn a.tmps).run P w= .ok v w/\EK cs K [] (.returned v) w:=by
  intro e a w hr h;obtain⟨vs,h1,h2,h3⟩:=oP hr _ _ _ h;refine⟨hr.2.1,xU vs,?_,?_⟩
  .unfold results
   rw[Sem.run_bind,O9,Sem.run_map];refine Eq.trans (qz (λ(r:Result (Y Q))=>(r.andThen λa w'=>Result.ok a.toArray w').andThen λ(a:qo Q)w'=>Sem.run P (pure (if h:a.size=1 then a[0]else Value.tuple a)) w') h3) ?_;simp only[Result.andThen_ok]
   match vs with
   | []=>rfl
   | [v]=>rfl
   |v::u::vs=>rfl
  .have:=tz w cs 0 [] vs K hok.1.2 om (by simpa using h1)
   simpa using this
 intro en a w hq;cases en with
 |normal=>obtain⟨_,e,hr,h⟩:=hq;exact key e a w hr h
 |ret=>obtain⟨_,e,hr,h⟩:=hq;exact key e a w hr h
 |exit i=>obtain⟨_,e,hr,h⟩:=hq;exact h.elim
 |goto l=>exact hq.elim
 |panic ch=>exact hq.elim
 |outgrown=>exact hq.elim
def aB:J->qg->X->Y Q->(J->Prop)->Prop
 |w,_,_,[],k=>k w
 |w,a,o,v::vs,k=>St w (a.add o) v λw'=>aB w' a (o+1) vs k
def ax(w:J)(a:qg):X->(ss:Y Sc)->tU ss Prop->Prop
 |_,[],p=>p
 |o,c::ss,f=>∃x:c.D,w.cell? (a.add o)=S (c.mk x)/\ax w a (o+1) ss (f x)
def rm(w:J)(b:X)(l:Y Q):Prop:=∃t,w.heap[b]?=S (.cells ⟨l⟩ t (0,0))
def lN(w:J)(b:X)(es:qo qE)(c:X):Prop:=w.heap[b]?=S (.map es c)
structure gg(abu:X->Prop)(w w':J):Prop where
 os:w'.os=w.os
 tape:w'.tape=w.tape
 output:w'.output=w.output
 size:w.heap.size<=w'.heap.size
 block:∀k,k<w.heap.size->¬abu k->w'.heap[k]?=w.heap[k]?
abbrev No:X->Prop:=λ_=>qk
theorem gg.refl(abu:X->Prop)(w:J):gg abu w w:=⟨U,U,U,Lv _,λ_ _ _=>rfl⟩
theorem gg.mono{abu F':X->Prop}{w w':J}(h:gg abu w w')(hf:∀k,k<w.heap.size->abu k->F' k):gg F' w w':=
 ⟨h.os,h.tape,h.output,h.size,λk hk hn=>h.block k hk (λhF=>hn (hf k hk hF))⟩
theorem gg.trans{abu F':X->Prop}{a b c:J}(h:gg abu a b)(h':gg F' b c)(hf:∀k,k<a.heap.size->F' k->abu k):gg abu a c:=
 ⟨h'.os.trans h.os,h'.tape.trans h.tape,h'.output.trans h.output,LY h.size h'.size,λk hk hn=>
  (h'.block k (MR hk h.size) (λhF=>hn (hf k hk hF))).trans (h.block k hk hn)⟩
theorem gg.then{abu:X->Prop}{a b c:J}(h:gg abu a b)(h':gg abu b c):gg abu a c:=h.trans h' λ_ _ h=>h
theorem gg.no{abu:X->Prop}{a b c:J}(h:gg abu a b)(h':gg No b c):gg abu a c:=h.trans h' λ_ _ h=>h.elim
theorem gg.FC{abu:X->Prop}{a b:J}(h:gg No a b):gg abu a b:=h.mono λ_ _ h=>h.elim
theorem gg.below{abu:X->Prop}{w w':J}(h:gg abu w w'){B:X}(hB:B<=w.heap.size)(hf:∀k,abu k->B<=k):RowKit.Below B w w':=
 ⟨h.os,h.tape,h.output,h.size,λk hk=>h.block k om (λhF=>by have:=hf k hF;omega)⟩
theorem rm.lt{w:J}{b:X}{l:Y Q}(h:rm w b l):b<w.heap.size:=by obtain⟨t,h⟩:=h;exact(LW.1 h).1
theorem lN.lt{w:J}{b:X}{es:qo qE}{c:X}(h:lN w b es c):b<w.heap.size:=(LW.1 h).1
theorem rm.sW{abu:X->Prop}{w w':J}{b:X}{l:Y Q}(h:rm w b l)(u:gg abu w w')(hn:¬abu b):rm w' b l:=by have:=u.block b h.lt hn;obtain⟨t,h⟩:=h;exact⟨t,by rw[this];exact h⟩
theorem lN.sW{abu:X->Prop}{w w':J}{b:X}{es:qo qE}{c:X}(h:lN w b es c)(u:gg abu w w')(hn:¬abu b):lN w' b es c:=by have:=u.block b h.lt hn;unfold lN at *;rw[this];exact h
theorem rm.cell{w:J}{b:X}{l:Y Q}(h:rm w b l)(i:X):w.cell? ⟨b,i,N⟩=l[i]?:=by obtain⟨t,h⟩:=h;simp[World.cell?,h]
theorem rm.frozen{w:J}{b:X}{l:Y Q}(h:rm w b l)(i:X):w.frozen? ⟨b,i,N⟩=false:=by obtain⟨t,h⟩:=h;simp[World.frozen?,h]
theorem aI(b o n:X):(Addr.mk b o N).add n=⟨b,o+n,N⟩:=by
 unfold Addr.add;by_cases h:n=0
 .subst h;simp
 .simp[h]
theorem rm.I7{w:J}{b o n:X}{l:Y Q}{v:Q}(h:rm w b l)(hv:l[o+n]?=S v):w.cell? ((Addr.mk b o N).add n)=S v:=by rw[aI,h.cell];exact hv
theorem rm.I6{w:J}{b o:X}{l:Y Q}{v:Q}(h:rm w b l)(hv:l[o]?=S v):w.cell? (Addr.mk b o N)=S v:=by rw[h.cell];exact hv
theorem heap_setCell(w:J)(b i:X)(v:Q)(k:X):(w.setCell ⟨b,i,N⟩ v).heap[k]?=if k=b then(w.heap[b]?).map (λo=>match o with| .cells c e f=> .cells (c.setIfInBounds i v) e f|o=>o)else w.heap[k]?:=by
 simp only[World.setCell,NF,Option.isSome_none,LK,qy];by_cases h:b=k
 .subst h;simp only[qC];rfl
 .rw[F h,F (λe=>h e.symm)]
theorem rm.set{w:J}{b:X}{l:Y Q}(h:rm w b l)(i:X)(v:Q):rm (w.setCell ⟨b,i,N⟩ v) b (l.set i v):=by obtain⟨t,h⟩:=h;refine⟨t,?_⟩;rw[heap_setCell,qd U,h];simp
theorem z7(w:J)(b i:X)(v:Q):gg (·=b) w (w.setCell ⟨b,i,N⟩ v):=
 ⟨rfl,rfl,rfl,qc,λk _ hn=>by rw[heap_setCell,F hn]⟩
theorem ej(w:J)(o:Obj):gg No w (w.alloc o):=
 ⟨rfl,rfl,rfl,qc,λk hk _=>by show(w.heap.push o)[k]?=_;rw[Array.getElem?_push,F om]⟩
theorem nh{w w':J}(h:w'.heap=w.heap)(h1:w'.os=w.os)(h2:w'.tape=w.tape)(h3:w'.output=w.output):gg No w w':=
 ⟨h1,h2,h3,by rw[h];exact Lv _,λk _ _=>by rw[h]⟩
theorem heap_alloc_new(w:J)(o:Obj):(w.alloc o).heap[w.heap.size]?=S o:=by show(w.heap.push o)[w.heap.size]?=_;simp
theorem St.mk'{w:J}{b o:X}{v:Q}{k:J->Prop}{l:Y Q}(hb:rm w b l)(ho:o<l.length)(hv:v.oneCell'=Z)
  (h:∀w',gg (·=b) w w'->w'.heap.size=w.heap.size->rm w' b (l.set o v)->k w'):St w ⟨b,o,N⟩ v k:=by
 refine⟨?_,hb.frozen o,hv,h _ (z7 w b o v) qc (hb.set o v)⟩;rw[hb.cell,gE ho];rfl
theorem Al.mk'{w:J}{l:Y Q}{t:qi}{k:J->Prop}(h:∀w',gg No w w'->w'.heap.size=w.heap.size+1->rm w' w.heap.size l->k w'):Al w (.cells ⟨l⟩ t) k:=
 h _ (ej _ _) qc ⟨t,heap_alloc_new _ _⟩
theorem Al.map'{w:J}{k:J->Prop}(h:∀w',gg No w w'->w'.heap.size=w.heap.size+1->lN w' w.heap.size #[] 0->k w'):Al w (.map #[] 0) k:=
 h _ (ej _ _) qc (heap_alloc_new _ _)
theorem Dr.mk'{w:J}{k:J->Prop}(h:∀w',gg No w w'->w'.heap=w.heap->k w'):Dr w k:=h w.drew (nh U U U U) U
inductive jN(z:X)(w:J)(s:Sl)(cs:Y Q):Prop
 |nil (ha:s.a=N) (hl:s.len=0) (hc:s.cap=0) (hcs:cs= [])
 |mk (b o:X) (l:Y Q) (ha:s.a=S ⟨b,o,N⟩) (hb:rm w b l) (hl:s.len<=s.cap) (hc:o+s.cap*z<=l.length) (hcs:cs=(l.drop o).take (s.len*z))
def Sl.In(s:Sl)(abx:X->Prop):Prop:=∀a,s.a=S a->abx a.block
theorem jN.length{z:X}{w:J}{s:Sl}{cs:Y Q}(h:jN z w s cs):cs.length=s.len*z:=by
 cases h with
 |nil ha hl hc hcs=>simp[hcs,hl]
 |mk b o l ha hb hl hc hcs=>
  have:s.len*z<=s.cap*z:=LZ z hl;simp[hcs];omega
theorem jN.sW{abu:X->Prop}{z:X}{w w':J}{s:Sl}{cs:Y Q}(h:jN z w s cs)(u:gg abu w w')(hn:s.In λk=>¬abu k):jN z w' s cs:=by
 cases h with
 |nil ha hl hc hcs=>exact .nil ha hl hc hcs
 |mk b o l ha hb hl hc hcs=>exact .mk b o l ha (hb.sW u (hn _ ha)) hl hc hcs
theorem jN.lt{z:X}{w:J}{s:Sl}{cs:Y Q}(h:jN z w s cs):s.In (·<w.heap.size):=λa ha=>by
 cases h with
 |nil h _ _ _=>rw[h]at ha;cases ha
 |mk b o l h hb _ _ _=>rw[h]at ha;cases ha;exact hb.lt
theorem jN.gu{z:X}{w:J}{s:Sl}{cs:Y Q}(h:jN z w s cs):s.len<=s.cap:=by
 cases h with
 |nil _ hl _ _=>omega
 |mk _ _ _ _ _ hl _ _=>exact hl
theorem jN.cell{z:X}{w:J}{s:Sl}{cs:Y Q}(h:jN z w s cs){i:X}{v:Q}(hv:cs[i]?=S v):∃b o,s.a=S ⟨b,o,N⟩/\w.cell? ⟨b,o+i,N⟩=S v:=by
 cases h with
 |nil _ _ _ hcs=>rw[hcs]at hv;simp at hv
 |mk b o l ha hb hl hc hcs=>
  refine⟨b,o,ha,?_⟩;rw[hb.cell];rw[hcs,LS]at hv;split at hv
  .rw[LR]at hv;exact hv
  .cases hv
theorem cQ:∀(cs:Y Q)(o:X)(vs:Y Q)(i:X),o+vs.length<=cs.length->(putAt cs o vs)[i]?=if o<=i/\i<o+vs.length then vs[i-o]? else cs[i]?
 |cs,o,[],i,_=>by
  have:putAt cs o []=cs:=by cases cs<;>cases o<;>rfl
  rw[this,F (by simp only[M5];omega)]
 | [],o,v::vs,i,h=>by simp at h
 |c::cs,0,v::vs,0,h=>by simp[putAt]
 |c::cs,0,v::vs,i+1,h=>by have:=cQ cs 0 vs i (by simp at h|-;omega);simp only[putAt,LG];rw[this];simp
 |c::cs,o+1,v::vs,0,h=>by simp[putAt]
 |c::cs,o+1,v::vs,i+1,h=>by
  have:=cQ cs o (v::vs) i (by simp at h|-;omega);simp only[putAt,LG];rw[this];simp only[LL]at*
  by_cases hi:o<=i/\i<o+(vs.length+1)
  .rw[qd hi,qd om];congr 1;omega
  .rw[F hi,F om]
theorem je(cs:Y Q)(o:X):putAt cs o []=cs:=by cases cs<;>cases o<;>rfl
theorem gH{b:X}:∀(vs:Y Q)(l:Y Q)(o:X)(w:J),rm w b l->o+vs.length<=l.length->(∀v∈vs,v.oneCell'=Z)->∀i j,o=j+i->
  ∃w',(storeCells ⟨b,j,N⟩ vs i).run P w= .ok () w'/\gg (·=b) w w'/\w'.heap.size=w.heap.size/\rm w' b (putAt l o vs)
 | [],l,o,w,hb,_,_,i,j,_=>⟨w,by simp[storeCells],gg.refl _ _,rfl,by rw[je];exact hb⟩
 |v::vs,l,o,w,hb,hl,hv,i,j,ho=>by
  simp only[LL]at hl;have hs:St w ⟨b,o,N⟩ v (λw'=>gg (·=b) w w'/\w'.heap.size=w.heap.size/\rm w' b (l.set o v)):=St.mk' hb om (hv v qc) λw' h1 h2 h3=>⟨h1,h2,h3⟩
  obtain⟨h1,h2,h3,h4⟩:=tT (P:=P) hs;obtain⟨w',h5,h6,h7,h8⟩:=gH vs (l.set o v) (o+1) _ h4 (by simp;omega) (λu hu=>hv u (by simp[hu])) (i+1) j om;refine⟨w',?_,h2.then h6,om,by rw[oJ];exact h8⟩;simp only[storeCells];rw[Sem.run_bind,show(Addr.mk b j N).add i=⟨b,o,N⟩from by rw[aI,ho],h1];exact h5
theorem gp{z:X}{w:J}{s:Sl}{cs:Y Q}(h:jN z w s cs)(n:X)(hn:n<=s.len):(Builtin.firstCells z n (.slice s.a s.len s.cap)).run P w= .ok ⟨cs.take (n*z)⟩ w:=by
 cases h with
 |nil ha hl hc hcs=>
  have:n=0:=om
  subst this;simp[Builtin.firstCells,ha]
 |mk b o l ha hb hl hc hcs=>
  have h1:n*z<=s.len*z:=LZ z hn;have h2:s.len*z<=s.cap*z:=LZ z hl;have hlen:(cs.take (n*z)).length=n*z:=by rw[hcs];simp;omega
  simp only[Builtin.firstCells,ha];unfold loadCells;have:=dA (P:=P) w ⟨b,o,N⟩ (cs.take (n*z)) 0 #[] (λj v hj=>by
   rw[dw,LS]at hj;split at hj
   .rw[hcs,LS]at hj
    split at hj
    .rw[LR]at hj
     rw[aI,LF,hb.cell];exact hj
    .cases hj
   .cases hj)
  rw[hlen]at this;rw[this];simp
theorem wa(n:X):∀(r c:X),Builtin.growBy n r c<=(c+1000)*2^r
 |0,c=>by simp[Builtin.growBy]
 |r+1,c=>by
  unfold Builtin.growBy;have hp:1<=2^r:=Nat.one_le_two_pow;split
  .rw[Pj]
   have:c+1000<=(c+1000)*(2^r*2):=by
    have:1<=2^r*2:=om
    exact Nat.le_mul_of_pos_right _ om
   omega
  .have h:=wa n r (c+(c+768) / 4)
   rw[Pj];have h2:c+(c+768) / 4+1000<=(c+1000)*2:=om
   calc _<=(c+(c+768) / 4+1000)*2^r:=h
    _<=((c+1000)*2)*2^r:=LZ _ h2
    _=(c+1000)*(2^r*2):=by rw[Nat.mul_assoc,OW 2]
theorem ux(n c:X):Builtin.nextslicecap n c<=n+16*c+16000:=by
 unfold Builtin.nextslicecap;split
 .omega
 .split
  .omega
  .have h:=wa n 4 c
   simp only[Nat.reducePow]at h;have h2:(c+1000)*16=16*c+16000:=by rw[MG,OW]
   rw[h2]at h;exact LY h (Nat.add_le_add_right (Nat.le_add_left _ _) _)
structure JX(z:X)(w:J)(s:Sl)(cs:Y Q)(s':Sl)(w':J):Prop where
 own:jN z w' s' cs
 sW:gg (λk=>∃a,s.a=S a/\a.block=k) w w'
 size:w'.heap.size<=w.heap.size+1
 here:s'.In λk=>(∃a,s.a=S a/\a.block=k)\/k=w.heap.size
theorem EB{T el:qi}{inf:qL}{zv:Q}{z:X}{w:J}{s x:Sl}{cs ds:Y Q}
  (hu:P.underlying T=S (.slice el)) (hi:P.info? el=S inf) (hz:inf.zero=S zv) (hsz:inf.size=z) (hzc:zv.cells.size=z) (hb:1<=inf.bytes)
  (hs:jN z w s cs) (hdl:ds.length=x.len*z) (hnew:∀abt:J,abt.heap=w.heap->(Builtin.firstCells z x.len (.slice x.a x.len x.cap)).run P abt= .ok ⟨ds⟩ abt) (hd:∀v∈ds,v.oneCell'=Z)
  (hbig:(17*(s.len+x.len)+16000)*inf.bytes<=2^48):
  ∃s' w',aM P [T,T] T (.slice s.a s.len s.cap) (.slice x.a x.len x.cap) w s' w'/\s'.len=s.len+x.len/\JX z w s (cs++ds) s' w':=by
 have hsize:∀w,(sizeOf el).run P w= .ok z w:=λw=>by rw[fu hi w];simp[sz,hi,hsz]
 have hinfo:∀w,(typeInfo el).run P w= .ok inf w:=λw=>by simp[typeInfo,hi]
 have hzero:∀w,(qK el).run P w= .ok zv w:=λw=>by simp[qK,hinfo,hz]
 have hcl:=hs.length;have hcells:=hnew w U;by_cases hcap:s.len+x.len<=s.cap
 .
  by_cases hnone:s.a=N
  .have hz0:s.len=0/\s.cap=0/\cs= []:=by
    cases hs with
    |nil _ h1 h2 h3=>exact⟨h1,h2,h3⟩
    |mk b o l h _ _ _ _=>rw[h]at hnone;cases hnone
   have hx0:x.len=0:=om
   have hds:ds= []:=by apply MA;rw[hdl,hx0];simp
   refine⟨⟨N,0,0⟩,w,?_,by simp[hz0.1,hx0],.nil U U U (by simp[hz0.2.2,hds]),gg.refl _ _,om,λa ha=>by cases ha⟩;unfold aM Builtin.append_;simp only[hnone,hz0.1,hz0.2.1]at*
   subst hds;rw[hx0]at hcells;simp[aU hu,hsize,Builtin.lenOf,hx0,hcells]
  .cases hs with
   |nil h _ _ _=>exact qj h hnone
   |mk b o l ha hbl hl hc hcs=>
    have hmul:(s.len+x.len)*z<=s.cap*z:=LZ z hcap;have hroom:o+s.len*z+ds.length<=l.length:=by rw[hdl];rw[MG]at hmul;omega
    obtain⟨w',h1,h2,h3,h4⟩:=gH (P:=P) ds l (o+s.len*z) w hbl hroom hd 0 (o+s.len*z) om;refine⟨⟨s.a,s.len+x.len,s.cap⟩,w',?_,U,?_,h2.mono λk _ hk=>⟨_,ha,hk.symm⟩,om,λa h=>?_⟩
    .unfold aM Builtin.append_
     simp only[MT,Mn,LG,Sem.run_bind,aU hu,Result.andThen_ok,hsize,Builtin.lenOf,Sem.run_pure,hcap,qC,LK,qy,MK];rw[hcells];simp only[Result.andThen_ok,ha,aI];rw[Sem.run_bind,h1];rfl
    .refine .mk b o _ ha h4 (by simpa using hcap) (by rw[gy];exact hc) ?_
     apply L5;intro i;have hsl:s.len*z<=s.cap*z:=LZ z hl;rw[LS];simp only[MG]at*
     by_cases hi':i<s.len*z+x.len*z
     .rw[qd hi',LR,cQ _ _ _ _ hroom]
      by_cases h5:i<s.len*z
      .rw[F om,LI om,hcs,LS,qd h5,LR]
      .rw[qd om,LH om]
       congr 1;omega
     .rw[F hi']
      apply L0;simp;omega
    .exact .inl ⟨a,h,U⟩
 .
  have hlc:=hs.gu
  let need:=s.len+x.len
  have hneed:¬need<=s.cap:=hcap
  let q:Question:= .appendCap need s.cap el
  let n:=q.cut (w.tape w.drawn q)
  have hle:=ux need s.cap;have hlim:¬(Builtin.nextslicecap need s.cap*inf.bytes>2^48):=by
   have h0:Builtin.nextslicecap need s.cap<=17*(s.len+x.len)+16000:=by refine LY hle ?_;show s.len+x.len+16*s.cap+16000<=_;generalize 16000=y;omega
   have:Builtin.nextslicecap need s.cap*inf.bytes<=(17*(s.len+x.len)+16000)*inf.bytes:=LZ _ h0;omega
  have hneedb:need<=2^48:=by have h1:(17*(s.len+x.len)+16000)*1<=(17*(s.len+x.len)+16000)*inf.bytes:=PN _ hb;show s.len+x.len<=_;omega
  have hn1:need<=n:=by show need<=need+_%_;omega
  let row:Y Q:=cs++ds++(Builtin.zeroCells zv.cells (n-need)).toList
  let w':=w.drew.alloc (.cells ⟨row⟩ el)
  have hold:∀abt:J,abt.heap=w.heap->(Builtin.firstCells z s.len (.slice s.a s.len s.cap)).run P abt= .ok ⟨cs⟩ abt:=λabt hW=>by
   have hs':jN z abt s cs:=by
    cases hs with
    |nil a b c d=>exact .nil a b c d
    |mk b o l a h c d e=>
     obtain⟨t,ht⟩:=h;exact .mk b o l a ⟨t,by rw[hW];exact ht⟩ c d e
   rw[gp hs' s.len (Lv _),<-hcl,Nt]
  refine⟨⟨S ⟨w.heap.size,0,N⟩,need,n⟩,w',?_,U,?_,((nh (w:=w) (w':=w.drew) U U U U).no (ej _ _)).FC,by simp[w'],λa h=> .inr (by cases h;rfl)⟩
  .unfold aM Builtin.append_
   simp only[MT,Mn,LG,Sem.run_bind,aU hu,Result.andThen_ok,hsize,Builtin.lenOf,Sem.run_pure,hcap,LK,qy,MK,hinfo];have hc1:¬(((s.len+x.len:X):O)>qf.max/\(qk\/inf.bytes=0)):=by
    rintro⟨_,h|h⟩
    .exact h
    .omega
   rw[F hc1,Sem.run_bind,hinfo];simp only[Result.andThen_ok];rw[F hlim,Sem.run_bind,run_choose];have hf:Question.forced (.appendCap (s.len+x.len) s.cap el)=false:=rfl;simp only[hf,LK,qy,Result.andThen_ok,World.drew_eq];rw[Sem.run_bind,hinfo];simp only[Result.andThen_ok];rw[Sem.run_bind,run_askRoom];simp only[Result.andThen_ok];rw[Sem.run_bind,hold w.drew U];simp only[Result.andThen_ok,qC];rw[Sem.run_bind,hnew w.drew U];simp only[Result.andThen_ok];rw[Sem.run_bind,hzero];simp only[Result.andThen_ok,newRow,Sem.run_bind,run_newObj,Sem.run_pure];have hrow:((⟨cs⟩:qo Q)++⟨ds⟩++Builtin.zeroCells zv.cells (n-need))=⟨row⟩:=by apply NV;simp[row]
   show Result.ok (Value.slice (S ⟨w.heap.size,0,N⟩) (s.len+x.len) n) (w.drew.alloc (.cells ((⟨cs⟩:qo Q)++⟨ds⟩++Builtin.zeroCells zv.cells (n-need)) el))=_;rw[hrow]
  .have hzl:(Builtin.zeroCells zv.cells (n-need)).toList.length=(n-need)*z:=by simp[Builtin.zeroCells,hzc]
   have hrl:row.length=n*z:=by simp only[row,LC,hcl,hdl,hzl];rw[<-MG,<-MG];congr 1;show s.len+x.len+(n-(s.len+x.len))=n;have:s.len+x.len<=n:=hn1;omega
   refine .mk w.heap.size 0 row U ⟨el,?_⟩ hn1 (by rw[hrl];show 0+n*z<=n*z;omega) ?_
   .exact heap_alloc_new w.drew _
   .show cs++ds=(row.drop 0).take ((s.len+x.len)*z)
    have:(s.len+x.len)*z=(cs++ds).length:=by rw[LC,hcl,hdl,MG]
    rw[this,M3];simp only[row];rw[NH]
theorem uf{z:X}{w:J}{x:Sl}{ds:Y Q}(hx:jN z w x ds):∀abt:J,abt.heap=w.heap->(Builtin.firstCells z x.len (.slice x.a x.len x.cap)).run P abt= .ok ⟨ds⟩ abt:=λabt hW=>by
 have hdl:=hx.length;have hx':jN z abt x ds:=by
  cases hx with
  |nil a b c d=>exact .nil a b c d
  |mk b o l a h c d e=>
   obtain⟨t,ht⟩:=h;exact .mk b o l a ⟨t,by rw[hW];exact ht⟩ c d e
 rw[gp hx' x.len (Lv _),<-hdl,Nt]
theorem fY{α β:Type}(f:α->β):∀(l:Y α)(i:X),(l.eraseIdx i).map f=(l.map f).eraseIdx i
 | [],_=>rfl
 |_::_,0=>rfl
 |a::l,i+1=>by simp[fY f l i]
end
section
variable{K abv:Type}[qP K]
def de:Y (K × abv)->K->qh abv
 | [],_=>N
 |(a,v)::l,k=>if a=k then S v else de l k
def iW:Y (K × abv)->K->abv->Y (K × abv)
 | [],k,v=>[(k,v)]
 |(a,u)::l,k,v=>if a=k then(a,v)::l else(a,u)::iW l k v
def ko:Y (K × abv)->K->Y (K × abv)
 | [],_=>[]
 |(a,u)::l,k=>if a=k then l else(a,u)::ko l k
theorem nD(l:Y (K × abv))(k:K)(v:abv)(x:K):de (iW l k v) x=if k=x then S v else de l x:=by
 induction l with
 |nil=>simp[iW,de]
 |cons p l ih=>
  obtain⟨a,u⟩:=p;simp only[iW];by_cases h:a=k
  .subst h;simp only[qC,de];split<;>rfl
  .simp only[h,qy,de,ih]
   by_cases h2:a=x
   .subst h2;rw[qd U,F (λe=>h e.symm)];simp
   .simp[h2]
theorem pL{l:Y (K × abv)}{k:K}{v:abv}(h:de l k=S v):(k,v)∈l:=by
 induction l with
 |nil=>cases h
 |cons p l ih=>
  obtain⟨a,u⟩:=p;simp only[de]at h;split at h
  .rename_i e;subst e;cases h;simp
  .exact MF _ (ih h)
theorem eW{l:Y (K × abv)}{k:K}:de l k=N↔k∉l.map (·.1):=by
 induction l with
 |nil=>simp[de]
 |cons p l ih=>
  obtain⟨a,u⟩:=p;simp only[de,L1,LD,not_or];split
  .rename_i e;subst e;simp
  .rename_i e;rw[ih];exact⟨λh=>⟨λe'=>e e'.symm,h⟩,λh=>h.2⟩
theorem rJ{l:Y (K × abv)}(hn:(l.map (·.1)).Nodup)(k x:K):de (ko l k) x=if k=x then N else de l x:=by
 induction l with
 |nil=>simp[ko,de]
 |cons p l ih=>
  obtain⟨a,u⟩:=p;simp only[L1,Mj]at hn;simp only[ko];by_cases h:a=k
  .subst h
   simp only[qC,de];by_cases h2:a=x
   .subst h2;rw[qd U];exact eW.2 hn.1
   .simp[h2]
  .simp only[h,qy,de,ih hn.2]
   by_cases h2:a=x
   .subst h2;rw[qd U,F (λe=>h e.symm)];simp
   .simp[h2]
theorem De{l:Y (K × abv)}(k:K)(v:abv)(x:K):x∈(iW l k v).map (·.1)↔x=k\/x∈l.map (·.1):=by
 induction l with
 |nil=>simp[iW]
 |cons p l ih=>
  obtain⟨a,u⟩:=p;simp only[iW];by_cases h:a=k
  .subst h;simp
  .simp only[h,qy,L1,LD,ih]
   constructor
   .rintro (h|h|h)<;>simp[h]
   .rintro (h|h|h)<;>simp[h]
theorem oC{l:Y (K × abv)}(hn:(l.map (·.1)).Nodup)(k:K)(v:abv):((iW l k v).map (·.1)).Nodup:=by
 induction l with
 |nil=>simp[iW]
 |cons p l ih=>
  obtain⟨a,u⟩:=p;simp only[L1,Mj]at hn;simp only[iW];by_cases h:a=k
  .subst h;simpa using hn
  .simp only[h,qy,L1,Mj]
   refine⟨λhm=>?_,ih hn.2⟩;rcases (De k v a).1 hm with h1|h1
   .exact h h1
   .exact hn.1 h1
theorem xe(l:Y (K × abv))(k:K):(ko l k).Sublist l:=by
 induction l with
 |nil=>exact .slnil
 |cons p l ih=>
  obtain⟨a,u⟩:=p;simp only[ko];split
  .exact List.sublist_cons_self _ _
  .exact ih.cons_cons _
theorem oB{l:Y (K × abv)}(hn:(l.map (·.1)).Nodup)(k:K):((ko l k).map (·.1)).Nodup:=List.Nodup.sublist ((xe l k).map _) hn
end
structure jM(P:qq)(kt:qi){K:Type}[qP K](enc:K->Q):Prop where
 check:∀b k w,(Instr.checkKey b 10000 kt (enc k)).run P w= .ok () w
 find:∀(k:K)(es:Y qE)(ks:Y K)(w:J),es.map (·.key)=ks.map enc->
  (Instr.findKey kt (enc k) es).run P w= .ok ((ks.findIdx? λx=>V (x=k)).bind λi=>(es[i]?).map λe=>(i,e.val)) w
 same:∀k,Instr.sameBits 10000 (enc k) (enc k)=Z
structure jI{K abv:Type}(enc:K->Q)(encV:abv->Q)(w:J)(m:X)(L:Y (K × abv)):Prop where
 ex:∃es c,lN w m es c/\es.toList.map (λe=>(e.key,e.val))=L.map (λp=>(enc p.1,encV p.2))/\(es.toList.map (·.born)).Nodup/\∀e∈es.toList,e.born<c
 nodup:(L.map (·.1)).Nodup
theorem jI.lt{K abv:Type}{enc:K->Q}{encV:abv->Q}{w:J}{m:X}{L:Y (K × abv)}(h:jI enc encV w m L):m<w.heap.size:=by obtain⟨es,c,h,_⟩:=h.ex;exact h.lt
theorem jI.sW{K abv:Type}{enc:K->Q}{encV:abv->Q}{abu:X->Prop}{w w':J}{m:X}{L:Y (K × abv)}(h:jI enc encV w m L)(u:gg abu w w')(hn:¬abu m):jI enc encV w' m L:=by obtain⟨es,c,h1,h2⟩:=h.ex;exact⟨⟨es,c,h1.sW u hn,h2⟩,h.nodup⟩
section
variable{P:qq}{T kt el:qi}{K abv:Type}[qP K]{enc:K->Q}{encV:abv->Q}
theorem run_getObj_map{w:J}{m:X}{es:qo qE}{c:X}(h:lN w m es c):(getObj m).run P w= .ok (.map es c) w:=by unfold lN at h;simp[getObj,Sem.run,h]
theorem run_setObj_map{w:J}{m:X}{es:qo qE}{c:X}(h:lN w m es c)(o:Obj):(setObj m o).run P w= .ok () { w with heap:=w.heap.setIfInBounds m o}:=by unfold lN at h;simp[setObj,Sem.run,h]
theorem lu(w:J)(m:X)(o:Obj):gg (·=m) w { w with heap:=w.heap.setIfInBounds m o}:=
 ⟨rfl,rfl,rfl,qc,λk _ hn=>by show(w.heap.setIfInBounds m o)[k]?=_;rw[Nn (λe=>hn e.symm)]⟩
theorem kO{w:J}{m:X}{es:qo qE}{c:X}(h:lN w m es c)(es':qo qE)(c':X):lN { w with heap:=w.heap.setIfInBounds m (.map es' c')} m es' c':=by have:=h.lt;show(w.heap.setIfInBounds m _)[m]?=_;rw[NN this]
theorem xo(L:Y (K × abv))(k:K):∀v,de L k=S v↔∃i,(L.map (·.1)).findIdx? (λx=>V (x=k))=S i/\L[i]?.map (·.2)=S v:=by
 intro v;induction L with
 |nil=>simp[de]
 |cons p l ih=>
  obtain⟨a,u⟩:=p;simp only[de,L1,NG];by_cases h:a=k
  .simp[h]
  .simp only[h,qy,decide_false,LK,ih]
   constructor
   .rintro ⟨i,h1,h2⟩;exact⟨i+1,by simp[h1],by simpa using h2⟩
   .rintro ⟨i,h1,h2⟩
    simp only[MZ]at h1;obtain⟨j,h1,rfl⟩:=h1;exact⟨j,h1,by simpa using h2⟩
theorem xp(L:Y (K × abv))(k:K):de L k=N↔(L.map (·.1)).findIdx? (λx=>V (x=k))=none:=by
 rw[eW,List.findIdx?_eq_none_iff];constructor
 .intro h x hx;simp;intro e;subst e;exact h hx
 .intro h hx;have:=h k hx;simp at this
theorem mv{es:Y qE}{L:Y (K × abv)}(h:es.map (λe=>(e.key,e.val))=L.map (λp=>(enc p.1,encV p.2))):es.map (·.key)=(L.map (·.1)).map enc:=by have:=qz (List.map Prod.fst) h;simpa [Function.comp_def]using this
theorem yW{es:Y qE}{L:Y (K × abv)}(h:es.map (λe=>(e.key,e.val))=L.map (λp=>(enc p.1,encV p.2)))(i:X):(es[i]?).map (·.val)=(L[i]?).map λp=>encV p.2:=by have:=qz (λl=>(l[i]?).map Prod.snd) h;simpa [Function.comp_def]using this
theorem rA(hk:jM P kt enc){es:qo qE}{L:Y (K × abv)}(h:es.toList.map (λe=>(e.key,e.val))=L.map (λp=>(enc p.1,encV p.2))){k:K}{v:abv}(hl:de L k=S v)(w:J):
  ∃i,(Instr.findKey kt (enc k) es.toList).run P w= .ok (S (i,encV v)) w/\(L.map (·.1)).findIdx? (λx=>V (x=k))=S i:=by
 obtain⟨i,h1,h2⟩:=(xo L k v).1 hl;refine⟨i,?_,h1⟩;rw[hk.find k es.toList (L.map (·.1)) w (mv h),h1];simp only[OO];have hv:=yW h i;have:(L[i]?).map (λp=>encV p.2)=S (encV v):=by have:=qz (Option.map encV) h2;simpa [Function.comp_def]using this
 rw[this]at hv;cases he:es.toList[i]? with
 |none=>rw[he]at hv;simp at hv
 |some e=>rw[he]at hv;simp at hv;simp[hv]
theorem np(hk:jM P kt enc){es:qo qE}{L:Y (K × abv)}(h:es.toList.map (λe=>(e.key,e.val))=L.map (λp=>(enc p.1,encV p.2))){k:K}(hl:de L k=N)(w:J):
  (Instr.findKey kt (enc k) es.toList).run P w= .ok N w:=by
 rw[hk.find k es.toList (L.map (·.1)) w (mv h),(xp L k).1 hl];rfl
theorem jI.Dq(hu:P.underlying T=S (.map kt el))(hk:jM P kt enc){w:J}{m:X}{L:Y (K × abv)}(h:jI enc encV w m L){k:K}{v:abv}(hl:de L k=S v):
  sC P T (.map (S m)) (enc k) (encV v) Z w/\yv P T (.map (S m)) (enc k) (encV v) w:=by
 obtain⟨es,c,h1,h2,_⟩:=h.ex;obtain⟨i,h3,_⟩:=rA hk h2 hl w;constructor
 .unfold sC Instr.lookup
  simp only[Sem.run_bind,aU hu,Result.andThen_ok,run_getObj_map h1,Sem.run_pure,hk.check,h3,qC]
 .unfold yv Instr.lookup
  simp only[Sem.run_bind,aU hu,Result.andThen_ok,run_getObj_map h1,Sem.run_pure,hk.check,h3,LK,qy]
theorem jI.eW(hu:P.underlying T=S (.map kt el))(hk:jM P kt enc){z:Q}(hz:∀w,(qK el).run P w= .ok z w){w:J}{m:X}{L:Y (K × abv)}(h:jI enc encV w m L){k:K}(hl:de L k=N):
  sC P T (.map (S m)) (enc k) z G w/\yv P T (.map (S m)) (enc k) z w:=by
 obtain⟨es,c,h1,h2,_⟩:=h.ex;have h3:=np hk h2 hl w;constructor
 .unfold sC Instr.lookup
  simp only[Sem.run_bind,aU hu,Result.andThen_ok,run_getObj_map h1,Sem.run_pure,hk.check,h3,hz,qC]
 .unfold yv Instr.lookup
  simp only[Sem.run_bind,aU hu,Result.andThen_ok,run_getObj_map h1,Sem.run_pure,hk.check,h3,hz,LK,qy]
theorem yH:∀(L:Y (K × abv))(k:K)(v:abv)(i:X),(L.map (·.1)).findIdx? (λx=>V (x=k))=S i->iW L k v=L.set i (k,v)
 | [],k,v,i,h=>by simp at h
 |(a,u)::l,k,v,i,h=>by
  simp only[L1,NG]at h;simp only[iW];by_cases e:a=k
  .subst e
   simp only[decide_true,qC,Option.some.injEq]at h;subst h;simp
  .simp only[e,decide_false,LK,qy,MZ]at h
   obtain⟨j,h,rfl⟩:=h;simp[e,yH l k v j h]
theorem yG:∀(L:Y (K × abv))(k:K)(v:abv),de L k=N->iW L k v=L++ [(k,v)]
 | [],k,v,_=>rfl
 |(a,u)::l,k,v,h=>by
  simp only[de]at h;split at h
  .cases h
  .rename_i e;simp[iW,e,yG l k v h]
theorem tW:∀(L:Y (K × abv))(k:K)(i:X),(L.map (·.1)).findIdx? (λx=>V (x=k))=S i->ko L k=L.eraseIdx i
 | [],k,i,h=>by simp at h
 |(a,u)::l,k,i,h=>by
  simp only[L1,NG]at h;simp only[ko];by_cases e:a=k
  .subst e
   simp only[decide_true,qC,Option.some.injEq]at h;subst h;simp
  .simp only[e,decide_false,LK,qy,MZ]at h
   obtain⟨j,h,rfl⟩:=h;simp[e,tW l k j h]
theorem vO:∀(L:Y (K × abv))(k:K),de L k=N->ko L k=L
 | [],k,_=>rfl
 |(a,u)::l,k,h=>by
  simp only[de]at h;split at h
  .cases h
  .rename_i e;simp[ko,e,vO l k h]
theorem jI.put(hu:P.underlying T=S (.map kt el))(hk:jM P kt enc){w:J}{m:X}{L:Y (K × abv)}(h:jI enc encV w m L)(k:K)(v:abv):
  ∃w',gh P T (.map (S m)) (enc k) (encV v) w w'/\gg (·=m) w w'/\w'.heap.size=w.heap.size/\jI enc encV w' m (iW L k v):=by
 obtain⟨es,c,h1,h2,h3,h4⟩:=h.ex;cases hl:de L k with
 |some u=>
  obtain⟨i,h5,h6⟩:=rA hk h2 hl w;have hi:i<L.length:=by have:=(L9.1 h6).1;simpa using this
  have hlen:es.size=L.length:=by have:=qz List.length h2;simpa using this
  have hkey:((es[i]?).map (·.key)).getD (enc k)=enc k:=by
   have h7:=qz (λl=>l[i]?) (mv h2);obtain⟨h8,h9,_⟩:=L9.1 h6;have h9:L[i].1=k:=by simpa using h9
   simp only[LV,L8,gE hi,Mx,h9]at h7;rw[h7];rfl
  refine⟨_,?_,lu w m _,qc,⟨⟨_,_,kO h1 (es.modify i λe=>{ e with key:=enc k,val:=encV v}) c,?_,?_,?_⟩,oC h.nodup k v⟩⟩
  .unfold gh Instr.mapUpdate
   simp only[Sem.run_bind,aU hu,Result.andThen_ok,run_getObj_map h1,hk.check,h5,hkey,Instr.keyThatStays,hk.same,qC,Sem.run_pure];exact run_setObj_map h1 _
  .rw[yH L k v i h6]
   apply L5;intro j;have h7:=qz (λl=>l[j]?) h2;simp only[LV,L8,NF,Mb]at h7|-;by_cases e:i=j
   .subst e
    have:i<es.size:=om
    simp[hi,this]
   .simp only[e,qy];exact h7
  .have:(es.modify i λe=>{ e with key:=enc k,val:=encV v}).toList.map (·.born)=es.toList.map (·.born):=by
    apply L5;intro j;simp only[LV,L8,NF];by_cases e:i=j
    .subst e;cases es[i]?<;>simp
    .simp[e]
   rw[this];exact h3
  .intro e he
   obtain⟨j,hj⟩:=Mp.1 he;simp only[L8,NF]at hj;by_cases e':i=j
   .subst e'
    simp only[qC,MZ]at hj;obtain⟨x,hx,rfl⟩:=hj;exact h4 x (Mp.2 ⟨i,by simpa using hx⟩)
   .simp only[e',qy]at hj
    exact h4 e (Mp.2 ⟨j,by simpa using hj⟩)
 |none=>
  have h5:=np hk h2 hl w;refine⟨_,?_,lu w m _,qc,⟨⟨_,_,kO h1 (es.push { key:=enc k,val:=encV v,born:=c}) (c+1),?_,?_,?_⟩,oC h.nodup k v⟩⟩
  .unfold gh Instr.mapUpdate
   simp only[Sem.run_bind,aU hu,Result.andThen_ok,run_getObj_map h1,hk.check,h5];exact run_setObj_map h1 _
  .rw[yG L k v hl]
   simp[h2]
  .simp only[P0,List.map_append,L1,M9]
   rw[List.nodup_append];refine⟨h3,qc,?_⟩;intro a ha b hb;simp only[Mk]at hb;subst hb;obtain⟨e,he,rfl⟩:=L2.1 ha;have:=h4 e he;omega
  .intro e he
   simp only[P0,Mm,Mk]at he;rcases he with he|he
   .have:=h4 e he;omega
   .subst he;show c<c+1;omega
theorem jI.del(hu:P.underlying T=S (.map kt el))(hk:jM P kt enc){w:J}{m:X}{L:Y (K × abv)}{t:qi}{ts:Y qi}(h:jI enc encV w m L)(k:K):
  ∃w',wS P (T::ts) t (.map (S m)) (enc k) w w'/\gg (·=m) w w'/\w'.heap.size=w.heap.size/\jI enc encV w' m (ko L k):=by
 obtain⟨es,c,h1,h2,h3,h4⟩:=h.ex;cases hl:de L k with
 |some u=>
  obtain⟨i,h5,h6⟩:=rA hk h2 hl w;refine⟨_,?_,lu w m _,qc,⟨⟨_,_,kO h1 (es.eraseIdxIfInBounds i) c,?_,?_,?_⟩,oB h.nodup k⟩⟩
  .unfold wS Builtin.delete_
   simp only[MT,Mn,LG,Sem.run_bind,aU hu,Result.andThen_ok,run_getObj_map h1,hk.check,h5];rw[run_setObj_map h1];rfl
  .rw[tW L k i h6]
   simp only[N7];rw[fY,fY,h2]
  .simp only[N7]
   rw[fY];exact List.Nodup.sublist (NZ _ _) h3
  .intro e he
   simp only[N7]at he;exact h4 e ((NZ _ _).mem he)
 |none=>
  have h5:=np hk h2 hl w;refine⟨_,?_,lu w m _,qc,⟨⟨_,_,kO h1 es c,?_,h3,h4⟩,oB h.nodup k⟩⟩
  .unfold wS Builtin.delete_
   simp only[MT,Mn,LG,Sem.run_bind,aU hu,Result.andThen_ok,run_getObj_map h1,hk.check,h5];rw[run_setObj_map h1];rfl
  .rw[vO L k hl];exact h2
theorem aX(j:qM)(hu:P.underlying kt=S (.int j)):jM P kt (λn:O=>Value.int j n):=by
 have hfind:∀(k:O)(es:Y qE)(ks:Y O)(i:X),es.map (·.key)=ks.map (λn=>Value.int j n)->
   Instr.findNow (.int j) (.int j k) es i=S ((ks.findIdx? λx=>V (x=k)).bind λq=>(es[q]?).map λe=>(q+i,e.val)):=by
  intro k es;induction es with
  |nil=>intro ks i h;cases ks with
   |nil=>rfl
   |cons _ _=>simp at h
  |cons e es ih=>
   intro ks i h;cases ks with
   |nil=>simp at h
   |cons x ks=>
    simp only[L1,List.cons.injEq]at h;simp only[Instr.findNow,h.1,Instr.sameNow,qC];by_cases hx:x=k
    .subst hx;simp[NG]
    .have:(k==x)=false:=by simpa using λe=>hx e.symm
     rw[this];simp only[ih ks (i+1) h.2,NG,hx,decide_false,LK,qy];cases hq:ks.findIdx? (λx=>V (x=k))with
     |none=>rfl
     |some q=>
      simp only[OO,Mx,LG];congr 2;funext e;congr 1;omega
 refine⟨λb k w=>?_,λk es ks w h=>?_,λk=>by unfold Instr.sameBits;simp⟩
 .unfold Instr.checkKey
  rw[Sem.run_bind,aU hu];rfl
 .unfold Instr.findKey
  rw[Sem.run_bind,aU hu];simp only[Result.andThen_ok,hfind k es ks 0 h,NB];rfl
end
structure aH where
 holds:(X->Prop)->J->Prop
 loc:∀(abx:X->Prop)(w w':J),holds abx w->(∀k,abx k->w'.heap[k]?=w.heap[k]?)->holds abx w'
 up:∀(abx G':X->Prop)(w:J),holds abx w->(∀k,abx k->G' k)->holds G' w
def fM(B:X)(w:J)(L:Y aH):Prop:=
 ∃abr:Y (aH ×(X->Prop)),abr.map (·.1)=L/\(∀p∈abr,p.1.holds p.2 w/\∀k,p.2 k->B<=k/\k<w.heap.size)/\abr.Pairwise λp q=>∀k,p.2 k->¬q.2 k
structure Ow(B:X)(w0 w:J)(L:Y aH):Prop where
 base:B<=w0.heap.size
 sW:gg (B<=·) w0 w
 held:fM B w L
section
variable{B:X}{w0 w:J}{L R:Y aH}
theorem Ow.size(h:Ow B w0 w L):B<=w.heap.size:=LY h.base h.sW.size
theorem Ow.below(h:Ow B w0 w L):RowKit.Below B w0 w:=h.sW.below h.base λ_ h=>h
theorem Ow.start(w:J):Ow w.heap.size w w []:=⟨Lv _,gg.refl _ _,[],U,qc,.nil⟩
theorem fM.take(h:fM B w L)(i:X){A:aH}(hi:L[i]?=S A):fM B w (A::L.eraseIdx i):=by
 obtain⟨abr,h1,h2,h3⟩:=h;subst h1;rw[LV]at hi;cases hz:abr[i]? with
 |none=>rw[hz]at hi;cases hi
 |some p=>
  rw[hz]at hi;simp only[Mx,Option.some.injEq]at hi;subst hi;refine⟨p::abr.eraseIdx i,by simp[fY],?_,?_⟩
  .intro q hq
   rcases LD.1 hq with rfl|hq
   .exact h2 _ (L4 hz)
   .exact h2 _ ((NZ _ _).mem hq)
  .refine My.2 ⟨?_,h3.sublist (NZ _ _)⟩
   have:∀(abr:Y (aH ×(X->Prop)))(i:X),abr[i]?=S p->abr.Pairwise (λp q=>∀k,p.2 k->¬q.2 k)->∀q∈abr.eraseIdx i,∀k,p.2 k->¬q.2 k:=by
    intro abr;induction abr with
    |nil=>intro i h;simp at h
    |cons x abr ih=>
     intro i hi hp q hq;obtain⟨hx,hZ⟩:=My.1 hp;cases i with
     |zero=>simp at hi;subst hi;exact hx q (by simpa using hq)
     |succ i=>
      simp only[LG]at hi;simp only[Nk,LD]at hq;rcases hq with rfl|hq
      .intro k hk hq';exact hx p (L4 hi) k hq' hk
      .exact ih i hi hZ q hq
   exact this abr i hz h3
theorem fM.drop{A:aH}(h:fM B w (A::R)):fM B w R:=by
 obtain⟨abr,h1,h2,h3⟩:=h;cases abr with
 |nil=>cases h1
 |cons p abr=>
  simp only[L1,List.cons.injEq]at h1;exact⟨abr,h1.2,λq hq=>h2 q (by simp[hq]),(My.1 h3).2⟩
theorem fM.dj{A:aH}(h:fM B w (A::R)):∃abx:X->Prop,A.holds abx w/\(∀k,abx k->B<=k/\k<w.heap.size)/\
  ∃abr:Y (aH ×(X->Prop)),abr.map (·.1)=R/\(∀p∈abr,p.1.holds p.2 w/\∀k,p.2 k->B<=k/\k<w.heap.size)/\abr.Pairwise (λp q=>∀k,p.2 k->¬q.2 k)/\∀q∈abr,∀k,abx k->¬q.2 k:=by
 obtain⟨abr,h1,h2,h3⟩:=h;cases abr with
 |nil=>cases h1
 |cons p abr=>
  simp only[L1,List.cons.injEq]at h1;obtain⟨rfl,h1⟩:=h1;obtain⟨h4,h5⟩:=h2 p qc;exact⟨p.2,h4,h5,abr,h1,λq hq=>h2 q (by simp[hq]),(My.1 h3).2,(My.1 h3).1⟩
theorem fM.nk{A:aH}{abx:X->Prop}(hA:A.holds abx w)(hG:∀k,abx k->B<=k/\k<w.heap.size){abr:Y (aH ×(X->Prop))}(h1:abr.map (·.1)=R)
  (h2:∀p∈abr,p.1.holds p.2 w/\∀k,p.2 k->B<=k/\k<w.heap.size) (h3:abr.Pairwise λp q=>∀k,p.2 k->¬q.2 k) (h4:∀q∈abr,∀k,abx k->¬q.2 k):fM B w (A::R):=
 ⟨(A,abx)::abr,by simp[h1],λp hp=>by
  rcases LD.1 hp with rfl|hp
  .exact ⟨hA,hG⟩
  .exact h2 p hp,My.2 ⟨h4,h3⟩⟩
theorem fM.step{A A':aH}{w':J}(h:fM B w (A::R))
  (hs:∀abx,A.holds abx w->(∀k,abx k->B<=k/\k<w.heap.size)->gg abx w w'/\∃G',A'.holds G' w'/\∀k,G' k->(abx k\/w.heap.size<=k)/\k<w'.heap.size) (hB:B<=w.heap.size):fM B w' (A'::R):=by
 obtain⟨abx,hA,hG,abr,h1,h2,h3,h4⟩:=h.dj;obtain⟨hu,G',hA',hG'⟩:=hs abx hA hG;refine fM.nk hA' (λk hk=>?_) h1 (λp hp=>?_) h3 (λq hq k hk hq'=>?_)
 .obtain ⟨h5,h6⟩:=hG' k hk
  refine⟨?_,h6⟩;rcases h5 with h5|h5
  .exact (hG k h5).1
  .omega
 .obtain ⟨h5,h6⟩:=h2 p hp
  refine⟨p.1.loc p.2 w w' h5 λk hk=>hu.block k (h6 k hk).2 λhGk=>h4 p hp k hGk hk,λk hk=>⟨(h6 k hk).1,MR (h6 k hk).2 hu.size⟩⟩
 .obtain ⟨h5,h6⟩:=hG' k hk
  rcases h5 with h5|h5
  .exact h4 q hq k h5 hq'
  .have:=((h2 q hq).2 k hq').2;omega
theorem fM.new{A':aH}{w':J}(h:fM B w R)(hu:gg No w w'){G':X->Prop}(hA':A'.holds G' w')(hG':∀k,G' k->w.heap.size<=k/\k<w'.heap.size)(hB:B<=w.heap.size):fM B w' (A'::R):=by
 obtain⟨abr,h1,h2,h3⟩:=h;refine fM.nk hA' (λk hk=>?_) h1 (λp hp=>?_) h3 (λq hq k hk hq'=>?_)
 .have:=hG' k hk;omega
 .obtain ⟨h5,h6⟩:=h2 p hp
  exact⟨p.1.loc p.2 w w' h5 λk hk=>hu.block k (h6 k hk).2 λh=>h,λk hk=>⟨(h6 k hk).1,MR (h6 k hk).2 hu.size⟩⟩
 .have:=hG' k hk;have:=((h2 q hq).2 k hq').2;omega
theorem fM.same{w':J}(h:fM B w R)(hu:gg No w w'):fM B w' R:=by obtain⟨abr,h1,h2,h3⟩:=h;refine⟨abr,h1,λp hp=>?_,h3⟩;obtain⟨h5,h6⟩:=h2 p hp;exact⟨p.1.loc p.2 w w' h5 λk hk=>hu.block k (h6 k hk).2 λh=>h,λk hk=>⟨(h6 k hk).1,MR (h6 k hk).2 hu.size⟩⟩
theorem Dy{α β:Type _}(f:α->β){L L':Y β}(hp:L.Perm L'):∀abr:Y α,abr.map f=L->∃Z':Y α,Z'.Perm abr/\Z'.map f=L':=by
 induction hp with
 |nil=>intro abr h;exact⟨abr,.refl _,h⟩
 |cons x _ ih=>
  intro abr h;cases abr with
  |nil=>simp at h
  |cons z abr=>
   simp only[L1,List.cons.injEq]at h;obtain⟨Z',h1,h2⟩:=ih abr h.2;exact⟨z::Z',h1.cons z,by simp[h.1,h2]⟩
 |swap x y l=>
  intro abr h
  match abr,h with
  |a::b::abr,h=>
   simp only[L1,List.cons.injEq]at h;exact⟨b::a::abr,List.Perm.swap _ _ _,by simp[h.1,h.2.1,h.2.2]⟩
 |trans _ _ ih1 ih2=>
  intro abr h;obtain⟨Z1,h1,h2⟩:=ih1 abr h;obtain⟨Z2,h3,h4⟩:=ih2 Z1 h2;exact⟨Z2,h3.trans h1,h4⟩
theorem fM.perm{L':Y aH}(h:fM B w L)(hp:L.Perm L'):fM B w L':=by obtain⟨abr,h1,h2,h3⟩:=h;obtain⟨Z',h4,h5⟩:=Dy (·.1) hp abr h1;exact⟨Z',h5,λp hp=>h2 p (h4.mem_iff.1 hp),h3.perm h4.symm λhR k hk hk'=>hR k hk' hk⟩
theorem Ow.perm{L':Y aH}(h:Ow B w0 w L)(hp:L.Perm L'):Ow B w0 w L':=⟨h.base,h.sW,h.held.perm hp⟩
theorem Ow.take(h:Ow B w0 w L)(i:X){A:aH}(hi:L[i]?=S A):Ow B w0 w (A::L.eraseIdx i):=⟨h.base,h.sW,h.held.take i hi⟩
theorem Ow.drop{A:aH}(h:Ow B w0 w (A::R)):Ow B w0 w R:=⟨h.base,h.sW,h.held.drop⟩
theorem Ow.step{A A':aH}{w':J}(h:Ow B w0 w (A::R))
  (hs:∀abx,A.holds abx w->(∀k,abx k->B<=k/\k<w.heap.size)->gg abx w w'/\∃G',A'.holds G' w'/\∀k,G' k->(abx k\/w.heap.size<=k)/\k<w'.heap.size):Ow B w0 w' (A'::R):=by
 refine⟨h.base,?_,h.held.step hs h.size⟩;obtain⟨abx,hA,hG,_⟩:=h.held.dj;exact h.sW.trans (hs abx hA hG).1 λk _ hk=>(hG k hk).1
theorem Ow.new{A':aH}{w':J}(h:Ow B w0 w R)(hu:gg No w w'){G':X->Prop}(hA':A'.holds G' w')(hG':∀k,G' k->w.heap.size<=k/\k<w'.heap.size):Ow B w0 w' (A'::R):=
 ⟨h.base,h.sW.no hu,h.held.new hu hA' hG' h.size⟩
theorem Ow.same{w':J}(h:Ow B w0 w R)(hu:gg No w w'):Ow B w0 w' R:=⟨h.base,h.sW.no hu,h.held.same hu⟩
theorem Ow.head{A:aH}{p:Prop}(h:Ow B w0 w (A::R))(hp:∀abx,A.holds abx w->p):p:=by obtain⟨abx,hA,_⟩:=h.held.dj;exact hp abx hA
theorem Ow.conv{A A':aH}(h:Ow B w0 w (A::R))(hc:∀abx,A.holds abx w->A'.holds abx w):Ow B w0 w (A'::R):=
 h.step λabx hA hG=>⟨gg.refl _ _,abx,hc abx hA,λk hk=>⟨.inl hk,(hG k hk).2⟩⟩
def aa(b:X)(l:Y Q):aH where
 holds abx w:=abx b/\rm w b l
 loc abx w w' h hk:=⟨h.1,by obtain⟨t,ht⟩:=h.2;exact⟨t,by rw[hk b h.1];exact ht⟩⟩
 up abx G' w h hk:=⟨hk b h.1,h.2⟩
def Ec(z:X)(s:Sl)(cs:Y Q):aH where
 holds abx w:=s.In abx/\jN z w s cs
 loc abx w w' h hk:=⟨h.1,by
  cases h.2 with
  |nil a b c d=>exact .nil a b c d
  |mk b o l a hb c d e=>
   obtain⟨t,ht⟩:=hb;exact .mk b o l a ⟨t,by rw[hk b (h.1 _ a)];exact ht⟩ c d e⟩
 up abx G' w h hk:=⟨λa ha=>hk _ (h.1 a ha),h.2⟩
def kl{K abv:Type}(enc:K->Q)(encV:abv->Q)(m:X)(L:Y (K × abv)):aH where
 holds abx w:=abx m/\jI enc encV w m L
 loc abx w w' h hk:=⟨h.1,by obtain⟨es,c,h1,h2⟩:=h.2.ex;exact⟨⟨es,c,by unfold lN at *;rw[hk m h.1];exact h1,h2⟩,h.2.nodup⟩⟩
 up abx G' w h hk:=⟨hk m h.1,h.2⟩
def dh(p:Prop):aH where
 holds _ _:=p
 loc _ _ _ h _:=h
 up _ _ _ h _:=h
def sB{α:Type}(f:α->aH):aH where
 holds abx w:=∃x,(f x).holds abx w
 loc abx w w' h hk:=by obtain⟨x,h⟩:=h;exact⟨x,(f x).loc abx w w' h hk⟩
 up abx G' w h hk:=by obtain⟨x,h⟩:=h;exact⟨x,(f x).up abx G' w h hk⟩
def cj(M:Y aH):aH where
 holds abx w:=∃abr:Y (aH ×(X->Prop)),abr.map (·.1)=M/\(∀p∈abr,p.1.holds p.2 w/\∀k,p.2 k->abx k)/\abr.Pairwise λp q=>∀k,p.2 k->¬q.2 k
 loc abx w w' h hk:=by obtain⟨abr,h1,h2,h3⟩:=h;exact⟨abr,h1,λp hp=>⟨p.1.loc p.2 w w' (h2 p hp).1 λk hk'=>hk k ((h2 p hp).2 k hk'),(h2 p hp).2⟩,h3⟩
 up abx G' w h hk:=by obtain⟨abr,h1,h2,h3⟩:=h;exact⟨abr,h1,λp hp=>⟨(h2 p hp).1,λk hk'=>hk k ((h2 p hp).2 k hk')⟩,h3⟩
theorem Ow.ex{α:Type}{f:α->aH}(h:Ow B w0 w (sB f::R)):∃x,Ow B w0 w (f x::R):=by obtain⟨abx,⟨x,hx⟩,_⟩:=h.held.dj;obtain⟨abx,hA,hG,abr,h1,h2,h3,h4⟩:=h.held.dj;obtain⟨x,hx⟩:=hA;exact⟨x,h.base,h.sW,fM.nk hx hG h1 h2 h3 h4⟩
theorem Ow.fk{α:Type}{f:α->aH}(x:α)(h:Ow B w0 w (f x::R)):Ow B w0 w (sB f::R):=h.conv λ_ h=>⟨x,h⟩
theorem Ow.pure{p:Prop}(h:Ow B w0 w (dh p::R)):p/\Ow B w0 w R:=⟨h.head λ_ h=>h,h.drop⟩
theorem Ow.cT{p:Prop}(hp:p)(h:Ow B w0 w R):Ow B w0 w (dh p::R):=by obtain⟨abr,h1,h2,h3⟩:=h.held;exact⟨h.base,h.sW,fM.nk (abx:=No) hp (λ_ h=>h.elim) h1 h2 h3 λ_ _ _ h=>h.elim⟩
theorem Ow.star{M:Y aH}(h:Ow B w0 w (cj M::R)):Ow B w0 w (M++R):=by
 obtain⟨abx,hA,hG,abr,h1,h2,h3,h4⟩:=h.held.dj;obtain⟨abp,y1,y2,y3⟩:=hA;refine⟨h.base,h.sW,abp++abr,by simp[y1,h1],λp hp=>?_,N5.2 ⟨y3,h3,λp hp q hq k hk=>h4 q hq k ((y2 p hp).2 k hk)⟩⟩;rcases Mm.1 hp with hp|hp
 .exact ⟨(y2 p hp).1,λk hk=>hG k ((y2 p hp).2 k hk)⟩
 .exact h2 p hp
theorem Ow.bW{M:Y aH}(h:Ow B w0 w (M++R)):Ow B w0 w (cj M::R):=by
 obtain⟨abr,h1,h2,h3⟩:=h.held;have h1:abr.map (·.1)=M++R:=h1;obtain⟨abp,Z',hYZ,hY,hZ⟩:=List.map_eq_append_iff.1 h1;subst hYZ;obtain⟨p1,p2,p3⟩:=N5.1 h3;refine⟨h.base,h.sW,fM.nk (abx:=λk=>∃p∈abp,p.2 k) ⟨abp,hY,λp hp=>⟨(h2 p (by simp[hp])).1,λk hk=>⟨p,hp,hk⟩⟩,p1⟩ (λk hk=>?_) hZ (λp hp=>h2 p (by simp[hp])) p2 ?_⟩
 .obtain ⟨p,hp,hk⟩:=hk;exact(h2 p (by simp[hp])).2 k hk
 .rintro q hq k ⟨p,hp,hk⟩;exact p3 p hp q hq k hk
theorem Ow.al{l:Y Q}{t:qi}{k:J->Prop}(h:Ow B w0 w R)(hk:∀w',Ow B w0 w' (aa w.heap.size l::R)->k w'):Al w (.cells ⟨l⟩ t) k:=
 Al.mk' λw' hu hs hb=>hk w' (h.new (A':=aa w.heap.size l) (G':=λk=>k=w.heap.size) hu ⟨U,hb⟩ λk e=>by omega)
abbrev _root_.Nat.p(n:X):qg:= .mk n 0 N
abbrev A2(w:J)(l:Y Q)(t:qi)(k:X->J->Prop):Prop:=Al w (.cells ⟨l⟩ t) (k w.heap.size)
theorem Ow.a{l:Y Q}{t:qi}{k:X->J->Prop}(h:Ow B w0 w R)(hk:∀c w',Ow B w0 w' (aa c l::R)->k c w'):A2 w l t k:=h.al λw' h=>hk _ w' h
theorem Ow.BX{K abv:Type}(enc:K->Q)(encV:abv->Q){k:J->Prop}(h:Ow B w0 w R)(hk:∀w',Ow B w0 w' (kl enc encV w.heap.size []::R)->k w'):Al w (.map #[] 0) k:=
 Al.map' λw' hu hs hb=>hk w' (h.new (A':=kl enc encV w.heap.size []) (G':=λk=>k=w.heap.size) hu ⟨U,⟨⟨#[],0,hb,qc,qc,qc⟩,qc⟩⟩ λk e=>by omega)
theorem Ow.dr{k:J->Prop}(h:Ow B w0 w R)(hk:∀w',Ow B w0 w' R->k w'):Dr w k:=Dr.mk' λw' hu _=>hk w' (h.same hu)
theorem Ow.vn{b:X}{l:Y Q}(h:Ow B w0 w L)(i:X)(hi:L[i]?=S (aa b l)):rm w b l:=(h.take i hi).head λ_ h=>h.2
theorem Ow.ld{b o n:X}{l:Y Q}{v:Q}(h:Ow B w0 w L)(i:X)(hi:L[i]?=S (aa b l))(hv:l[o+n]?=S v):w.cell? ((Addr.mk b o N).add n)=S v:=(h.vn i hi).I7 hv
theorem Ow.gr{b o:X}{l:Y Q}{v:Q}(h:Ow B w0 w L)(i:X)(hi:L[i]?=S (aa b l))(hv:l[o]?=S v):w.cell? (Addr.mk b o N)=S v:=(h.vn i hi).I6 hv
theorem Ow.set{A A':aH}(h:Ow B w0 w (A'::L.eraseIdx 0))(hi:L[0]?=S A):Ow B w0 w (L.set 0 A'):=by
 cases L with
 |nil=>simp at hi
 |cons x L=>simpa using h
def ins{α:Type _}:Y α->X->α->Y α
 |l,0,a=>a::l
 | [],_+1,a=>[a]
 |x::l,n+1,a=>x::ins l n a
theorem xB{α:Type _}{a x:α}:∀{l:Y α}{n:X},x∈ins l n a->x=a\/x∈l
 |l,0,h=>by simpa [ins]using h
 | [],_+1,h=>by simp[ins]at h;exact .inl h
 |y::l,n+1,h=>by
  simp only[ins,LD]at h;rcases h with h|h
  .exact .inr (by simp[h])
  .rcases xB h with h|h
   .exact .inl h
   .exact .inr (by simp[h])
theorem fM.put{A':aH}{i:X}(h:fM B w (A'::L.eraseIdx i))(hi:i<L.length):fM B w (L.set i A'):=by
 obtain⟨abx,hA,hG,abr,h1,h2,h3,h4⟩:=h.dj;refine⟨ins abr i (A',abx),?_,λp hp=>?_,?_⟩
 .have:∀(abr:Y (aH ×(X->Prop)))(L:Y aH)(i:X),abr.map (·.1)=L.eraseIdx i->i<L.length->(ins abr i (A',abx)).map (·.1)=L.set i A':=by
   intro abr;induction abr with
   |nil=>
    intro L i h hi;cases L with
    |nil=>simp at hi
    |cons x L=>
     cases i with
     |zero=>simp at h;subst h;simp[ins]
     |succ i=>simp at h
   |cons z abr ih=>
    intro L i h hi;cases L with
    |nil=>simp at hi
    |cons x L=>
     cases i with
     |zero=>simp at h;simp[ins,h]
     |succ i=>
      simp only[L1,Nk,List.cons.injEq]at h;simp only[ins,L1,LM,h.1];rw[ih L i h.2 (by simpa using hi)]
  exact this abr L i h1 hi
 .rcases xB hp with rfl|hp
  .exact ⟨hA,hG⟩
  .exact h2 p hp
 .have:∀(abr:Y (aH ×(X->Prop)))(i:X),abr.Pairwise (λp q=>∀k,p.2 k->¬q.2 k)->(∀q∈abr,∀k,abx k->¬q.2 k)->(ins abr i (A',abx)).Pairwise (λp q=>∀k,p.2 k->¬q.2 k):=by
   intro abr;induction abr with
   |nil=>intro i _ _;cases i<;>simp[ins]
   |cons z abr ih=>
    intro i hp hq;obtain⟨h5,h6⟩:=My.1 hp;cases i with
    |zero=>simp only[ins];exact My.2 ⟨hq,hp⟩
    |succ i=>
     simp only[ins];refine My.2 ⟨λq hq'=>?_,ih i h6 λq hq'=>hq q (by simp[hq'])⟩;rcases xB hq' with rfl|hq'
     .intro k hk hk';exact hq z qc k hk' hk
     .exact h5 q hq'
  exact this abr i h3 h4
theorem Ow.put{A':aH}{i:X}(h:Ow B w0 w (A'::L.eraseIdx i))(hi:i<L.length):Ow B w0 w (L.set i A'):=⟨h.base,h.sW,h.held.put hi⟩
theorem cp{α:Type}{L:Y α}{i:X}{A:α}(h:L[i]?=S A):i<L.length:=(Lu.1 h).1
theorem Ow.st{b o:X}{l:Y Q}{v:Q}{k:J->Prop}(h:Ow B w0 w L)(i:X)(hi:L[i]?=S (aa b l))(ho:(l[o]?).isSome=Z)(hv:v.oneCell'=Z)
  (hk:∀w',Ow B w0 w' (L.set i (aa b (l.set o v)))->k w'):St w ⟨b,o,N⟩ v k:=
 St.mk' (h.vn i hi) (by simpa using ho) hv λw' hu hs hb=>hk w' (((h.take i hi).step (A':=aa b (l.set o v)) λabx hA hG=>⟨hu.mono λk _ e=>by rw[e];exact hA.1,abx,⟨hA.1,hb⟩,λk hk=>⟨.inl hk,by have:=(hG k hk).2;omega⟩⟩).put (cp hi))
theorem Ow.Lq{b o n:X}{l:Y Q}{v:Q}{k:J->Prop}(h:Ow B w0 w L)(i:X)(hi:L[i]?=S (aa b l))(ho:(l[o+n]?).isSome=Z)(hv:v.oneCell'=Z)
  (hk:∀w',Ow B w0 w' (L.set i (aa b (l.set (o+n) v)))->k w'):St w ((Addr.mk b o N).add n) v k:=by
 rw[aI];exact h.st i hi ho hv hk
theorem wr{x:O}(h1: -9223372036854775808<=x)(h2:x<9223372036854775808):qf.wrap x=x:=by
 have e1:(2:O)^64=18446744073709551616:=qb
 have e2:(2:O)^63=9223372036854775808:=qb
 simp only[IntKind.wrap,IntKind.bits,IntKind.signed,Nat.reduceSub,e1,e2,M6,qB];split<;>omega
theorem wI(i:X)(h:i<9223372036854775807):qf.wrap ((i:O)+1)=((i+1:X):O):=by rw[wr om om];omega
theorem IJ{x:O}(h1:0<=x)(h2:x<18446744073709551616):qv.wrap x=x:=by
 have e1:(2:O)^64=18446744073709551616:=qb
 simp only[IntKind.wrap,IntKind.bits,IntKind.signed,e1,Bool.false_and,LK,qy];omega
structure dT(α:Type)where
 z:X
 enc:α->Y Q
 len:∀x,(enc x).length=z
 one:∀x,∀v∈enc x,v.oneCell'=Z
 pos:1<=z
def aq:dT O:=⟨1,λn=>[.int .i64 n],λ_=>rfl,λx v h=>by simp at h;subst h;rfl,Lv _⟩
theorem aN{α:Type}(E:dT α):∀(xs:Y α),(xs.flatMap E.enc).length=xs.length*E.z
 | []=>by simp
 |x::xs=>by simp[aN E xs,E.len,Nu,OB]
theorem mA{α:Type}(E:dT α):∀(xs:Y α)(j c:X)(x:α),xs[j]?=S x->c<E.z->(xs.flatMap E.enc)[j*E.z+c]?=(E.enc x)[c]?
 | [],j,c,x,h,_=>by simp at h
 |y::xs,0,c,x,h,hc=>by simp at h;subst h;simp only[MP,Of,LF];rw[LI (by rw[E.len];exact hc)]
 |y::xs,j+1,c,x,h,hc=>by simp only[MP];have:=mA E xs j c x (by simpa using h) hc;rw[LH (by rw[E.len,Nu];omega),E.len,Nu];rw[show j*E.z+E.z+c-E.z=j*E.z+c from by omega];exact this
theorem mB{α:Type}(E:dT α):∀(xs:Y α)(j:X)(x:α),j<xs.length->(xs.set j x).flatMap E.enc=putAt (xs.flatMap E.enc) (j*E.z) (E.enc x)
 | [],j,x,h=>by simp at h
 |y::xs,0,x,h=>by
  have:∀(us vs cs:Y Q),us.length=vs.length->putAt (us++cs) 0 vs=vs++cs:=by
   intro us;induction us with
   |nil=>intro vs cs h;cases vs with|nil=>simp[je]|cons _ _=>simp at h
   |cons u us ih=>intro vs cs h;cases vs with|nil=>simp at h|cons v vs=>simp[putAt,ih vs cs (by simpa using h)]
  simp only[List.set_cons_zero,MP,Of];rw[this _ _ _ (by rw[E.len,E.len])]
 |y::xs,j+1,x,h=>by
  have:∀(us cs vs:Y Q)(o:X),putAt (us++cs) (us.length+o) vs=us++putAt cs o vs:=by
   intro us;induction us with
   |nil=>intro cs vs o;simp
   |cons u us ih=>
    intro cs vs o;simp only[List.cons_append,LL];rw[show us.length+1+o=(us.length+o)+1 from by omega];cases vs with
    |nil=>rw[je,je]
    |cons v vs=>simp only[putAt];rw[ih]
  simp only[LM,MP,Nu];rw[mB E xs j x (by simpa using h),show j*E.z+E.z=(E.enc y).length+j*E.z from by rw[E.len];omega,this]
def af{α:Type}(E:dT α)(s:Sl)(xs:Y α):aH where
 holds abx w:=s.In abx/\s.len=xs.length/\jN E.z w s (xs.flatMap E.enc)
 loc abx w w' h hk:=⟨h.1,h.2.1,((Ec E.z s _).loc abx w w' ⟨h.1,h.2.2⟩ hk).2⟩
 up abx G' w h hk:=⟨λa ha=>hk _ (h.1 a ha),h.2⟩
end
section
variable{P:qq}{B:X}{w0 w:J}{L R:Y aH}{α:Type}{E:dT α}
theorem Ow.sR{s:Sl}{xs:Y α}(h:Ow B w0 w L)(i:X)(hi:L[i]?=S (af E s xs)):jN E.z w s (xs.flatMap E.enc):=(h.take i hi).head λ_ h=>h.2.2
theorem Ow.len{s:Sl}{xs:Y α}(h:Ow B w0 w L)(i:X)(hi:L[i]?=S (af E s xs)):s.len=xs.length:=(h.take i hi).head λ_ h=>h.2.1
theorem jN.get{s:Sl}{xs:Y α}(h:jN E.z w s (xs.flatMap E.enc)){j:X}{x:α}(hj:xs[j]?=S x):
  ∃b o,s.a=S ⟨b,o,N⟩/\∀c v,(E.enc x)[c]?=S v->w.cell? ⟨b,o+(j*E.z+c),N⟩=S v:=by
 have hz:=E.pos;have hg:∀c v,(E.enc x)[c]?=S v->(xs.flatMap E.enc)[j*E.z+c]?=S v:=λc v hv=>by rw[mA E xs j c x hj (by have:=(Lu.1 hv).1;rw[E.len]at this;exact this)];exact hv
 cases h with
 |nil ha hl hc hcs=>
  have hl:=aN E xs;rw[hcs]at hl;have:xs.length=0:=by
   rcases OX.1 hl.symm with h|h
   .exact h
   .omega
  have:=(Lu.1 hj).1;omega
 |mk b o l ha hb hl hc hcs=>
  refine⟨b,o,ha,λc v hv=>?_⟩;obtain⟨b',o',ha',h'⟩:=jN.cell (.mk b o l ha hb hl hc hcs:jN E.z w s (xs.flatMap E.enc)) (hg c v hv);rw[ha]at ha';simp only[Option.some.injEq,Addr.mk.injEq]at ha';rw[ha'.1,ha'.2.1];exact h'
theorem Ow.get{s:Sl}{xs:Y α}(h:Ow B w0 w L)(i:X)(hi:L[i]?=S (af E s xs)){j:X}{x:α}(hj:xs[j]?=S x):
  ∃b o,s.a=S ⟨b,o,N⟩/\∀c v,(E.enc x)[c]?=S v->w.cell? ⟨b,o+(j*E.z+c),N⟩=S v:=(h.sR i hi).get hj
theorem Ow.E0{s:Sl}{xs:Y O}(h:Ow B w0 w L)(i:X)(hi:L[i]?=S (af aq s xs)){j:X}{x:O}(hj:xs[j]?=S x):
  ∃a,s.a=S a/\w.cell? (a.add (j*1))=S (.int .i64 x):=by
 obtain⟨b,o,ha,hc⟩:=h.get i hi hj;exact⟨_,ha,by rw[aI];exact hc 0 _ U⟩
theorem Ow.Lf{s:Sl}{xs:Y α}{k:J->Prop}(h:Ow B w0 w L)(i:X)(hi:L[i]?=S (af E s xs)){j:X}(hj:j<xs.length)(x:α){b o:X}(ha:s.a=S ⟨b,o,N⟩)
  {v:Q} (hx:E.enc x= [v]) (hk:∀w',Ow B w0 w' (L.set i (af E s (xs.set j x)))->k w'):St w ⟨b,o+j*E.z,N⟩ v k:=by
 have hz:E.z=1:=by rw[<-E.len x,hx];rfl
 have hone:v.oneCell'=true:=E.one x v (by rw[hx];simp);have hs:=h.sR i hi;have hl:=h.len i hi;cases hs with
 |nil ha' _ _ _=>rw[ha']at ha;cases ha
 |mk b' o' l ha' hb hle hc hcs=>
  rw[ha']at ha;simp only[Option.some.injEq,Addr.mk.injEq,and_true]at ha;obtain⟨rfl,rfl⟩:=ha;have hfl:=aN E xs;have hlt:j*E.z<xs.length*E.z:=by rw[hz];omega
  have hle2:s.len*E.z<=s.cap*E.z:=LZ _ hle;rw[<-hl]at hlt;refine St.mk' hb om hone λw' hu hsz hb'=>hk w' (((h.take i hi).step (A':=af E s (xs.set j x)) λabx hA hG=>⟨hu.mono λk _ e=>by rw[e];exact hA.1 _ ha',abx,⟨hA.1,by simpa using hl,?_⟩,λk hk=>⟨.inl hk,by have:=(hG k hk).2;omega⟩⟩).put (cp hi));refine .mk b' o' _ ha' hb' hle (by simpa using hc) ?_;rw[mB E xs j x hj,hx,hcs];have key:∀(l:Y Q)(o n m:X),o+n<=l.length->m<n->putAt ((l.drop o).take n) m [v]=((l.set (o+m) v).drop o).take n:=by
   intro l o n m h1 h2;apply L5;intro t;rw[cQ _ _ _ _ (by simp;omega)];simp only[List.length_singleton,LS,LR,Mb];by_cases e:m=t
   .subst e
    rw[qd om,qd h2,qd U,qd om];simp
   .rw[F om,F (show ¬o+m=o+t by omega)]
  exact key l o' (s.len*E.z) (j*E.z) om hlt
theorem Ow.J1{T el:qi}{inf:qL}{zv:Q}{s x:Sl}{xs ys:Y α}{k:Sl->J->Prop}
  (hu:P.underlying T=S (.slice el)) (hi:P.info? el=S inf) (hz:inf.zero=S zv) (hsz:inf.size=E.z) (hzc:zv.cells.size=E.z) (hb:1<=inf.bytes)
  (h:Ow B w0 w L) (i:X) (hL:L[i]?=S (af E s xs)) (hdl:(ys.flatMap E.enc).length=x.len*E.z) (hnew:∀abt:J,abt.heap=w.heap->(Builtin.firstCells E.z x.len (.slice x.a x.len x.cap)).run P abt= .ok ⟨ys.flatMap E.enc⟩ abt) (hxl:x.len=ys.length) (hbig:(17*(xs.length+ys.length)+16000)*inf.bytes<=2^48)
  (hk:∀s' w',s'.len=xs.length+ys.length->Ow B w0 w' (L.set i (af E s' (xs++ys)))->k s' w'):
  ∃s' w',aM P [T,T] T (.slice s.a s.len s.cap) (.slice x.a x.len x.cap) w s' w'/\k s' w':=by
 have hs:=h.sR i hL;have hl:=h.len i hL;have hone:∀v∈ys.flatMap E.enc,v.oneCell'=true:=λv hv=>by obtain⟨y,_,hy⟩:=Oj.1 hv;exact E.one y v hy
 obtain⟨s',w',h1,h2,h3⟩:=EB (P:=P) (T:=T) hu hi hz hsz hzc hb hs hdl hnew hone (by rw[hl,hxl];exact hbig);refine⟨s',w',h1,hk s' w' (by rw[h2,hl,hxl]) (((h.take i hL).step (A':=af E s' (xs++ys)) λabx hA hG=>⟨h3.sW.mono λk _⟨a,ha,e⟩=>by rw[<-e];exact hA.1 a ha,λk=>s'.In (λj=>j≠k)->qk,⟨?_,?_,?_⟩,?_⟩).put (cp hL))⟩
 .intro a ha hn;exact hn a ha U
 .rw[h2,hl,hxl,LC]
 .rw[Me];exact h3.own
 .intro k hk
  have:∃a,s'.a=S a/\a.block=k:=by refine Classical.byContradiction λhn=>hk λa ha e=>hn ⟨a,ha,e⟩
  obtain⟨a,ha,rfl⟩:=this;refine⟨?_,h3.own.lt a ha⟩;rcases h3.here a ha with⟨a0,h4,h5⟩|h4
  .rw[<-h5];exact .inl (hA.1 a0 h4)
  .exact .inr om
theorem Ow.app{T el:qi}{inf:qL}{zv:Q}{s x:Sl}{xs ys:Y α}{k:Sl->J->Prop}
  (hu:P.underlying T=S (.slice el)) (hi:P.info? el=S inf) (hz:inf.zero=S zv) (hsz:inf.size=E.z) (hzc:zv.cells.size=E.z) (hb:1<=inf.bytes)
  (h:Ow B w0 w L) (i:X) (hL:L[i]?=S (af E s xs)) (hx:jN E.z w x (ys.flatMap E.enc)) (hxl:x.len=ys.length) (hbig:(17*(xs.length+ys.length)+16000)*inf.bytes<=2^48)
  (hk:∀s' w',s'.len=xs.length+ys.length->Ow B w0 w' (L.set i (af E s' (xs++ys)))->k s' w'):
  ∃s' w',aM P [T,T] T (.slice s.a s.len s.cap) (.slice x.a x.len x.cap) w s' w'/\k s' w':=
 Ow.J1 hu hi hz hsz hzc hb h i hL hx.length (uf hx) hxl hbig hk
theorem Ow.GF{T el:qi}{inf:qL}{zv:Q}{s:Sl}{xs:Y α}{y:α}{b:X}{k:Sl->J->Prop}
  (hu:P.underlying T=S (.slice el)) (hi:P.info? el=S inf) (hz:inf.zero=S zv) (hsz:inf.size=E.z) (hzc:zv.cells.size=E.z) (hb:1<=inf.bytes)
  (h:Ow B w0 w (aa b (E.enc y)::L)) (i:X) (hL:L[i]?=S (af E s xs)) (hbig:(17*(xs.length+1)+16000)*inf.bytes<=2^48)
  (hk:∀s' w',s'.len=xs.length+1->Ow B w0 w' (L.set i (af E s' (xs++ [y])))->k s' w'):
  ∃s' w',aM P [T,T] T (.slice s.a s.len s.cap) (.slice (S (Addr.mk b 0 N)) 1 1) w s' w'/\k s' w':=by
 have hx:jN E.z w ⟨S (Addr.mk b 0 N),1,1⟩ ([y].flatMap E.enc):=by
  refine .mk b 0 (E.enc y) U (h.vn 0 U) (Lv _) (by simp[E.len]) ?_;have:(1:X)*E.z=(E.enc y).length:=by rw[E.len];omega
  simp only[MP,List.flatMap_nil,LQ,M3,this,Nt]
 have h':Ow B w0 w L:=h.drop;exact h'.app (x:=⟨S (Addr.mk b 0 N),1,1⟩) (ys:=[y]) hu hi hz hsz hzc hb i hL hx U (by simpa using hbig) (by simpa using hk)
theorem Ow.Li{l:Y Q}{t:qi}{k:J->Prop}(h:Ow B w0 w R)(hk:∀w',gg No w w'->Ow B w0 w' (aa w.heap.size l::R)->k w'):Al w (.cells ⟨l⟩ t) k:=
 Al.mk' λw' hu hs hb=>hk w' hu (h.new (A':=aa w.heap.size l) (G':=λk=>k=w.heap.size) hu ⟨U,hb⟩ λk e=>by omega)
theorem jN.no{z:X}{w':J}{s:Sl}{cs:Y Q}(h:jN z w s cs)(u:gg No w w'):jN z w' s cs:=h.sW u λ_ _ h=>h
theorem Ow.IB{abo A:aH}(h:Ow B w0 w (abo::L))(i:X)(hi:L[i]?=S A):Ow B w0 w (L.set i abo):=by have h2:=h.take (i+1) (A:=A) (by simpa using hi);have h3:Ow B w0 w (abo::L.eraseIdx i):=h2.drop;exact h3.put (cp hi)
theorem jN.sub{z:X}{s:Sl}{cs:Y Q}(h:jN z w s cs){l hh:X}(hl:l<=hh)(hh':hh<=s.len):jN z w ⟨eU s.a l s.cap z,hh-l,s.cap-l⟩ ((cs.take (hh*z)).drop (l*z)):=by
 cases h with
 |nil ha h1 h2 h3=>
  have:l=0/\hh=0:=om
  obtain⟨rfl,rfl⟩:=this;exact .nil (by simp[eU,ha]) U (by simp[h2]) (by simp[h3])
 |mk b o ls ha hb hle hc hcs=>
  have m1:l*z<=hh*z:=LZ _ hl;have m2:hh*z<=s.len*z:=LZ _ hh';have m3:s.len*z<=s.cap*z:=LZ _ hle;by_cases e:s.cap=l
  .have e2:hh=l:=om
   refine .mk b o ls (by simp[eU,e,ha]) hb ?_ ?_ ?_
   .show hh-l<=s.cap-l
    omega
   .show o+(s.cap-l)*z<=ls.length
    rw[e,MV,Of];omega
   .rw[e2]
    simp only[MV,Of,List.take_zero];apply Nz;rw[LX];omega
  .refine .mk b (o+l*z) ls ?_ hb ?_ ?_ ?_
   .simp only[eU,F e,ha,Mx,aI]
   .show hh-l<=s.cap-l
    omega
   .show o+l*z+(s.cap-l)*z<=ls.length
    rw[O4];omega
   .show _=(ls.drop (o+l*z)).take ((hh-l)*z)
    rw[hcs,NU,Ms m2,O4,List.drop_take,ML]
theorem Ow.xg{b:X}{l l':Y Q}(h:Ow B w0 w (aa b l::R))(e:l=l'):Ow B w0 w (aa b l'::R):=e▸h
theorem bq{id:X}{first cap:qo Q}{args:Y Q}{R:Ending->J->Prop}(h:okF P id (Calls P id (first++⟨args⟩++cap) w R)):dU P (.func (.func id) first cap) args w R:=⟨id,first,cap,U,h⟩
theorem Ow.empty{b:X}(h:Ow B w0 w (aa b []::R)):Ow B w0 w (af E ⟨S (Addr.mk b 0 N),0,0⟩ []::R):=
 h.conv λabx hG=>⟨λa ha=>by cases ha;exact hG.1,U,.mk b 0 [] U hG.2 (Lv _) qc qc⟩
theorem Ow.cZ(h:Ow B w0 w R):Ow B w0 w (af E ⟨N,0,0⟩ []::R):=by have:=Ow.cT (p:=I) trivial h;exact this.conv λabx _=>⟨(λa ha=>by cases ha),rfl,.nil U U U U⟩
theorem Ge(a:qh qg)(cap z:X)(h:∀x,a=S x->x.spot=N):eU a 0 cap z=a:=by
 unfold eU;split
 .rfl
 .cases a with
  |none=>rfl
  |some x=>simp[Addr.add]
theorem jN.spot{z:X}{s:Sl}{cs:Y Q}(h:jN z w s cs):∀x,s.a=S x->x.spot=none:=λx hx=>by
 cases h with
 |nil ha _ _ _=>rw[ha]at hx;cases hx
 |mk b o l ha _ _ _ _=>rw[ha]at hx;cases hx;rfl
theorem Ow.pre{s:Sl}{xs:Y α}(h:Ow B w0 w L)(i:X)(hi:L[i]?=S (af E s xs)){n:X}(hn:n<=xs.length):Ow B w0 w (L.set i (af E ⟨s.a,n,s.cap⟩ (xs.take n))):=by
 refine(Ow.conv (h.take i hi) λabx hG=>?_).put (cp hi);have hfl:=aN E xs;refine⟨λa ha=>hG.1 a ha,by simp[hn],?_⟩;have htake:(xs.take n).flatMap E.enc=(xs.flatMap E.enc).take (n*E.z):=by
  have h1:xs.flatMap E.enc=(xs.take n).flatMap E.enc++(xs.drop n).flatMap E.enc:=by rw[<-Me,Ma]
  have h2:((xs.take n).flatMap E.enc).length=n*E.z:=by rw[aN];simp[hn]
  rw[h1,<-h2,NH]
 cases hG.2.2 with
 |nil ha hl hc hcs=>
  have h0:xs.length=0:=by rw[<-hG.2.1];exact hl
  have:n=0:=om
  subst this;exact .nil ha U hc qc
 |mk b o l ha hb hl hc hcs=>
  have:=hG.2.1;refine .mk b o l ha hb (by show n<=s.cap;omega) hc ?_;rw[htake,hcs];show _=(l.drop o).take (n*E.z);rw[NU];congr 1;have:n*E.z<=s.len*E.z:=LZ _ om;omega
theorem Ow.clear{T el t:qi}{zv:Q}{z0:α}{s:Sl}{xs:Y α}{C:J->Prop}(hu:P.underlying T=S (.slice el))(hz:∀w,(qK el).run P w= .ok zv w)(hzc:zv.cells.toList=E.enc z0)
  (h:Ow B w0 w L) (i:X) (hi:L[i]?=S (af E s xs)) {n:X} (hn:n<=xs.length) (hC:∀w',Ow B w0 w' (L.set i (af E s (xs.take n++Ly (xs.length-n) z0)))->C w'):
  ∃w',kL P [T] t (.slice (eU s.a n s.cap E.z) (s.len-n) (s.cap-n)) w w'/\C w':=by
 have hs:=h.sR i hi;have hl:=h.len i hi;by_cases hnl:n=xs.length
 .refine ⟨w,?_,hC w ?_⟩
  .unfold kL Builtin.clear_
   have:s.len-n=0:=om
   rw[this];simp only[MT,Mn,Sem.run_bind,aU hu,Result.andThen_ok];cases eU s.a n s.cap E.z<;>rfl
  .have:xs.take n++Ly (xs.length-n) z0=xs:=by rw[hnl];simp
   rw[this];have hset:L.set i (af E s xs)=L:=by
    apply L5;intro j;rw[Mb];by_cases e:i=j
    .subst e;rw[qd U,qd (cp hi),hi]
    .simp[e]
   rw[hset];exact h
 .cases hs with
  |nil ha hl' hc hcs=>omega
  |mk b o l ha hb hle hc hcs=>
   have hzl:zv.cells.size=E.z:=by rw[<-Mo,hzc,E.len]
   have hfl:=aN E xs;have hlt:n<s.len:=om
   have hmul:s.len*E.z<=s.cap*E.z:=LZ _ hle;have hnm:n*E.z<=s.len*E.z:=LZ _ om;have hA:eU s.a n s.cap E.z=S ⟨b,o+n*E.z,N⟩:=by unfold eU;rw[F om,ha];simp only[Mx,aI]
   let zs:Y Q:=(Builtin.zeroCells zv.cells (s.len-n)).toList
   have hzs:zs=(Ly (xs.length-n) z0).flatMap E.enc:=by
    have h1:(Builtin.zeroCells zv.cells (s.len-n))=⟨rep (s.len-n) zv.cells.toList⟩:=by unfold Builtin.zeroCells;exact rf zv.cells (s.len-n) (by rw[hzl];exact E.pos)
    have h2:∀m,rep m (E.enc z0)=(Ly m z0).flatMap E.enc:=by
     intro m;induction m with
     |zero=>rfl
     |succ m ih=>simp[rep,N6,ih]
    show(Builtin.zeroCells zv.cells (s.len-n)).toList=_;rw[h1,hzc,h2,hl]
   have hzlen:zs.length=(s.len-n)*E.z:=by rw[hzs,aN];simp[hl]
   have hroom:o+n*E.z+zs.length<=l.length:=by rw[hzlen,O4];omega
   have hone:∀v∈zs,v.oneCell'=true:=λv hv=>by rw[hzs]at hv;obtain⟨y,_,hy⟩:=Oj.1 hv;exact E.one y v hy
   obtain⟨w',h1,h2,h3,h4⟩:=gH (P:=P) zs l (o+n*E.z) w hb hroom hone 0 (o+n*E.z) om;refine⟨w',?_,hC w' (((h.take i hi).step (A':=af E s (xs.take n++Ly (xs.length-n) z0)) λabx hA' hG=>⟨h2.mono λk _ e=>by rw[e];exact hA'.1 _ ha,abx,⟨hA'.1,?_,?_⟩,λk hk=>⟨.inl hk,by have:=(hG k hk).2;omega⟩⟩).put (cp hi))⟩
   .unfold kL Builtin.clear_
    rw[hA];obtain⟨d,hd⟩:∃d,s.len-n=d+1:=⟨s.len-n-1,om⟩
    simp only[MT,Mn,Sem.run_bind,aU hu,Result.andThen_ok];have h1':(storeCells ⟨b,o+n*E.z,N⟩ (Builtin.zeroCells zv.cells (d+1)).toList).run P w= .ok () w':=by rw[<-hd];exact h1
    rw[hd];simp only[hz,Sem.run_bind,Result.andThen_ok,h1'];rfl
   .simp[hl];omega
   .refine .mk b o _ ha h4 hle (by rw[gy];exact hc) ?_
    have hpre:(xs.take n).flatMap E.enc=(xs.flatMap E.enc).take (n*E.z):=by
     have g1:xs.flatMap E.enc=(xs.take n).flatMap E.enc++(xs.drop n).flatMap E.enc:=by rw[<-Me,Ma]
     have g2:((xs.take n).flatMap E.enc).length=n*E.z:=by rw[aN];simp[hn]
     rw[g1,<-g2,NH]
    rw[Me,<-hzs,hpre,hcs];apply L5;intro t;rw[LS,LR,cQ _ _ _ _ hroom,NU,Ms hnm];by_cases e:t<n*E.z
    .rw[LI (by simp;omega),LS,qd e,LR,qd om,F om]
    .have hl2:(List.take (n*E.z) (List.drop o l)).length=n*E.z:=by simp;omega
     rw[LH om,hl2];by_cases e2:t<s.len*E.z
     .rw[qd e2,qd (by rw[hzlen,O4];omega)]
      congr 1;omega
     .rw[F e2]
      apply L0;rw[hzlen,O4];omega
theorem Ow.sL{T kt el:qi}{K abv:Type}[qP K]{enc:K->Q}{encV:abv->Q}{m:X}{M:Y (K × abv)}{k:K}{v:abv}(hu:P.underlying T=S (.map kt el))(hk:jM P kt enc)
  (h:Ow B w0 w L) (i:X) (hi:L[i]?=S (kl enc encV m M)) (hl:de M k=S v):sC P T (.map (S m)) (enc k) (encV v) Z w/\yv P T (.map (S m)) (enc k) (encV v) w:=
 ((h.take i hi).head λ_ h=>h.2).Dq hu hk hl
theorem Ow.uv{T kt el:qi}{K abv:Type}[qP K]{enc:K->Q}{encV:abv->Q}{m:X}{M:Y (K × abv)}{k:K}{z:Q}(hu:P.underlying T=S (.map kt el))(hk:jM P kt enc)(hz:∀w,(qK el).run P w= .ok z w)
  (h:Ow B w0 w L) (i:X) (hi:L[i]?=S (kl enc encV m M)) (hl:de M k=N):sC P T (.map (S m)) (enc k) z G w/\yv P T (.map (S m)) (enc k) z w:=
 ((h.take i hi).head λ_ h=>h.2).eW hu hk hz hl
theorem Ow.jL{T kt el:qi}{K abv:Type}[qP K]{enc:K->Q}{encV:abv->Q}{m:X}{M:Y (K × abv)}{k:K}{v:abv}{C:J->Prop}(hu:P.underlying T=S (.map kt el))(hk:jM P kt enc)
  (h:Ow B w0 w L) (i:X) (hi:L[i]?=S (kl enc encV m M)) (hC:∀w',Ow B w0 w' (L.set i (kl enc encV m (iW M k v)))->C w'):∃w',gh P T (.map (S m)) (enc k) (encV v) w w'/\C w':=by
 obtain⟨w',h1,h2,h3,h4⟩:=((h.take i hi).head λ_ h=>h.2).put (P:=P) (T:=T) hu hk k v;exact⟨w',h1,hC w' (((h.take i hi).step (A':=kl enc encV m (iW M k v)) λabx hA hG=>⟨h2.mono λk _ e=>by rw[e];exact hA.1,abx,⟨hA.1,h4⟩,λk hk=>⟨.inl hk,by have:=(hG k hk).2;omega⟩⟩).put (cp hi))⟩
theorem Ow.G1{T kt el t:qi}{ts:Y qi}{K abv:Type}[qP K]{enc:K->Q}{encV:abv->Q}{m:X}{M:Y (K × abv)}{k:K}{C:J->Prop}(hu:P.underlying T=S (.map kt el))(hk:jM P kt enc)
  (h:Ow B w0 w L) (i:X) (hi:L[i]?=S (kl enc encV m M)) (hC:∀w',Ow B w0 w' (L.set i (kl enc encV m (ko M k)))->C w'):∃w',wS P (T::ts) t (.map (S m)) (enc k) w w'/\C w':=by
 obtain⟨w',h1,h2,h3,h4⟩:=((h.take i hi).head λ_ h=>h.2).del (P:=P) (T:=T) (t:=t) (ts:=ts) hu hk k;exact⟨w',h1,hC w' (((h.take i hi).step (A':=kl enc encV m (ko M k)) λabx hA hG=>⟨h2.mono λk _ e=>by rw[e];exact hA.1,abx,⟨hA.1,h4⟩,λk hk=>⟨.inl hk,by have:=(hG k hk).2;omega⟩⟩).put (cp hi))⟩
structure HB{α:Type}(E:dT α)(w0:J)(s:Sl)(xs:Y α):Prop where
 len:s.len=xs.length
 cap:s.len<=s.cap
 JT:∀j x,xs[j]?=S x->∃a,s.a=S a/\a.block<w0.heap.size/\∀c v,(E.enc x)[c]?=S v->w0.cell? ((a.add (j*E.z)).add c)=S v
theorem nj(a:qg)(n:X):(a.add n).block=a.block:=by unfold Addr.add;split<;>rfl
theorem add_nil(a:qg):a.add 0=a:=by simp[Addr.add]
theorem HB.get{α:Type}{E:dT α}{w0 w:J}{s:Sl}{xs:Y α}{L:Y aH}(hi:HB E w0 s xs)(h:Ow w0.heap.size w0 w L){j:X}{x:α}(hj:xs[j]?=S x):
  ∃a,s.a=S a/\∀c v,(E.enc x)[c]?=S v->w.cell? ((a.add (j*E.z)).add c)=S v:=by
 obtain⟨a,h1,h2,h3⟩:=hi.JT j x hj;refine⟨a,h1,λc v hv=>?_⟩;rw[h.below.cell (by rw[nj,nj];exact h2)];exact h3 c v hv
theorem HB.lt{α:Type}{E:dT α}{w0:J}{s:Sl}{xs:Y α}(h:HB E w0 s xs){i:X}(hi:(i:O)<(s.len:O)):∃x,xs[i]?=S x:=⟨_,gE (by have:=h.len;omega)⟩
theorem BW(a:qg)(i j:X):(a.add i).add j=a.add (i+j):=by
 unfold Addr.add;by_cases hj:j=0
 .subst hj;simp
 .by_cases hi:i=0
  .subst hi;simp[hj]
  .simp[hi,hj,Nv]
def GP(f:qi->Y Q->Y Q->qh W)(z:qi->X)(xs ys:Y Q):Y (qi × X)->qh W
 | []=>S Z
 |(t,o)::r=>match f t ((xs.drop o).take (z t)) ((ys.drop o).take (z t)),GP f z xs ys r with
  |some p,S q=>S (p&&q)
  |_,_=>N
def lO(P:qq):X->qi->Y Q->Y Q->qh W
 |0,_,_,_=>N
 |d+1,t,xs,ys=>match P.underlying t with
  |some .bool=>(match xs,ys with| [.bool a],[.bool b]=>S (a==b)|_,_=>N)
  |some (.int _)=>(match xs,ys with| [.int k a],[.int k' b]=>if k=k' then S (a==b)else N|_,_=>N)
  |some .string=>(match xs,ys with| [.string a],[.string b]=>S (a==b)|_,_=>N)
  |some (.array n e)=>if Mg (P.cellsOf e) 0 then N else GP (lO P d) P.cellsOf xs ys ((LA n).map λi=>(e,i*P.cellsOf e))
  |some (.struct fs)=>if P.stoodInHeld t||fs.any (λf=>f.name== "_" ||Mg (P.cellsOf f.type) 0) then N else GP (lO P d) P.cellsOf xs ys (fs.toList.map λf=>(f.type,f.offset))
  |_=>N
def lY(P:qq)(t:qi)(xs:Y Q):Q:=match P.underlying t with
 |some (.array _ _)|some (.struct _)=> .agg ⟨xs⟩
 |_=>xs.headD (.bool G)
theorem xJ{P:qq}{t:qi}{d:X}{xs ys:Y Q}{o:X}{r:W}(z0:P.cellsOf t≠0)(h:lO P d t ((xs.drop o).take (P.cellsOf t)) ys=S r\/lO P d t ys ((xs.drop o).take (P.cellsOf t))=S r)(w:J):
  (part t ⟨xs⟩ o).run P w= .ok (lY P t ((xs.drop o).take (P.cellsOf t))) w:=by
 have key:∀v,(xs.drop o).take (P.cellsOf t)= [v]->xs[o]?=S v:=λv hv=>by
  have:((xs.drop o).take (P.cellsOf t))[0]?=S v:=by rw[hv];rfl
  rw[LS,qd om,LR]at this;simpa using this
 cases d with
 |zero=>rcases h with h|h<;>simp[lO]at h
 |succ d=>
  cases hu:P.underlying t with
  |none=>rcases h with h|h<;>simp[lO,hu]at h
  |some k=>
   have hi:∃i,P.info? t=S i:=by
    cases hi:P.info? t with
    |none=>simp[Program.underlying,hi]at hu
    |some i=>exact⟨i,U⟩
   obtain⟨i,hi⟩:=hi;have plain:(∃v,(xs.drop o).take (P.cellsOf t)= [v])->(∀n e,k≠ .array n e)->(∀fs,k≠ .struct fs)->(part t ⟨xs⟩ o).run P w= .ok (lY P t ((xs.drop o).take (P.cellsOf t))) w:=by
    intro⟨v,hv⟩ n1 n2;have hx:=key v hv;have hx':(⟨xs⟩:qo Q)[o]?=S v:=by simpa using hx
    rw[hv];cases k<;>simp_all [part,isAgg,run_underlying hu,lY]
   cases k with
   |array n e=>
    simp[part,isAgg,run_underlying hu,run_sizeOf w hi,lY,hu,List.extract]
   |struct fs=>simp[part,isAgg,run_underlying hu,run_sizeOf w hi,lY,hu,List.extract]
   |bool=>
    refine plain ?_ (by intros;simp) (by intros;simp);rcases h with h|h<;>simp only[lO,hu]at h<;>split at h<;>simp_all
   |int q=>
    refine plain ?_ (by intros;simp) (by intros;simp);rcases h with h|h<;>simp only[lO,hu]at h<;>split at h<;>simp_all
   |string=>
    refine plain ?_ (by intros;simp) (by intros;simp);rcases h with h|h<;>simp only[lO,hu]at h<;>split at h<;>simp_all
   |_=>rcases h with h|h<;>simp[lO,hu]at h
theorem ry{P:qq}:∀(d:X){t:qi}{xs ys:Y Q}{r:W},lO P d t xs ys=S r->∀(dd:X)(w:J),d<=dd->(Op.equalIn dd t (lY P t xs) (lY P t ys)).run P w= .ok r w:=by
 intro d;induction d with
 |zero=>intro t xs ys r h;simp[lO]at h
 |succ d ih=>
  intro t xs ys r h dd w hd;obtain⟨dd,rfl⟩:∃n,dd=n+1:=⟨dd-1,om⟩
  cases hu:P.underlying t with
  |none=>simp[lO,hu]at h
  |some k=>
   simp only[lO,hu]at h;cases k with
   |bool=>
    simp only at h;split at h
    .cases h;simp only[lY,hu,Qg];exact run_equalIn_bool w dd t _ _ hu
    .cases h
   |int q=>
    simp only at h;split at h
    .split at h
     .rename_i e;subst e;cases h;simp only[lY,hu,Qg];exact run_equalIn_int w dd t _ _ _ _ hu
     .cases h
    .cases h
   |string=>
    simp only at h;split at h
    .cases h;simp only[lY,hu,Qg,beq_toListBytes];exact run_equalIn_string w dd t _ _ hu
    .cases h
   |array n e=>
    simp only at h;split at h
    .cases h
    .rename_i hz
     have hz:P.cellsOf e≠0:=λe=>hz (by rw[e];rfl);have hi:∃i,P.info? e=S i:=by
      cases hi:P.info? e with
      |none=>exfalso;apply hz;simp[Program.cellsOf,hi]
      |some i=>exact⟨i,U⟩
     obtain⟨i,hi⟩:=hi;simp only[lY,hu];rw[run_equalIn_array w dd _ _ hu hi];generalize LA n=is at h;induction is generalizing r with
     |nil=>simp only[M9,GP,Option.some.injEq]at h;subst h;simp[Op.eqItems]
     |cons j is ihl=>
      simp only[L1,GP]at h;cases hp:lO P d e ((xs.drop (j*P.cellsOf e)).take (P.cellsOf e)) ((ys.drop (j*P.cellsOf e)).take (P.cellsOf e))with
      |none=>rw[hp]at h;simp at h
      |some p=>
       cases hq:GP (lO P d) P.cellsOf xs ys (is.map λi=>(e,i*P.cellsOf e))with
       |none=>rw[hp,hq]at h;simp at h
       |some q=>
        rw[hp,hq]at h;simp only[Option.some.injEq]at h;subst h;simp only[Op.eqItems,Sem.run_bind,xJ hz (.inl hp),xJ hz (.inr hp),Result.andThen_ok,ih hp dd w om];cases p
        .simp
        .simp only[MM,LK,qy,M6];exact ihl hq
   |struct fs=>
    simp only at h;split at h
    .cases h
    .rename_i hc
     simp only[MC,not_or,Bool.not_eq_true]at hc;obtain⟨hst,hfs⟩:=hc;have hf:P.fieldsOf t=fs:=by simp[Program.fieldsOf,hu]
     simp only[lY,hu];rw[run_equalIn_struct w dd t _ _ (by rw[hf];exact hu) hst,hf];have hfs:∀f∈fs.toList,f.name≠ "_" /\P.cellsOf f.type≠0:=λf hf'=>by have:=(Array.any_eq_false'.1 hfs) f (NK.1 hf');simp only[MC,qH,not_or] at this;exact ⟨this.1,λe=>this.2 (by rw[e];rfl)⟩
     generalize fs.toList=ls at h hfs;induction ls generalizing r with
     |nil=>simp only[M9,GP,Option.some.injEq]at h;subst h;simp[Op.eqFields]
     |cons f ls ihl=>
      simp only[L1,GP]at h;obtain⟨hn,hz⟩:=hfs f qc;cases hp:lO P d f.type ((xs.drop f.offset).take (P.cellsOf f.type)) ((ys.drop f.offset).take (P.cellsOf f.type))with
      |none=>rw[hp]at h;simp at h
      |some p=>
       cases hq:GP (lO P d) P.cellsOf xs ys (ls.map λf=>(f.type,f.offset))with
       |none=>rw[hp,hq]at h;simp at h
       |some q=>
        rw[hp,hq]at h;simp only[Option.some.injEq]at h;subst h;simp only[Op.eqFields,hn,ne_eq,not_false_iff,qC,Sem.run_bind,xJ hz (.inl hp),xJ hz (.inr hp),Result.andThen_ok,ih hp dd w om];cases p
        .simp
        .simp only[MM,LK,qy,M6];exact ihl hq λf hf'=>hfs f (by simp[hf'])
   |_=>simp at h
theorem EJ{P:qq}{t:qi}{x y:qD}{xs ys:Y Q}{r:W}(ha:lY P t xs= .agg ⟨xs⟩)(hb:lY P t ys= .agg ⟨ys⟩)(hg:P.eqGuardType P.depth t=G)(h:lO P 9 t xs ys=S r):vl P .eql t x y (.agg ⟨xs⟩) (.agg ⟨ys⟩) r:=by intro w;have:=ry 9 h 10000 w qb;rw[ha,hb]at this;simp only[Sem.run_bind,run_eqGuard_agg w .eql t x y _ _ hg,Result.andThen_ok,run_eql_struct,this]
theorem wA{P:qq}{t:qi}{x y:qD}{xs ys:Y Q}{r:W}(ha:lY P t xs= .agg ⟨xs⟩)(hb:lY P t ys= .agg ⟨ys⟩)(hg:P.eqGuardType P.depth t=G)(h:lO P 9 t xs ys=S r):vl P .neq t x y (.agg ⟨xs⟩) (.agg ⟨ys⟩) (!r):=by intro w;have:=ry 9 h 10000 w qb;rw[ha,hb]at this;simp only[Sem.run_bind,run_eqGuard_agg w .neq t x y _ _ hg,Result.andThen_ok,run_neq_struct,this]
end
end Go.Vc
namespace Go.Vc
open Go.ChangeShapes Go.WideShapes
section
variable{H:Type}{enc:qi × Q->H}{P:qq}{w:J}{base:X}{spare:X->W}{held:W}
inductive SK
 |int (k:qM)|bool|str
def SK.fit:SK->Q->Prop
 | .int k,v=>∃n,v= .int k n/\(Lit.int k n).wf=Z
 | .bool,v=>∃b,v= .bool b
 | .str,v=>∃s:ByteArray,v= .string s/\s.size<=maxLen
def py(f:qi->qh (Y SK)):Y (qi × X)->X->qh (Y SK)
 | [],_=>S []
 |(t,o')::r,o=>if Mg o' o then(match f t with|some ks=>(py f r (o+ks.length)).map (ks++·)|none=>N)else N
def flatK(P:qq):X->qi->qh (Y SK)
 |0,_=>N
 |d+1,t=>match P.underlying t with
  |some (.int k)=>S [.int k]
  |some .bool=>S [.bool]
  |some .string=>S [.str]
  |some (.struct fs)=>(match py (flatK P d) (fs.toList.map λf=>(f.type,f.offset)) 0 with|some ks=>if Mg ks.length (P.cellsOf t)then S ks else N|none=>N)
  |some (.array n e)=>(match py (flatK P d) ((LA n).map λi=>(e,i*P.cellsOf e)) 0 with|some ks=>if Mg ks.length (P.cellsOf t)then S ks else N|none=>N)
  |_=>N
inductive Fits:Y SK->Y Q->Prop
 |nil:Fits [] []
 |cons {k:SK} {v:Q} {ks:Y SK} {vs:Y Q} (h:k.fit v) (hs:Fits ks vs):Fits (k::ks) (v::vs)
theorem Fits.length{ks:Y SK}{vs:Y Q}(h:Fits ks vs):vs.length=ks.length:=by induction h<;>simp_all
theorem Fits.append{ks ks':Y SK}{vs vs':Y Q}(h:Fits ks vs)(h':Fits ks' vs'):Fits (ks++ks') (vs++vs'):=by
 induction h with
 |nil=>exact h'
 |cons h _ ih=>exact .cons h ih
theorem Fits.dj{k:SK}{ks:Y SK}{vs:Y Q}(h:Fits (k::ks) vs):∃v vs',vs=v::vs'/\k.fit v/\Fits ks vs':=by
 cases h with
 |cons h hs=>exact⟨_,_,U,h,hs⟩
theorem Fits.Ch{vs:Y Q}(h:Fits [] vs):vs= []:=by cases h;rfl
theorem oo{P:qq}{f:qi->qh (Y SK)}{cs:Y Q}:∀(l:Y (qi × X))(o:X)(ks:Y SK),py f l o=S ks->(∀p∈l,∀ks,f p.1=S ks->Fits ks ((cs.drop p.2).take (P.cellsOf p.1)))->
  ∃vs,Fits ks vs/\cs.drop o=vs++cs.drop (o+ks.length)
 | [],o,ks,h,_=>by simp only[py,Option.some.injEq]at h;subst h;exact⟨[],.nil,qc⟩
 |(t,o')::r,o,ks,h,hp=>by
  simp only[py]at h;split at h
  .rename_i ho
   have ho:=Md ho;subst ho;cases hf:f t with
   |none=>rw[hf]at h;cases h
   |some k1=>
    rw[hf]at h;simp only at h;cases hr:py f r (o'+k1.length)with
    |none=>rw[hr]at h;cases h
    |some k2=>
     rw[hr]at h;simp only[Mx,Option.some.injEq]at h;subst h;have h1:=hp (t,o') qc k1 hf;obtain⟨vs,h2,h3⟩:=oo r _ _ hr λp hp'=>hp p (by simp[hp']);refine⟨_,h1.append h2,?_⟩;have hlen:min (P.cellsOf t) (cs.length-o')=k1.length:=by have:=h1.length;rwa [LX,Ns]at this
     rw[LN,LC,<-Nv,<-h3,<-ML];have:(cs.drop o').take (P.cellsOf t)=(cs.drop o').take k1.length:=by
      by_cases e:P.cellsOf t<=cs.length-o'
      .rw[Ms e]at hlen;rw[hlen]
      .rw[Nat.min_eq_right om]at hlen
       rw[Lz (by rw[Ns];omega),Lz (by rw[Ns];omega)]
     show _=(cs.drop o').take (P.cellsOf t)++_;rw[this,Ma]
  .cases h
theorem AM:∀(d:X){fuel:X}{t:qi}{cs:Y Q}{x:DataW H × Y MemPlace}{ks:Y SK},flatK P d t=S ks->DataW.trod enc P w base spare held fuel t cs=S x->Fits ks cs:=by
 intro d;induction d with
 |zero=>intro fuel t cs x ks h;simp[flatK]at h
 |succ d ih=>
  intro fuel t cs x ks h hx;have all:∀(ks':Y SK),cs.length=P.cellsOf t->Mg ks'.length (P.cellsOf t)=Z->(∃vs,Fits ks' vs/\cs.drop 0=vs++cs.drop (0+ks'.length))->Fits ks' cs:=by intro ks' h1 h2 ⟨vs,h3,h4⟩;have h2:=Md h2;rw[M3,Nz om,LQ]at h4;rw[h4];exact h3
  cases hu:P.underlying t with
  |none=>simp[flatK,hu]at h
  |some k=>
   simp only[flatK,hu]at h;cases k with
   |int q=>
    simp only[Option.some.injEq]at h;subst h;obtain⟨n,rfl,_,hw⟩:=DataW.trod_int hu hx;exact .cons ⟨n,U,hw⟩ .nil
   |bool=>
    simp only[Option.some.injEq]at h;subst h;obtain⟨b,rfl,_⟩:=DataW.trod_bool hu hx;exact .cons ⟨b,U⟩ .nil
   |string=>
    simp only[Option.some.injEq]at h;subst h;obtain⟨s,rfl,_,hs⟩:=DataW.trod_string hu hx;exact .cons ⟨s,U,hs⟩ .nil
   |struct fs=>
    simp only at h;cases hf:py (flatK P d) (fs.toList.map λf=>(f.type,f.offset)) 0 with
    |none=>rw[hf]at h;cases h
    |some ks'=>
     rw[hf]at h;simp only at h;split at h
     .rename_i hl
      cases h;obtain⟨xs,n,rfl,rfl,hlen,hxl,hall⟩:=DataW.trod_struct hu hx;refine all _ hlen hl (oo (P:=P) _ _ _ hf λp hp ks'' hk=>?_);obtain⟨f,hf',rfl⟩:=L2.1 hp;obtain⟨i,hi⟩:=PA hf';have hi':fs[i]?=S f:=by simpa using hi
      have hlt:i<xs.length:=by rw[hxl];exact(LW.1 hi').1
      have:=hall i f hi';rw[gE hlt]at this;exact ih hk this
     .cases h
   |array n e=>
    simp only at h;cases hf:py (flatK P d) ((LA n).map λi=>(e,i*P.cellsOf e)) 0 with
    |none=>rw[hf]at h;cases h
    |some ks'=>
     rw[hf]at h;simp only at h;split at h
     .rename_i hl
      cases h;obtain⟨xs,n',rfl,hlen,hall⟩:∃(xs:Y (DataW H × Y MemPlace))(m:X),fuel=m+1/\cs.length=P.cellsOf t/\∀i,i<n->∃y,DataW.trod enc P w base spare held m e ((cs.drop (i*P.cellsOf e)).take (P.cellsOf e))=S y:=by
       cases fuel with
       |zero=>simp[DataW.trod]at hx
       |succ m=>
        unfold DataW.trod at hx;rw[hu]at hx;simp only at hx;split at hx
        .rename_i hl2
         simp only[MZ]at hx;obtain⟨xs,hp,_⟩:=hx;refine⟨xs,m,U,hl2,λi hi=>?_⟩;have hg:=mapM_some_get hp i i (by simp[hi]);have hl3:=mapM_some_length hp;rw[gE (by rw[List.length_range]at hl3;omega)]at hg;exact⟨_,hg⟩
        .cases hx
      refine all _ hlen hl (oo (P:=P) _ _ _ hf λp hp ks'' hk=>?_);obtain⟨i,hi,rfl⟩:=L2.1 hp;obtain⟨y,hy⟩:=hall i (Nf.1 hi);exact ih hk hy
     .cases h
   |_=>simp at h
theorem GM{w:J}{a:qg}{v:Q}(h:w.cell? a=S v):a.block<w.heap.size:=by
 refine Nat.lt_of_not_le λhn=>?_;have:w.heap[a.block]?=none:=by simp[hn]
 unfold World.cell? at h;simp[this]at h
theorem E4{α:Type}{E:dT α}{good:α->Prop}{t e:qi}{abt:J}{sp:X->W}{a:qh qg}{len cap d:X}{dd:DataW H}{ps:Y MemPlace}{ks:Y SK}(ht:P.underlying t=S (.slice e))(hz:P.cellsOf e=E.z)(hk:flatK P d e=S ks)
  (dec:∀cs,Fits ks cs->∃x,cs=E.enc x/\good x) (h:DataW.Trod enc P abt 0 sp held t (.slice a len cap) dd ps):∃xs,HB E abt ⟨a,len,cap⟩ xs/\∀x∈xs,good x:=by
 obtain⟨fuel,h⟩:=h;rcases Go.Deep.open_slice ht h with⟨hcs,_⟩|⟨a',len',cap',m,n,D,Pl,hcs,_,hl,hm,hmm,_,hel⟩
 .simp[Value.cells]at hcs
  obtain⟨rfl,rfl,rfl⟩:=hcs;exact⟨[],⟨U,Lv _,(λj x hj=>by simp at hj)⟩,(λx hx=>by cases hx)⟩
 .simp[Value.cells]at hcs
  obtain⟨rfl,rfl,rfl⟩:=hcs;have hmlen:len<=m:=by rw[hmm];split<;>omega
  have one:∀i,i<len->∃x,good x/\a'.block<abt.heap.size/\∀c v,(E.enc x)[c]?=S v->abt.cell? ((a'.add (i*E.z)).add c)=S v:=λi hi=>by
   obtain⟨cs',h1,h2⟩:=hel i om;obtain⟨_,h3,h4⟩:=World.cells?_some h1;obtain⟨x,rfl,hg⟩:=dec cs' (AM d hk h2);rw[hz]at h4;have hpos:=E.pos;refine⟨x,hg,?_,λc v hv=>?_⟩
   .have:=h4 0 hpos
    rw[gE (by rw[E.len];exact hpos)]at this;have:=GM this
    rwa [nj,nj]at this
   .rw[h4 c (by have:=(Lu.1 hv).1;rw[E.len]at this;exact this)]
    exact hv
  have ex:∀n,n<=len->∃xs:Y α,xs.length=n/\(∀x∈xs,good x)/\∀j x,xs[j]?=S x->a'.block<abt.heap.size/\∀c v,(E.enc x)[c]?=S v->abt.cell? ((a'.add (j*E.z)).add c)=S v:=by
   intro n;induction n with
   |zero=>intro _;exact⟨[],U,(λx hx=>by cases hx),(λj x hj=>by simp at hj)⟩
   |succ n ih=>
    intro hn;obtain⟨xs,h1,h2,h3⟩:=ih om;obtain⟨x,h4,h5,h6⟩:=one n om;refine⟨xs++ [x],by simp[h1],λy hy=>?_,λj y hj=>?_⟩
    .rcases Mm.1 hy with hy|hy
     .exact h2 y hy
     .simp only[Mk]at hy;subst hy;exact h4
    .by_cases hjn:j<xs.length
     .rw[LI hjn]at hj;exact h3 j y hj
     .rw[LH om]at hj
      have hj0:j-xs.length=0:=by
       refine Classical.byContradiction λhne=>?_;rw[L0 (by simp;omega)]at hj;cases hj
      rw[hj0]at hj;simp only[Mn,Option.some.injEq]at hj;subst hj;have:j=n:=om
      subst this;exact⟨h5,h6⟩
  obtain⟨xs,h1,h2,h3⟩:=ex len (Lv _);exact⟨xs,⟨h1.symm,‹len<=cap›,λj x hj=>⟨a',U,h3 j x hj⟩⟩,h2⟩
end
end Go.Vc
namespace Go.Vc
open Go.ChangeMaps (setBlock)
section
variable{P:qq}{B:X}{w0 w:J}{L R:Y aH}{K abv:Type}{enc:K->Q}{encV:abv->Q}{m:X}{M:Y (K × abv)}
structure HC{K abv:Type}(enc:K->Q)(encV:abv->Q)(w:J)(m it:X)(M left:Y (K × abv)):Prop where
 ex:∃es c since seen c0,lN w m es c/\es.toList.map (λe=>(e.key,e.val))=M.map (λp=>(enc p.1,encV p.2))/\(es.toList.map (·.born)).Nodup/\(∀e∈es.toList,e.born<c)/\
  w.heap[it]?=S (.mapIter (S m) since seen c0)/\(∀e∈es.toList,e.born<since)/\since<=c0/\since<=c/\
  (leftOf es seen).toList.map (λe=>(e.key,e.val))=left.map (λp=>(enc p.1,encV p.2))
 nodup:(M.map (·.1)).Nodup
 sub:left.Sublist M
def pa{K abv:Type}(enc:K->Q)(encV:abv->Q)(m it:X)(M left:Y (K × abv)):aH where
 holds abx w:=(abx m/\abx it)/\HC enc encV w m it M left
 loc abx w w' h hk:=⟨h.1,by obtain⟨es,c,since,seen,c0,h1,h2,h3,h4,h5,h6⟩:=h.2.ex;exact⟨⟨es,c,since,seen,c0,by unfold lN at *;rw[hk m h.1.1];exact h1,h2,h3,h4,by rw[hk it h.1.2];exact h5,h6⟩,h.2.nodup,h.2.sub⟩⟩
 up abx G' w h hk:=⟨⟨hk _ h.1.1,hk _ h.1.2⟩,h.2⟩
theorem sE:∀(l:Y qE)(j:X)(e:qE),(l.map (·.born)).Nodup->l[j]?=S e->l.filter (λx=>x.born !=e.born)=l.eraseIdx j
 | [],j,e,_,h=>by simp at h
 |a::l,0,e,hn,h=>by simp only[Mn,Option.some.injEq]at h;subst h;rw[L1,Mj]at hn;rw[Mc];simp only[bne_self_eq_false,LK,qy,List.eraseIdx_cons_zero,List.filter_eq_self,qN,ne_eq];intro x hx e';exact hn.1 (L2.2 ⟨x,hx,e'⟩)
 |a::l,j+1,e,hn,h=>by
  rw[L1,Mj]at hn;rw[LG]at h;have hne:(a.born !=e.born)=true:=by simp only[qN,ne_eq];intro e';exact hn.1 (L2.2 ⟨e,L4 h,e'.symm⟩)
  rw[Mc,hne,qd U,Nk,sE l j e hn.2 h]
theorem Ow.range{T kt el:qi}{C:qg->J->Prop}(hu:P.underlying T=S (.map kt el))(h:Ow B w0 w L)(i:X)(hi:L[i]?=S (kl enc encV m M))(hC:∀w',Ow B w0 w' (L.set i (pa enc encV m w.heap.size M M))->C ⟨w.heap.size,0,N⟩ w'):
  ∃(it:qg)(w':J),wW P T (.map (S m)) w it w'/\C it w':=by
 have hM:jI enc encV w m M:=(h.take i hi).head λ_ h=>h.2;obtain⟨es,c,h1,h2,h3,h4⟩:=hM.ex;refine⟨_,_,run_range_map w T kt el m es c hu h1,hC _ (((h.take i hi).step (A':=pa enc encV m w.heap.size M M) λabx hA hG=>?_).put (cp hi))⟩;have hu':=ej w (.mapIter (S m) c #[] c);refine⟨hu'.FC,λk=>abx k\/k=w.heap.size,⟨⟨.inl hA.1,.inr U⟩,⟨⟨es,c,c,#[],c,h1.sW hu' (λh=>h),h2,h3,h4,heap_alloc_new _ _,h4,Lv _,Lv _,?_⟩,hM.nodup,List.Sublist.refl _⟩⟩,λk hk=>?_⟩
 .have:leftOf es #[]=es:=by unfold leftOf;simp
  rw[this];exact h2
 .have hsz:(w.alloc (.mapIter (S m) c #[] c)).heap.size=w.heap.size+1:=by show(w.heap.push _).size=_;simp
  rcases hk with hk|hk
  .exact ⟨.inl hk,by have:=(hG k hk).2;omega⟩
  .exact ⟨.inr om,om⟩
theorem yj(w:J)(r:X)(o:Obj):gg (·=r) w (setBlock w r o):=by refine⟨U,U,U,by simp[setBlock],λk hk hn=>?_⟩;simp[setBlock,Nn (λe=>hn e.symm:r≠k)]
theorem Ow.next{ty:qi}{it:X}{left:Y (K × abv)}{C:W->Y Q->J->Prop}(h:Ow B w0 w L)(i:X)(hi:L[i]?=S (pa enc encV m it M left))
  (hend:left= []->C G [] w)
  (hgo:∀(j:X)(k:K)(v:abv)(w':J),left[j]?=S (k,v)->Ow B w0 w' (L.set i (pa enc encV m it M (left.eraseIdx j)))->wT P (.pointer (S ⟨it,0,N⟩)) (enc k) (encV v) w'->C Z [enc k,encV v] w'):
  ∃(more:W)(l:Y Q)(w':J),BV P (.pointer (S ⟨it,0,N⟩)) G ty w more l w'/\C more l w':=by
 have hM:HC enc encV w m it M left:=(h.take i hi).head λ_ h=>h.2;obtain⟨es,c,since,seen,c0,h1,h2,h3,h4,h5,h6,h7,h8,h9⟩:=hM.ex;rcases run_next_at (P:=P) w ty it m since c0 seen es c h5 h1 h6 h7 with⟨hsz,hrun⟩|⟨e,he,w1,hw1,hrun⟩
 .refine ⟨G,[],w,hrun,hend ?_⟩
  have:(leftOf es seen).toList= []:=MA (by simpa using hsz);rw[this]at h9;simpa using h9.symm
 .obtain ⟨j,hj⟩:=PA he
  have hkv:=qz (λl=>l[j]?) h9;simp only[LV,hj,Mx]at hkv;cases hl:left[j]? with
  |none=>rw[hl]at hkv;cases hkv
  |some p=>
   rw[hl]at hkv;simp only[Mx,Option.some.injEq,Prod.mk.injEq]at hkv;have hu1:gg No w w1:=by
    rcases hw1 with rfl|rfl
    .exact gg.refl _ _
    .exact nh U U U U
   have hmem:e∈es.toList:=by have:=NK.1 he;unfold leftOf at this;exact NK.2 (Array.mem_filter.1 this).1
   have hne:m≠it:=λe'=>by subst e';rw[h1]at h5;cases h5
   have hset:(setBlock w1 it (.mapIter (S m) since (seen.push e.born) c)).heap[it]?=S (.mapIter (S m) since (seen.push e.born) c):=by
    have hlt:it<w1.heap.size:=by have:=(LW.1 h5).1;exact MR this hu1.size
    simp[setBlock,NN hlt]
   have hu2:=yj w1 it (.mapIter (S m) since (seen.push e.born) c);have hm2:lN (setBlock w1 it (.mapIter (S m) since (seen.push e.born) c)) m es c:=(h1.sW hu1 (λh=>h)).sW hu2 hne;have hleft:(leftOf es (seen.push e.born)).toList.map (λe=>(e.key,e.val))=(left.eraseIdx j).map (λp=>(enc p.1,encV p.2)):=by
    have e1:(leftOf es (seen.push e.born)).toList=(leftOf es seen).toList.filter λx=>x.born !=e.born:=by unfold leftOf;rw[NR,NR,List.filter_filter];congr 1;funext x;rw[Array.contains_push];cases hq:(x.born==e.born)<;>simp[bne,hq]
    have hnd:((leftOf es seen).toList.map (·.born)).Nodup:=by unfold leftOf;rw[NR];exact h3.sublist (List.filter_sublist.map _)
    rw[e1,sE _ j e hnd hj,fY,fY,h9]
   refine⟨Z,[e.key,e.val],_,hrun,?_⟩;rw[hkv.1,hkv.2];refine hgo j p.1 p.2 _ hl (((h.take i hi).step (A':=pa enc encV m it M (left.eraseIdx j)) λabx hA hG=>⟨?_,abx,⟨hA.1,⟨⟨es,c,since,seen.push e.born,c,hm2,h2,h3,h4,hset,h6,h8,h8,hleft⟩,hM.nodup,?_⟩⟩,λk hk=>⟨.inl hk,?_⟩⟩).put (cp hi)) ?_
   .exact (hu1.FC (abu:=abx)).then (hu2.mono λk _ e'=>by rw[e'];exact hA.1.2)
   .exact (NZ _ _).trans hM.sub
   .exact MR (hG k hk).2 (LY hu1.size hu2.size)
   .have:=run_entry_at (P:=P) _ it m since seen es c e hset hm2 hmem h3
    rw[hkv.1,hkv.2]at this;exact this
theorem Ow.GS{it:X}{left:Y (K × abv)}(h:Ow B w0 w L)(i:X)(hi:L[i]?=S (pa enc encV m it M left)):Ow B w0 w (L.set i (kl enc encV m M)):=
 ((h.take i hi).conv (A':=kl enc encV m M) λabx hG=>by obtain⟨es,c,since,seen,c0,h1,h2,h3,h4,_⟩:=hG.2.ex;exact⟨hG.1.1,⟨⟨es,c,h1,h2,h3,h4⟩,hG.2.nodup⟩⟩).put (cp hi)
theorem Ow.Dd{it:X}{left:Y (K × abv)}(h:Ow B w0 w L)(i:X)(hi:L[i]?=S (pa enc encV m it M left)):(M.map (·.1)).Nodup/\left.Sublist M:=
 (h.take i hi).head λ_ h=>⟨h.2.nodup,h.2.sub⟩
theorem sK{K abv:Type}[qP K]:∀{M:Y (K × abv)}{k:K}{v:abv},(M.map (·.1)).Nodup->(k,v)∈M->de M k=S v
 | [],_,_,_,h=>by cases h
 |(a,b)::M,k,v,hn,h=>by
  rw[L1,Mj]at hn;simp only[de];rcases LD.1 h with e|h
  .cases e;simp
  .have:a≠k:=λe=>hn.1 (L2.2 ⟨(k,v),h,e.symm⟩)
   rw[F this];exact sK hn.2 h
end
end Go.Vc
namespace Go.Vc
section
variable{P:qq}{B:X}{w0 w:J}{L L':Y aH}{b o n:X}{l:Y Q}{R:Y aH}{α:Type}{E:dT α}{ss:Y Sl}{rows:Y (Y α)}{s:Sl}{xs:Y α}
theorem mz{K:Type}[qP K]{kt:qi}{enc:K->Q}(heq:∀k x w,(Op.equal kt (enc k) (enc x)).run P w= .ok (V (x=k)) w)(k:K):∀(es:Y qE)(ks:Y K)(j:X)(w:J),es.map (·.key)=ks.map enc->
  (Instr.findAsking kt (enc k) es j).run P w= .ok ((ks.findIdx? λx=>V (x=k)).bind λi=>(es[i]?).map λe=>(j+i,e.val)) w
 | [],ks,j,w,h=>by
  cases ks with
  |nil=>simp[Instr.findAsking]
  |cons _ _=>simp at h
 |e::es,ks,j,w,h=>by
  cases ks with
  |nil=>simp at h
  |cons x ks=>
   simp only[L1,List.cons.injEq]at h;simp only[Instr.findAsking,Sem.run_bind,h.1,heq,Result.andThen_ok];by_cases hx:x=k
   .subst hx;simp[NG]
   .simp only[hx,decide_false,LK,qy]
    rw[mz heq k es ks (j+1) w h.2];simp only[NG,hx,decide_false,LK,qy];cases hq:ks.findIdx? (λx=>V (x=k))with
    |none=>rfl
    |some q=>
     simp only[OO,Mx,LG];congr 3;funext e;congr 1;omega
def dy(p:O × O):Q:= .agg #[.int .i64 p.1,.int .i64 p.2]
theorem AX {kt:qi} {f0 f1:Field} (hu:P.underlying kt=S (.struct #[f0,f1])) (h0:P.underlying f0.type=S (.int .i64)) (h1:P.underlying f1.type=S (.int .i64)) (n0:f0.name≠ "_") (n1:f1.name≠ "_") (o0:f0.offset=0) (o1:f1.offset=1)
  (heq:∀a b c d:O,lO P 9 kt [.int .i64 a,.int .i64 b] [.int .i64 c,.int .i64 d]=S (a==c&&(b==d&&Z))):jM P kt dy:=by
 refine⟨λem k w=>?_,λk es ks w h=>?_,λk=>by unfold Instr.sameBits dy;simp[Instr.sameBits]⟩
 .have p0:(part f0.type #[Value.int .i64 k.1,.int .i64 k.2] f0.offset).run P w= .ok (.int .i64 k.1) w:=run_part_plain w (by simp[Program.plainKey,h0]) (by rw[o0];rfl)
  have p1:(part f1.type #[Value.int .i64 k.1,.int .i64 k.2] f1.offset).run P w= .ok (.int .i64 k.2) w:=run_part_plain w (by simp[Program.plainKey,h1]) (by rw[o1];rfl);have c0:∀n v,(Instr.checkKey em (n+1) f0.type (.int .i64 v)).run P w= .ok () w:=λn v=>by unfold Instr.checkKey;rw[Sem.run_bind,run_underlying h0];rfl
  have c1:∀n v,(Instr.checkKey em (n+1) f1.type (.int .i64 v)).run P w= .ok () w:=λn v=>by unfold Instr.checkKey;rw[Sem.run_bind,run_underlying h1];rfl
  unfold Instr.checkKey dy;rw[Sem.run_bind,run_underlying hu];simp only[Result.andThen_ok];rw[<-Array.forIn_toList];simp[n0,n1,Sem.run_bind,p0,p1,c0,c1]
 .have heq':∀(k x:O × O)(w:J),(Op.equal kt (dy k) (dy x)).run P w= .ok (V (x=k)) w:=λk x w=>by
   have:=ry 9 (heq k.1 k.2 x.1 x.2) 10000 w qb;have e:∀p:O × O,lY P kt [.int .i64 p.1,.int .i64 p.2]=dy p:=λp=>by simp[lY,hu,dy]
   rw[e k,e x]at this;show(Op.equalIn 10000 kt (dy k) (dy x)).run P w=_;rw[this];congr 1;rw[Bool.eq_iff_iff];simp only[Bool.and_true,LO,qH,qB,Prod.ext_iff];constructor
   .rintro ⟨h1,h2⟩;exact⟨h1.symm,h2.symm⟩
   .rintro ⟨h1,h2⟩;exact⟨h1.symm,h2.symm⟩
  rw[run_findKey_eq w (by simp[hu])];have:=mz heq' k es ks 0 w h;simpa using this
theorem DW{l:Y Q}{o:X}{v:Q}{vs:Y Q}(h:o+(vs.length+1)<=l.length):putAt (l.set o v) (o+1) vs=putAt l o (v::vs):=by
 apply L5;intro i;rw[cQ _ _ _ _ (by rw[MJ];omega),cQ _ _ _ _ (by simpa using h)];simp only[LL,Mb];by_cases e:o=i
 .subst e
  rw[F om,qd U,qd om,qd om,MV];rfl
 .by_cases e2:o+1<=i/\i<o+1+vs.length
  .rw[qd e2,qd om,show i-o=(i-(o+1))+1 from by omega,LG]
  .rw[F e2,F e,F om]
theorem aB.mk'{b:X}:∀(vs:Y Q){w:J}{o p:X}{l:Y Q}{k:J->Prop},rm w b l->o+p+vs.length<=l.length->vs.all Value.oneCell'=Z->
  (∀w',gg (·=b) w w'->w'.heap.size=w.heap.size->rm w' b (putAt l (o+p) vs)->k w')->aB w ⟨b,o,N⟩ p vs k
 | [],w,o,p,l,k,hb,_,_,hk=>hk w (gg.refl _ _) U (by rw[je];exact hb)
 |v::vs,w,o,p,l,k,hb,hl,hone,hk=>by
  simp only[List.all_cons,LO]at hone;simp only[LL]at hl;show St w ((Addr.mk b o N).add p) v _;rw[aI];refine St.mk' hb om hone.1 λw' hu hs hb'=>?_;refine aB.mk' vs hb' (by rw[MJ];omega) hone.2 λw2 hu2 hs2 hb2=>?_;refine hk w2 (hu.then hu2) (hs2.trans hs) ?_;rw[show o+(p+1)=o+p+1 from by omega,DW om]at hb2;exact hb2
theorem nF{l:Y Q}{o:X}{vs:Y Q}(h:o+vs.length<=l.length):(putAt l o vs).length=l.length:=by
 apply Nat.le_antisymm
 .refine Pf λhlt=>?_
  have:=cQ l o vs l.length h;rw[F om,L0 (Lv _)]at this;rw[gE hlt]at this;cases this
 .refine Pf λhlt=>?_
  have:=cQ l o vs (putAt l o vs).length h;rw[L0 (Lv _)]at this;split at this
  .rename_i h2
   rw[gE om]at this;cases this
  .rw[gE hlt]at this;cases this
theorem Ow.Eh{b o:X}{l vs:Y Q}{k:J->Prop}(h:Ow B w0 w L)(i:X)(hi:L[i]?=S (aa b l))(hle:NI (o+vs.length) l.length=Z)(hone:vs.all Value.oneCell'=Z)
  (hk:∀w',Ow B w0 w' (L.set i (aa b (putAt l o vs)))->k w'):aB w ⟨b,o,N⟩ 0 vs k:=
 aB.mk' vs (h.vn i hi) (Nq hle) hone λw' hu hs hb=>hk w' (((h.take i hi).step (A':=aa b (putAt l o vs)) λabx hA hG=>⟨hu.mono λk _ e=>by rw[e];exact hA.1,abx,⟨hA.1,hb⟩,λk hk=>⟨.inl hk,by have:=(hG k hk).2;omega⟩⟩).put (cp hi))
theorem Ow.KG{s:Sl}{xs:Y α}{k:J->Prop}(h:Ow B w0 w L)(i:X)(hi:L[i]?=S (af E s xs)){j:X}(hj:j<xs.length)(x:α){b o:X}(ha:s.a=S ⟨b,o,N⟩)
  (hk:∀w',Ow B w0 w' (L.set i (af E s (xs.set j x)))->k w'):aB w ⟨b,o+j*E.z,N⟩ 0 (E.enc x) k:=by
 have hone:(E.enc x).all Value.oneCell'=true:=NT.2 λv hv=>E.one x v hv;have hs:=h.sR i hi;have hl:=h.len i hi;cases hs with
 |nil ha' _ _ _=>rw[ha']at ha;cases ha
 |mk b' o' l ha' hb hle hc hcs=>
  rw[ha']at ha;simp only[Option.some.injEq,Addr.mk.injEq,and_true]at ha;obtain⟨rfl,rfl⟩:=ha;have hfl:=aN E xs;have hlx:=E.len x;have m1:(j+1)*E.z<=xs.length*E.z:=LZ _ om;rw[Nu]at m1;have m2:s.len*E.z<=s.cap*E.z:=LZ _ hle;rw[hl]at m2;have hfit:o'+j*E.z+(E.enc x).length<=l.length:=by rw[hlx];omega
  refine aB.mk' (E.enc x) (o:=o'+j*E.z) (p:=0) hb (by simpa using hfit) hone λw' hu hsz hb'=>hk w' (((h.take i hi).step (A':=af E s (xs.set j x)) λabx hA hG=>⟨hu.mono λk _ e=>by rw[e];exact hA.1 _ ha',abx,⟨hA.1,by simpa using hl,?_⟩,λk hk=>⟨.inl hk,by have:=(hG k hk).2;omega⟩⟩).put (cp hi));refine .mk b' o' _ ha' hb' hle (by rw[nF (by simpa using hfit)];exact hc) ?_;rw[mB E xs j x hj,hcs,NB];apply L5;intro t;have hlen2:((l.drop o').take (s.len*E.z)).length=xs.length*E.z:=by rw[<-hcs];exact hfl
  rw[cQ _ _ _ _ (by rw[hlen2,hlx];omega),LS,LS,LR,LR,cQ _ _ _ _ hfit,hlx];have hz:s.len*E.z=xs.length*E.z:=by rw[hl]
  by_cases e:j*E.z<=t/\t<j*E.z+E.z
  .rw[qd e,qd om,qd om]
   congr 1;omega
  .rw[F e]
   split
   .rw[F om]
   .rfl
theorem Ow.Lr{s:Sl}{xs:Y α}{k:J->Prop}{x:α}{v:Q}(h:Ow B w0 w L)(i:X)(hi:L[i]?=S (af E s xs)){j c:X}(hj:xs[j]?=S x)(x':α)(hx:E.enc x'=(E.enc x).set c v)(hc:c<E.z)(hv:v.oneCell'=Z){b o:X}(ha:s.a=S ⟨b,o,N⟩)
  (hk:∀w',Ow B w0 w' (L.set i (af E s (xs.set j x')))->k w'):St w ⟨b,o+j*E.z+c,N⟩ v k:=by
 have hs:=h.sR i hi;have hl:=h.len i hi;have hjl:=(Lu.1 hj).1;cases hs with
 |nil ha' _ _ _=>rw[ha']at ha;cases ha
 |mk b' o' l ha' hb hle hc' hcs=>
  rw[ha']at ha;simp only[Option.some.injEq,Addr.mk.injEq,and_true]at ha;obtain⟨rfl,rfl⟩:=ha;have hfl:=aN E xs;have hlx:=E.len x;have hlx':=E.len x';have m1:(j+1)*E.z<=xs.length*E.z:=LZ _ om;rw[Nu]at m1;have m2:s.len*E.z<=s.cap*E.z:=LZ _ hle;rw[hl]at m2;refine St.mk' hb om hv λw' hu hsz hb'=>hk w' (((h.take i hi).step (A':=af E s (xs.set j x')) λabx hA hG=>⟨hu.mono λk _ e=>by rw[e];exact hA.1 _ ha',abx,⟨hA.1,by simpa using hl,?_⟩,λk hk=>⟨.inl hk,by have:=(hG k hk).2;omega⟩⟩).put (cp hi));refine .mk b' o' _ ha' hb' hle (by rw[MJ];exact hc') ?_;rw[mB E xs j x' hjl];apply L5;intro t;rw[cQ _ _ _ _ (by rw[hfl,hlx'];omega),hlx',LS,LR,Mb];have hz:s.len*E.z=xs.length*E.z:=by rw[hl]
  have hold:(xs.flatMap E.enc)[t]?=if t<s.len*E.z then l[o'+t]? else none:=by rw[hcs,LS,LR]
  by_cases e:j*E.z<=t/\t<j*E.z+E.z
  .rw[qd e,hx,Mb,hlx]
   have hg:=mA E xs j (t-j*E.z) x hj om;rw[show j*E.z+(t-j*E.z)=t from by omega,hold,qd om]at hg;rw[qd (show t<s.len*E.z by omega),<-hg];by_cases e2:c=t-j*E.z
   .rw[qd e2,qd hc,qd om,qd om]
   .rw[F e2,F om]
  .rw[F e,hold]
   split
   .rw[F om]
   .rfl
theorem Ow.oy{b o:X}{l:Y Q}{c0 c1:Sc}{x0:c0.D}{x1:c1.D}{f:c0.D->c1.D->Prop}(h:Ow B w0 w L)(i:X)(hi:L[i]?=S (aa b l))(hl:(l.drop o).take 2= [c0.mk x0,c1.mk x1])(hf:f x0 x1):ax w ⟨b,o,N⟩ 0 [c0,c1] f:=by
 have g:∀j,j<2->w.cell? ((Addr.mk b o N).add j)= [c0.mk x0,c1.mk x1][j]?:=λj hj=>by rw[aI,(h.vn i hi).cell,<-hl,LS,qd hj,LR]
 exact⟨_,g 0 qb,_,g 1 qb,hf⟩
theorem Ow.Kw{b o:X}{l:Y Q}{c0 c1 c2:Sc}{x0:c0.D}{x1:c1.D}{x2:c2.D}{f:c0.D->c1.D->c2.D->Prop}(h:Ow B w0 w L)(i:X)(hi:L[i]?=S (aa b l))(hl:(l.drop o).take 3= [c0.mk x0,c1.mk x1,c2.mk x2])(hf:f x0 x1 x2):ax w ⟨b,o,N⟩ 0 [c0,c1,c2] f:=by
 have g:∀j,j<3->w.cell? ((Addr.mk b o N).add j)= [c0.mk x0,c1.mk x1,c2.mk x2][j]?:=λj hj=>by rw[aI,(h.vn i hi).cell,<-hl,LS,qd hj,LR]
 exact⟨_,g 0 qb,_,g 1 qb,_,g 2 qb,hf⟩
theorem Ow.Ky{b o:X}{l:Y Q}{c0 c1 c2 c3:Sc}{x0:c0.D}{x1:c1.D}{x2:c2.D}{x3:c3.D}{f:c0.D->c1.D->c2.D->c3.D->Prop}(h:Ow B w0 w L)(i:X)(hi:L[i]?=S (aa b l))(hl:(l.drop o).take 4= [c0.mk x0,c1.mk x1,c2.mk x2,c3.mk x3])(hf:f x0 x1 x2 x3):ax w ⟨b,o,N⟩ 0 [c0,c1,c2,c3] f:=by
 have g:∀j,j<4->w.cell? ((Addr.mk b o N).add j)= [c0.mk x0,c1.mk x1,c2.mk x2,c3.mk x3][j]?:=λj hj=>by rw[aI,(h.vn i hi).cell,<-hl,LS,qd hj,LR]
 exact⟨_,g 0 qb,_,g 1 qb,_,g 2 qb,_,g 3 qb,hf⟩
theorem Ow.s0{b o:X}{l:Y Q}{c0 c1 c2 c3 c4 c5:Sc}{x0:c0.D}{x1:c1.D}{x2:c2.D}{x3:c3.D}{x4:c4.D}{x5:c5.D}{f:c0.D->c1.D->c2.D->c3.D->c4.D->c5.D->Prop}(h:Ow B w0 w L)(i:X)(hi:L[i]?=S (aa b l))(hl:(l.drop o).take 6= [c0.mk x0,c1.mk x1,c2.mk x2,c3.mk x3,c4.mk x4,c5.mk x5])(hf:f x0 x1 x2 x3 x4 x5):ax w ⟨b,o,N⟩ 0 [c0,c1,c2,c3,c4,c5] f:=by
 have g:∀j,j<6->w.cell? ((Addr.mk b o N).add j)= [c0.mk x0,c1.mk x1,c2.mk x2,c3.mk x3,c4.mk x4,c5.mk x5][j]?:=λj hj=>by rw[aI,(h.vn i hi).cell,<-hl,LS,qd hj,LR]
 exact⟨_,g 0 qb,_,g 1 qb,_,g 2 qb,_,g 3 qb,_,g 4 qb,_,g 5 qb,hf⟩
theorem Ow.Kz{b o:X}{l:Y Q}{c0 c1 c2 c3 c4 c5 c6:Sc}{x0:c0.D}{x1:c1.D}{x2:c2.D}{x3:c3.D}{x4:c4.D}{x5:c5.D}{x6:c6.D}{f:c0.D->c1.D->c2.D->c3.D->c4.D->c5.D->c6.D->Prop}(h:Ow B w0 w L)(i:X)(hi:L[i]?=S (aa b l))(hl:(l.drop o).take 7= [c0.mk x0,c1.mk x1,c2.mk x2,c3.mk x3,c4.mk x4,c5.mk x5,c6.mk x6])(hf:f x0 x1 x2 x3 x4 x5 x6):ax w ⟨b,o,N⟩ 0 [c0,c1,c2,c3,c4,c5,c6] f:=by
 have g:∀j,j<7->w.cell? ((Addr.mk b o N).add j)= [c0.mk x0,c1.mk x1,c2.mk x2,c3.mk x3,c4.mk x4,c5.mk x5,c6.mk x6][j]?:=λj hj=>by rw[aI,(h.vn i hi).cell,<-hl,LS,qd hj,LR]
 exact⟨_,g 0 qb,_,g 1 qb,_,g 2 qb,_,g 3 qb,_,g 4 qb,_,g 5 qb,_,g 6 qb,hf⟩
theorem Ow.KA{b o:X}{l:Y Q}{c0 c1 c2 c3 c4 c5 c6 c7:Sc}{x0:c0.D}{x1:c1.D}{x2:c2.D}{x3:c3.D}{x4:c4.D}{x5:c5.D}{x6:c6.D}{x7:c7.D}{f:c0.D->c1.D->c2.D->c3.D->c4.D->c5.D->c6.D->c7.D->Prop}(h:Ow B w0 w L)(i:X)(hi:L[i]?=S (aa b l))(hl:(l.drop o).take 8= [c0.mk x0,c1.mk x1,c2.mk x2,c3.mk x3,c4.mk x4,c5.mk x5,c6.mk x6,c7.mk x7])(hf:f x0 x1 x2 x3 x4 x5 x6 x7):ax w ⟨b,o,N⟩ 0 [c0,c1,c2,c3,c4,c5,c6,c7] f:=by
 have g:∀j,j<8->w.cell? ((Addr.mk b o N).add j)= [c0.mk x0,c1.mk x1,c2.mk x2,c3.mk x3,c4.mk x4,c5.mk x5,c6.mk x6,c7.mk x7][j]?:=λj hj=>by rw[aI,(h.vn i hi).cell,<-hl,LS,qd hj,LR]
 exact⟨_,g 0 qb,_,g 1 qb,_,g 2 qb,_,g 3 qb,_,g 4 qb,_,g 5 qb,_,g 6 qb,_,g 7 qb,hf⟩
theorem Ow.Js{b o:X}{l:Y Q}{c0 c1 c2 c3 c4 c5 c6 c7 c8 c9:Sc}{x0:c0.D}{x1:c1.D}{x2:c2.D}{x3:c3.D}{x4:c4.D}{x5:c5.D}{x6:c6.D}{x7:c7.D}{x8:c8.D}{x9:c9.D}{f:c0.D->c1.D->c2.D->c3.D->c4.D->c5.D->c6.D->c7.D->c8.D->c9.D->Prop}(h:Ow B w0 w L)(i:X)(hi:L[i]?=S (aa b l))(hl:(l.drop o).take 10= [c0.mk x0,c1.mk x1,c2.mk x2,c3.mk x3,c4.mk x4,c5.mk x5,c6.mk x6,c7.mk x7,c8.mk x8,c9.mk x9])(hf:f x0 x1 x2 x3 x4 x5 x6 x7 x8 x9):ax w ⟨b,o,N⟩ 0 [c0,c1,c2,c3,c4,c5,c6,c7,c8,c9] f:=by
 have g:∀j,j<10->w.cell? ((Addr.mk b o N).add j)= [c0.mk x0,c1.mk x1,c2.mk x2,c3.mk x3,c4.mk x4,c5.mk x5,c6.mk x6,c7.mk x7,c8.mk x8,c9.mk x9][j]?:=λj hj=>by rw[aI,(h.vn i hi).cell,<-hl,LS,qd hj,LR]
 exact⟨_,g 0 qb,_,g 1 qb,_,g 2 qb,_,g 3 qb,_,g 4 qb,_,g 5 qb,_,g 6 qb,_,g 7 qb,_,g 8 qb,_,g 9 qb,hf⟩
theorem Ow.Jt{b o:X}{l:Y Q}{c0 c1 c2 c3 c4 c5 c6 c7 c8 c9 c10 c11:Sc}{x0:c0.D}{x1:c1.D}{x2:c2.D}{x3:c3.D}{x4:c4.D}{x5:c5.D}{x6:c6.D}{x7:c7.D}{x8:c8.D}{x9:c9.D}{x10:c10.D}{x11:c11.D}{f:c0.D->c1.D->c2.D->c3.D->c4.D->c5.D->c6.D->c7.D->c8.D->c9.D->c10.D->c11.D->Prop}(h:Ow B w0 w L)(i:X)(hi:L[i]?=S (aa b l))(hl:(l.drop o).take 12= [c0.mk x0,c1.mk x1,c2.mk x2,c3.mk x3,c4.mk x4,c5.mk x5,c6.mk x6,c7.mk x7,c8.mk x8,c9.mk x9,c10.mk x10,c11.mk x11])(hf:f x0 x1 x2 x3 x4 x5 x6 x7 x8 x9 x10 x11):ax w ⟨b,o,N⟩ 0 [c0,c1,c2,c3,c4,c5,c6,c7,c8,c9,c10,c11] f:=by
 have g:∀j,j<12->w.cell? ((Addr.mk b o N).add j)= [c0.mk x0,c1.mk x1,c2.mk x2,c3.mk x3,c4.mk x4,c5.mk x5,c6.mk x6,c7.mk x7,c8.mk x8,c9.mk x9,c10.mk x10,c11.mk x11][j]?:=λj hj=>by rw[aI,(h.vn i hi).cell,<-hl,LS,qd hj,LR]
 exact⟨_,g 0 qb,_,g 1 qb,_,g 2 qb,_,g 3 qb,_,g 4 qb,_,g 5 qb,_,g 6 qb,_,g 7 qb,_,g 8 qb,_,g 9 qb,_,g 10 qb,_,g 11 qb,hf⟩
theorem bo{p:Prop}[Decidable p]{A C:Prop}(h1:p->A)(h2:¬p->C):bif V p then A else C:=by
 by_cases h:p
 .rw[qu h];exact h1 h
 .rw[qm h];exact h2 h
theorem az{p:Prop}[Decidable p]{A C:Prop}(h:p)(h1:A):bif V p then A else C:=by rw[qu h];exact h1
theorem aw{p:Prop}[Decidable p]{A C:Prop}(h:¬p)(h1:C):bif V p then A else C:=by rw[qm h];exact h1
theorem cb{b:W}{A C:Prop}(h1:b=Z->A)(h2:b=G->C):bif b then A else C:=by
 cases b with
 |true=>exact h1 U
 |false=>exact h2 U
theorem bh{b:W}{A C:Prop}(h:b=Z)(h1:A):bif b then A else C:=by rw[h];exact h1
theorem bc{b:W}{A C:Prop}(h:b=G)(h1:C):bif b then A else C:=by rw[h];exact h1
theorem HH{b:W}{A C:Prop}(h1:b=G->A)(h2:b=Z->C):bif !b then A else C:=by
 cases b with
 |true=>exact h2 U
 |false=>exact h1 U
theorem dE{x y:O}{A C:Prop}(h1:x=y->A)(h2:x≠y->C):bif x==y then A else C:=by
 by_cases h:x=y
 .rw[show(x==y)=Z from by simpa using h];exact h1 h
 .rw[show(x==y)=G from by simpa using h];exact h2 h
theorem og{x y:O}{A C:Prop}(h:x=y)(h1:A):bif x==y then A else C:=by rw[show(x==y)=Z from by simpa using h];exact h1
theorem nQ{x y:O}{A C:Prop}(h:x≠y)(h1:C):bif x==y then A else C:=by rw[show(x==y)=G from by simpa using h];exact h1
theorem oU{x y:O}{A C:Prop}(h1:x≠y->A)(h2:x=y->C):bif x !=y then A else C:=by
 by_cases h:x=y
 .rw[show(x !=y)=G from by simpa using h];exact h2 h
 .rw[show(x !=y)=Z from by simpa using h];exact h1 h
theorem iv{x y:O}{A C:Prop}(h:x≠y)(h1:A):bif x !=y then A else C:=by rw[show(x !=y)=Z from by simpa using h];exact h1
theorem fa{x y:O}{A C:Prop}(h:x=y)(h1:C):bif x !=y then A else C:=by rw[show(x !=y)=G from by simpa using h];exact h1
class fL(b:X)(L:Y aH)(l:outParam (Y Q))where
 i:X
 at_:L[i]?=S (aa b l)
instance fL.tail{b:X}{abo:aH}{L:Y aH}{l:Y Q}[abw:fL b L l]:fL b (abo::L) l:=⟨abw.i+1,by simpa using abw.at_⟩
instance fL.head{b:X}{L:Y aH}{l:Y Q}:fL b (aa b l::L) l:=⟨0,U⟩
class sA(b:X)(L:Y aH)(l:outParam (Y Q))(f:Y Q->Y Q)(L':outParam (Y aH))where
 i:X
 at_:L[i]?=S (aa b l)
 up:L'=L.set i (aa b (f l))
instance sA.tail{b:X}{abo:aH}{L L':Y aH}{l:Y Q}{f:Y Q->Y Q}[abw:sA b L l f L']:sA b (abo::L) l f (abo::L'):=⟨abw.i+1,by simpa using abw.at_,(qz (abo::·) abw.up)⟩
instance sA.head{b:X}{L:Y aH}{l:Y Q}{f:Y Q->Y Q}:sA b (aa b l::L) l f (aa b (f l)::L):=⟨0,U,U⟩
theorem Ow.aF{v:Q}[abw:fL b L l](h:Ow B w0 w L)(hv:l[o]?=S v):w.cell? (Addr.mk b o N)=S v:=h.gr abw.i abw.at_ hv
theorem Ow.aE{v:Q}[abw:fL b L l](h:Ow B w0 w L)(hv:l[o+n]?=S v):w.cell? ((Addr.mk b o N).add n)=S v:=h.ld abw.i abw.at_ hv
class wX(l:Y Q)(n:X)(v:Q)(r:outParam (Y Q)):Prop where
 e:l.set n v=r
instance(priority:=low)wX.any {l:Y Q} {n:X} {v:Q}:wX l n v (l.set n v):=⟨U⟩
instance wX.here{x v:Q}{l:Y Q}:wX (x::l) 0 v (v::l):=⟨U⟩
instance wX.skip{x v:Q}{n:X}{l r:Y Q}[abw:wX l n v r]:wX (x::l) (n+1) v (x::r):=⟨by rw[LM,abw.e]⟩
theorem Ow.jH{v:Q}{r:Y Q}{k:J->Prop}[I0:fL b L l][abq:wX l o v r][abw:sA b L l (λ_=>r) L'](h:Ow B w0 w L)(ho:(l[o]?).isSome=Z)(hv:v.oneCell'=Z)(hk:∀w',Ow B w0 w' L'->k w'):St w ⟨b,o,N⟩ v k:=
 h.st abw.i abw.at_ ho hv λw' h'=>hk w' (by rw[abq.e]at h';rw[abw.up];exact h')
theorem Ow.fK{v:Q}{r:Y Q}{k:J->Prop}[I0:fL b L l][abq:wX l (o+n) v r][abw:sA b L l (λ_=>r) L'](h:Ow B w0 w L)(ho:(l[o+n]?).isSome=Z)(hv:v.oneCell'=Z)(hk:∀w',Ow B w0 w' L'->k w'):St w ((Addr.mk b o N).add n) v k:=
 h.Lq abw.i abw.at_ ho hv λw' h'=>hk w' (by rw[abq.e]at h';rw[abw.up];exact h')
theorem Ow.aR{c0 c1:Sc}{x0:c0.D}{x1:c1.D}{f:c0.D->c1.D->Prop}[abw:fL b L l](h:Ow B w0 w L)(hl:(l.drop o).take 2= [c0.mk x0,c1.mk x1])(hf:f x0 x1):ax w ⟨b,o,N⟩ 0 [c0,c1] f:=h.oy abw.i abw.at_ hl hf
theorem Ow.nS{c0 c1 c2:Sc}{x0:c0.D}{x1:c1.D}{x2:c2.D}{f:c0.D->c1.D->c2.D->Prop}[abw:fL b L l](h:Ow B w0 w L)(hl:(l.drop o).take 3= [c0.mk x0,c1.mk x1,c2.mk x2])(hf:f x0 x1 x2):ax w ⟨b,o,N⟩ 0 [c0,c1,c2] f:=h.Kw abw.i abw.at_ hl hf
theorem Ow.nT{c0 c1 c2 c3:Sc}{x0:c0.D}{x1:c1.D}{x2:c2.D}{x3:c3.D}{f:c0.D->c1.D->c2.D->c3.D->Prop}[abw:fL b L l](h:Ow B w0 w L)(hl:(l.drop o).take 4= [c0.mk x0,c1.mk x1,c2.mk x2,c3.mk x3])(hf:f x0 x1 x2 x3):ax w ⟨b,o,N⟩ 0 [c0,c1,c2,c3] f:=h.Ky abw.i abw.at_ hl hf
theorem Ow.dx{c0 c1 c2 c3 c4 c5:Sc}{x0:c0.D}{x1:c1.D}{x2:c2.D}{x3:c3.D}{x4:c4.D}{x5:c5.D}{f:c0.D->c1.D->c2.D->c3.D->c4.D->c5.D->Prop}[abw:fL b L l](h:Ow B w0 w L)(hl:(l.drop o).take 6= [c0.mk x0,c1.mk x1,c2.mk x2,c3.mk x3,c4.mk x4,c5.mk x5])(hf:f x0 x1 x2 x3 x4 x5):ax w ⟨b,o,N⟩ 0 [c0,c1,c2,c3,c4,c5] f:=h.s0 abw.i abw.at_ hl hf
theorem Ow.xw{c0 c1 c2 c3 c4 c5 c6:Sc}{x0:c0.D}{x1:c1.D}{x2:c2.D}{x3:c3.D}{x4:c4.D}{x5:c5.D}{x6:c6.D}{f:c0.D->c1.D->c2.D->c3.D->c4.D->c5.D->c6.D->Prop}[abw:fL b L l](h:Ow B w0 w L)(hl:(l.drop o).take 7= [c0.mk x0,c1.mk x1,c2.mk x2,c3.mk x3,c4.mk x4,c5.mk x5,c6.mk x6])(hf:f x0 x1 x2 x3 x4 x5 x6):ax w ⟨b,o,N⟩ 0 [c0,c1,c2,c3,c4,c5,c6] f:=h.Kz abw.i abw.at_ hl hf
theorem Ow.GV{c0 c1 c2 c3 c4 c5 c6 c7:Sc}{x0:c0.D}{x1:c1.D}{x2:c2.D}{x3:c3.D}{x4:c4.D}{x5:c5.D}{x6:c6.D}{x7:c7.D}{f:c0.D->c1.D->c2.D->c3.D->c4.D->c5.D->c6.D->c7.D->Prop}[abw:fL b L l](h:Ow B w0 w L)(hl:(l.drop o).take 8= [c0.mk x0,c1.mk x1,c2.mk x2,c3.mk x3,c4.mk x4,c5.mk x5,c6.mk x6,c7.mk x7])(hf:f x0 x1 x2 x3 x4 x5 x6 x7):ax w ⟨b,o,N⟩ 0 [c0,c1,c2,c3,c4,c5,c6,c7] f:=h.KA abw.i abw.at_ hl hf
theorem Ow.kC{c0 c1 c2 c3 c4 c5 c6 c7 c8 c9:Sc}{x0:c0.D}{x1:c1.D}{x2:c2.D}{x3:c3.D}{x4:c4.D}{x5:c5.D}{x6:c6.D}{x7:c7.D}{x8:c8.D}{x9:c9.D}{f:c0.D->c1.D->c2.D->c3.D->c4.D->c5.D->c6.D->c7.D->c8.D->c9.D->Prop}[abw:fL b L l](h:Ow B w0 w L)(hl:(l.drop o).take 10= [c0.mk x0,c1.mk x1,c2.mk x2,c3.mk x3,c4.mk x4,c5.mk x5,c6.mk x6,c7.mk x7,c8.mk x8,c9.mk x9])(hf:f x0 x1 x2 x3 x4 x5 x6 x7 x8 x9):ax w ⟨b,o,N⟩ 0 [c0,c1,c2,c3,c4,c5,c6,c7,c8,c9] f:=h.Js abw.i abw.at_ hl hf
theorem Ow.sH{c0 c1 c2 c3 c4 c5 c6 c7 c8 c9 c10 c11:Sc}{x0:c0.D}{x1:c1.D}{x2:c2.D}{x3:c3.D}{x4:c4.D}{x5:c5.D}{x6:c6.D}{x7:c7.D}{x8:c8.D}{x9:c9.D}{x10:c10.D}{x11:c11.D}{f:c0.D->c1.D->c2.D->c3.D->c4.D->c5.D->c6.D->c7.D->c8.D->c9.D->c10.D->c11.D->Prop}[abw:fL b L l](h:Ow B w0 w L)(hl:(l.drop o).take 12= [c0.mk x0,c1.mk x1,c2.mk x2,c3.mk x3,c4.mk x4,c5.mk x5,c6.mk x6,c7.mk x7,c8.mk x8,c9.mk x9,c10.mk x10,c11.mk x11])(hf:f x0 x1 x2 x3 x4 x5 x6 x7 x8 x9 x10 x11):ax w ⟨b,o,N⟩ 0 [c0,c1,c2,c3,c4,c5,c6,c7,c8,c9,c10,c11] f:=h.Jt abw.i abw.at_ hl hf
theorem Ow.cq{a0 a1:aH}(h:Ow B w0 w (a0::a1::L)):Ow B w0 w (a1::a0::L):=h.take 1 U
theorem Ow.uN{a0 a1:aH}(h:Ow B w0 w (a0::a1::L)):Ow B w0 w (a0::L):=h.cq.drop
theorem Ow.kh{a0 a1 a2:aH}(h:Ow B w0 w (a0::a1::a2::L)):Ow B w0 w (a2::a0::a1::L):=h.take 2 U
theorem Ow.FY{a0 a1 a2:aH}(h:Ow B w0 w (a0::a1::a2::L)):Ow B w0 w (a0::a1::L):=h.kh.drop
theorem Ow.vd{a0 a1 a2 a3:aH}(h:Ow B w0 w (a0::a1::a2::a3::L)):Ow B w0 w (a3::a0::a1::a2::L):=h.take 3 U
theorem Ow.IZ{a0 a1 a2 a3:aH}(h:Ow B w0 w (a0::a1::a2::a3::L)):Ow B w0 w (a0::a1::a2::L):=h.vd.drop
class tQ(l:Y Q)(o:X)(vs:Y Q)(r:outParam (Y Q)):Prop where
 e:putAt l o vs=r
instance(priority:=low)tQ.any {l:Y Q} {o:X} {vs:Y Q}:tQ l o vs (putAt l o vs):=⟨U⟩
instance tQ.nil{l:Y Q}:tQ l 0 [] l:=⟨je l 0⟩
instance tQ.here{x v:Q}{l vs r:Y Q}[abw:tQ l 0 vs r]:tQ (x::l) 0 (v::vs) (v::r):=⟨by show v::putAt l 0 vs=_;rw[abw.e]⟩
instance tQ.skip{x v:Q}{o:X}{l vs r:Y Q}[abw:tQ l o (v::vs) r]:tQ (x::l) (o+1) (v::vs) (x::r):=⟨by show x::putAt l o (v::vs)=_;rw[abw.e]⟩
theorem Ow.aA{vs r:Y Q}{k:J->Prop}[I0:fL b L l][abq:tQ l o vs r][abw:sA b L l (λ_=>r) L'](h:Ow B w0 w L)(hle:NI (o+vs.length) l.length=Z)(hone:vs.all Value.oneCell'=Z)(hk:∀w',Ow B w0 w' L'->k w'):aB w ⟨b,o,N⟩ 0 vs k:=
 h.Eh abw.i abw.at_ hle hone λw' h'=>hk w' (by rw[abq.e]at h';rw[abw.up];exact h')
class fh(A:aH)(L:Y aH)(R:outParam (Y aH)):Prop where
 perm:L.Perm (A::R)
instance fh.tail{A abo:aH}{L R:Y aH}[abw:fh A L R]:fh A (abo::L) (abo::R):=⟨(abw.perm.cons abo).trans (List.Perm.swap _ _ _)⟩
instance fh.head{A:aH}{L:Y aH}:fh A (A::L) L:=⟨List.Perm.refl _⟩
class vv(L L':Y aH):Prop where
 sub:∃abr,L.Perm (abr++L')
instance vv.skip{abo:aH}{L L':Y aH}[abw:vv L L']:vv (abo::L) L':=⟨by obtain⟨abr,h⟩:=abw.sub;exact⟨abo::abr,h.cons abo⟩⟩
instance vv.pick{A:aH}{L R L':Y aH}[abw:fh A L R][abq:vv R L']:vv L (A::L'):=⟨by obtain⟨abr,h⟩:=abq.sub;exact⟨abr,abw.perm.trans ((h.cons A).trans List.perm_middle.symm)⟩⟩
instance vv.same{L:Y aH}:vv L L:=⟨[],List.Perm.refl _⟩
theorem Ow.HK{B:X}{w0 w:J}{L:Y aH}:∀{abr:Y aH},Ow B w0 w (abr++L)->Ow B w0 w L
 | [],h=>h
 |_::abr,h=>Ow.HK (abr:=abr) h.drop
theorem Ow.sub{B:X}{w0 w:J}{L L':Y aH}[abw:vv L L'](h:Ow B w0 w L):Ow B w0 w L':=by obtain⟨abr,hp⟩:=abw.sub;exact(h.perm hp).HK
theorem Ow.pick{B:X}{w0 w:J}{L R:Y aH}{A:aH}[abw:fh A L R](h:Ow B w0 w L):Ow B w0 w (A::R):=h.perm abw.perm
theorem Em{w:J}{A:qg}{C:Prop}:∀(vs:Y Q)(i:X),(∀j v,vs[j]?=S v->w.cell? (A.add (i+j))=S v)->C->yr w A i vs C
 | [],_,_,hC=>hC
 |v::vs,i,h,hC=>⟨h 0 v U,Em vs (i+1) (λj u hj=>by rw[show i+1+j=i+(j+1)from by omega];exact h (j+1) u (by simpa using hj)) hC⟩
theorem Ow.hd{B:X}{w0 w:J}{L:Y aH}{b o:X}{l vs:Y Q}{C:Prop}[abw:fL b L l](h:Ow B w0 w L)(hl:(l.drop o).take vs.length=vs)(hC:C):yr w ⟨b,o,N⟩ 0 vs C:=
 Em vs 0 (λj v hj=>by
  rw[aI,(h.vn abw.i abw.at_).cell,LF];rw[<-hl,LS]at hj;split at hj
  .rw[LR]at hj;exact hj
  .cases hj) hC
theorem eE{α:Type}{x:α}{abx:α->Prop}(h:abx x):∃a,S x=S a/\abx a:=⟨x,U,h⟩
theorem a2{p:Prop}(h:p):p/\I:=⟨h,trivial⟩
class cu(s:Sl)(L:Y aH)(α:outParam Type)(E:outParam (dT α))(xs:outParam (Y α))where
 i:X
 at_:L[i]?=S (af E s xs)
instance cu.tail{s:Sl}{abo:aH}{L:Y aH}{α:Type}{E:dT α}{xs:Y α}[abw:cu s L α E xs]:cu s (abo::L) α E xs:=⟨abw.i+1,by simpa using abw.at_⟩
instance cu.head{s:Sl}{L:Y aH}{α:Type}{E:dT α}{xs:Y α}:cu s (af E s xs::L) α E xs:=⟨0,U⟩
theorem Ow.aL(s:Sl)[abw:cu s L α E xs](h:Ow B w0 w L):s.len=xs.length:=h.len abw.i abw.at_
theorem Eu{b o i j z:X}(c:X)(hij:i=j):((Addr.mk b o N).add (i*z)).add c=⟨b,o+(j*z+c),N⟩:=by rw[aI,aI,hij,Nv]
theorem Et{b o i j z:X}(hij:i=j):(Addr.mk b o N).add (i*z)=⟨b,o+(j*z+0),N⟩:=by rw[aI,hij,NB]
theorem Ow.cz[abw:cu s L α E xs]{i:O}{j:X}{x:α}{abx:qg->Prop}(h:Ow B w0 w L)(hij:i=(j:O))(hj:xs[j]?=S x)
  (hG:∀a,s.a=S a->(∀v,(E.enc x)[0]?=S v->w.cell? (a.add (i.toNat*E.z))=S v)->(∀c v,(E.enc x)[c]?=S v->w.cell? ((a.add (i.toNat*E.z)).add c)=S v)->abx a):
  ∃a,s.a=S a/\0<=i/\i<(s.len:O)/\abx a:=by
 obtain⟨b,o,ha,hc⟩:=h.get abw.i abw.at_ hj;have hlen:=h.len abw.i abw.at_;have hlt:=(Lu.1 hj).1;have hn:i.toNat=j:=om
 refine⟨_,ha,om,om,hG _ ha (λv hv=>?_) λc v hv=>?_⟩
 .rw[Et hn];exact hc 0 v hv
 .rw[Eu c hn];exact hc c v hv
theorem Ow.Jm[abw:cu s L α E xs]{i:O}{j:X}{x:α}(h:Ow B w0 w L)(hij:i=(j:O))(hj:xs[j]?=S x){a:qg}(ha:s.a=S a):
  (∀v,(E.enc x)[0]?=S v->w.cell? (a.add (i.toNat*E.z))=S v)/\(∀c v,(E.enc x)[c]?=S v->w.cell? ((a.add (i.toNat*E.z)).add c)=S v):=by
 obtain⟨b,o,ha',hc⟩:=h.get abw.i abw.at_ hj;rw[ha]at ha';simp only[Option.some.injEq]at ha';subst ha';have hn:i.toNat=j:=om
 refine⟨λv hv=>?_,λc v hv=>?_⟩
 .rw[Et hn];exact hc 0 v hv
 .rw[Eu c hn];exact hc c v hv
theorem Ow.uW(s:Sl)[abw:cu s L α E xs](h:Ow B w0 w L){a:qg}(ha:s.a=S a):a=⟨a.block,a.off,N⟩:=by have:=(h.sR abw.i abw.at_).spot a ha;cases a;simp at this;subst this;rfl
theorem uA{A:aH}{L R:Y aH}(abw:fh A L R)(h:Ow B w0 w L):Ow B w0 w (A::R):=h.perm abw.perm
theorem Ow.Iz[abw:cu s L α E xs]{R:Y aH}[abq:fh (af E s xs) L R]{i:O}{j:X}{a:qg}{v:Q}{k:J->Prop}(h:Ow B w0 w L)(x:α)(hij:i=(j:O))(hj:j<xs.length)(ha:s.a=S a)(hx:E.enc x= [v])
  (hk:∀w',Ow B w0 w' (af E s (xs.set j x)::R)->k w'):St w (a.add (i.toNat*E.z)) v k:=by
 have e:=h.uW s ha;have hn:i.toNat=j:=om
 rw[e,aI,hn];exact(uA abq h).Lf 0 U hj x (by rw[ha];exact qz S e) hx hk
theorem Ow.sU[abw:cu s L α E xs]{R:Y aH}[abq:fh (af E s xs) L R]{i:O}{j:X}{a:qg}{k:J->Prop}(h:Ow B w0 w L)(x:α)(hij:i=(j:O))(hj:j<xs.length)(ha:s.a=S a)
  (hk:∀w',Ow B w0 w' (af E s (xs.set j x)::R)->k w'):aB w (a.add (i.toNat*E.z)) 0 (E.enc x) k:=by
 have e:=h.uW s ha;have hn:i.toNat=j:=om
 rw[e,aI,hn];exact(uA abq h).KG 0 U hj x (by rw[ha];exact qz S e) hk
theorem Ow.zO[abw:cu s L α E xs]{R:Y aH}[abq:fh (af E s xs) L R]{i:O}{j c:X}{a:qg}{x:α}{v:Q}{k:J->Prop}(h:Ow B w0 w L)(x':α)(hij:i=(j:O))(hj:xs[j]?=S x)(ha:s.a=S a)(hx:E.enc x'=(E.enc x).set c v)(hc:c<E.z)(hv:v.oneCell'=Z)
  (hk:∀w',Ow B w0 w' (af E s (xs.set j x')::R)->k w'):St w ((a.add (i.toNat*E.z)).add c) v k:=by
 have e:=h.uW s ha;have hn:i.toNat=j:=om
 rw[e,aI,aI,hn];exact(uA abq h).Lr 0 U hj x' hx hc hv (by rw[ha];exact qz S e) hk
theorem Ow.eL{T el:qi}{inf:qL}{zv:Q}{y:α}{b:X}{k:Sl->J->Prop}[abw:cu s L α E xs]{R:Y aH}[abq:fh (af E s xs) L R]
  (hu:P.underlying T=S (.slice el)) (hi:P.info? el=S inf) (hz:inf.zero=S zv) (hsz:inf.size=E.z) (hzc:zv.cells.size=E.z) (hb:1<=inf.bytes)
  (h:Ow B w0 w (aa b (E.enc y)::L)) (hbig:(17*(xs.length+1)+16000)*inf.bytes<=2^48)
  (hk:∀s' w',s'.len=xs.length+1->Ow B w0 w' (af E s' (xs++ [y])::R)->k s' w'):
  ∃s' w',aM P [T,T] T (.slice s.a s.len s.cap) (.slice (S (Addr.mk b 0 N)) 1 1) w s' w'/\k s' w':=
 Ow.GF hu hi hz hsz hzc hb (h.perm (abq.perm.cons _)) 0 U hbig hk
theorem Ow.s6{T el:qi}{inf:qL}{zv:Q}{z0:α}{n:O}{k:Sl->J->Prop}(hu:P.underlying T=S (.slice el))(hi:P.info? el=S inf)(hz:inf.zero=S zv)(hsz:inf.size=E.z)(hzc:zv.cells.toList=E.enc z0)
  (h:Ow B w0 w L) (h0:0<=n) (hn:(inf.bytes:O)*n<=2^48) (hnn:n<=2^48) (hk:∀s' w',s'.len=n.toNat->Ow B w0 w' (af E s' (Ly n.toNat z0)::L)->k s' w'):
  ∃s' w',km P T (.int .i64 n) (.int .i64 n) w s' w'/\k s' w':=by
 obtain⟨m,rfl⟩:=Int.eq_ofNat_of_zero_le h0;have hp48:(2:O)^48=281474976710656:=qb
 rw[hp48]at hn hnn;have hw:qf.wrap (m:O)=(m:O):=wr om om;have hzl:zv.cells.size=E.z:=by rw[<-Mo,hzc,E.len]
 let row:Y Q:=rep m (E.enc z0)
 have hrow:row=(Ly m z0).flatMap E.enc:=by
  show rep m (E.enc z0)=_;clear hk hw hn hnn h0;induction m with
  |zero=>rfl
  |succ m ih=>simp[rep,N6,ih]
 have hrl:row.length=m*E.z:=by rw[hrow,aN];simp
 have hcells:(Pn (m*sz P el)).map (λi=>(if m*sz P el=0 then(#[]:qo Q)else zv.cells)[i%(if m*sz P el=0 then(#[]:qo Q)else zv.cells).size]!)=⟨row⟩:=by
  have hsz2:sz P el=zv.cells.size:=by simp[sz,hi,hsz,hzl]
  by_cases e:m*sz P el=0
  .have hpos:=E.pos
   have:m=0:=by
    rcases OX.1 e with e|e
    .exact e
    .rw[hsz2,hzl]at e;omega
   subst this;simp[row,rep]
  .simp only[F e]
   rw[hsz2,rf zv.cells m (by rw[hzl];exact E.pos),hzc]
 refine⟨⟨S ⟨w.heap.size,0,N⟩,m,m⟩,w.alloc (.cells ⟨row⟩ el),?_,hk _ _ U ?_⟩
 .unfold km Instr.makeSlice
  have hsize:∀w,(sizeOf el).run P w= .ok (sz P el) w:=λw=>fu hi w;have hinfo:∀w,(typeInfo el).run P w= .ok inf w:=λw=>by simp[typeInfo,hi]
  have hzero:∀w,(qK el).run P w= .ok zv w:=λw=>by simp[qK,hinfo,hz]
  have hint:∀w,(asInt (.int .i64 (m:O))).run P w= .ok (m:O) w:=λw=>by simp[asInt,asIntOf]
  have c2:¬((inf.bytes:O)*(m:O)>2^48):=by rw[hp48];omega
  have c0:¬((m:O)<0):=om
  have c3:¬((m:O)>(m:O)):=om
  simp only[Sem.run_bind,aU hu,Result.andThen_ok,hint,hinfo,hw,qm c2,qm c0,qm c3,N9,LK,qy,Lw,run_askRoom,hsize];by_cases e:m*sz P el=0
  .simp only[qd e]at hcells
   simp only[e,qC,Sem.run_pure,Result.andThen_ok,newRow,Sem.run_bind,run_newObj];rw[e]at hcells;rw[hcells];rfl
  .simp only[F e]at hcells
   simp only[e,qy,Sem.run_bind,hzero,Sem.run_pure,Result.andThen_ok,newRow,run_newObj];rw[hcells];rfl
 .refine h.new (A':=af E ⟨S ⟨w.heap.size,0,N⟩,m,m⟩ (Ly m z0)) (G':=λk=>k=w.heap.size) (ej _ _) ⟨λa ha=>by cases ha;rfl,qc,?_⟩ λk e=>by subst e;simp
  refine .mk w.heap.size 0 row U ⟨el,heap_alloc_new _ _⟩ (Lv _) (by rw[hrl];simp) ?_;show _=(row.drop 0).take (m*E.z);rw[M3,<-hrl,Nt,hrow]
def fb{α:Type}(E:dT α)(ss:Y Sl)(rows:Y (Y α)):aH:=sB λ_:Unit=>cj (dh (ss.length=rows.length)::Lx (af E) ss rows)
def Ah:dT Sl:=⟨1,λs=>[.slice s.a s.len s.cap],λ_=>rfl,λx v h=>by simp at h;subst h;rfl,Lv _⟩
theorem Ow.Cs(h:Ow B w0 w (fb E ss rows::R)):ss.length=rows.length/\Ow B w0 w (Lx (af E) ss rows++R):=by obtain⟨_,h⟩:=h.ex;exact Ow.pure h.star
theorem Ow.xD(hl:ss.length=rows.length)(h:Ow B w0 w (Lx (af E) ss rows++R)):Ow B w0 w (fb E ss rows::R):=
 Ow.fk () (Ow.bW (Ow.cT hl h))
theorem Hx{j:X}{s:Sl}{row:Y α}(hs:ss[j]?=S s)(hr:rows[j]?=S row)(R:Y aH):(Lx (af E) ss rows++R)[j]?=S (af E s row):=by have h1:=(Lu.1 hs).1;have h2:=(Lu.1 hr).1;rw[LI (by simp;omega),List.getElem?_zipWith,hs,hr]
theorem Ow.row(h:Ow B w0 w (fb E ss rows::R)){j:X}{s:Sl}{row:Y α}(hs:ss[j]?=S s)(hr:rows[j]?=S row):
  Ow B w0 w (af E s row::((Lx (af E) ss rows).eraseIdx j++R)):=by
 obtain⟨hl,h⟩:=h.Cs;have h1:=(Lu.1 hs).1;have:=h.take j (Hx hs hr R)
 rwa [Ni (by simp;omega)]at this
theorem CB{s':Sl}{row':Y α}:∀(ss:Y Sl)(rows:Y (Y α))(j:X),Lx (af E) (ss.set j s') (rows.set j row')=(Lx (af E) ss rows).set j (af E s' row')
 | [],rows,j=>by simp
 |_::_,[],j=>by cases j<;>simp
 |s::ss,r::rows,0=>by simp
 |s::ss,r::rows,j+1=>by simp[CB ss rows j]
theorem Ow.FZ{j:X}{s':Sl}{row':Y α}(hl:ss.length=rows.length)(hj:j<rows.length)(h:Ow B w0 w (af E s' row'::((Lx (af E) ss rows).eraseIdx j++R))):
  Ow B w0 w (fb E (ss.set j s') (rows.set j row')::R):=by
 refine Ow.xD (by simp[hl]) ?_;rw[CB];have hj':j<(Lx (af E) ss rows).length:=by simp;omega
 have h2:Ow B w0 w (af E s' row'::(Lx (af E) ss rows++R).eraseIdx j):=by rwa [Ni hj']
 have:=h2.put (by simp;omega)
 rwa [List.set_append_left _ _ hj']at this
theorem Ow.F1(h:Ow B w0 w R):Ow B w0 w (fb E [] []::R):=Ow.xD U h
theorem Ag{s:Sl}{row:Y α}:∀(ss:Y Sl)(rows:Y (Y α)),ss.length=rows.length->Lx (af E) (ss++ [s]) (rows++ [row])=Lx (af E) ss rows++ [af E s row]
 | [],[],_=>rfl
 | [],_::_,h=>by simp at h
 |_::_,[],h=>by simp at h
 |a::ss,b::rows,h=>by simp[Ag ss rows (by simpa using h)]
theorem Ow.Hh{s:Sl}{row:Y α}(h:Ow B w0 w (af E s row::fb E ss rows::R)):Ow B w0 w (fb E (ss++ [s]) (rows++ [row])::R):=by have h2:Ow B w0 w (fb E ss rows::af E s row::R):=h.perm (List.Perm.swap _ _ _);obtain⟨hl,h3⟩:=h2.Cs;refine Ow.xD (by simp[hl]) ?_;rw[Ag _ _ hl,LN];exact h3
theorem Ow.tp(h:Ow B w0 w (fb E ss rows::R)){j k:X}{s:Sl}{row:Y α}{x:α}{i:O}{abx:qg->Prop}(hs:ss[j]?=S s)(hr:rows[j]?=S row)(hik:i=(k:O))(hk:row[k]?=S x)
  (hG:∀a,s.a=S a->(∀v,(E.enc x)[0]?=S v->w.cell? (a.add (i.toNat*E.z))=S v)->(∀c v,(E.enc x)[c]?=S v->w.cell? ((a.add (i.toNat*E.z)).add c)=S v)->abx a):
  ∃a,s.a=S a/\0<=i/\i<(s.len:O)/\abx a:=(h.row hs hr).cz hik hk hG
theorem Ow.Hi(h:Ow B w0 w (fb E ss rows::R)){j k:X}{s:Sl}{row:Y α}{i:O}{a:qg}{K:J->Prop}(x:α)(hs:ss[j]?=S s)(hr:rows[j]?=S row)(hik:i=(k:O))(hk:k<row.length)(ha:s.a=S a)
  (hK:∀w',Ow B w0 w' (fb E ss (rows.set j (row.set k x))::R)->K w'):aB w (a.add (i.toNat*E.z)) 0 (E.enc x) K:=by
 obtain⟨hl,_⟩:=h.Cs;have h1:=(Lu.1 hr).1;refine(h.row hs hr).sU x hik hk ha λw' h'=>hK w' ?_;have:=h'.FZ (ss:=ss) (rows:=rows) (j:=j) hl h1;have hset:ss.set j s=ss:=by
  apply L5;intro t;rw[Mb];by_cases e:j=t
  .subst e;rw[qd U,qd om,hs]
  .rw[F e]
 rwa [hset]at this
theorem Ow.gC(h:Ow B w0 w (fb E ss rows::R)){j:X}{s:Sl}{row:Y α}(hs:ss[j]?=S s)(hr:rows[j]?=S row):s.len=row.length:=(h.row hs hr).len 0 U
end
end Go.Vc
namespace Go.Vc
open Go.ChangeShapes Go.WideShapes
section
variable{B:X}{w0 w:J}{L L':Y aH}{α:Type}{E:dT α}{s:Sl}{xs:Y α}
structure Rd{α:Type}(E:dT α)(B:X)(w0:J)(L:Y aH)(s:Sl)(xs:Y α):Prop where
 len:s.len=xs.length
 JT:∀w',Ow B w0 w' L->∀(i:O)(j:X)(x:α),i=(j:O)->xs[j]?=S x->∃a,s.a=S a/\(∀v,(E.enc x)[0]?=S v->w'.cell? (a.add (i.toNat*E.z))=S v)/\(∀c v,(E.enc x)[c]?=S v->w'.cell? ((a.add (i.toNat*E.z)).add c)=S v)
theorem Rd.own[abw:cu s L α E xs](hl:s.len=xs.length):Rd E B w0 L s xs:=⟨hl,λw' h i j x hij hj=>by obtain⟨b,o,ha,_⟩:=h.get abw.i abw.at_ hj;exact⟨_,ha,h.Jm hij hj ha⟩⟩
theorem Rd.more(hr:Rd E B w0 L s xs)[abw:vv L' L]:Rd E B w0 L' s xs:=⟨hr.len,λw' h=>hr.JT w' h.sub⟩
theorem Rd.ix(hr:Rd E B w0 L s xs)(h:Ow B w0 w L){i:O}{j:X}{x:α}{abx:qg->Prop}(hij:i=(j:O))(hj:xs[j]?=S x)
  (hG:∀a,s.a=S a->(∀v,(E.enc x)[0]?=S v->w.cell? (a.add (i.toNat*E.z))=S v)->(∀c v,(E.enc x)[c]?=S v->w.cell? ((a.add (i.toNat*E.z)).add c)=S v)->abx a):
  ∃a,s.a=S a/\0<=i/\i<(s.len:O)/\abx a:=by
 obtain⟨a,ha,h0,hc⟩:=hr.JT w h i j x hij hj;have h1:=(Lu.1 hj).1;have h2:=hr.len;exact⟨a,ha,om,om,hG a ha h0 hc⟩
theorem Ow.yI{b:X}{L:Y aH}{l:Y Q}(h:Ow B w0 w (aa b l::L))(xs:Y α)(hl:l=xs.flatMap E.enc):Ow B w0 w (af E ⟨S ⟨b,0,N⟩,xs.length,xs.length⟩ xs::L):=by
 subst hl;refine h.conv λabx hG=>⟨λa ha=>by cases ha;exact hG.1,U,.mk b 0 _ U hG.2 (Lv _) ?_ ?_⟩
 .rw[aN];simp
 .rw[M3,<-aN,Nt]
end
end Go.Vc
namespace Go.Vc
section
variable{P:qq}{B:X}{w0 w:J}{L R:Y aH}{α:Type}{E:dT α}{s:Sl}{xs:Y α}
theorem Bh(l:Y Q)(o n:X){q:X}{vs:Y Q}(h1:o+n<=l.length)(h2:q+vs.length<=n):((putAt l (o+q) vs).drop o).take n=putAt ((l.drop o).take n) q vs:=by
 apply L5;intro t;rw[LS,cQ _ _ _ _ (by simp;omega),LS];by_cases e:t<n
 .rw[qd e,qd e,LR,cQ _ _ _ _ om,LR]
  by_cases e2:q<=t/\t<q+vs.length
  .rw[qd e2,qd om];congr 1;omega
  .rw[F e2,F om]
 .rw[F e,F e]
  by_cases e2:q<=t/\t<q+vs.length
  .omega
  .rw[F e2]
theorem yZ{α:Type}(E:dT α)(xs ys:Y α)(p:X)(h:p+ys.length<=xs.length):putAt (xs.flatMap E.enc) (p*E.z) (ys.flatMap E.enc)=(xs.take p++ys++xs.drop (p+ys.length)).flatMap E.enc:=by
 have hl:=aN E xs;have hly:=aN E ys;have hm:(p+ys.length)*E.z<=xs.length*E.z:=LZ _ h;rw[MG]at hm;have htake:∀n,(xs.take n).flatMap E.enc=(xs.flatMap E.enc).take (n*E.z):=λn=>by
  by_cases hn:n<=xs.length
  .have h1:xs.flatMap E.enc=(xs.take n).flatMap E.enc++(xs.drop n).flatMap E.enc:=by rw[<-Me,Ma]
   have h2:((xs.take n).flatMap E.enc).length=n*E.z:=by rw[aN];simp[hn]
   rw[h1,<-h2,NH]
  .rw[Lz om,Lz]
   rw[hl];exact LZ _ om
 have hdrop:(xs.drop (p+ys.length)).flatMap E.enc=(xs.flatMap E.enc).drop ((p+ys.length)*E.z):=by
  have h1:xs.flatMap E.enc=(xs.take (p+ys.length)).flatMap E.enc++(xs.drop (p+ys.length)).flatMap E.enc:=by rw[<-Me,Ma]
  have h2:((xs.take (p+ys.length)).flatMap E.enc).length=(p+ys.length)*E.z:=by rw[aN,LX,Ms h]
  rw[h1,<-h2,O3]
 rw[Me,Me,htake,hdrop];generalize xs.flatMap E.enc=cs at*
 generalize ys.flatMap E.enc=ds at*
 apply L5;intro t;rw[cQ _ _ _ _ (by rw[hl,hly];exact hm)];have hlt:(cs.take (p*E.z)).length=p*E.z:=by simp;omega
 by_cases e1:t<p*E.z
 .rw[F om,LN,LI om,LS,qd e1]
 .by_cases e2:t<p*E.z+ds.length
  .rw[qd om,LI (by rw[LC];omega),LH om,hlt]
  .rw[F om,LH (by rw[LC];omega),LC,hlt,LR,MG,<-hly]
   congr 1;omega
theorem Ow.lK(h:Ow B w0 w (af E s xs::R)):jN E.z w s (xs.flatMap E.enc):=h.sR 0 U
theorem Ow.Cv{z:X}{cs ds:Y Q}{q b o:X}(h:Ow B w0 w (Ec z s cs::R))(ha:s.a=S ⟨b,o,N⟩)(hq:q+ds.length<=cs.length)(hone:∀v∈ds,v.oneCell'=Z):
  ∃w',(storeCells ⟨b,o+q,N⟩ ds 0).run P w= .ok () w'/\Ow B w0 w' (Ec z s (putAt cs q ds)::R):=by
 have hs:jN z w s cs:=h.head λ_ h=>h.2;have hlen:=hs.length;cases hs with
 |nil ha' _ _ _=>rw[ha']at ha;cases ha
 |mk b' o' l ha' hb hle hc hcs=>
  rw[ha']at ha;simp only[Option.some.injEq,Addr.mk.injEq,and_true]at ha;obtain⟨rfl,rfl⟩:=ha;have m1:s.len*z<=s.cap*z:=LZ z hle;obtain⟨w',h1,h2,h3,h4⟩:=gH (P:=P) ds l (o'+q) w hb om hone 0 (o'+q) om;refine⟨w',h1,h.step (A':=Ec z s (putAt cs q ds)) λabx hA hG=>⟨h2.mono λk _ e=>by rw[e];exact hA.1 _ ha',abx,⟨hA.1,?_⟩,λk hk=>⟨.inl hk,by have:=(hG k hk).2;omega⟩⟩⟩;refine .mk b' o' _ ha' h4 hle (by rw[nF om];exact hc) ?_;rw[hcs,Bh l o' (s.len*z) om om]
theorem Ow.Lh(h:Ow B w0 w (af E s xs::R)):Ow B w0 w (Ec E.z s (xs.flatMap E.enc)::R):=h.conv λ_ h=>⟨h.1,h.2.2⟩
theorem Ow.KB{cs:Y Q}(hl:s.len=xs.length)(hc:cs=xs.flatMap E.enc)(h:Ow B w0 w (Ec E.z s cs::R)):Ow B w0 w (af E s xs::R):=h.conv λ_ h=>⟨h.1,hl,hc▸h.2⟩
theorem vz{z n:X}{a:qg}{cap len:X}{ds:Y Q}(hn:ds.length=n*z)(hg:∀j v,ds[j]?=S v->w.cell? (a.add j)=S v):(Builtin.firstCells z n (.slice (S a) len cap)).run P w= .ok ⟨ds⟩ w:=by simp only[Builtin.firstCells];unfold loadCells;have:=dA (P:=P) w a ds 0 #[] (λj v hj=>by rw[dw]at hj;rw[LF];exact hg j v hj);rw[hn]at this;rw[this];simp
theorem Ow.EI{T el t:qi}{inf:qL}{z p dl dc b o sl sc:X}{cs ds:Y Q}{sa:qg}{k:O->J->Prop}(hu:P.underlying T=S (.slice el))(hi:P.info? el=S inf)(hsz:inf.size=z)
  (h:Ow B w0 w (Ec z s cs::R)) (ha:s.a=S ⟨b,o,N⟩) (hd:ds.length=min sl dl*z) (hone:∀v∈ds,v.oneCell'=Z) (hp:(p+min sl dl)*z<=cs.length)
  (hsrc:∀j v,ds[j]?=S v->w.cell? (sa.add j)=S v) (hk:∀w',Ow B w0 w' (Ec z s (putAt cs (p*z) ds)::R)->k ((min sl dl:X):O) w'):
  ∃n w',ki P [T,T] t (.slice (S ⟨b,o+p*z,N⟩) dl dc) (.slice (S sa) sl sc) w n w'/\k n w':=by
 have hsize:∀w,(sizeOf el).run P w= .ok z w:=λw=>by rw[fu hi w];simp[sz,hi,hsz]
 rw[MG]at hp;obtain⟨w',h1,h2⟩:=h.Cv (P:=P) (q:=p*z) (ds:=ds) ha om hone;refine⟨_,w',?_,hk w' h2⟩;unfold ki Builtin.copy_;simp only[MT,Mn,LG,Sem.run_bind,aU hu,Result.andThen_ok,hsize,Builtin.lenOf,Sem.run_pure];rw[show Nat.min sl dl=min sl dl from U,vz (w:=w) hd hsrc];simp only[Result.andThen_ok,h1];rfl
theorem Ow.AE{T el:qi}{inf:qL}{i j:X}{k:Sl->J->Prop}(hu:P.underlying T=S (.slice el))(hi:P.info? el=S inf)(hsz:inf.size=E.z)(h:Ow B w0 w (af E s xs::R))(hij:i<=j)(hj:j<=xs.length)(hi0:i<xs.length)
  (hk:∀w',Ow B w0 w' (af E s (xs.take i++xs.drop j++xs.drop (i+(xs.length-j)))::R)->k ⟨s.a,i+(xs.length-j),s.cap⟩ w'):
  ∃t w',aM P [T,T] T (.slice (eU s.a 0 s.cap E.z) (i-0) (s.cap-0)) (.slice (eU s.a j s.cap E.z) (s.len-j) (s.cap-j)) w t w'/\k t w':=by
 have hsize:∀w,(sizeOf el).run P w= .ok E.z w:=λw=>by rw[fu hi w];simp[sz,hi,hsz]
 have hl:=h.len 0 U;have hs:=h.lK;have hsp:=hs.spot;have hsub:=hs.sub (l:=j) (hh:=s.len) om (Lv _);have hds:((xs.flatMap E.enc).take (s.len*E.z)).drop (j*E.z)=(xs.drop j).flatMap E.enc:=by
  rw[hl,<-aN,Nt];have h1:xs.flatMap E.enc=(xs.take j).flatMap E.enc++(xs.drop j).flatMap E.enc:=by rw[<-Me,Ma]
  have h2:((xs.take j).flatMap E.enc).length=j*E.z:=by rw[aN];simp[hj]
  rw[h1,<-h2,O3]
 rw[hds]at hsub;have hcells:=gp (P:=P) hsub (s.len-j) (Lv _);have hdl:((xs.drop j).flatMap E.enc).length=(s.len-j)*E.z:=by rw[aN,Ns,hl]
 rw[<-hdl,Nt]at hcells;have hcap:=hs.gu;obtain⟨b,o,ha,_⟩:=h.get 0 U (gE hi0);obtain⟨w',h1,h2⟩:=h.Lh.Cv (P:=P) (q:=i*E.z) (ds:=(xs.drop j).flatMap E.enc) ha (by
  rw[aN,aN,Ns,<-MG];exact LZ _ om) (λv hv=>by
  obtain⟨y,_,hy⟩:=Oj.1 hv;exact E.one y v hy)
 have e0:eU s.a 0 s.cap E.z=s.a:=Ge _ _ _ hsp;refine⟨_,w',?_,hk w' (Ow.KB (cs:=putAt (xs.flatMap E.enc) (i*E.z) ((xs.drop j).flatMap E.enc)) ?_ ?_ h2)⟩
 .unfold aM Builtin.append_
  rw[e0];simp only[PX];simp only[MT,Mn,LG,Sem.run_bind,aU hu,Result.andThen_ok,hsize,Builtin.lenOf,Sem.run_pure,LK,qy,MK];rw[qd (show i+(s.len-j)<=s.cap by omega)];simp only[qC];rw[Sem.run_bind,hcells];simp only[Result.andThen_ok,ha,aI];rw[Sem.run_bind,h1,hl];rfl
 .simp;omega
 .rw[yZ E xs (xs.drop j) i (by rw[Ns];omega),Ns]
theorem gF{a:qh qg}{b o i cap z:X}(ha:a=S ⟨b,o,N⟩)(hne:cap≠i):Vc.eU a i cap z=S ⟨b,o+i*z,N⟩:=by unfold Vc.eU;rw[F hne,ha];simp only[Mx,aI]
theorem Ow.B4{T el t:qi}{inf:qL}{p dl dc sl sc b o:X}{sa:qg}{zs:Y α}{k:O->J->Prop}(hu:P.underlying T=S (.slice el))(hi:P.info? el=S inf)(hsz:inf.size=E.z)
  (h:Ow B w0 w (af E s xs::R)) (ha:s.a=S ⟨b,o,N⟩) (hzl:zs.length=min sl dl) (hp:p+zs.length<=xs.length) (hsrc:∀j v,(zs.flatMap E.enc)[j]?=S v->w.cell? (sa.add j)=S v)
  (hk:∀w',Ow B w0 w' (af E s (xs.take p++zs++xs.drop (p+zs.length))::R)->k ((min sl dl:X):O) w'):
  ∃n w',ki P [T,T] t (.slice (S ⟨b,o+p*E.z,N⟩) dl dc) (.slice (S sa) sl sc) w n w'/\k n w':=by
 have hl:=h.len 0 U;refine h.Lh.EI hu hi hsz ha (p:=p) (ds:=zs.flatMap E.enc) (by rw[aN,hzl]) (λv hv=>by obtain⟨y,_,hy⟩:=Oj.1 hv;exact E.one y v hy) (by rw[aN,<-hzl];exact LZ _ hp) hsrc λw' h'=>hk w' (Ow.KB ?_ (yZ E xs zs p hp) h');simp;omega
theorem Ow.grow{m:X}(h:Ow B w0 w (af E s xs::R))(hm:xs.length+m<=s.cap){b o:X}(ha:s.a=S ⟨b,o,N⟩):∃junk:Y Q,junk.length=m*E.z/\Ow B w0 w (Ec E.z ⟨s.a,xs.length+m,s.cap⟩ (xs.flatMap E.enc++junk)::R):=by
 obtain⟨abx,hA,hG,abr,h1,h2,h3,h4⟩:=h.held.dj;obtain⟨hin,hlen,hs⟩:=hA;cases hs with
 |nil ha' _ _ _=>rw[ha']at ha;cases ha
 |mk b' o' l ha' hb hle hc hcs=>
  have m1:(xs.length+m)*E.z<=s.cap*E.z:=LZ _ hm;rw[MG]at m1;refine⟨(l.drop (o'+xs.length*E.z)).take (m*E.z),by simp;omega,h.base,h.sW,fM.nk (A:=Ec E.z ⟨s.a,xs.length+m,s.cap⟩ _) ⟨hin,.mk b' o' l ha' hb hm hc ?_⟩ hG h1 h2 h3 h4⟩;show _=(l.drop o').take ((xs.length+m)*E.z);rw[hcs,hlen,MG,List.take_add,ML]
theorem Ow.HY{A A':aH}{p:Prop}(h:Ow B w0 w (A::A'::R))(hp:∀abx G',A.holds abx w->A'.holds G' w->(∀k,abx k->¬G' k)->p):p:=by
 obtain⟨abr,h1,h2,h3⟩:=h.held
 match abr,h1 with
 |x::y::abr,h1=>
  simp only[L1,List.cons.injEq]at h1;obtain⟨rfl,rfl,_⟩:=h1;exact hp x.2 y.2 (h2 x qc).1 (h2 y qc).1 ((My.1 h3).1 y qc)
theorem Ow.overlaps {f:FuncId} {fn:Func} {tS tR e:qi} {size la ca lb cb c b o o' z:X} {l:Y Q} {cs:Y Q} {s':Sl} (hf:P.funcs[f]?=S fn) (hname:(fn.name== "runtime.NumGoroutine")=G) (hb:fn.body.isNone=Z) (hn:Extern.findNext fn=N)
  (he:Extern.find fn=S (Extern.SlicesOverlaps.overlaps #[tS,tS] #[tR])) (ht:P.underlying tS=S (.slice e)) (hz:∀w,(Go.sizeOf e).run P w= .ok size w)
  (h:Ow B w0 w (aa c l::Ec z s' cs::R)) (ha:s'.a=S ⟨b,o,N⟩) (hcs:cs≠ []):yp P f #[.slice (S ⟨c,0,N⟩) la ca,.slice (S ⟨b,o',N⟩) lb cb] w (.bool G) w:=by
 refine h.HY λabx G' hA hA' hd=>?_;have hne:c≠b:=λe=>hd c hA.1 (by have:=hA'.1 _ ha;rw[e];exact this);obtain⟨t1,ht1⟩:=hA.2;cases hA'.2 with
 |nil ha' _ _ _=>rw[ha']at ha;cases ha
 |mk b' o2 l' ha' hb' hle hc hcs'=>
  rw[ha']at ha;simp only[Option.some.injEq,Addr.mk.injEq,and_true]at ha;obtain⟨rfl,rfl⟩:=ha;obtain⟨t2,ht2⟩:=hb';have hl':l'.length≠0:=λe=>by have:l'= []:=MA e;subst this;simp at hcs';exact hcs hcs'
  unfold yp;rw[run_callFunc_extern hf hname hb hn he,Lib.run_overlaps_apart w tS tR e ht size hz ⟨c,0,N⟩ ⟨b',o',N⟩ la ca lb cb hne t1 t2 l.length l'.length
   (by simp[World.shape?,ht1]) (by simp[World.shape?,ht2]) hl' (by simp[World.frozen?,ht1]) (by simp[World.frozen?,ht1])]
  rfl
theorem Ow.J2{T abm el:qi}{inf:qL}{zv:Q}{z0:α}{i m:X}{ku:qM}{k:Sl->J->Prop}(hu:P.underlying T=S (.slice el))(hui:P.underlying abm=S (.int ku))(hi:P.info? el=S inf)(hz:inf.zero=S zv)(hsz:inf.size=E.z)(hzc:zv.cells.toList=E.enc z0)(hb:1<=inf.bytes)
  (h:Ow B w0 w (af E s xs::R)) (hi0:i<=xs.length) (hm1:1<=m) (hcap:s.cap<i+m) (hbig:(17*(i+m)+16000)*inf.bytes<=2^48)
  (hk:∀s' w',s'.len=i+m->s'.len<=s'.cap->Ow B w0 w' (af E s' (xs.take i++Ly m z0)::af E s xs::R)->k s' w'):
  ∃s' w',aM P [T,abm] T (.slice (eU s.a 0 s.cap E.z) (i-0) (s.cap-0)) (.int .i64 (m:O)) w s' w'/\k s' w':=by
 have hsize:∀w,(sizeOf el).run P w= .ok E.z w:=λw=>by rw[fu hi w];simp[sz,hi,hsz]
 have hinfo:∀w,(typeInfo el).run P w= .ok inf w:=λw=>by simp[typeInfo,hi]
 have hzero:∀w,(qK el).run P w= .ok zv w:=λw=>by simp[qK,hinfo,hz]
 have hl:=h.len 0 U;have hs:=h.lK;have hlc:=hs.gu;have hsp:=hs.spot;have e0:eU s.a 0 s.cap E.z=s.a:=Ge _ _ _ hsp;have hzl:zv.cells.size=E.z:=by rw[<-Mo,hzc,E.len]
 let need:=i+m
 let q:Question:= .appendCap need s.cap el
 let n:=q.cut (w.tape w.drawn q)
 have hle:=ux need s.cap;have hlim:¬(Builtin.nextslicecap need s.cap*inf.bytes>2^48):=by
  have h0:Builtin.nextslicecap need s.cap<=17*(i+m)+16000:=by refine LY hle ?_;show i+m+16*s.cap+16000<=_;generalize 16000=y;omega
  have:Builtin.nextslicecap need s.cap*inf.bytes<=(17*(i+m)+16000)*inf.bytes:=LZ _ h0;omega
 have hneedb:need<=2^44:=by have h1:(17*(i+m)+16000)*1<=(17*(i+m)+16000)*inf.bytes:=PN _ hb;show i+m<=_;omega
 have e44:(2:X)^44=17592186044416:=qb
 rw[e44]at hneedb;have hneedb:i+m<=17592186044416:=hneedb;have hn1:need<=n:=by show need<=need+_%_;omega
 let row:Y Q:=(xs.take i).flatMap E.enc++(Ly m z0).flatMap E.enc++(Builtin.zeroCells zv.cells (n-need)).toList
 let w':=w.drew.alloc (.cells ⟨row⟩ el)
 have hpre:(xs.take i).flatMap E.enc=(xs.flatMap E.enc).take (i*E.z):=by
  have g1:xs.flatMap E.enc=(xs.take i).flatMap E.enc++(xs.drop i).flatMap E.enc:=by rw[<-Me,Ma]
  have g2:((xs.take i).flatMap E.enc).length=i*E.z:=by rw[aN];simp[hi0]
  rw[g1,<-g2,NH]
 have hold:(Builtin.firstCells E.z i (.slice s.a i s.cap)).run P w.drew= .ok ⟨(xs.take i).flatMap E.enc⟩ w.drew:=by have h1:=h.drop;have hp:=(h.same (w':=w.drew) (nh U U U U)).pre 0 U (n:=i) hi0;have:=gp (P:=P) (hp.sR 0 U) i (Lv _);rw[this,Lz (by rw[aN];simp[hi0])]
 have hzs:(Builtin.zeroCells zv.cells m).toList=(Ly m z0).flatMap E.enc:=by
  have h1:(Builtin.zeroCells zv.cells m)=⟨rep m zv.cells.toList⟩:=by unfold Builtin.zeroCells;exact rf zv.cells m (by rw[hzl];exact E.pos)
  have h2:∀m,rep m (E.enc z0)=(Ly m z0).flatMap E.enc:=by
   intro m;induction m with
   |zero=>rfl
   |succ m ih=>simp[rep,N6,ih]
  rw[h1,hzc,h2]
 have hzl2:(Builtin.zeroCells zv.cells (n-need)).toList.length=(n-need)*E.z:=by simp[Builtin.zeroCells,hzl]
 refine⟨⟨S ⟨w.heap.size,0,N⟩,need,n⟩,w',?_,hk _ _ U hn1 ?_⟩
 .have hint:∀w,(asInt (.int .i64 (m:O))).run P w= .ok (m:O) w:=λw=>by simp[asInt,asIntOf]
  have hwm:qf.wrap (m:O)=(m:O):=wr om om;have hmb:¬((m:O)*(inf.bytes:O)>2^48):=by
   have h1:m*inf.bytes<=(17*(i+m)+16000)*inf.bytes:=LZ _ om;have h2:m*inf.bytes<=2^48:=LY h1 hbig;have e48:(2:O)^48=((2^48:X):O):=qb
   rw[e48,<-Int.natCast_mul];omega
  have hm0:¬((m:O)<0):=om
  have hcap2:¬(i+m<=s.cap):=om
  have hmax:¬(((i+m:X):O)>qf.max/\(I\/inf.bytes=0)):=by
   have:qf.max=9223372036854775807:=qb
   rw[this];omega
  unfold aM Builtin.append_;rw[e0];simp only[PX];have hint2:∀w,(asIntOf (.int .i64 (m:O))).run P w= .ok (.i64,(m:O)) w:=λw=>by simp[asIntOf]
  simp only[MT,Mn,LG,Sem.run_bind,aU hu,aU hui,Result.andThen_ok,hsize,Sem.run_pure,qC,hint,hwm,hm0,qy,hinfo,hmb,Lw,hcap2,MM,LK];rw[F hmax,Sem.run_bind,hinfo];simp only[Result.andThen_ok];rw[F hlim,Sem.run_bind,run_choose];have hf:Question.forced (.appendCap (i+m) s.cap el)=false:=rfl;simp only[hf,LK,qy,Result.andThen_ok,World.drew_eq];rw[Sem.run_bind,hinfo];simp only[Result.andThen_ok];rw[Sem.run_bind,run_askRoom];simp only[Result.andThen_ok];rw[Sem.run_bind,hold];simp only[Result.andThen_ok];have hmz:¬(m*E.z=0):=by have hpos:=E.pos;intro e;rcases OX.1 e with e|e<;>omega
  rw[F hmz];simp only[Sem.run_bind,hzero,Result.andThen_ok,Sem.run_pure,newRow,run_newObj];have hrow:((⟨(xs.take i).flatMap E.enc⟩:qo Q)++Builtin.zeroCells zv.cells m++Builtin.zeroCells zv.cells (n-need))=⟨row⟩:=by apply NV;simp only[row,Array.toList_append,hzs]
  show Result.ok (Value.slice (S ⟨w.heap.size,0,N⟩) (i+m) n) (w.drew.alloc (.cells ((⟨(xs.take i).flatMap E.enc⟩:qo Q)++Builtin.zeroCells zv.cells m++Builtin.zeroCells zv.cells (n-need)) el))=_;rw[hrow]
 .have hrl:row.length=n*E.z:=by simp only[row,LC,aN,hzl2,LX,Ms hi0,List.length_replicate];rw[<-MG,<-MG];congr 1;show i+m+(n-(i+m))=n;have:i+m<=n:=hn1;omega
  have h2:=h.same (w':=w.drew) (nh U U U U);refine h2.new (A':=af E ⟨S ⟨w.heap.size,0,N⟩,need,n⟩ (xs.take i++Ly m z0)) (G':=λk=>k=w.heap.size) (ej _ _) ⟨λa ha=>by cases ha;rfl,by simp[need,hi0],?_⟩ λk e=>by subst e;exact⟨Lv _,by simp[w']⟩
  refine .mk w.heap.size 0 row U ⟨el,heap_alloc_new w.drew _⟩ hn1 (by rw[hrl];show 0+n*E.z<=n*E.z;omega) ?_;show _=(row.drop 0).take ((i+m)*E.z);have:(i+m)*E.z=((xs.take i++Ly m z0).flatMap E.enc).length:=by rw[aN];simp[hi0]
  rw[this,M3];simp only[row];rw[<-Me,NH]
theorem Ow.HR[abw:cu s L α E xs](h:Ow B w0 w L){p n t:X}(hp:p+n<=xs.length)(ht:t<n):
  ∃a a0,s.a=S a0/\Vc.eU s.a p s.cap E.z=S a/\a.add (t*E.z)=a0.add ((p+t)*E.z):=by
 obtain⟨b,o,ha,_⟩:=h.get abw.i abw.at_ (gE (show p<xs.length by omega));have hl:=h.len abw.i abw.at_;have hc:=(h.sR abw.i abw.at_).gu;refine⟨_,_,ha,gF ha om,?_⟩;rw[aI,aI,MG,Nv]
theorem Rd.part[abw:cu s L α E xs]{p n c:X}(hp:p+n<=xs.length):Rd E B w0 L ⟨Vc.eU s.a p s.cap E.z,n,c⟩ ((xs.drop p).take n):=by
 refine⟨by simp;omega,λw' h i j x hij hj=>?_⟩;rw[LS]at hj;split at hj
 .rename_i hjn
  rw[LR]at hj;obtain⟨a,a0,ha0,ha,he⟩:=h.HR (s:=s) (E:=E) (p:=p) (n:=n) (t:=j) hp hjn;obtain⟨h0,hc⟩:=h.Jm (s:=s) (E:=E) (i:=((p+j:X):O)) (j:=p+j) U hj ha0;have hi:i.toNat=j:=om
  rw[Lw]at h0 hc;refine⟨a,ha,λv hv=>?_,λc v hv=>?_⟩
  .rw[hi,he];exact h0 v hv
  .rw[hi,he];exact hc c v hv
 .cases hj
end
end Go.Vc
