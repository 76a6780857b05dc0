/- What the row rests on: the declarations that it needs, out of my texts (part 1). -/
import Derived.ChangeKeysEq
import Derived.Deep.Slices
import Derived.Laws.StructEq
import Derived.Lib.Overlaps
import Derived.Lib.SmallJoins
import Derived.Maps.RangeRun
import Derived.Orders
import Derived.ProofKit
import Derived.WalkKit
import Derived.WideKeyRuns
open Bool renaming false->Z,true->V
open Decidable renaming decide->F
open Go renaming Addr->qf,IntKind->qK,MapEntry->qD,Oper->qu,Operand->qB,Program->qo,TypeId->qh,TypeInfo->qJ,Value->N,World->Y,execOp->qv,zeroValue->qE
open Go.IntKind renaming i64->qd,u64->qq
open Option renaming none->I,some->S
open _root_ renaming Array->qn,Bool->W,DecidableEq->qO,False->qj,Int->O,List->J,Nat->X,Option->qg,True->G,absurd->qi,beq_iff_eq->qG,cond_false->qp,cond_true->ql,congrArg->qw,decide_eq_false->qk,decide_eq_true->qm,decide_eq_true_eq->qA,if_false->qx,if_neg->Q,if_pos->A,if_true->qz,rfl->U
open Array renaming all_eq_true_iff_forall_mem->RN,append_empty->SX,empty_append->SY,ext'->QX,getD_eq_getD_getElem?->PV,getElem?_eq_getElem->Sp,getElem?_eq_some_iff->OW,getElem?_modify->QG,getElem?_setIfInBounds->Se,getElem?_setIfInBounds_ne->QM,getElem?_toList->O7,length_toList->Pr,mapM_eq_mapM_toList->Sq,mem_def->SP,range->SA,replicate->Tf,toList_eraseIdxIfInBounds->Q6,toList_extract->SL,toList_push->S6
open Bool renaming and_eq_true->OH,false_eq_true->OF,false_or->Q8,not_false->PN,not_true->PK,or_eq_false_iff->RV,or_eq_true->PE,or_false->Q9,or_true->QO,true_and->Qa,true_or->S0
open Int renaming toNat_natCast->Oo
open List renaming all_eq_true->QW,append_assoc->O1,append_nil->OD,drop_drop->Pz,drop_eq_getElem_cons->Pt,drop_eq_nil_of_le->QB,drop_left->Sf,drop_zero->P6,eq_nil_of_length_eq_zero->P1,eraseIdx_append_of_lt_length->Qh,eraseIdx_cons_succ->QU,eraseIdx_sublist->Rf,ext_getElem?->O2,extract_eq_take_drop->Sr,findIdx?_cons->QH,findIdx?_eq_some_iff_getElem->OT,flatMap_append->Pd,flatMap_cons->PO,getElem?_append_left->Oy,getElem?_append_right->OA,getElem?_cons_succ->OK,getElem?_cons_zero->PA,getElem?_drop->OP,getElem?_eq_none->OQ,getElem?_eq_some_iff->Om,getElem?_map->OX,getElem?_set->Pb,getElem?_take->OM,getElem?_toArray->PX,headD->Tl,length_append->Ov,length_cons->OB,length_drop->Qd,length_nil->PY,length_set->Pe,length_take->OO,mapM_cons->SI,map_cons->OZ,map_nil->Qb,mem_append->Pn,mem_cons->Oz,mem_cons_of_mem->Pq,mem_flatMap->Rl,mem_iff_getElem?->O5,mem_map->O4,mem_of_getElem?->OV,mem_range->PQ,mem_singleton->OY,nil_append->PF,nodup_cons->Pu,pairwise_append->Q3,pairwise_cons->PB,range->OC,replicate->Oq,replicate_succ->Q5,reverse_nil->RP,set_cons_succ->OI,take_append_drop->O8,take_left->QK,take_length->Qr,take_of_length_le->Ou,take_take->QL,zipWith->Ot
open Nat renaming add_assoc->Ql,add_comm->RZ,add_mul->PJ,add_zero->QD,beq->Pk,beq_refl->S2,ble->QT,eq_of_beq_eq_true->Pc,land->SM,le_of_ble_eq_true->Qo,le_of_not_lt->Sw,le_refl->On,le_trans->ON,lor->P7,lt_of_lt_of_le->Qc,lt_or_ge->R2,min_eq_left->Pv,mod_lt->RD,mul_comm->R4,mul_eq_zero->R5,mul_le_mul_left->SU,mul_le_mul_right->OU,mul_one->Re,pow_succ->Sx,shiftLeft->PL,sub_mul->Si,sub_self->P0,sub_zero->S4,succ_mul->Qu,testBit_and->Tp,zero_add->OJ,zero_mul->Rh
open Option renaming bind_some->RR,getD_some->PM,isSome_iff_exists->PW,map_eq_some_iff->P4,map_some->PC
set_option maxRecDepth 100000
set_option maxHeartbeats 4000000
set_option linter.all false
section
theorem om{p:Prop}(h:p:=by omega):p:=h
theorem qa{p:Prop}(h:p:=by kernel_rfl):p:=h
theorem qb{p:Prop}(h:p:=by decide):p:=h
theorem qc{p:Prop}(h:p:=by simp):p:=h
theorem gE{α:Type _}{l:J α}{i:X}(h:i<l.length):l[i]?=S l[i]:=List.getElem?_eq_getElem h
end
namespace Go.Vc
section
variable{ds:J Deferred}{P:qo}
abbrev Env:=X->qg N
def nth{α:Type}:J α->X->qg α
 | [],_=>I
 |x::_,0=>S x
 |_::l,n+1=>nth l n
def Env.set(e:Env)(d:X)(v:qg N):Env:=λt=>bif Pk t d then v else e t
def Env.put(e:Env)(d:qg X)(v:N):Env:=match d with|some d=>e.set d (S v)|none=>e
def bit(m t:X):W:=Pk (SM (Nat.shiftRight m t) 1) 1
def Env.forget(e:Env)(m:X):Env:=λt=>bif bit m t then I else e t
def ev(e:Env):qB->qg N
 | .tmp t=>e t
 | .const v=>S v
 | .global g=>S (.pointer (S ⟨g,0,I⟩))
 | .func f=>S (.func (.func f) #[] #[])
def La(e:Env):J qB->(J N->Prop)->Prop
 | [],k=>k []
 |x::l,k=>match ev e x with|some v=>La e l (λvs=>k (v::vs))|none=>qj
def Ly(e:Env):J (X × qB)->(J (X × N)->Prop)->Prop
 | [],k=>k []
 |(i,x)::l,k=>match ev e x with|some v=>Ly e l (λvs=>k ((i,v)::vs))|none=>qj
def Np(d:qg X):X:=match d with|some d=>PL 1 d|none=>0
def JY:J qu->X
 | []=>0
 |o::l=>P7 (Np o.dst) (JY l)
def dm:Code->X
 | .region _ ops _=>JY ops.toList
 | .seq a b=>P7 (dm a) (dm b)
 | .cond _ a b=>P7 (dm a) (dm b)
 | .block _ b=>dm b
 | .loop b=>dm b
 |_=>0
structure Sl where
 a:qg qf
 len:X
 cap:X
inductive Sc where
 |i (k:qK)|b|p|q|s|m|v|t
abbrev Sc.D:Sc->Type
 | .i _=>O| .b=>W| .p=>qg qf| .q=>qf| .s=>Sl| .m=>qg X| .v=>N| .t=>ByteArray
abbrev Sc.mk:(c:Sc)->c.D->N
 | .i k,n=> .int k n
 | .b,x=> .bool x
 | .p,x=> .pointer x
 | .q,x=> .pointer (S x)
 | .s,x=> .slice x.a x.len x.cap
 | .m,x=> .map x
 | .v,x=>x
 | .t,x=> .string x
def Sc.un(c:Sc)(v:N)(k:c.D->Prop):Prop:=
 match c,v,k with
 | .i j,.int j' n,k=>if j'=j then k n else qj
 | .b,.bool x,k=>k x
 | .p,.pointer x,k=>k x
 | .q,.pointer (S x),k=>k x
 | .s,.slice a l c,k=>k ⟨a,l,c⟩
 | .m,.map r,k=>k r
 | .v,v,k=>k v
 | .t,.string x,k=>k x
 |_,_,_=>qj
inductive Sh where
 |c (x:Sc)|a (l:J Sc)|big
def KX(P:qo)(t:qh):Sc:=
 match P.underlying t with
 |some (.int k)=> .i k
 |some .bool=> .b
 |some (.pointer _)=> .p
 |some (.slice _)=> .s
 |some (.map _ _)=> .m
 |some .string=> .t
 |_=> .v
def sz(P:qo)(t:qh):X:=match P.info? t with|some i=>i.size|none=>0
def agg(P:qo)(t:qh):W:=match P.underlying t with|some (.struct _)=>V|some (.array _ _)=>V|_=>Z
def rep{α:Type}:X->J α->J α
 |0,_=>[]
 |n+1,l=>l++rep n l
def L4(P:qo):X->qh->J Sc
 |0,_=>[]
 |n+1,t=>match P.underlying t with
  |some (.struct fs)=>fs.toList.flatMap λf=>L4 P n f.type
  |some (.array len el)=>rep len (L4 P n el)
  |_=>[KX P t]
def tg(P:qo)(t:qh):Sh:=
 bif agg P t then(bif QT (sz P t) 24 then(let l:=L4 P 8 t;bif Pk l.length (sz P t)then .a l else .big)else .big)else .c (KX P t)
def HW(P:qo)(t:qh):J Sh:=
 match P.underlying t with
 |some (.tuple ts)=>ts.toList.map (tg P)
 |_=>[tg P t]
def u2:J Sc->Type->Type
 | [],r=>r
 |c::l,r=>c.D->u2 l r
def xp:J (X × Sh)->Type
 | []=>Y->Prop
 |(_,.c x)::l=>x.D->xp l
 |(_,.a ss)::l=>u2 ss (xp l)
 |(_,.big)::l=>qn N->xp l
def ER{r:Type}:(ss:J Sc)->J N->(J N->r)->u2 ss r
 | [],acc,f=>f acc.reverse
 |c::l,acc,f=>λv=>ER l (c.mk v::acc) f
def vn:(cs:J (X × Sh))->(Env->Y->Prop)->Env->xp cs
 | [],f,e=>f e
 |(s,.c x)::l,f,e=>λv=>vn l f (e.set s (S (x.mk v)))
 |(s,.a ss)::l,f,e=>ER ss [] (λvs=>vn l f (e.set s (S (.agg ⟨vs⟩))))
 |(s,.big)::l,f,e=>λcs=>vn l f (e.set s (S (.agg cs)))
def Ag{r:Type}:(ss:J Sc)->J N->u2 ss r->(r->Prop)->Prop
 | [],[],g,k=>k g
 |c::ss,v::vs,g,k=>c.un v (λd=>Ag ss vs (g d) k)
 | [],_::_,_,_=>qj
 |_::_,[],_,_=>qj
def jc:(cs:J (X × Sh))->xp cs->Env->Y->Prop
 | [],g,_,w=>g w
 |(s,.c x)::l,g,e,w=>match e s with|some v=>x.un v (λd=>jc l (g d) e w)|none=>qj
 |(s,.a ss)::l,g,e,w=>match e s with|some (.agg cs)=>Ag ss cs.toList g (λg'=>jc l g' e w)|_=>qj
 |(s,.big)::l,g,e,w=>match e s with|some (.agg cs)=>jc l (g cs) e w|_=>qj
def KA{r:Type}:(ss:J Sc)->u2 ss r->u2 ss r->(r->r->Prop)->Prop
 | [],f,g,k=>k f g
 |c::l,f,g,k=>∀d:c.D,KA l (f d) (g d) k
def imp:(cs:J (X × Sh))->xp cs->xp cs->Prop
 | [],f,g=>∀w,f w->g w
 |(_,.c x)::l,f,g=>∀d:x.D,imp l (f d) (g d)
 |(_,.a ss)::l,f,g=>KA ss f g (imp l)
 |(_,.big)::l,f,g=>∀cs:qn N,imp l (f cs) (g cs)
def Mv:J Sc->J N->(J N->Prop)->Prop
 | [],acc,k=>k acc.reverse
 |c::l,acc,k=>∃d:c.D,Mv l (c.mk d::acc) k
def LA(s:Sh)(k:N->Prop):Prop:=
 match s with
 | .c x=>∃d:x.D,k (x.mk d)
 | .a l=>Mv l [] (λvs=>k (.agg ⟨vs⟩))
 | .big=>∃cs:qn N,k (.agg cs)
def Lz:J Sh->J N->(J N->Prop)->Prop
 | [],acc,k=>k acc.reverse
 |s::l,acc,k=>LA s (λv=>Lz l (v::acc) k)
def zx:J N->N
 | [v]=>v
 |vs=> .tuple ⟨vs⟩
def F1(P:qo)(t:qh)(p:Prop):Prop:=match P.underlying t with|none=>qj|some _=>p
def DP:J Sc->qf->X->Y->J N->(N->Prop)->Prop
 | [],_,_,_,acc,k=>k (.agg ⟨acc.reverse⟩)
 |c::l,a,i,w,acc,k=>∃d:c.D,w.cell? (a.add i)=S (c.mk d)/\DP l a (i+1) w (c.mk d::acc) k
def A5(P:qo)(t:qh)(a:qf)(w:Y)(k:N->Prop):Prop:=
 F1 P t<|
 match tg P t with
 | .c x=>∃d:x.D,w.cell? a=S (x.mk d)/\k (x.mk d)
 | .a l=>DP l a 0 w [] k
 | .big=>∃cs:qn N,cs.size=sz P t/\(∀i,i<sz P t->w.cell? (a.add i)=cs[i]?)/\k (.agg cs)
def St(w:Y)(a:qf)(v:N)(k:Y->Prop):Prop:=
 (w.cell? a).isSome=V/\w.frozen? a=Z/\v.oneCell'=V/\k (w.setCell a v)
def Di:J N->qf->X->Y->(Y->Prop)->Prop
 | [],_,_,w,k=>k w
 |v::l,a,i,w,k=>St w (a.add i) v (λw'=>Di l a (i+1) w' k)
def Dj(P:qo)(t:qh)(a:qf)(v:N)(w:Y)(k:Y->Prop):Prop:=
 F1 P t<|
 bif agg P t then
  match v with
  | .agg cs=>bif Pk cs.toList.length (sz P t)then Di cs.toList a 0 w k else qj
  |_=>qj
 else bif Pk (sz P t) 1 then St w a v k else qj
def iJ(k:qK)(x y:O):O:=k.wrap (x*2^(min y.toNat k.bits))
def kS(k:qK)(x y:O):O:=x.fdiv (2^(min y.toNat k.bits))
def da(k:qK)(x y:O):O:=k.wrap ((BitVec.ofInt k.bits x &&& BitVec.ofInt k.bits y).toNat)
def Hq(k:qK)(x y:O):O:=k.wrap ((BitVec.ofInt k.bits x ||| BitVec.ofInt k.bits y).toNat)
def JJ(k:qK)(x y:O):O:=k.wrap ((BitVec.ofInt k.bits x ^^^ BitVec.ofInt k.bits y).toNat)
def fV(k:qK)(x y:O):O:=k.wrap ((BitVec.ofInt k.bits x &&& ~~~ BitVec.ofInt k.bits y).toNat)
def KM(x y:O):O:=if y>x then y else x
def rG(x y:O):O:=if y<x then y else x
def isNil:qB->W
 | .const (.pointer I)=>V
 | .const (.slice I _ _)=>V
 | .const (.map I)=>V
 |_=>Z
def Ho(P:qo)(t:qh)(x y:N)(k:W->Prop):Prop:=
 match P.underlying t,x,y with
 |some (.pointer _),.pointer a,.pointer I=>k a.isNone
 |some (.slice _),.slice a _ _,.slice I _ _=>k a.isNone
 |some (.map _ _),.map a,.map I=>k a.isNone
 |_,_,_=>qj
def KC(op:BinOp)(j:qK)(a b:O)(k:N->Prop):Prop:=
 match op with
 | .add=>k (.int j (j.wrap (a+b)))
 | .sub=>k (.int j (j.wrap (a-b)))
 | .mul=>k (.int j (j.wrap (a*b)))
 | .quo=>b≠0/\k (.int j (j.wrap (a.tdiv b)))
 | .rem=>b≠0/\k (.int j (a.tmod b))
 | .and=>k (.int j (da j a b))
 | .or=>k (.int j (Hq j a b))
 | .xor=>k (.int j (JJ j a b))
 | .andNot=>k (.int j (fV j a b))
 | .eql=>k (.bool (a==b))
 | .neq=>k (.bool (a !=b))
 | .lss=>k (.bool (a<b))
 | .leq=>k (.bool (a<=b))
 | .gtr=>k (.bool (a>b))
 | .geq=>k (.bool (a>=b))
 |_=>qj
def B8(P:qo)(op:BinOp)(t:qh)(x y:qB)(vx vy:N)(b:W):Prop:=∀w:Y,(do eqGuard op t x y vx vy;binOp op t vx vy:Sem N).run P w= .ok (.bool b) w
def Kj(P:qo)(op:BinOp)(t:qh)(x y:qB)(vx vy:N)(k:N->Prop):Prop:=
 match op,vx,vy with
 | .shl,.int j a,.int _ b=>0<=b/\k (.int j (iJ j a b))
 | .shr,.int j a,.int _ b=>0<=b/\k (.int j (kS j a b))
 |op,.int j a,.int j' b=>if j=j' then KC op j a b k else qj
 | .eql,.bool a,.bool b=>(match P.underlying t with|some .bool=>k (.bool (a==b))|_=>qj)
 | .neq,.bool a,.bool b=>(match P.underlying t with|some .bool=>k (.bool (!(a==b)))|_=>qj)
 | .add,.string a,.string b=>((a.size+b.size:X):O)<=qd.max/\k (.string (a++b))
 |op,vx,vy=>bif isNil y then
   Ho P t vx vy λb=>(match op with| .eql=>k (.bool b)| .neq=>k (.bool (!b))|_=>qj)
  else ∃b:W,B8 P op t x y vx vy b/\k (.bool b)
def Nk(op:UnOp)(v:N)(k:N->Prop):Prop:=
 match op,v with
 | .not,.bool b=>k (.bool (!b))
 | .neg,.int j n=>k (.int j (j.wrap (0-n)))
 | .xor,.int j n=>k (.int j (JJ j (if j.signed then -1 else j.max) n))
 |_,_=>qj
def lx(P:qo)(s:qh)(f:X):qg (qh × X):=
 match P.underlying s with
 |some (.struct fs)=>match nth fs.toList f with|some fl=>S (fl.type,fl.offset)|none=>I
 |_=>I
def DT(P:qo)(t:qh)(cs:J N)(off:X)(k:N->Prop):Prop:=
 F1 P t<|
 bif agg P t then k (.agg ⟨(cs.drop off).take (sz P t)⟩)
 else match nth cs off with|some v=>k v|none=>qj
def DS:J Sc->qn N->X->X->J N->(N->Prop)->Prop
 | [],_,_,_,acc,k=>k (.agg ⟨acc.reverse⟩)
 |c::l,cs,o,i,acc,k=>∃d:c.D,cs[o+i]?=S (c.mk d)/\DS l cs o (i+1) (c.mk d::acc) k
def Hu(P:qo)(t:qh)(cs:qn N)(off:X)(k:N->Prop):Prop:=
 F1 P t<|
 match tg P t with
 | .c x=>∃d:x.D,cs[off]?=S (x.mk d)/\k (x.mk d)
 | .a l=>DS l cs off 0 [] k
 | .big=>qj
def eH(a:qg qf)(l m size:X):qg qf:=if m=l then a else a.map (·.add (l*size))
def rH(a:qg qf)(l h m size:X):N:= .slice (eH a l m size) (h-l) (m-l)
def bound(e:Env)(x:qg qB)(dflt:X)(top:X)(k:X->Prop):Prop:=
 match x with
 |none=>k dflt
 |some x=>match ev e x with|some (.int _ n)=>0<=n/\n<=(top:O)/\k n.toNat|_=>qj
def wH(P:qo)(t:qh):qg (J N):=match P.info? t with|some i=>(match i.zero with|some z=>S z.cells.toList|none=>I)|none=>I
def putAt:J N->X->J N->J N
 |cs,_,[]=>cs
 | [],_,_=>[]
 |c::cs,o+1,vs=>c::putAt cs o vs
 |_::cs,0,v::vs=>v::putAt cs 0 vs
def oR(place:X->qg (X × X))(n:X):J N->J (X × N)->qg (J N)
 |cs,[]=>S cs
 |cs,(i,v)::l=>match place i with
  |none=>I
  |some (off,size)=>bif Pk v.cells.toList.length size&&QT (off+size) n then oR place n (putAt cs off v.cells.toList) l else I
def Ji(P:qo)(t:qh):W:=bif agg P t then Z else(match KX P t with| .v=>Pk (sz P t) 1|_=>Z)
def Jo(n:X):J N->J (X × N)->qg (J N)
 |cs,[]=>S cs
 |cs,(i,v)::l=>bif QT (i+1) n then Jo n (putAt cs i [v]) l else I
def KQ:J (X × N)->Prop->Prop
 | [],C=>C
 |(_,v)::l,C=>v.oneCell'=V/\KQ l C
def rp(P:qo)(t:qh):W:=
 match P.underlying t with
 |some (.struct fs)=>fs.toList.all λf=>(P.info? f.type).isSome
 |some (.array _ el)=>(P.info? el).isSome
 |_=>Z
def placeOf(P:qo)(t:qh)(i:X):qg (X × X):=
 match P.underlying t with
 |some (.struct fs)=>(match nth fs.toList i with|some f=>S (f.offset,sz P f.type)|none=>I)
 |some (.array _ el)=>S (i*sz P el,sz P el)
 |_=>I
def Ks(d:X)(i:X):J qu->qg qh
 | []=>I
 |o::l=>match o.op with
  | .extract (.tmp t) j=>bif Pk t d&&Pk j i then S o.type else Ks d i l
  |_=>Ks d i l
def LB(P:qo)(d:qg X)(i:X)(l:J qu):Sh:=
 match d with
 |some d=>(match Ks d i l with|some t=>tg P t|none=> .c .v)
 |none=> .c .v
def okF(P:qo)(f:FuncId)(p:Prop):Prop:=match P.funcs[f]? with|none=>qj|some fn=>(match fn.body with|none=>qj|some _=>p)
def JU(P:qo)(f:FuncId)(args:qn N)(t:qh)(w:Y)(k:N->Y->Prop):Prop:=
 okF P f<|Calls P f args w λen w'=>Lz (HW P t) [] λvs=>en= .returned (zx vs)/\k (zx vs) w'
def DF(P:qo)(f:FuncId):W:=match P.funcs[f]? with|some fn=>fn.body.isSome|none=>Z
def zY(P:qo)(f:FuncId)(args:qn N)(w:Y)(v:N)(w':Y):Prop:=(callFunc f args).run P w= .ok (.value v) w'
def LC(P:qo)(f:FuncId)(args:qn N)(t:qh)(w:Y)(k:N->Y->Prop):Prop:=Lz (HW P t) [] λvs=>∃w',zY P f args w (zx vs) w'/\k (zx vs) w'
def Mo(P:qo)(ta t:qh)(r:qg X)(w:Y)(n:O):Prop:=(Builtin.len_ #[ta] t #[.map r]).run P w= .ok (.int .i64 n) w
def aP(P:qo)(ts:J qh)(t:qh)(x y:N)(w:Y)(s:Sl)(w':Y):Prop:=(Builtin.append_ ⟨ts⟩ t #[x,y]).run P w= .ok (.slice s.a s.len s.cap) w'
def kZ(P:qo)(ts:J qh)(t:qh)(x y:N)(w:Y)(n:O)(w':Y):Prop:=(Builtin.copy_ ⟨ts⟩ t #[x,y]).run P w= .ok (.int .i64 n) w'
def jb(P:qo)(ts:J qh)(t:qh)(x:N)(w w':Y):Prop:=(Builtin.clear_ ⟨ts⟩ t #[x]).run P w= .ok (.tuple #[]) w'
def yz(P:qo)(ts:J qh)(t:qh)(x y:N)(w w':Y):Prop:=(Builtin.delete_ ⟨ts⟩ t #[x,y]).run P w= .ok (.tuple #[]) w'
def ni(P:qo)(b:Builtin)(ts:J qh)(t:qh)(vs:J N)(w:Y)(k:N->Y->Prop):Prop:=
 match b,vs with
 | .len,[v]=>(match ts with
  | [ta]=>(match P.underlying ta,v with
   |some (.slice _),.slice _ n _=>k (.int .i64 n) w
   |some (.array n _),_=>k (.int .i64 n) w
   |some (.map _ _),.map r=>∃n:O,Mo P ta t r w n/\k (.int .i64 n) w
   |some .string,.string s=>k (.int .i64 s.size) w
   |_,_=>qj)
  |_=>qj)
 | .cap,[.slice _ _ n]=>(match ts with| [ta]=>(match P.underlying ta with|some (.slice _)=>k (.int .i64 n) w|_=>qj)|_=>qj)
 | .max,[.int j a,.int _ b]=>k (.int j (KM a b)) w
 | .min,[.int j a,.int _ b]=>k (.int j (rG a b)) w
 | .append,[.slice a l c,x]=>∃s:Sl,∃w',aP P ts t (.slice a l c) x w s w'/\k (.slice s.a s.len s.cap) w'
 | .copy,[x,y]=>∃n:O,∃w',kZ P ts t x y w n w'/\k (.int .i64 n) w'
 | .clear,[x]=>∃w',jb P ts t x w w'/\k (.tuple #[]) w'
 | .delete,[x,y]=>∃w',yz P ts t x y w w'/\k (.tuple #[]) w'
 |_,_=>qj
def JO(P:qo)(s d:qh)(x:N)(w:Y)(b:ByteArray):Prop:=(convert s d x).run P w= .ok (.string b) w
def F9(s:ByteArray)(n b:O):Prop:=0<=n/\∃x:UInt8,s[n.toNat]?=S x/\b=x.toNat
def Al(w:Y)(o:Obj)(k:Y->Prop):Prop:=k (w.alloc o)
def Dr(w:Y)(k:Y->Prop):Prop:=k w.drew
def tz(P:qo)(t:qh)(m key v:N)(b:W)(w:Y):Prop:=(Instr.lookup t m key V).run P w= .ok (.tuple #[v,.bool b]) w
def z7(P:qo)(t:qh)(m key v:N)(w:Y):Prop:=(Instr.lookup t m key Z).run P w= .ok v w
def gK(P:qo)(t:qh)(m key v:N)(w w':Y):Prop:=(Instr.mapUpdate t m key v).run P w= .ok () w'
def jH(P:qo)(t:qh)(x y:N)(w:Y)(s:Sl)(w':Y):Prop:=(Instr.makeSlice t x y).run P w= .ok (.slice s.a s.len s.cap) w'
def F8(P:qo)(t:qh)(v:N)(w:Y)(a:qf)(w':Y):Prop:=(Instr.range t v).run P w= .ok (.pointer (S a)) w'
def JQ(P:qo)(v:N)(b:W)(t:qh)(w:Y)(y:W)(l:J N)(w':Y):Prop:=(Instr.next v b t).run P w= .ok (.tuple ⟨.bool y::l⟩) w'
def F2(P:qo)(v a b:N)(w:Y):Prop:=(Instr.entry v).run P w= .ok (.tuple #[a,b]) w
def cT(P:qo)(fv:N)(args:J N)(w:Y)(R:Ending->Y->Prop):Prop:=
 ∃id first cap,fv= .func (.func id) first cap/\okF P id (Calls P id (first++⟨args⟩++cap) w R)
def M6(P:qo)(rest:J qu)(o:qu)(e:Env)(w:Y)(k:N->Y->Prop):Prop:=
 match o.op with
 | .move x=>(match ev e x with|some v=>k v w|none=>qj)
 | .assign x=>(match ev e x with|some v=>k v w|none=>qj)
 | .pick c a b=>(match ev e c with
  |some (.bool V)=>(match ev e a with|some v=>k v w|none=>qj)
  |some (.bool Z)=>(match ev e b with|some v=>k v w|none=>qj)
  |_=>qj)
 | .box t x=>(match ev e x with|some v=>k (.pointer (S ⟨w.heap.size,0,I⟩)) (w.alloc (.cells v.cells t))|none=>qj)
 | .alloc t=>(match wH P t with|some z=>k (.pointer (S ⟨w.heap.size,0,I⟩)) (w.alloc (.cells ⟨z⟩ t))|none=>qj)
 | .build t ps=>bif !rp P t then qj else Ly e ps.toList λvs=>(match wH P t with
   |some z=>(match oR (placeOf P t) z.length z vs with|some cs=>k (.agg ⟨cs⟩) w|none=>qj)
   |none=>qj)
 | .buildSlice t len ps=>Ly e ps.toList λvs=>(match P.underlying t with
   |some (.slice el)=>(match wH P el with
    |some z=>bif QT (len*sz P el) 1000&&Pk z.length (sz P el)&&QT 1 (sz P el)then
      bif Ji P el then(match Jo len (rep len z) vs with
       |some cs=>KQ vs (k (.slice (S ⟨w.heap.size,0,I⟩) len len) (w.alloc (.cells ⟨cs⟩ el)))
       |none=>qj)else(match oR (λi=>S (i*sz P el,sz P el)) (len*sz P el) (rep len z) vs with
       |some cs=>k (.slice (S ⟨w.heap.size,0,I⟩) len len) (w.alloc (.cells ⟨cs⟩ el))
       |none=>qj)else qj
    |none=>qj)
   |_=>qj)
 | .load t a=>(match ev e a with|some (.pointer (S a))=>A5 P t a w (λv=>k v w)|_=>qj)
 | .store t a x=>(match ev e a,ev e x with|some (.pointer (S a)),S v=>Dj P t a v w (λw'=>k undef w')|_,_=>qj)
 | .nilCheck x=>(match ev e x with
  |some (.pointer p)=>∃a,p=S a/\k (.pointer (S a)) w
  |some (.func (.func f) x y)=>k (.func (.func f) x y) w
  |_=>qj)
 | .fieldAddr s x f=>(match ev e x,lx P s f with
  |some (.pointer (S a)),S (ft,off)=>bif Pk (sz P ft) 0 then qj else k (.pointer (S (a.add off))) w
  |_,_=>qj)
 | .field s x f=>(match ev e x,lx P s f with
  |some (.agg cs),S (ft,off)=>DT P ft cs.toList off (λv=>k v w)
  |_,_=>qj)
 | .indexAddr t x i=>(match P.underlying t,ev e x,ev e i with
  |some (.array len el),S (.pointer (S a)),S (.int _ n)=>bif Pk (sz P el) 0 then qj else 0<=n/\n<(len:O)/\k (.pointer (S (a.add (n.toNat*sz P el)))) w
  |some (.slice el),S (.slice b len _),S (.int _ n)=>bif Pk (sz P el) 0 then qj else ∃a,b=S a/\0<=n/\n<(len:O)/\k (.pointer (S (a.add (n.toNat*sz P el)))) w
  |_,_,_=>qj)
 | .index t x i=>(match P.underlying t,ev e x,ev e i with
  |some (.array len el),S (.agg cs),S (.int _ n)=>bif Pk (sz P el) 0 then qj else 0<=n/\n<(len:O)/\Hu P el cs (n.toNat*sz P el) (λv=>k v w)
  |some .string,S (.string s),S (.int _ n)=>∃b:O,F9 s n b/\k (.int .u8 b) w
  |_,_,_=>qj)
 | .binOp op t x y _=>(match ev e x,ev e y with|some vx,S vy=>Kj P op t x y vx vy (λv=>k v w)|_,_=>qj)
 | .unOp op _ x=>(match ev e x with|some v=>Nk op v (λv=>k v w)|none=>qj)
 | .convert t d x=>F1 P t (match P.underlying d,ev e x with
  |some (.int j),S (.int _ n)=>k (.int j (j.wrap n)) w
  |some .string,S (.slice a l c)=>(match P.underlying t with|some (.slice _)=>∃s:ByteArray,JO P t d (.slice a l c) w s/\k (.string s) w|_=>qj)
  |_,_=>qj)
 | .makeFunc fn a b=>La e a.toList λxs=>La e b.toList λys=>k (.func fn ⟨xs⟩ ⟨ys⟩) w
 | .makeMap _ I=>k (.map (S w.heap.size)) (w.alloc (.map #[] 0))
 | .makeSlice t l c=>(match ev e l,ev e c with
  |some x,S y=>∃s:Sl,∃w',jH P t x y w s w'/\k (.slice s.a s.len s.cap) w'
  |_,_=>qj)
 | .slice t x lo hi mx=>(match P.underlying t,ev e x with
  |some (.slice el),S (.slice a len cap)=>bif Pk (sz P el) 0 then qj else bound e mx cap cap λm=>bound e hi len m λh=>bound e lo 0 h λl=>(match mx,hi with|some _,I=>qj|_,_=>k (rH a l h m (sz P el)) w)
  |some (.array n el),S (.pointer (S a))=>bif Pk (sz P el) 0 then qj else bound e mx n n λm=>bound e hi n m λh=>bound e lo 0 h λl=>(match mx,hi with|some _,I=>qj|_,_=>k (rH (S a) l h m (sz P el)) w)
  |some .string,S (.string s)=>(match mx with|some _=>qj|none=>bound e I s.size s.size λm=>bound e hi s.size m λh=>bound e lo 0 h λl=>(match(I:qg qB),hi with|some _,I=>qj|_,_=>k (.string (s.extract l h)) w))
  |_,_=>qj)
 | .lookup t x i ok=>(match P.underlying t,ev e x,ev e i with
  |some (.map _ el),S m,S key=>LA (tg P el) λv=>bif ok then
    ∃b:W,tz P t m key v b w/\k (.tuple #[v,.bool b]) w
   else z7 P t m key v w/\k v w
  |_,_,_=>qj)
 | .mapUpdate t m i x=>(match ev e m,ev e i,ev e x with
  |some m,S i,S x=>∃w',gK P t m i x w w'/\k undef w'
  |_,_,_=>qj)
 | .insert t m i x=>(match ev e m,ev e i,ev e x with
  |some m,S i,S x=>∃w',gK P t m i x w w'/\k undef w'
  |_,_,_=>qj)
 | .range t x=>(match ev e x with|some v=>∃a w',F8 P t v w a w'/\k (.pointer (S a)) w'|none=>qj)
 | .next x b=>(match ev e x with|some v=>∃(y:W)(l:J N)(w':Y),JQ P v b o.type w y l w'/\k (.tuple ⟨.bool y::l⟩) w'|none=>qj)
 | .entry x=>(match ev e x with|some v=>LA (LB P o.dst 0 rest) λa=>LA (LB P o.dst 1 rest) λb=>F2 P v a b w/\k (.tuple #[a,b]) w|none=>qj)
 | .extract x i=>(match ev e x with|some (.tuple vs)=>(match nth vs.toList i with|some v=>k v w|none=>qj)|_=>qj)
 | .call c=>La e c.args.toList λvs=>(match c.callee with
  | .value (.func f)=>bif DF P f then JU P f ⟨vs⟩ o.type w k else LC P f ⟨vs⟩ o.type w k
  | .value f=>(match ev e f with
   |some fv=>cT P fv vs w λen w'=>Lz (HW P o.type) [] λvs=>en= .returned (zx vs)/\k (zx vs) w'
   |none=>qj)
  | .builtin b=>ni P b c.argTypes.toList o.type vs w k
  |_=>qj)
 |_=>qj
def Ky:J qu->X
 | []=>0
 |o::l=>P7 (match o.guard with|some (j,_)=>PL 1 j|none=>0) (Ky l)
def guarded(all:J qu)(o:qu)(e:Env)(run skip:Prop):Prop:=
 match o.guard with
 |none=>run
 |some (j,want)=>match nth all j with
  |some g=>(match g.dst with
   |some d=>(match e d with
    |some (.bool b)=>(match b,want with|true,V=>run|false,Z=>run|true,Z=>skip|false,V=>skip)
    |some (.tuple _)=>skip
    |_=>qj)
   |none=>qj)
  |none=>qj
def split(b:W)(v:N)(k:N->Prop):Prop:=
 match b with
 |false=>k v
 |true=>(match v with| .bool x=>bif x then k (.bool V)else k (.bool Z)|v=>k v)
def BL(P:qo)(all rest:J qu)(gm i:X)(o:qu)(ae6:Env->Y->Prop)(e:Env)(w:Y):Prop:=
 guarded all o e (M6 P rest o e w λv w'=>split (bit gm i) v λv'=>ae6 (e.put o.dst v') w') (ae6 (e.put o.dst undef) w)
def opsV(P:qo)(all:J qu)(gm:X):J qu->X->(Env->Y->Prop)->Env->Y->Prop
 | [],_,ae6,e,w=>ae6 e w
 |o::rest,i,ae6,e,w=>BL P all rest gm i o (opsV P all gm rest (i+1) ae6) e w
inductive JN where
 |pure|read|alloc|other
 deriving DecidableEq
def cls(P:qo)(o:qu):JN:=
 match o.op with
 | .move _| .assign _| .pick .. | .nilCheck _| .fieldAddr .. | .field .. | .indexAddr .. | .index .. | .binOp .. | .unOp .. | .makeFunc .. | .slice .. | .extract .. | .build .. => .pure
 | .convert t d _=>(match P.underlying t,P.underlying d with|some (.slice _),S .string=> .other|_,_=> .pure)
 | .load .. => .read
 | .box .. | .alloc _| .makeMap _ I| .buildSlice .. => .alloc
 | .call c=>match c.callee with
  | .builtin .len=>(match c.argTypes.toList with| [t]=>(match P.underlying t with|some (.map _ _)=> .other|_=> .pure)|_=> .other)
  | .builtin .cap| .builtin .max| .builtin .min=> .pure
  |_=> .other
 |_=> .other
def Hr(P:qo)(o:qu):W:=match cls P o with| .other=>V|_=>Z
def sub(a b:X):W:=Pk (SM a b) a
inductive bq where
 |done
 |one (i u:X) (p:bq)
 |hold (i u s:X) (p:bq)
 |alt (i:X) (p q:bq)
 |none
structure p9 where
 s:X
 t:qh
 a:qf
 v:N
def zP(w:Y)(a:qf):X->J N->Prop->Prop
 |_,[],C=>C
 |i,v::l,C=>w.cell? (a.add i)=S v/\zP w a (i+1) l C
def GN(P:qo)(h:p9)(w:Y)(C:Prop):Prop:=
 F1 P h.t<|
 match tg P h.t with
 | .c _=>w.cell? h.a=S h.v/\C
 | .a _=>(match h.v with| .agg cs=>bif Pk cs.toList.length (sz P h.t)then zP w h.a 0 cs.toList C else qj|_=>qj)
 | .big=>qj
def Hp(P:qo)(m:X):J p9->Y->Prop->Prop
 | [],_,C=>C
 |h::l,w,C=>bif sub m h.s then GN P h w (Hp P m l w C)else Hp P m l w C
def Ge(P:qo)(o:qu)(m:X)(hs:J p9)(w:Y)(C:Prop):Prop:=bif Hr P o then Hp P m hs w C else C
def nJ(P:qo)(all:J qu)(gm:X):bq->X->J p9->(Env->Y->Prop)->Env->Y->Prop
 | .done,_,_,ae6,e,w=>ae6 e w
 | .one i _ p,m,hs,ae6,e,w=>(match nth all i with
  |some o=>BL P all all gm i o (λe w=>Ge P o (P7 m (PL 1 i)) hs w (nJ P all gm p (P7 m (PL 1 i)) hs ae6 e w)) e w
  |none=>qj)
 | .hold i _ s p,m,hs,ae6,e,w=>(match nth all i with
  |some o=>(match o.op,o.dst with
   | .load t x,S d=>(match ev e x with
    |some (.pointer (S a))=>A5 P t a w λv=>nJ P all gm p (P7 m (PL 1 i)) (⟨s,t,a,v⟩::hs) ae6 (e.put (S d) v) w
    |_=>qj)
   |_,_=>qj)
  |none=>qj)
 | .alt i p q,m,hs,ae6,e,w=>(match nth all i with
  |some o=>BL P all all gm i o (λe w=>Ge P o (P7 m (PL 1 i)) hs w (nJ P all gm p (P7 m (PL 1 i)) hs ae6 e w)) e w
  |none=>qj)/\nJ P all gm q m hs ae6 e w
 | .none,_,_,_,_,_=>G
inductive An where
 |u
 |r (j:qg (J (X × Sh))) (p:bq)
 |t (j:qg (J (X × Sh))) (a b:An)
def An.j:An->qg (J (X × Sh))| .u=>I| .r j _=>j| .t j _ _=>j
def An.a:An->An| .t _ a _=>a|_=> .u
def An.b:An->An| .t _ _ b=>b|_=> .u
def An.p:An->bq| .r _ p=>p|_=> .done
def BY(j:qg (J (X × Sh)))(m:X)(ae6:Env->Y->Prop)(e:Env)(body:(Env->Y->Prop)->Prop):Prop:=
 match j with
 |none=>body ae6
 |some cs=>∀k:xp cs,imp cs (vn cs ae6 (e.forget m)) k->body (jc cs k)
def vc(P:qo):Code->An->(Env->Y->Prop)->(X->Env->Y->Prop)->(Env->Y->Prop)->Env->Y->Prop
 | .skip,_,ae6,_,_,e,w=>ae6 e w
 | .region _ ops d,an,ae6,_,_,e,w=>
  BY an.j (JY ops.toList) ae6 e λae6=>bif d then nJ P ops.toList (Ky ops.toList) an.p 0 [] ae6 e w.drew else opsV P ops.toList (Ky ops.toList) ops.toList 0 ae6 e w
 | .seq a b,an,ae6,aeW,R,e,w=>vc P a an.a (vc P b an.b ae6 aeW R) aeW R e w
 | .cond c a b,an,ae6,aeW,R,e,w=>
  BY an.j (P7 (dm a) (dm b)) ae6 e λae6=>match ev e c with
   |some (.bool x)=>bif x then vc P a an.a ae6 aeW R e w else vc P b an.b ae6 aeW R e w
   |_=>qj
 | .block id b,an,ae6,aeW,R,e,w=>
  BY an.j (dm b) ae6 e λae6=>vc P b an.a ae6 (λi=>bif Pk i id then ae6 else aeW i) R e w
 | .loop b,an,_,aeW,R,e,w=>(match an.j with
  |some cs=>∀L:xp cs,imp cs (vn cs (vc P b an.a (jc cs L) aeW R) (e.forget (dm b))) L->jc cs L e w
  |none=>qj)
 | .exit id,_,_,aeW,_,e,w=>aeW id e w
 | .ret,_,_,_,R,e,w=>R e w
 |_,_,_,_,_,_,_=>qj
def rP(P:qo):J ResultVar->Env->Y->J N->(J N->Prop)->Prop
 | [],_,_,acc,k=>k acc.reverse
 | .tmp t::l,e,w,acc,k=>(match e t with|some v=>rP P l e w (v::acc) k|none=>qj)
 | .cell a t::l,e,w,acc,k=>(match e a with|some (.pointer (S p))=>A5 P t p w λv=>rP P l e w (v::acc) k|_=>qj)
def L8(P:qo)(fn:Func)(c:Code)(an:An)(cs:J (X × Sh))(args:J N)(K:xp cs)(w:Y):Prop:=
 vc P c an (λe w'=>rP P fn.results.toList e w' [] λvs=>jc cs K (nth vs) w') (λ_ _ _=>qj)
  (λe w'=>rP P fn.results.toList e w' [] λvs=>jc cs K (nth vs) w') (nth args) w
def Gz:(cs:J (X × Sh))->xp cs->J N->Ending->Y->Prop
 | [],K,acc,en,w=>en= .returned (zx acc.reverse)/\K w
 |(_,.c x)::l,K,acc,en,w=>∃d:x.D,Gz l (K d) (x.mk d::acc) en w
 |(_,.a ss)::l,K,acc,en,w=>exKA ss [] K λvs K'=>Gz l K' (.agg ⟨vs⟩::acc) en w
 |(_,.big)::l,K,acc,en,w=>∃cs:qn N,Gz l (K cs) (.agg cs::acc) en w
where
 exKA {r:Type}:(ss:J Sc)->J N->u2 ss r->(J N->r->Prop)->Prop
 | [],acc,K,k=>k acc.reverse K
 |c::l,acc,K,k=>∃d:c.D,exKA l (c.mk d::acc) (K d) k
def Rel(ds:J Deferred)(n:X)(e:Env)(a:Act):Prop:=a.tmps.size=n/\a.defers=ds/\∀t v,e t=S v->a.tmps.getD t undef=v
theorem GI(x:qn N)(d t:X)(v:N)(h:d<x.size):(x.setIfInBounds d v).getD t undef=if t=d then v else x.getD t undef:=by
 simp only[PV];rw[Se];by_cases e:d=t
 .subst e;simp[h]
 .rw[Q e,Q (λh=>e h.symm)]
theorem Rel.put{n:X}{e:Env}{a:Act}(h:Rel ds n e a){d:qg X}(hd:∀x,d=S x->x<n)(v:N):Rel ds n (e.put d v) (a.put d v):=by
 obtain⟨h1,h2,h3⟩:=h;cases d with
 |none=>exact⟨h1,h2,h3⟩
 |some d=>
  refine⟨by simp[Act.put,h1],h2,λt u ht=>?_⟩;simp only[Act.put];rw[GI _ _ _ _ (by rw[h1];exact hd d U)];simp only[Env.put,Env.set]at ht;by_cases e:t=d
  .subst e
   rw[A U];have:Pk t t=true:=S2 t;rw[this]at ht;simpa using ht
  .rw[Q e]
   have:Pk t d=false:=by
    cases hb:Pk t d with
    |true=>exact qi (Pc hb) e
    |false=>rfl
   rw[this]at ht;exact h3 t u ht
theorem Rel.ev{n:X}{e:Env}{a:Act}(h:Rel ds n e a){x:qB}{v:N}(hx:Vc.ev e x=S v):a.eval x=v:=by
 cases x with
 |tmp t=>exact h.2.2 t v hx
 |const c=>simpa [Vc.ev,Act.eval]using hx
 |global g=>simpa [Vc.ev,Act.eval]using hx
 |func f=>simpa [Vc.ev,Act.eval]using hx
theorem oj{n:X}{e:Env}{a:Act}(h:Rel ds n e a):∀(l:J qB)(k:J N->Prop),La e l k->k (l.map a.eval)
 | [],k,hk=>hk
 |x::l,k,hk=>by
  simp only[La]at hk;split at hk
  .rename_i v hv
   have:=oj h l _ hk;simpa [h.ev hv]using this
  .exact hk.elim
theorem sC{n:X}{e:Env}{a:Act}(h:Rel ds n e a):∀(l:J (X × qB))(k:J (X × N)->Prop),Ly e l k->k (l.map λ(i,x)=>(i,a.eval x))
 | [],k,hk=>hk
 |(i,x)::l,k,hk=>by
  simp only[Ly]at hk;split at hk
  .rename_i v hv
   have:=sC h l _ hk;simpa [h.ev hv]using this
  .exact hk.elim
def Ext(w w':Y):Prop:=∀a x,w.cell? a=S x->w'.cell? a=S x
theorem Ext.refl(w:Y):Ext w w:=λ_ _ h=>h
theorem Ext.trans{a b c:Y}(h:Ext a b)(h':Ext b c):Ext a c:=λx v hx=>h' x v (h x v hx)
theorem Ext.alloc(w:Y)(o:Obj):Ext w (w.alloc o):=λa x h=>by rw[World.cell?_alloc_lt _ _ _ (World.block_lt_of_cell? _ _ h)];exact h
def ka(P:qo)(o:qu)(c:JN)(a:Act)(w:Y)(K:N->Y->Prop):Prop:=
 match c with
 | .pure=>∃v,(∀w',(qv a.eval o).run P w'= .ok (.value v) w')/\K v w
 | .read=>∃v,(∀w',Ext w w'->(qv a.eval o).run P w'= .ok (.value v) w')/\K v w
 | .alloc=>∃v w',(qv a.eval o).run P w= .ok (.value v) w'/\Ext w w'/\K v w'
 | .other=>(∃v w',(qv a.eval o).run P w= .ok (.value v) w'/\K v w')\/(∃w',(qv a.eval o).run P w= .ok .skip w'/\K undef w')\/
   (∃f args,(qv a.eval o).run P w= .ok (.enter f args) w/\Calls P f args w λen w''=>∃v,en= .returned v/\K v w'')
theorem ka.mono{P:qo}{o:qu}{c:JN}{a:Act}{w:Y}{K K':N->Y->Prop}(h:ka P o c a w K)(hk:∀v w',K v w'->K' v w'):ka P o c a w K':=by
 cases c with
 |pure=>obtain⟨v,h1,h2⟩:=h;exact⟨v,h1,hk _ _ h2⟩
 |read=>obtain⟨v,h1,h2⟩:=h;exact⟨v,h1,hk _ _ h2⟩
 |alloc=>obtain⟨v,w',h1,h2,h3⟩:=h;exact⟨v,w',h1,h2,hk _ _ h3⟩
 |other=>
  rcases h with⟨v,w',h1,h2⟩|⟨w',h1,h2⟩|⟨f,args,h1,h2⟩
  .exact .inl ⟨v,w',h1,hk _ _ h2⟩
  .exact .inr (.inl ⟨w',h1,hk _ _ h2⟩)
  .exact .inr (.inr ⟨f,args,h1,h2.mono λen w''⟨v,hv,hK⟩=>⟨v,hv,hk _ _ hK⟩⟩)
theorem ka.Bb{P:qo}{o:qu}{c:JN}{a:Act}{w:Y}{K K':N->Y->Prop}(hc:c≠ .other)(h:ka P o c a w K)(hk:∀v w',Ext w w'->K v w'->K' v w'):ka P o c a w K':=by
 cases c with
 |pure=>obtain⟨v,h1,h2⟩:=h;exact⟨v,h1,hk _ _ (Ext.refl _) h2⟩
 |read=>obtain⟨v,h1,h2⟩:=h;exact⟨v,h1,hk _ _ (Ext.refl _) h2⟩
 |alloc=>obtain⟨v,w',h1,h2,h3⟩:=h;exact⟨v,w',h1,h2,hk _ _ h2 h3⟩
 |other=>exact qi U hc
theorem aS{t:qh}{d:TypeDesc}(h:P.underlying t=S d)(w:Y):(underlying t).run P w= .ok d w:=by simp[underlying,h]
theorem AO{t:qh}{d:TypeDesc}(h:P.underlying t=S d):∃i,P.info? t=S i:=by
 cases hi:P.info? t with
 |none=>simp[Program.underlying,hi]at h
 |some i=>exact⟨i,U⟩
theorem fO{t:qh}{i:qJ}(h:P.info? t=S i)(w:Y):(sizeOf t).run P w= .ok (sz P t) w:=by simp[sizeOf,typeInfo,h,sz]
theorem lI{t:qh}{d:TypeDesc}(h:P.underlying t=S d)(w:Y):(sizeOf t).run P w= .ok (sz P t) w:=by obtain⟨i,hi⟩:=AO h;exact fO hi w
theorem uH{t:qh}{d:TypeDesc}(h:P.underlying t=S d)(w:Y):(isAgg t).run P w= .ok (agg P t) w:=by unfold isAgg agg;rw[Sem.run_bind,aS h w,h];simp only[Result.andThen_ok];cases d<;>rfl
theorem kQ{w:Y}{a:qf}{v:N}(h:w.cell? a=S v):(load a).run P w= .ok v w:=by rw[run_load,h]
theorem di(w:Y)(a:qf):∀(vs:J N)(i:X)(acc:qn N),(∀j v,nth vs j=S v->w.cell? (a.add (i+j))=S v)->
  (loadCellsFrom a i vs.length acc).run P w= .ok (acc++vs.toArray) w
 | [],i,acc,_=>by simp[loadCellsFrom]
 |v::vs,i,acc,h=>by
  have h0:w.cell? (a.add i)=S v:=h 0 v U;simp only[OB,loadCellsFrom];rw[Sem.run_bind,kQ h0];simp only[Result.andThen_ok];rw[di w a vs (i+1) (acc.push v) (λj u hj=>by have:=h (j+1) u hj;rw[show i+1+j=i+(j+1)from by omega];exact this)];simp
theorem dz{α:Type}:∀(l:J α)(i:X),nth l i=l[i]?
 | [],i=>by simp[nth]
 |x::l,0=>by simp[nth]
 |x::l,i+1=>by simp[nth,dz l i]
theorem tH(a:qf)(w:Y):∀(l:J Sc)(i:X)(acc:J N)(k:N->Prop),DP l a i w acc k->
  ∃vs:J N,vs.length=l.length/\(∀j v,nth vs j=S v->w.cell? (a.add (i+j))=S v)/\k (.agg ⟨acc.reverse++vs⟩)
 | [],i,acc,k,h=>⟨[],U,λj v h=>by simp[nth]at h,by simpa [DP]using h⟩
 |c::l,i,acc,k,h=>by
  obtain⟨d,hd,h⟩:=h;obtain⟨vs,h1,h2,h3⟩:=tH a w l (i+1) (c.mk d::acc) k h;refine⟨c.mk d::vs,by simp[h1],λj v hj=>?_,by simpa using h3⟩;cases j with
  |zero=>simp[nth]at hj;subst hj;exact hd
  |succ j=>have:=h2 j v hj;rw[show i+(j+1)=i+1+j from by omega];exact this
theorem Df{t:qh}{x:Sc}(h:tg P t= .c x):agg P t=false:=by
 unfold tg at h;cases ha:agg P t with
 |false=>rfl
 |true=>
  rw[ha]at h;simp only[ql]at h;cases h1:QT (sz P t) 24<;>rw[h1]at h<;>simp only[ql,qp]at h
  .cases h
  .cases h2:Pk (L4 P 8 t).length (sz P t)<;>rw[h2]at h<;>simp only[ql,qp]at h<;>cases h
theorem De{t:qh}{l:J Sc}(h:tg P t= .a l):agg P t=V/\l.length=sz P t:=by
 unfold tg at h;cases ha:agg P t with
 |false=>rw[ha]at h;simp only[qp]at h;cases h
 |true=>
  rw[ha]at h;simp only[ql]at h;cases h1:QT (sz P t) 24<;>rw[h1]at h<;>simp only[ql,qp]at h
  .cases h
  .cases h2:Pk (L4 P 8 t).length (sz P t)<;>rw[h2]at h<;>simp only[ql,qp]at h
   .cases h
   .cases h;exact⟨U,Pc h2⟩
theorem HV{t:qh}(h:tg P t= .big):agg P t=true:=by
 unfold tg at h;cases ha:agg P t with
 |false=>rw[ha]at h;simp only[qp]at h;cases h
 |true=>rfl
theorem nE{t:qh}{a:qf}{w:Y}{k:N->Prop}(h:A5 P t a w k):∃v,k v/\∀w',Ext w w'->(loadVar t a).run P w'= .ok v w':=by
 unfold A5 F1 at h;split at h
 .exact h.elim
 rename_i d hd;have hs:=λw=>lI hd w;have ha:=λw=>uH hd w;split at h
 .rename_i x hx
  obtain⟨v,hv,hk⟩:=h;refine⟨_,hk,λw' hw=>?_⟩;unfold loadVar;rw[Sem.run_bind,ha,Df hx];simp only[Result.andThen_ok,OF,qx];exact kQ (hw _ _ hv)
 .rename_i l hl
  obtain⟨h1,h2⟩:=De hl;obtain⟨vs,h3,h4,h5⟩:=tH a w l 0 [] k h;refine⟨_,h5,λw' hw=>?_⟩;unfold loadVar;rw[Sem.run_bind,ha,h1];simp only[Result.andThen_ok,qz];rw[Sem.run_bind,hs];simp only[Result.andThen_ok];rw[Sem.run_bind];unfold loadCells;rw[<-h2,<-h3,di w' a vs 0 #[] (λj v hj=>hw _ _ (h4 j v hj))];simp
 .rename_i hl
  have h1:=HV hl;obtain⟨cs,h2,h3,h4⟩:=h;refine⟨_,h4,λw' hw=>?_⟩;unfold loadVar;rw[Sem.run_bind,ha,h1];simp only[Result.andThen_ok,qz];rw[Sem.run_bind,hs];simp only[Result.andThen_ok];rw[Sem.run_bind];unfold loadCells;have:=di (P:=P) w' a cs.toList 0 #[] (λj v hj=>hw _ _ (by
   rw[dz]at hj;simp only[O7]at hj;have hlt:j<sz P t:=by rw[<-h2];exact(OW.1 hj).1
   rw[OJ,h3 j hlt];exact hj))
  rw[Pr,h2]at this;rw[this];simp
theorem uZ{w:Y}{a:qf}{v:N}{k:Y->Prop}(h:St w a v k):(store a v).run P w= .ok () (w.setCell a v)/\k (w.setCell a v):=by
 obtain⟨h1,h2,h3,h4⟩:=h;refine⟨?_,h4⟩;rw[run_store _ _ _ _ _ h3];cases hc:w.cell? a with
 |none=>rw[hc]at h1;simp at h1
 |some x=>simp[h2]
theorem rY(a:qf):∀(vs:J N)(i:X)(w:Y)(k:Y->Prop),Di vs a i w k->∃w',(storeCells a vs i).run P w= .ok () w'/\k w'
 | [],i,w,k,h=>⟨w,by simp[storeCells],h⟩
 |v::vs,i,w,k,h=>by obtain⟨h1,h2⟩:=uZ (P:=P) h;obtain⟨w',h3,h4⟩:=rY a vs (i+1) _ k h2;refine⟨w',?_,h4⟩;simp only[storeCells];rw[Sem.run_bind,h1];exact h3
theorem zH{t:qh}{a:qf}{v:N}{w:Y}{k:Y->Prop}(h:Dj P t a v w k):∃w',(storeVar t a v).run P w= .ok () w'/\k w':=by
 unfold Dj F1 at h;split at h
 .exact h.elim
 rename_i d hd;have hs:=lI hd w;cases ha:agg P t with
 |true=>
  rw[ha]at h;simp only[ql]at h;split at h
  .rename_i cs
   cases hb:Pk cs.toList.length (sz P t)<;>rw[hb]at h<;>simp only[ql,qp]at h
   have hb:=Pc hb;obtain⟨w',h1,h2⟩:=rY (P:=P) a cs.toList 0 w k h;refine⟨w',?_,h2⟩;unfold storeVar;rw[Sem.run_bind,hs];have hsz:cs.size=sz P t:=by rw[<-hb];simp
   simp only[Result.andThen_ok,Value.cells,hsz,ne_eq,not_true_eq_false,qx];exact h1
  .exact h.elim
 |false=>
  rw[ha]at h;simp only[qp]at h;cases hb:Pk (sz P t) 1<;>rw[hb]at h<;>simp only[ql,qp]at h
  have hb:=Pc hb;have h3:=h.2.2.1;obtain⟨h1,h2⟩:=uZ (P:=P) h;have hcells:v.cells= #[v]:=by cases v<;>first|rfl|simp[Value.oneCell']at h3
  refine⟨_,?_,h2⟩;unfold storeVar;rw[Sem.run_bind,hs,hb];simp only[Result.andThen_ok,hcells];have:(storeCells a [v] 0).run P w= .ok () (w.setCell a v):=by simp only[storeCells];rw[Sem.run_bind];rw[show a.add 0=a from by simp[Addr.add],h1];rfl
  simpa using this
theorem DD:∀(l:J Sc)(acc:J N)(k:J N->Prop),Mv l acc k->∃vs,k vs
 | [],_,_,h=>⟨_,h⟩
 |_::l,_,k,⟨_,h⟩=>DD l _ k h
theorem uA{s:Sh}{k:N->Prop}(h:LA s k):∃v,k v:=by
 cases s with
 |c x=>obtain⟨d,h⟩:=h;exact⟨_,h⟩
 |a l=>obtain⟨vs,h⟩:=DD _ _ _ h;exact⟨_,h⟩
 |big=>obtain⟨cs,h⟩:=h;exact⟨_,h⟩
theorem yS:∀(l:J Sh)(acc:J N)(k:J N->Prop),Lz l acc k->∃vs,k vs
 | [],_,_,h=>⟨_,h⟩
 |_::l,_,k,h=>by obtain⟨v,h⟩:=uA h;exact yS l _ k h
theorem HP(d:X){t:qh}{x y:N}{k:W->Prop}(h:Ho P t x y k):∃b,k b/\∀w,(Op.equalIn (d+1) t x y).run P w= .ok b w:=by
 unfold Ho at h;split at h
 .rename_i a hu
  exact⟨_,h,λw=>by cases a<;>simp[Op.equalIn,aS hu]⟩
 .rename_i a _ _ _ _ hu
  exact⟨_,h,λw=>by cases a<;>simp[Op.equalIn,aS hu]⟩
 .rename_i a hu
  exact⟨_,h,λw=>by cases a<;>simp[Op.equalIn,aS hu]⟩
 .exact h.elim
theorem BB(d:X){t:qh}(a b:W)(h:P.underlying t=S .bool)(w:Y):(Op.equalIn (d+1) t (.bool a) (.bool b)).run P w= .ok (a==b) w:=by simp[Op.equalIn,aS h]
theorem Cy{op:BinOp}{j:qK}{a b:O}{k:N->Prop}{t:qh}(h:KC op j a b k):∃v,k v/\∀w,(binOp op t (.int j a) (.int j b)).run P w= .ok v w:=by
 cases op<;>simp only[KC]at h
 case add=>exact⟨_,h,λw=>by simp[binOp,Op.intArith]⟩
 case sub=>exact⟨_,h,λw=>by simp[binOp,Op.intArith]⟩
 case mul=>exact⟨_,h,λw=>by simp[binOp,Op.intArith]⟩
 case quo=>exact⟨_,h.2,λw=>by simp[binOp,Op.intDiv,h.1]⟩
 case rem=>exact⟨_,h.2,λw=>by simp[binOp,Op.intDiv,h.1]⟩
 case and=>exact⟨_,h,λw=>by simp[binOp,Op.intBits,da]⟩
 case or=>exact⟨_,h,λw=>by simp[binOp,Op.intBits,Hq]⟩
 case xor=>exact⟨_,h,λw=>by simp[binOp,Op.intBits,JJ]⟩
 case andNot=>exact⟨_,h,λw=>by simp[binOp,Op.intBits,fV]⟩
 case eql=>exact⟨_,h,λw=>by simp[binOp,Op.intCmp]⟩
 case neq=>exact⟨_,h,λw=>by simp[binOp,Op.intCmp]⟩
 case lss=>exact⟨_,h,λw=>by simp[binOp,Op.intCmp]⟩
 case leq=>exact⟨_,h,λw=>by simp[binOp,Op.intCmp]⟩
 case gtr=>exact⟨_,h,λw=>by simp[binOp,Op.intCmp]⟩
 case geq=>exact⟨_,h,λw=>by simp[binOp,Op.intCmp]⟩
theorem eK{op:BinOp}{t:qh}{x y:qB}{a b:N}(w:Y)(h1:¬(a= .nilIface/\b= .nilIface))(h2:∀c d,¬(a= .agg c/\b= .agg d)):
  (eqGuard op t x y a b).run P w= .ok () w:=by
 unfold eqGuard;cases op<;>first|rfl|(cases a<;>cases b<;>first|rfl|(exact qi ⟨U,U⟩ h1)|(exact qi ⟨U,U⟩ (h2 _ _)))
theorem Cn{op:BinOp}{t:qh}{x y:qB}{vx vy:N}{k:N->Prop}(h:Kj P op t x y vx vy k):
  ∃v,k v/\∀w,(do eqGuard op t x y vx vy;binOp op t vx vy:Sem N).run P w= .ok v w:=by
 unfold Kj at h;split at h
 .obtain ⟨h1,h2⟩:=h
  refine⟨_,h2,λw=>?_⟩;rw[Sem.run_bind,eK _ qc qc];simp only[Result.andThen_ok];rename_i b;have hb:¬b<0:=om
  simp[binOp,Op.shift,iJ,hb]
 .obtain ⟨h1,h2⟩:=h
  refine⟨_,h2,λw=>?_⟩;rw[Sem.run_bind,eK _ qc qc];simp only[Result.andThen_ok];rename_i b;have hb:¬b<0:=om
  simp[binOp,Op.shift,kS,hb]
 .split at h
  .rename_i hj
   subst hj;obtain⟨v,h1,h2⟩:=Cy (P:=P) (t:=t) h;refine⟨v,h1,λw=>?_⟩;rw[Sem.run_bind,eK _ qc qc];exact h2 w
  .exact h.elim
 .split at h
  .rename_i hu
   refine⟨_,h,λw=>?_⟩;rw[Sem.run_bind,eK _ qc qc];rename_i a b _;have h3:(Op.equal t (.bool a) (.bool b)).run P w= .ok (a==b) w:=BB 9999 a b hu w;simp[binOp,h3]
  .exact h.elim
 .split at h
  .rename_i hu
   refine⟨_,h,λw=>?_⟩;rw[Sem.run_bind,eK _ qc qc];rename_i a b _;have h3:(Op.equal t (.bool a) (.bool b)).run P w= .ok (a==b) w:=BB 9999 a b hu w;simp[binOp,h3]
  .exact h.elim
 .obtain ⟨h1,h2⟩:=h
  refine⟨_,h2,λw=>?_⟩;rw[Sem.run_bind,eK _ qc qc];rename_i a b;have h3:¬((a.size+b.size:X):O)>qd.max:=Int.not_lt.2 h1;simp only[Result.andThen_ok,binOp,Op.stringOp,Q h3];rfl
 .cases hn:isNil y with
  |false=>
   rw[hn]at h;simp only[qp]at h;obtain⟨b,h1,h2⟩:=h;exact⟨_,h2,h1⟩
  |true=>
   rw[hn]at h;simp only[ql]at h;obtain⟨b,h1,h2⟩:=HP (P:=P) 9999 h;have hg:∀w,(eqGuard op t x y vx vy).run P w= .ok () w:=by
    intro w;unfold Ho at h;split at h
    .exact eK _ qc qc
    .exact eK _ qc qc
    .exact eK _ qc qc
    .exact h.elim
   have hb:∀op,(op= .eql\/op= .neq)->∀w,(binOp op t vx vy).run P w= .ok (.bool (if op= .eql then b else !b)) w:=by
    intro op hop w;have h3:(Op.equal t vx vy).run P w= .ok b w:=h2 w;unfold Ho at h;split at h
    .rcases hop with rfl|rfl<;>(unfold binOp;simp[h3])
    .rcases hop with rfl|rfl<;>(unfold binOp;simp[h3])
    .rcases hop with rfl|rfl<;>(unfold binOp;simp[h3])
    .exact h.elim
   split at h1
   .exact ⟨_,h1,λw=>by rw[Sem.run_bind,hg];simpa using hb .eql (.inl U) w⟩
   .exact ⟨_,h1,λw=>by rw[Sem.run_bind,hg];simpa using hb .neq (.inr U) w⟩
   .exact h1.elim
theorem FQ{op:UnOp}{v:N}{k:N->Prop}(h:Nk op v k):∃u,k u/\∀w,(Op.unary op v).run P w= .ok u w:=by
 unfold Nk at h;split at h
 .exact ⟨_,h,λw=>by simp[Op.unary]⟩
 .exact ⟨_,h,λw=>by simp[Op.unary,Op.intArith]⟩
 .exact ⟨_,h,λw=>by simp[Op.unary,Op.intBits,JJ]⟩
 .exact h.elim
theorem rn{s:qh}{f:X}{ft:qh}{off:X}(h:lx P s f=S (ft,off)):
  ∃fs fl,P.underlying s=S (.struct fs)/\fs[f]?=S fl/\fl.type=ft/\fl.offset=off:=by
 unfold lx at h;split at h
 .rename_i fs hu
  split at h
  .rename_i fl hf
   rw[dz,O7]at hf;simp only[Option.some.injEq,Prod.mk.injEq]at h;exact⟨fs,fl,hu,hf,h.1,h.2⟩
  .cases h
 .cases h
theorem extract_eq(cs:qn N)(o n:X):cs.extract o (o+n)=⟨(cs.toList.drop o).take n⟩:=by apply QX;rw[SL];simp[Sr]
theorem Bh{t:qh}{cs:qn N}{off:X}{k:N->Prop}(h:DT P t cs.toList off k):∃v,k v/\∀w,(part t cs off).run P w= .ok v w:=by
 unfold DT F1 at h;split at h
 .exact h.elim
 rename_i d hd;have hs:=λw=>lI hd w;have ha:=λw=>uH hd w;cases hag:agg P t with
 |true=>
  rw[hag]at h;simp only[ql]at h;refine⟨_,h,λw=>?_⟩;unfold part;rw[Sem.run_bind,ha,hag];simp only[Result.andThen_ok,qz];rw[Sem.run_bind,hs];simp only[Result.andThen_ok,extract_eq];rfl
 |false=>
  rw[hag]at h;simp only[qp]at h;split at h
  .rename_i v hv
   refine⟨_,h,λw=>?_⟩;rw[dz,O7]at hv;unfold part;rw[Sem.run_bind,ha,hag];simp[hv]
  .exact h.elim
theorem tK(cs:qn N)(o:X):∀(l:J Sc)(i:X)(acc:J N)(k:N->Prop),DS l cs o i acc k->
  ∃vs:J N,vs.length=l.length/\(∀j v,vs[j]?=S v->cs[o+(i+j)]?=S v)/\k (.agg ⟨acc.reverse++vs⟩)
 | [],i,acc,k,h=>⟨[],U,λj v h=>by simp at h,by simpa [DS]using h⟩
 |c::l,i,acc,k,h=>by
  obtain⟨d,hd,h⟩:=h;obtain⟨vs,h1,h2,h3⟩:=tK cs o l (i+1) (c.mk d::acc) k h;refine⟨c.mk d::vs,by simp[h1],λj v hj=>?_,by simpa using h3⟩;cases j with
  |zero=>simp at hj;subst hj;exact hd
  |succ j=>have:=h2 j v (by simpa using hj);rw[show i+(j+1)=i+1+j from by omega];exact this
theorem Bg{t:qh}{cs:qn N}{off:X}{k:N->Prop}(h:Hu P t cs off k):∃v,k v/\∀w,(part t cs off).run P w= .ok v w:=by
 unfold Hu F1 at h;split at h
 .exact h.elim
 rename_i d hd;have hs:=λw=>lI hd w;have ha:=λw=>uH hd w;split at h
 .rename_i x hx
  obtain⟨v,hv,hk⟩:=h;refine⟨_,hk,λw=>?_⟩;unfold part;rw[Sem.run_bind,ha,Df hx];simp[hv]
 .rename_i l hl
  obtain⟨h1,h2⟩:=De hl;obtain⟨vs,h3,h4,h5⟩:=tK cs off l 0 [] k h;refine⟨_,h5,λw=>?_⟩;unfold part;rw[Sem.run_bind,ha,h1];simp only[Result.andThen_ok,qz];rw[Sem.run_bind,hs];simp only[Result.andThen_ok,RP,PF];have:cs.extract off (off+sz P t)=⟨vs⟩:=by
   apply QX;rw[SL];simp only[Sr,Nat.add_sub_cancel_left];apply O2;intro j;rw[OM];by_cases hj:j<sz P t
   .rw[A hj,OP]
    have hlt:j<vs.length:=om
    have:=h4 j vs[j] (gE hlt);rw[OJ]at this;rw[O7,this,gE hlt]
   .rw[Q hj]
    symm
    apply OQ;omega
  rw[this];rfl
 .exact h.elim
theorem ng{n:X}{e:Env}{a:Act}(hr:Rel ds n e a){x:qg qB}{d top:X}{k:X->Prop}(h:bound e x d top k):
  ∃m,k m/\(x=I->m=d)/\∀o,x=S o->∀c w,(Instr.sliceBound (a.eval o) top c).run P w= .ok m w:=by
 unfold bound at h;cases x with
 |none=>exact⟨d,h,λ_=>rfl,(λo h=>by cases h)⟩
 |some x=>
  simp only at h;split at h
  .rename_i j m hm
   obtain⟨h1,h2,h3⟩:=h;refine⟨_,h3,(λh=>by cases h),λo ho c w=>?_⟩;cases ho;rw[hr.ev hm];unfold Instr.sliceBound;simp[asIntOf,h1,h2]
  .exact h.elim
theorem lR{n:X}{e:Env}{a:Act}(hr:Rel ds n e a){lo hi mx:qg qB}{len cap:X}{is:W}{k:X->X->X->Prop}
  (h:bound e mx cap cap λm=>bound e hi len m λh=>bound e lo 0 h λl=>(match mx,hi with|some _,I=>qj|_,_=>k l h m)):
  ∃l h m,k l h m/\∀w,(Instr.sliceBounds is len cap (lo.map a.eval) (hi.map a.eval) (mx.map a.eval)).run P w= .ok (l,h,m) w:=by
 obtain⟨m,h,Le,hm⟩:=ng (P:=P) hr h;obtain⟨y,h,hy0,hy⟩:=ng (P:=P) hr h;obtain⟨l,h,hl0,hl⟩:=ng (P:=P) hr h;cases mx with
 |none=>
  have hk:k l y m:=h;obtain rfl:=Le U;refine⟨l,y,m,hk,λw=>?_⟩;unfold Instr.sliceBounds;cases hi with
  |none=>
   obtain rfl:=hy0 U;cases lo with
   |none=>obtain rfl:=hl0 U;simp
   |some o=>simp[hl o U]
  |some o=>
   cases lo with
   |none=>obtain rfl:=hl0 U;simp[hy o U]
   |some o'=>simp[hy o U,hl o' U]
 |some u=>
  cases hi with
  |none=>exact h.elim
  |some o=>
   have hk:k l y m:=h;refine⟨l,y,m,hk,λw=>?_⟩;unfold Instr.sliceBounds;cases lo with
   |none=>obtain rfl:=hl0 U;simp[hm u U,hy o U]
   |some o'=>simp[hm u U,hy o U,hl o' U]
theorem pO:∀(cs:J N)(o:X)(v:N)(vs:J N),putAt cs o (v::vs)=putAt (cs.set o v) (o+1) vs
 | [],o,v,vs=>by cases vs<;>simp[putAt]
 |c::cs,0,v,vs=>by cases vs<;>simp[putAt]
 |c::cs,o+1,v,vs=>by
  have h:=pO cs o v vs;cases vs with
  |nil=>simp[putAt]at h|-;exact h
  |cons u us=>simp[putAt]at h|-;exact h
theorem gR:∀(cs:J N)(o:X)(vs:J N),(putAt cs o vs).length=cs.length
 |cs,o,[]=>by cases cs<;>cases o<;>simp[putAt]
 | [],o,v::vs=>by simp[putAt]
 |c::cs,0,v::vs=>by simp[putAt,gR cs 0 vs]
 |c::cs,o+1,v::vs=>by simp[putAt,gR cs o (v::vs)]
theorem xI(off:X):∀(l:J N)(k:X)(ae7:qn N),
  ((l.zipIdx k).foldl (λcs(x:N × X)=>cs.setIfInBounds (off+x.2) x.1) ae7).toList=putAt ae7.toList (off+k) l
 | [],k,ae7=>by cases h:ae7.toList<;>cases h2:off+k<;>simp[putAt,h]
 |v::l,k,ae7=>by rw[List.zipIdx_cons,List.foldl_cons,xI off l (k+1),pO];simp[Ql]
theorem lT{place:X->qg (X × X)}{n:X}:∀(l:J (X × N))(ae7:qn N)(cs:J N),ae7.size=n->oR place n ae7.toList l=S cs->
  Instr.fill place ae7 l=S ⟨cs⟩
 | [],ae7,cs,_,h=>by simp only[oR,Option.some.injEq]at h;subst h;rfl
 |(i,v)::l,ae7,cs,hn,h=>by
  simp only[oR]at h;split at h
  .cases h
  .rename_i off size hp
   cases hc:(Pk v.cells.toList.length size&&QT (off+size) n)<;>rw[hc]at h<;>simp only[ql,qp]at h
   .cases h
   rw[OH]at hc;have h1:=Pc hc.1;have h2:=Qo hc.2;rw[Pr]at h1;simp only[Instr.fill,hp];rw[Q (by simp[h1];omega)];have h3:(Array.foldl (λcs(x:N × X)=>cs.setIfInBounds (off+x.2) x.1) ae7 v.cells.zipIdx).toList=putAt ae7.toList off v.cells.toList:=by rw[<-Array.foldl_toList,Array.toList_zipIdx];exact xI off v.cells.toList 0 ae7
   refine lT (n:=n) l _ cs ?_ ?_
   .rw[<-Pr,h3,gR,Pr,hn]
   .rw[h3];exact h
theorem pS{α:Type}(l:J α):∀n,(rep n l).length=n*l.length
 |0=>by simp[rep]
 |n+1=>by simp[rep,pS l n,Qu,RZ]
theorem DZ{α:Type}(l:J α):∀(n i:X),i<n*l.length->(rep n l)[i]?=l[i%l.length]?
 |0,i,h=>by simp at h
 |n+1,i,h=>by
  simp only[rep];rcases R2 i l.length with hi|hi
  .rw[Oy hi,Nat.mod_eq_of_lt hi]
  .rw[OA hi,DZ l n (i-l.length) (by rw[Qu]at h;omega)]
   congr 1
   conv=>rhs;rw[show i=(i-l.length)+l.length from by omega,Nat.add_mod_right]
theorem sm(z:qn N)(len:X)(hz:1<=z.size):(SA (len*z.size)).map (λi=>z[i%z.size]!)=⟨rep len z.toList⟩:=by
 apply QX;apply O2;intro i;simp only[Array.toList_map,Array.toList_range,OX];rcases R2 i (len*z.size)with h|h
 .rw[List.getElem?_range h,DZ _ _ _ (by simpa using h)]
  have hlt:i%z.size<z.size:=RD _ om;simp[hlt]
 .have hl:(rep len z.toList).length=len*z.size:=by rw[pS];simp
  rw[OQ (l:=OC _) (by simpa using h),OQ om];rfl
theorem tv{t:qh}{z:J N}(h:wH P t=S z):∃v i,P.info? t=S i/\v.cells.toList=z/\∀w,(qE t).run P w= .ok v w:=by
 unfold wH at h;split at h
 .rename_i i hi
  split at h
  .rename_i v hv
   simp only[Option.some.injEq]at h;exact⟨v,i,hi,h,λw=>by simp[qE,typeInfo,hi,hv]⟩
  .cases h
 .cases h
theorem yM (hn:∀(f:X) (fn:Func),P.funcs[f]?=S fn->(fn.name== "runtime.NumGoroutine")=Z) {f:FuncId} {p:Prop} (h:okF P f p) (args:qn N) (w:Y):
  (callFunc f args).run P w= .ok (.enter f args) w/\p:=by
 unfold okF at h;split at h
 .exact h.elim
 rename_i fn hf;split at h
 .exact h.elim
 rename_i c hb;refine⟨?_,h⟩;have:=hn f fn hf;simp only[callFunc,Sem.run_bind,run_program,Result.andThen_ok,hf,this,OF,qx,hb,Option.isNone_some,Sem.run_pure]
theorem vH(fs:qn Field)(w:Y)(h:∀f∈fs,∃i,P.info? f.type=S i):
  ∀(l:J Field),(∀f∈l,∃i,P.info? f.type=S i)->(l.mapM λf=>(do pure (f.offset,<-sizeOf f.type):Sem (X × X))).run P w= .ok (l.map λf=>(f.offset,sz P f.type)) w
 | [],_=>by simp
 |f::l,hl=>by
  obtain⟨i,hi⟩:=hl f qc;rw[SI,Sem.run_bind];have h1:(do pure (f.offset,<-sizeOf f.type):Sem (X × X)).run P w= .ok (f.offset,sz P f.type) w:=by rw[Sem.run_bind,fO hi];rfl
  rw[h1];simp only[Result.andThen_ok];rw[Sem.run_bind,vH fs w h l (λg hg=>hl g (by simp[hg]))];rfl
theorem yp{t:qh}(h:Pk (sz P t) 0=Z):sz P t≠0/\∀w,(sizeOf t).run P w= .ok (sz P t) w:=by
 have h1:sz P t≠0:=λe=>by rw[e]at h;exact qi h qb
 refine⟨h1,λw=>?_⟩;cases hi:P.info? t with
 |none=>simp[sz,hi]at h1
 |some i=>exact fO hi w
theorem EM{t el:qh}{len:X}{a:qf}{j:qK}{n:O}(hu:P.underlying t=S (.array len el))(hs:Pk (sz P el) 0=Z)(h0:0<=n)(h1:n<(len:O))(w:Y):
  (Instr.indexAt t (.pointer (S a)) (.int j n)).run P w= .ok (.pointer (S (a.add (n.toNat*sz P el)))) w:=by
 obtain⟨_,h2⟩:=yp hs;unfold Instr.indexAt;simp[asIntOf,aS hu,Instr.sureAddr,h0,h1,h2]
theorem Cv{t el:qh}{len cap:X}{a:qf}{j:qK}{n:O}(hu:P.underlying t=S (.slice el))(hs:Pk (sz P el) 0=Z)(h0:0<=n)(h1:n<(len:O))(w:Y):
  (Instr.indexAt t (.slice (S a) len cap) (.int j n)).run P w= .ok (.pointer (S (a.add (n.toNat*sz P el)))) w:=by
 obtain⟨_,h2⟩:=yp hs;unfold Instr.indexAt;simp[asIntOf,aS hu,h0,h1,h2]
theorem EG{s ft:qh}{f off:X}{a:qf}(h:lx P s f=S (ft,off))(hs:Pk (sz P ft) 0=Z)(w:Y):
  (Instr.fieldAt s (.pointer (S a)) f).run P w= .ok (.pointer (S (a.add off))) w:=by
 obtain⟨fs,fl,h1,h2,h3,h4⟩:=rn h;obtain⟨h5,h6⟩:=yp hs;subst h3 h4;unfold Instr.fieldAt;simp[aS h1,h2,Instr.sureAddr,fieldPlace,h6,h5]
theorem CM{s ft:qh}{f off:X}{cs:qn N}{k:N->Prop}(h:lx P s f=S (ft,off))(hp:DT P ft cs.toList off k):
  ∃v,k v/\∀w,(Instr.field s (.agg cs) f).run P w= .ok v w:=by
 obtain⟨fs,fl,h1,h2,h3,h4⟩:=rn h;obtain⟨v,h5,h6⟩:=Bh hp;subst h3 h4;refine⟨v,h5,λw=>?_⟩;unfold Instr.field;simp[aS h1,h2,asAgg,h6]
theorem EA{t:qh}{z cs:J N}{vs:J (X × N)}(hok:rp P t=V)(hz:wH P t=S z)(hf:oR (placeOf P t) z.length z vs=S cs)(w:Y):
  (Instr.build t vs.toArray).run P w= .ok (.agg ⟨cs⟩) w:=by
 obtain⟨v,i,hi,hv,hrun⟩:=tv hz;have hvs:v.cells.size=z.length:=by rw[<-hv,Pr]
 unfold rp at hok;unfold Instr.build;rw[Sem.run_bind,hrun];simp only[Result.andThen_ok];split at hok
 .rename_i fs hu
  rw[Sem.run_bind,aS hu];simp only[Result.andThen_ok];have hall:∀f∈fs.toList,∃i,P.info? f.type=S i:=λf hf=>by have:=QW.1 hok f hf;exact PW.1 this
  have hm:(fs.mapM λf=>(do pure (f.offset,<-sizeOf f.type):Sem (X × X))).run P w= .ok (fs.toList.map λf=>(f.offset,sz P f.type)).toArray w:=by rw[Sq,Sem.run_map,vH fs w (λf hf=>hall f (SP.1 hf)) fs.toList hall];rfl
  rw[Sem.run_bind,hm];simp only[Result.andThen_ok];have hp:(λx=>((fs.toList.map λf=>(f.offset,sz P f.type)).toArray)[x]?)=placeOf P t:=by funext x;simp only[placeOf,hu,dz];simp only[PX,OX,O7];cases fs[x]?<;>rfl
  rw[hp,lT (n:=z.length) vs v.cells cs hvs (by rw[hv];exact hf)];rfl
 .rename_i len el hu
  rw[Sem.run_bind,aS hu];simp only[Result.andThen_ok];obtain⟨ie,hie⟩:=PW.1 hok;rw[Sem.run_bind,fO hie];simp only[Result.andThen_ok];have hp:(λi=>S (i*sz P el,sz P el))=placeOf P t:=by funext x;simp only[placeOf,hu]
  rw[hp,lT (n:=z.length) vs v.cells cs hvs (by rw[hv];exact hf)];rfl
 .cases hok
theorem Jj{t:qh}(h:Ji P t=V):sz P t=1:=by
 unfold Ji at h;cases ha:agg P t<;>rw[ha]at h<;>simp only[ql,qp]at h
 .split at h
  .exact Pc h
  .cases h
 .cases h
theorem vI{n:X}{C:Prop}:∀{vs:J (X × N)}{cs out:J N},Jo n cs vs=S out->KQ vs C->C/\oR (λi=>S (i*1,1)) n cs vs=S out
 | [],cs,out,h,hC=>⟨hC,h⟩
 |(i,v)::l,cs,out,h,hC=>by
  obtain⟨h3,hC⟩:=hC;have hcells:v.cells= #[v]:=by cases v<;>first|rfl|simp[Value.oneCell']at h3
  simp only[Jo]at h;cases hb:QT (i+1) n<;>rw[hb]at h<;>simp only[ql,qp]at h
  .cases h
  obtain⟨h1,h2⟩:=vI h hC;refine⟨h1,?_⟩;simp only[oR,hcells,Re,hb];simpa using h2
theorem nh{t el:qh}{len:X}{z cs:J N}{vs:J (X × N)}(hu:P.underlying t=S (.slice el))(hz:wH P el=S z)
  (hb:(QT (len*sz P el) 1000&&Pk z.length (sz P el)&&QT 1 (sz P el))=V) (hf:oR (λi=>S (i*sz P el,sz P el)) (len*sz P el) (rep len z) vs=S cs) (w:Y):
  (Instr.buildSlice t len vs.toArray).run P w= .ok (.slice (S ⟨w.heap.size,0,I⟩) len len) (w.alloc (.cells ⟨cs⟩ el)):=by
 obtain⟨v,i,hi,hv,hrun⟩:=tv hz;rw[OH,OH]at hb;have h1:=Qo hb.1.1;have h2:=Pc hb.1.2;have h3:=Qo hb.2;have hvs:v.cells.size=sz P el:=by rw[<-h2,<-hv,Pr]
 unfold Instr.buildSlice;rw[Sem.run_bind,aS hu];simp only[Result.andThen_ok];rw[Sem.run_bind,fO hi];simp only[Result.andThen_ok];rw[Q om];have hfill:=lT (place:=λi=>S (i*sz P el,sz P el)) (n:=len*sz P el) vs ⟨rep len z⟩ cs (by show(rep len z).length=_;rw[pS,h2]) hf;by_cases h0:len*sz P el=0
 .rw[A h0]
  have hl:len=0:=by
   rcases R5.1 h0 with h|h
   .exact h
   .omega
  subst hl;have hc:(SA (0*sz P el)).map (λx=>(#[]:qn N)[x%(#[]:qn N).size]!)=⟨rep 0 z⟩:=by simp[rep]
  rw[Sem.run_bind];simp only[Sem.run_pure,Result.andThen_ok];rw[hc,hfill];rfl
 .rw[Q h0]
  have hc:(SA (len*sz P el)).map (λx=>v.cells[x%v.cells.size]!)=⟨rep len z⟩:=by rw[<-hvs,sm v.cells len om,hv]
  rw[Sem.run_bind,hrun];simp only[Result.andThen_ok];rw[Sem.run_bind];simp only[Sem.run_pure,Result.andThen_ok];rw[hc,hfill];rfl
theorem FI{n:X}{e:Env}{act:Act}(hr:Rel ds n e act){t el:qh}{a:qg qf}{len cap:X}{lo hi mx:qg qB}{k:N->Prop}(hu:P.underlying t=S (.slice el))(hs:Pk (sz P el) 0=Z)
  (h:bound e mx cap cap λm=>bound e hi len m λh=>bound e lo 0 h λl=>(match mx,hi with|some _,I=>qj|_,_=>k (rH a l h m (sz P el)))):
  ∃v,k v/\∀w,(Instr.sliceAt t (.slice a len cap) (lo.map act.eval) (hi.map act.eval) (mx.map act.eval)).run P w= .ok v w:=by
 obtain⟨l,y,m,h1,h2⟩:=lR (P:=P) hr (is:=V) (k:=λl h m=>k (rH a l h m (sz P el))) h;obtain⟨_,h3⟩:=yp hs;refine⟨_,h1,λw=>?_⟩;unfold Instr.sliceAt;rw[Sem.run_bind,aS hu];simp only[Result.andThen_ok,Instr.slice];rw[Sem.run_bind,aS hu];simp only[Result.andThen_ok];rw[Sem.run_bind,h2];simp only[Result.andThen_ok];rw[Sem.run_bind,h3];rfl
theorem Dg{n:X}{e:Env}{act:Act}(hr:Rel ds n e act){t el:qh}{a:qf}{len:X}{lo hi mx:qg qB}{k:N->Prop}(hu:P.underlying t=S (.array len el))(hs:Pk (sz P el) 0=Z)
  (h:bound e mx len len λm=>bound e hi len m λh=>bound e lo 0 h λl=>(match mx,hi with|some _,I=>qj|_,_=>k (rH (S a) l h m (sz P el)))):
  ∃v,k v/\∀w,(Instr.sliceAt t (.pointer (S a)) (lo.map act.eval) (hi.map act.eval) (mx.map act.eval)).run P w= .ok v w:=by
 obtain⟨l,y,m,h1,h2⟩:=lR (P:=P) hr (is:=Z) (k:=λl h m=>k (rH (S a) l h m (sz P el))) h;obtain⟨_,h3⟩:=yp hs;refine⟨_,h1,λw=>?_⟩;unfold Instr.sliceAt;rw[Sem.run_bind,aS hu];simp only[Result.andThen_ok,Instr.sureAddr];simp[h2,h3,rH,eH];split<;>rfl
theorem ff{b:Builtin}{ts:J qh}{t:qh}{vs:J N}{w:Y}{k:N->Y->Prop}(hb:b= .cap\/b= .max\/b= .min\/(b= .len/\∀ta,ts= [ta]->∀x y,P.underlying ta≠S (.map x y)))
  (h:ni P b ts t vs w k):∃v,k v w/\∀w' cs,(builtin b ⟨ts⟩ t cs ⟨vs⟩).run P w'= .ok (.value v) w':=by
 unfold ni at h;split at h
 .split at h
  .rename_i v ta
   split at h
   .rename_i hu;exact⟨_,h,λw' cs=>by simp[builtin,Builtin.len_,aS hu,goInt]⟩
   .rename_i hu;exact⟨_,h,λw' cs=>by simp[builtin,Builtin.len_,aS hu,goInt]⟩
   .rename_i x y _ hu
    rcases hb with hb|hb|hb|hb
    .cases hb
    .cases hb
    .cases hb
    .exact qi hu (hb.2 ta U x y)
   .rename_i hu;exact⟨_,h,λw' cs=>by simp[builtin,Builtin.len_,aS hu,goInt]⟩
   .exact h.elim
  .exact h.elim
 .split at h
  .split at h
   .rename_i hu;exact⟨_,h,λw' cs=>by simp[builtin,Builtin.cap_,aS hu,goInt]⟩
   .exact h.elim
  .exact h.elim
 .exact ⟨_,h,λw' cs=>by simp[builtin,Builtin.max_,Builtin.max2,KM]⟩
 .exact ⟨_,h,λw' cs=>by simp[builtin,Builtin.min_,Builtin.min2,rG]⟩
 .rcases hb with hb|hb|hb|⟨hb,_⟩<;>cases hb
 .rcases hb with hb|hb|hb|⟨hb,_⟩<;>cases hb
 .rcases hb with hb|hb|hb|⟨hb,_⟩<;>cases hb
 .rcases hb with hb|hb|hb|⟨hb,_⟩<;>cases hb
 .exact h.elim
theorem As{b:Builtin}{ts:J qh}{t:qh}{vs:J N}{w:Y}{k:N->Y->Prop}
  (h:ni P b ts t vs w k):∃v w',k v w'/\∀cs,(builtin b ⟨ts⟩ t cs ⟨vs⟩).run P w= .ok (.value v) w':=by
 have h0:=h;unfold ni at h;split at h
 .split at h
  .rename_i v ta
   split at h
   .obtain ⟨v,h1,h2⟩:=ff (.inr (.inr (.inr ⟨U,λtb e=>by cases e;simp[*]⟩))) h0;exact⟨v,w,h1,h2 w⟩
   .obtain ⟨v,h1,h2⟩:=ff (.inr (.inr (.inr ⟨U,λtb e=>by cases e;simp[*]⟩))) h0;exact⟨v,w,h1,h2 w⟩
   .obtain ⟨n,h1,h2⟩:=h
    exact⟨_,w,h2,λcs=>by simp only[builtin];rw[Sem.run_bind,h1];rfl⟩
   .obtain ⟨v,h1,h2⟩:=ff (.inr (.inr (.inr ⟨U,λtb e=>by cases e;simp[*]⟩))) h0;exact⟨v,w,h1,h2 w⟩
   .exact h.elim
  .exact h.elim
 .obtain ⟨v,h1,h2⟩:=ff (.inl U) h0;exact⟨v,w,h1,h2 w⟩
 .obtain ⟨v,h1,h2⟩:=ff (.inr (.inl U)) h0;exact⟨v,w,h1,h2 w⟩
 .obtain ⟨v,h1,h2⟩:=ff (.inr (.inr (.inl U))) h0;exact⟨v,w,h1,h2 w⟩
 .obtain ⟨s,w',h1,h2⟩:=h
  exact⟨_,w',h2,λcs=>by simp only[builtin];rw[Sem.run_bind,h1];rfl⟩
 .obtain ⟨s,w',h1,h2⟩:=h
  exact⟨_,w',h2,λcs=>by simp only[builtin];rw[Sem.run_bind,h1];rfl⟩
 .obtain ⟨w',h1,h2⟩:=h
  exact⟨_,w',h2,λcs=>by simp only[builtin];rw[Sem.run_bind,h1];rfl⟩
 .obtain ⟨w',h1,h2⟩:=h
  exact⟨_,w',h2,λcs=>by simp only[builtin];rw[Sem.run_bind,h1];rfl⟩
 .exact h.elim
theorem GA{f:FuncId}{args:qn N}{t:qh}{w:Y}{k:N->Y->Prop}(h:LC P f args t w k):∃v w',zY P f args w v w'/\k v w':=by obtain⟨vs,w',h⟩:=yS _ _ _ h;exact⟨_,w',h⟩
theorem xA{f:FuncId}{args:qn N}{t:qh}{w:Y}{k:N->Y->Prop}
  (hn:∀(f:X) (fn:Func),P.funcs[f]?=S fn->(fn.name== "runtime.NumGoroutine")=Z) (h:JU P f args t w k):
  (callFunc f args).run P w= .ok (.enter f args) w/\Calls P f args w λen w''=>∃v,en= .returned v/\k v w'':=by
 obtain⟨h1,h2⟩:=yM hn h args w;refine⟨h1,h2.mono λen w' h=>?_⟩;obtain⟨vs,hv⟩:=yS _ _ _ h;exact⟨_,hv⟩
theorem bH{o:qu}{a:Act}{w:Y}{k:N->Y->Prop}(hc:cls P o= .pure){v:N}(hk:k v w)(hrun:∀w',(qv a.eval o).run P w'= .ok (.value v) w'):ka P o (cls P o) a w k:=by rw[hc];exact⟨v,hrun,hk⟩
theorem jK{o:qu}{a:Act}{w w':Y}{k:N->Y->Prop}(hc:cls P o= .alloc){v:N}(hk:k v w')(hx:Ext w w')(hrun:(qv a.eval o).run P w= .ok (.value v) w'):ka P o (cls P o) a w k:=by rw[hc];exact⟨v,w',hrun,hx,hk⟩
theorem eh{o:qu}{a:Act}{w w':Y}{k:N->Y->Prop}(hc:cls P o= .other){v:N}(hk:k v w')(hrun:(qv a.eval o).run P w= .ok (.value v) w'):ka P o (cls P o) a w k:=by rw[hc];exact .inl ⟨v,w',hrun,hk⟩
theorem tj{o:qu}{a:Act}{w w':Y}{k:N->Y->Prop}(hc:cls P o= .other)(hk:k undef w')(hrun:(qv a.eval o).run P w= .ok .skip w'):ka P o (cls P o) a w k:=by rw[hc];exact .inr (.inl ⟨w',hrun,hk⟩)
theorem E8 (hn:∀(f:X) (fn:Func),P.funcs[f]?=S fn->(fn.name== "runtime.NumGoroutine")=Z) {rest:J qu} {o:qu} {n:X} {e:Env} {a:Act} {w:Y} {k:N->Y->Prop}
  (hr:Rel ds n e a) (h:M6 P rest o e w k):ka P o (cls P o) a w k:=by
 unfold M6 at h;split at h
 .rename_i x hop
  split at h
  .rename_i v hv;exact bH (by simp[cls,hop]) h λw'=>by simp[qv,hop,hr.ev hv]
  .exact h.elim
 .rename_i x hop
  split at h
  .rename_i v hv;exact bH (by simp[cls,hop]) h λw'=>by simp[qv,hop,hr.ev hv]
  .exact h.elim
 .rename_i c x y hop
  split at h
  .rename_i hc
   split at h
   .rename_i v hv;exact bH (by simp[cls,hop]) h λw'=>by simp[qv,hop,hr.ev hv,hr.ev hc,asBool]
   .exact h.elim
  .rename_i hc
   split at h
   .rename_i v hv;exact bH (by simp[cls,hop]) h λw'=>by simp[qv,hop,hr.ev hv,hr.ev hc,asBool]
   .exact h.elim
  .exact h.elim
 .rename_i t x hop
  split at h
  .rename_i v hv;exact jK (by simp[cls,hop]) h (Ext.alloc _ _) (by simp[qv,hop,hr.ev hv,Instr.box,newVar,newRow])
  .exact h.elim
 .rename_i t hop
  split at h
  .rename_i z hz
   obtain⟨v,i,hi,hv,hrun⟩:=tv hz;subst hv;exact jK (by simp[cls,hop]) h (Ext.alloc _ _) (by simp[qv,hop,Instr.alloc,newVar,newRow,hrun])
  .exact h.elim
 .rename_i t ps hop
  cases hok:rp P t<;>rw[hok]at h<;>simp only[PK,PN,ql,qp]at h
  have h:=sC hr _ _ h;split at h
  .rename_i z hz
   split at h
   .rename_i cs hcs
    refine bH (by simp[cls,hop]) h λw'=>?_;have hm:(ps.map λ(x:X × qB)=>(x.1,a.eval x.2))=(ps.toList.map λ(x:X × qB)=>(x.1,a.eval x.2)).toArray:=by apply QX;simp
    simp only[qv,hop,Sem.run_bind];rw[hm,EA hok hz hcs];rfl
   .exact h.elim
  .exact h.elim
 .rename_i t len ps hop
  have h:=sC hr _ _ h;split at h
  .rename_i el hu
   split at h
   .rename_i z hz
    cases hb:(QT (len*sz P el) 1000&&Pk z.length (sz P el)&&QT 1 (sz P el))<;>rw[hb]at h<;>simp only[ql,qp]at h
    have hm:(ps.map λ(x:X × qB)=>(x.1,a.eval x.2))=(ps.toList.map λ(x:X × qB)=>(x.1,a.eval x.2)).toArray:=by apply QX;simp
    cases ho:Ji P el<;>rw[ho]at h<;>simp only[ql,qp]at h
    rotate_left
    .split at h
     .rename_i cs hcs
      obtain⟨h,hf⟩:=vI hcs h;refine jK (by simp[cls,hop]) h (Ext.alloc _ _) ?_;simp only[qv,hop,Sem.run_bind];have h1:=Jj ho;rw[hm,nh hu hz hb (cs:=cs) (by rw[h1,Re];simpa only[Re]using hf)];rfl
     .exact h.elim
    split at h
    .rename_i cs hcs
     refine jK (by simp[cls,hop]) h (Ext.alloc _ _) ?_;have hm:(ps.map λ(x:X × qB)=>(x.1,a.eval x.2))=(ps.toList.map λ(x:X × qB)=>(x.1,a.eval x.2)).toArray:=by apply QX;simp
     simp only[qv,hop,Sem.run_bind];rw[hm,nh hu hz hb hcs];rfl
    .exact h.elim
   .exact h.elim
  .exact h.elim
 .rename_i t x hop
  split at h
  .rename_i p hp
   obtain⟨v,hk,hrun⟩:=nE h;rw[show cls P o= .read from by simp[cls,hop]];exact⟨v,λw' hw=>by simp[qv,hop,hr.ev hp,Instr.loadAt,Instr.sureAddr,hrun w' hw],hk⟩
  .exact h.elim
 .rename_i t x y hop
  split at h
  .rename_i p v hp hv
   obtain⟨w',hrun,hk⟩:=zH h;exact tj (by simp[cls,hop]) hk (by simp[qv,hop,hr.ev hp,hr.ev hv,Instr.storeAt,Instr.sureAddr,hrun])
  .exact h.elim
 .rename_i x hop
  split at h
  .rename_i p hp
   obtain⟨b,rfl,hk⟩:=h;exact bH (by simp[cls,hop]) hk λw'=>by simp[qv,hop,hr.ev hp]
  .rename_i f x y hp
   exact bH (by simp[cls,hop]) h λw'=>by simp[qv,hop,hr.ev hp]
  .exact h.elim
 .rename_i s x f hop
  split at h
  .rename_i p ft off hp hf
   cases hb:Pk (sz P ft) 0<;>rw[hb]at h<;>simp only[ql,qp]at h
   exact bH (by simp[cls,hop]) h λw'=>by simp[qv,hop,hr.ev hp,EG hf hb]
  .exact h.elim
 .rename_i s x f hop
  split at h
  .rename_i cs ft off hp hf
   obtain⟨v,hk,hrun⟩:=CM hf h;exact bH (by simp[cls,hop]) hk λw'=>by simp[qv,hop,hr.ev hp,hrun]
  .exact h.elim
 .rename_i t x i hop
  split at h
  .rename_i len el p _ m hu hx hi
   cases hb:Pk (sz P el) 0<;>rw[hb]at h<;>simp only[ql,qp]at h
   exact bH (by simp[cls,hop]) h.2.2 λw'=>by simp[qv,hop,hr.ev hx,hr.ev hi,EM hu hb h.1 h.2.1]
  .rename_i el p len _ _ m hu hx hi
   cases hb:Pk (sz P el) 0<;>rw[hb]at h<;>simp only[ql,qp]at h
   obtain⟨b,rfl,h0,h1,hk⟩:=h;exact bH (by simp[cls,hop]) hk λw'=>by simp[qv,hop,hr.ev hx,hr.ev hi,Cv hu hb h0 h1]
  .exact h.elim
 .rename_i t x i hop
  split at h
  .rename_i len el cs _ m hu hx hi
   cases hb:Pk (sz P el) 0<;>rw[hb]at h<;>simp only[ql,qp]at h
   obtain⟨h0,h1,h⟩:=h;obtain⟨v,hk,hrun⟩:=Bg h;obtain⟨_,hs⟩:=yp hb;exact bH (by simp[cls,hop]) hk λw'=>by simp[qv,hop,hr.ev hx,hr.ev hi,Instr.index,asIntOf,aS hu,h0,h1,hs,hrun]
  .rename_i s _ m hu hx hi
   obtain⟨b,⟨h0,x,h1,h2⟩,hk⟩:=h;subst h2;exact bH (by simp[cls,hop]) hk λw'=>by simp[qv,hop,hr.ev hx,hr.ev hi,Instr.index,asIntOf,aS hu,h0,h1]
  .exact h.elim
 .rename_i op t x y yt hop
  split at h
  .rename_i vx vy hx hy
   obtain⟨v,hk,hrun⟩:=Cn h;refine bH (by simp[cls,hop]) hk λw'=>?_;simp only[qv,hop,hr.ev hx,hr.ev hy];rw[Sem.run_bind,hrun];rfl
  .exact h.elim
 .rename_i op t x hop
  split at h
  .rename_i v hx
   obtain⟨u,hk,hrun⟩:=FQ (P:=P) h;exact bH (by simp[cls,hop]) hk λw'=>by simp[qv,hop,hr.ev hx,hrun]
  .exact h.elim
 .rename_i s d x hop
  unfold F1 at h;split at h
  .exact h.elim
  rename_i ds hs;split at h
  .rename_i j _ m hu hx
   exact bH (by cases ds<;>simp[cls,hop,hs,hu]) h λw'=>by simp[qv,hop,hr.ev hx,convert,aS hs,aS hu,Conv.intToInt]
  .rename_i a l c hu hx
   split at h
   .rename_i el hs2
    obtain⟨b,h1,h2⟩:=h;unfold JO at h1;exact eh (by simp[cls,hop,hs2,hu]) h2 (by simp[qv,hop,hr.ev hx,h1])
   .exact h.elim
  .exact h.elim
 .rename_i fn xs ys hop
  have h:=oj hr _ _ h;have h:=oj hr _ _ h;refine bH (by simp[cls,hop]) h λw'=>?_;simp only[qv,hop,Instr.makeFunc];have h1:xs.map a.eval=⟨xs.toList.map a.eval⟩:=by apply QX;simp
  have h2:ys.map a.eval=⟨ys.toList.map a.eval⟩:=by apply QX;simp
  rw[h1,h2];rfl
 .rename_i t hop
  exact jK (by simp[cls,hop]) h (Ext.alloc _ _) (by simp[qv,hop,Instr.makeMap])
 .rename_i t l c hop
  split at h
  .rename_i x y hx hy
   obtain⟨s,w',hrun,hk⟩:=h;unfold jH at hrun;exact eh (by simp[cls,hop]) hk (by simp[qv,hop,hr.ev hx,hr.ev hy,hrun])
  .exact h.elim
 .rename_i t x lo hi mx hop
  split at h
  .rename_i el b len cap hu hx
   cases hb:Pk (sz P el) 0<;>rw[hb]at h<;>simp only[ql,qp]at h
   obtain⟨v,hk,hrun⟩:=FI (k:=λv=>k v w) hr hu hb h;exact bH (by simp[cls,hop]) hk λw'=>by simp[qv,hop,hr.ev hx,hrun]
  .rename_i len el b hu hx
   cases hb:Pk (sz P el) 0<;>rw[hb]at h<;>simp only[ql,qp]at h
   obtain⟨v,hk,hrun⟩:=Dg (k:=λv=>k v w) hr hu hb h;exact bH (by simp[cls,hop]) hk λw'=>by simp[qv,hop,hr.ev hx,hrun]
  .rename_i s hu hx
   cases mx with
   |some _=>exact h.elim
   |none=>
    obtain⟨l',h',m',hk,hrun⟩:=lR (P:=P) (is:=Z) hr h;refine bH (by simp[cls,hop]) hk λw'=>?_;have h1:=hrun w';simp only[Option.map_none]at h1;have h2:(Instr.sliceAt t (.string s) (lo.map a.eval) (hi.map a.eval) I).run P w'= .ok (.string (s.extract l' h')) w':=by unfold Instr.sliceAt;rw[Sem.run_bind,aS hu];simp only[Result.andThen_ok,Instr.slice];rw[Sem.run_bind,aS hu];simp[h1]
    simp[qv,hop,hr.ev hx,h2]
  .exact h.elim
 .rename_i t x i ok hop
  split at h
  .rename_i kt el m key hu hx hi
   obtain⟨v,h⟩:=uA h;cases ok<;>simp only[ql,qp]at h
   .obtain ⟨h1,h2⟩:=h
    unfold z7 at h1;exact eh (by simp[cls,hop]) h2 (by simp[qv,hop,hr.ev hx,hr.ev hi,h1])
   .obtain ⟨b,h1,h2⟩:=h
    unfold tz at h1;exact eh (by simp[cls,hop]) h2 (by simp[qv,hop,hr.ev hx,hr.ev hi,h1])
  .exact h.elim
 .rename_i t m i x hop
  split at h
  .rename_i vm vi vx hm hi hx
   obtain⟨w',hrun,hk⟩:=h;unfold gK at hrun;exact tj (by simp[cls,hop]) hk (by simp[qv,hop,hr.ev hx,hr.ev hi,hr.ev hm,hrun])
  .exact h.elim
 .rename_i t m i x hop
  split at h
  .rename_i vm vi vx hm hi hx
   obtain⟨w',hrun,hk⟩:=h;unfold gK at hrun;exact tj (by simp[cls,hop]) hk (by simp[qv,hop,hr.ev hx,hr.ev hi,hr.ev hm,hrun])
  .exact h.elim
 .rename_i t x hop
  split at h
  .rename_i v hv
   obtain⟨b,w',hrun,hk⟩:=h;unfold F8 at hrun;exact eh (by simp[cls,hop]) hk (by simp[qv,hop,hr.ev hv,hrun])
  .exact h.elim
 .rename_i x b hop
  split at h
  .rename_i v hv
   obtain⟨y,l,w',hrun,hk⟩:=h;unfold JQ at hrun;exact eh (by simp[cls,hop]) hk (by simp[qv,hop,hr.ev hv,hrun])
  .exact h.elim
 .rename_i x hop
  split at h
  .rename_i v hv
   obtain⟨u,h⟩:=uA h;obtain⟨v',h1,h2⟩:=uA h;unfold F2 at h1;exact eh (by simp[cls,hop]) h2 (by simp[qv,hop,hr.ev hv,h1])
  .exact h.elim
 .rename_i x i hop
  split at h
  .rename_i vs hv
   split at h
   .rename_i v hi
    rw[dz,O7]at hi;exact bH (by simp[cls,hop]) h λw'=>by simp[qv,hop,hr.ev hv,Instr.extract,hi]
   .exact h.elim
  .exact h.elim
 .rename_i c hop
  have h:=oj hr _ _ h;have hargs:c.args.map a.eval=⟨c.args.toList.map a.eval⟩:=by apply QX;simp
  split at h
  .rename_i f hcal
   have hc:cls P o= .other:=by simp[cls,hop,hcal]
   cases hb:DF P f with
   |false=>
    rw[hb,qp]at h;obtain⟨v,w',h1,h2⟩:=GA h;rw[hc];refine .inl ⟨v,w',?_,h2⟩;simp only[qv,hop,resolve,hcal,Sem.run_bind,hargs,Act.eval,Deferred.ofValue,Sem.run_pure,Result.andThen_ok,invoke,SY,SX];exact h1
   |true=>
   rw[hb,ql]at h;obtain⟨h1,h2⟩:=xA hn h;rw[hc];refine .inr (.inr ⟨f,_,?_,h2⟩);simp only[qv,hop,resolve,hcal,Sem.run_bind,hargs,Act.eval,Deferred.ofValue,Sem.run_pure,Result.andThen_ok,invoke,SY,SX];exact h1
  .rename_i f hne hcal
   split at h
   .rename_i fv hf
    obtain⟨id,first,cap,rfl,h⟩:=h;obtain⟨h1,h2⟩:=xA (t:=o.type) (k:=k) hn h;have hc:cls P o= .other:=by simp[cls,hop,hcal]
    rw[hc];refine .inr (.inr ⟨id,_,?_,h2⟩);simp only[qv,hop,resolve,hcal,Sem.run_bind,hargs,hr.ev hf,Deferred.ofValue,Sem.run_pure,Result.andThen_ok,invoke];exact h1
   .exact h.elim
  .rename_i b hcal
   obtain⟨v,w',hk,hrun⟩:=As h;have hts:(⟨c.argTypes.toList⟩:qn qh)=c.argTypes:=by cases c.argTypes;rfl
   rw[hts]at hrun;have hx:(qv a.eval o).run P w= .ok (.value v) w':=by simp only[qv,hop,resolve,hcal,Sem.run_bind,hargs,Sem.run_pure,Result.andThen_ok,invoke];exact hrun _
   have hpure:(b= .cap\/b= .max\/b= .min\/(b= .len/\∀ta,c.argTypes.toList= [ta]->∀x y,P.underlying ta≠S (.map x y)))->∃v,k v w/\∀w',(qv a.eval o).run P w'= .ok (.value v) w':=by intro hb;obtain⟨v,h1,h2⟩:=ff hb h;rw[hts]at h2;refine⟨v,h1,λw'=>?_⟩;simp only[qv,hop,resolve,hcal,Sem.run_bind,hargs,Sem.run_pure,Result.andThen_ok,invoke];exact h2 _ _
   cases b
   case cap=>obtain⟨v,h1,h2⟩:=hpure (.inl U);exact bH (by simp[cls,hop,hcal]) h1 h2
   case max=>obtain⟨v,h1,h2⟩:=hpure (.inr (.inl U));exact bH (by simp[cls,hop,hcal]) h1 h2
   case min=>obtain⟨v,h1,h2⟩:=hpure (.inr (.inr (.inl U)));exact bH (by simp[cls,hop,hcal]) h1 h2
   case len=>
    by_cases hm:∀ta,c.argTypes.toList= [ta]->∀x y,P.underlying ta≠S (.map x y)
    .obtain ⟨v,h1,h2⟩:=hpure (.inr (.inr (.inr ⟨U,hm⟩)))
     have hx2:=h2 w;cases hts2:c.argTypes.toList with
     |nil=>exact eh (by simp[cls,hop,hcal,hts2]) h1 (h2 w)
     |cons ta tl=>
      cases tl with
      |cons _ _=>exact eh (by simp[cls,hop,hcal,hts2]) h1 (h2 w)
      |nil=>
       refine bH ?_ h1 h2;have:=hm ta hts2;simp only[cls,hop,hcal,hts2]
       try (split;(rename_i x y hu;exact qi hu (this x y)))
    .obtain ⟨ta,hta,x,y,hu⟩:∃ta,c.argTypes.toList= [ta]/\∃x y,P.underlying ta=S (.map x y):=by simp only[Classical.not_forall,Classical.not_not]at hm;obtain⟨ta,hta,x,y,hu⟩:=hm;exact⟨ta,hta,x,y,hu⟩
     exact eh (by simp[cls,hop,hcal,hta,hu]) hk hx
   all_goals exact eh (by simp[cls,hop,hcal]) hk hx
  .exact h.elim
 .exact h.elim
theorem mX(m t:X):bit m t=m.testBit t:=by
 unfold bit;have h1:SM (Nat.shiftRight m t) 1=m / 2^t%2:=by show(m >>> t) &&& 1=_;rw[Nat.and_one_is_mod,Nat.shiftRight_eq_div_pow]
 rw[h1,Nat.testBit_eq_decide_div_mod_eq];have:m / 2^t%2<2:=RD _ om;generalize m / 2^t%2=x at*
 match x,this with
 |0,_=>rfl
 |1,_=>rfl
theorem fe(a b t:X):bit (P7 a b) t=(bit a t||bit b t):=by rw[mX,mX,mX];exact Nat.testBit_or a b t
theorem lj(d t:X):bit (PL 1 d) t=(t==d):=by
 rw[mX];show Nat.testBit (1 <<< d) t=_;rw[Nat.one_shiftLeft,Nat.testBit_two_pow];by_cases h:d=t
 .subst h;simp
 .simp[h];exact λe=>h e.symm
theorem mY(t:X):bit 0 t=false:=by rw[mX];simp
theorem II(d t:X):bit (Np (S d)) t=(t==d):=lj d t
def fT(m:X)(a0 a:Act):Prop:=∀t,bit m t=Z->a.tmps.getD t undef=a0.tmps.getD t undef
theorem fT.refl(m:X)(a:Act):fT m a a:=λ_ _=>rfl
theorem fT.trans{m:X}{a b c:Act}(h:fT m a b)(h':fT m b c):fT m a c:=λt ht=>(h' t ht).trans (h t ht)
theorem fT.mono{m m':X}{a b:Act}(h:fT m a b)(hm:∀t,bit m t=V->bit m' t=V):fT m' a b:=λt ht=>h t (by
 cases hb:bit m t with
 |false=>rfl
 |true=>rw[hm t hb]at ht;cases ht)
theorem fT.put{m:X}{a0 a:Act}(h:fT m a0 a){d:qg X}(hd:∀x,d=S x->bit m x=V)(v:N):fT m a0 (a.put d v):=λt ht=>by
 cases d with
 |none=>exact h t ht
 |some d=>
  have hne:t≠d:=λe=>by subst e;rw[hd t U]at ht;cases ht
  rw[<-h t ht];simp only[Act.put,PV];rw[QM (λe=>hne e.symm)]
theorem AJ{ops:qn qu}{o:qu}{n:X}{e:Env}{a:Act}(hr:Rel ds n e a){run skip:Prop}(h:guarded ops.toList o e run skip):
  (Region.wanted o (yielded ops a.tmps)=V/\run)\/(Region.wanted o (yielded ops a.tmps)=Z/\skip):=by
 unfold guarded at h;split at h
 .rename_i hg;exact .inl ⟨by simp[Region.wanted,hg],h⟩
 .rename_i j want hg
  split at h
  .rename_i g hj
   rw[dz,O7]at hj;split at h
   .rename_i d hd
    have hy:yielded ops a.tmps j=(match a.tmps[d]? with|some (.bool b)=>S b|_=>I):=by simp only[yielded,hj,RR,hd];rfl
    split at h
    .rename_i b hb
     have hv:=hr.2.2 d _ hb;have h1:a.tmps[d]?=S (.bool b):=by
      rw[PV]at hv;cases hx:a.tmps[d]? with
      |none=>rw[hx]at hv;simp[undef]at hv
      |some v=>rw[hx]at hv;simp at hv;rw[hv]
     rw[h1]at hy;have hw:Region.wanted o (yielded ops a.tmps)=(S b==S want):=by simp[Region.wanted,hg,hy]
     rw[hw];cases b<;>cases want<;>simp at h|-<;>exact h
    .rename_i vs hb
     have hv:=hr.2.2 d _ hb;refine .inr ⟨?_,h⟩;have h1:yielded ops a.tmps j=none:=by
      rw[hy];rw[PV]at hv;cases hx:a.tmps[d]? with
      |none=>rfl
      |some v=>rw[hx]at hv;simp at hv;rw[hv]
     simp[Region.wanted,hg,h1]
    .exact h.elim
   .exact h.elim
  .exact h.elim
theorem FK{b:W}{v:N}{k:N->Prop}(h:split b v k):k v:=by
 unfold split at h;cases b with
 |false=>exact h
 |true=>
  cases v<;>first|exact h|skip
  rename_i x;cases x<;>exact h
def sS(P:qo)(ops:qn qu)(i:X)(K:Act->Y->Prop)(a:Act)(w:Y):Prop:=
 ∃o,ops[i]?=S o/\((Region.wanted o (yielded ops a.tmps)=V/\ka P o (cls P o) a w (λv w'=>K (a.put o.dst v) w'))\/
  (Region.wanted o (yielded ops a.tmps)=Z/\K (a.put o.dst undef) w))
theorem sS.mono{ops:qn qu}{i:X}{K K':Act->Y->Prop}{a:Act}{w:Y}(h:sS P ops i K a w)(hk:∀a w,K a w->K' a w):sS P ops i K' a w:=by
 obtain⟨o,ho,h⟩:=h;refine⟨o,ho,?_⟩;rcases h with⟨h1,h2⟩|⟨h1,h2⟩
 .exact .inl ⟨h1,h2.mono λ_ _ h=>hk _ _ h⟩
 .exact .inr ⟨h1,hk _ _ h2⟩
theorem sS.wpOp{ops:qn qu}{i:X}{K:Act->Y->Prop}{ae5:Exit->Act->Y->Prop}{a:Act}{w:Y}(h:sS P ops i K a w):wpOp P ops ae5 i K a w:=by
 obtain⟨o,ho,h⟩:=h;unfold Go.wpOp;simp only[ho];rcases h with⟨h1,h2⟩|⟨h1,h2⟩
 .simp only[h1,qz]
  refine .inl ?_;unfold Oper.wp;generalize cls P o=c at h2;cases c with
  |pure=>obtain⟨v,h3,h4⟩:=h2;rw[h3];exact h4
  |read=>obtain⟨v,h3,h4⟩:=h2;rw[h3 w (Ext.refl w)];exact h4
  |alloc=>obtain⟨v,w',h3,h4,h5⟩:=h2;rw[h3];exact h5
  |other=>
   rcases h2 with⟨v,w',h3,h4⟩|⟨w',h3,h4⟩|⟨f,args,h3,h4⟩
   .rw[h3];exact h4
   .rw[h3];exact h4
   .rw[h3]
    refine h4.mono ?_;rintro en w' ⟨v,rfl,hK⟩;exact hK
 .simp only[h1,OF,qx];exact h2
def At(ds:J Deferred)(n m:X)(a0:Act)(ae6:Env->Y->Prop)(a:Act)(w:Y):Prop:=fT m a0 a/\∃e,Rel ds n e a/\ae6 e w
theorem tQ (hn:∀(f:X) (fn:Func),P.funcs[f]?=S fn->(fn.name== "runtime.NumGoroutine")=Z) {ops:qn qu} {rest:J qu} {gm i n m:X} {o:qu} {ae6:Env->Y->Prop} {e:Env} {a a0:Act} {w:Y}
  (ho:ops[i]?=S o) (hd:∀x,o.dst=S x->x<n/\bit m x=V) (hr:Rel ds n e a) (hk:fT m a0 a) (h:BL P ops.toList rest gm i o ae6 e w):
  sS P ops i (At ds n m a0 ae6) a w:=by
 refine⟨o,ho,?_⟩;rcases AJ hr h with⟨h1,h2⟩|⟨h1,h2⟩
 .refine .inl ⟨h1,(E8 hn hr h2).mono λv w' h=>?_⟩
  exact⟨hk.put (λx hx=>(hd x hx).2) v,_,hr.put (λx hx=>(hd x hx).1) v,FK h⟩
 .exact .inr ⟨h1,hk.put (λx hx=>(hd x hx).2) _,_,hr.put (λx hx=>(hd x hx).1) _,h2⟩
def ou(n:X):J qu->W
 | []=>V
 |o::l=>(match o.dst with|some d=>Nat.blt d n|none=>V)&&ou n l
theorem tE{n:X}:∀{l:J qu},ou n l=V->∀(i:X)(o:qu),l[i]?=S o->∀x,o.dst=S x->x<n/\bit (JY l) x=V
 | [],_,i,o,h,_,_=>by simp at h
 |p::l,hf,0,o,h,x,hx=>by simp only[PA,Option.some.injEq]at h;subst h;simp only[ou,hx,OH]at hf;refine⟨Qo hf.1,?_⟩;simp only[JY,fe,hx,II];simp
 |p::l,hf,i+1,o,h,x,hx=>by simp only[ou,OH]at hf;have:=tE hf.2 i o (by simpa using h) x hx;refine⟨this.1,?_⟩;simp only[JY,fe,this.2,QO]
theorem yf (hn:∀(f:X) (fn:Func),P.funcs[f]?=S fn->(fn.name== "runtime.NumGoroutine")=Z) {ops:qn qu} {gm n m:X} {ae6:Env->Y->Prop} {a0:Act} {ae5:Exit->Act->Y->Prop}
  (hd:∀(i:X)(o:qu),ops[i]?=S o->∀x,o.dst=S x->x<n/\bit m x=V) (hQ:∀a w,At ds n m a0 ae6 a w->ae5 .normal a w):
  ∀(l:J qu)(i:X),(∀(j:X)(o:qu),l[j]?=S o->ops[i+j]?=S o)->∀(e:Env)(a:Act)(w:Y),Rel ds n e a->fT m a0 a->opsV P ops.toList gm l i ae6 e w->
   wpOps P ops ae5 (List.range' i l.length) a w
 | [],i,_,e,a,w,hr,hk,h=>hQ a w ⟨hk,e,hr,h⟩
 |o::l,i,hl,e,a,w,hr,hk,h=>by
  have ho:ops[i]?=S o:=hl 0 o qc;rw[OB,List.range'_succ,wpOps_cons];refine((tQ hn ho (hd i o ho) hr hk h).mono λa' w'⟨hk',e',hr',h'⟩=>?_).wpOp;exact yf hn hd hQ l (i+1) (λj o hj=>by have:=hl (j+1) o (by simpa using hj);rw[show i+1+j=i+(j+1)from by omega];exact this) e' a' w' hr' hk' h'
theorem kC{P:qo}{o:qu}{c:JN}{a a':Act}{w:Y}{K:N->Y->Prop}(h:qv a'.eval o=qv a.eval o)(hs:ka P o c a w K):ka P o c a' w K:=by cases c<;>simp only[ka,h]at hs|-<;>exact hs
def mw(o:qu):W:=match o.op with| .select _ _=>Z|_=>V
theorem oD{o:qu}(h:mw o=V):∀cs b,o.op≠ .select cs b:=λcs b e=>by simp[mw,e]at h
def nk:JN->JN->W
 | .pure,_=>V
 | .read,.pure=>V
 | .read,.read=>V
 | .read,.alloc=>V
 |_,_=>Z
theorem Hj{P:qo}{ops:qn qu}{i j:X}{x y:qu}(hx:ops[i]?=S x)(hy:ops[j]?=S y)(hap:x.apart ops y=V)(hsx:mw x=V)(hsy:mw y=V)
  (hc:nk (cls P x) (cls P y)=V) {K:Act->Y->Prop} {a:Act} {w:Y} (h:sS P ops i (sS P ops j K) a w):sS P ops j (sS P ops i K) a w:=by
 obtain⟨h1,h2,h3⟩:=Oper.apart_spec hap;obtain⟨x',hx',h⟩:=h;obtain rfl:x=x':=by rw[hx]at hx';simpa using hx'
 have exX:∀(a:Act)u,qv (a.put y.dst u).eval x=qv a.eval x:=λa u=>execOp_put x (oD hsx) a y.dst u h3;have exY:∀(a:Act)u,qv (a.put x.dst u).eval y=qv a.eval y:=λa u=>execOp_put y (oD hsy) a x.dst u h1;have waX:∀(a:Act)u,Region.wanted x (yielded ops (a.put y.dst u).tmps)=Region.wanted x (yielded ops a.tmps):=λa u=>wanted_put x a y.dst u h3;have waY:∀(a:Act)u,Region.wanted y (yielded ops (a.put x.dst u).tmps)=Region.wanted y (yielded ops a.tmps):=λa u=>wanted_put y a x.dst u h1;have cm:∀(a:Act)u v,(a.put x.dst u).put y.dst v=(a.put y.dst v).put x.dst u:=λa u v=>Act.put_comm a u v h2;refine⟨y,hy,?_⟩;rcases h with⟨hw,h⟩|⟨hw,h⟩
 .generalize hcx:cls P x=cx at hc h
  cases cx with
  |alloc=>simp[nk]at hc
  |other=>simp[nk]at hc
  |pure=>
   obtain⟨v,hv,y',hy',h⟩:=h;obtain rfl:y=y':=by rw[hy]at hy';simpa using hy'
   rw[waY]at h;have fin:∀u w',K ((a.put x.dst v).put y.dst u) w'->sS P ops i K (a.put y.dst u) w':=λu w' hK=>by refine⟨x,hx,.inl ⟨by rw[waX];exact hw,?_⟩⟩;rw[hcx];exact⟨v,λw''=>by rw[exX];exact hv w'',by show K _ _;rw[<-cm];exact hK⟩
   rcases h with⟨hwy,h⟩|⟨hwy,h⟩
   .exact .inl ⟨hwy,(kC (exY a v).symm h).mono fin⟩
   .exact .inr ⟨hwy,fin _ _ h⟩
  |read=>
   obtain⟨v,hv,y',hy',h⟩:=h;obtain rfl:y=y':=by rw[hy]at hy';simpa using hy'
   rw[waY]at h;have fin:∀u w',Ext w w'->K ((a.put x.dst v).put y.dst u) w'->sS P ops i K (a.put y.dst u) w':=λu w' hE hK=>by refine⟨x,hx,.inl ⟨by rw[waX];exact hw,?_⟩⟩;rw[hcx];exact⟨v,λw'' hE'=>by rw[exX];exact hv w'' (hE.trans hE'),by show K _ _;rw[<-cm];exact hK⟩
   have hne:cls P y≠ .other:=λe=>by rw[e]at hc;simp[nk]at hc
   rcases h with⟨hwy,h⟩|⟨hwy,h⟩
   .exact .inl ⟨hwy,(kC (exY a v).symm h).Bb hne fin⟩
   .exact .inr ⟨hwy,fin _ _ (Ext.refl w) h⟩
 .obtain ⟨y',hy',h⟩:=h
  obtain rfl:y=y':=by rw[hy]at hy';simpa using hy'
  rw[waY]at h;rcases h with⟨hwy,h⟩|⟨hwy,h⟩
  .refine .inl ⟨hwy,?_⟩
   refine(kC (exY a undef).symm h).mono λu w' hK=>?_;exact⟨x,hx,.inr ⟨by rw[waX];exact hw,by rw[<-cm];exact hK⟩⟩
  .exact .inr ⟨hwy,x,hx,.inr ⟨by rw[waX];exact hw,by rw[<-cm];exact h⟩⟩
def add(L:X->W)(i:X):X->W:=λt=>t==i||L t
def wM(ops:qn qu)(L:X->W)(i:X):Prop:=∃o,ops[i]?=S o/\L i=Z/\∀x∈o.after.toList,Region.binds .any x=V->L x.on=V
def KP(P:qo)(ops:qn qu)(ae2:Act->Y->Prop):X->(X->W)->Act->Y->Prop
 |0,L,a,w=>(∀i,¬wM ops L i)/\ae2 a w
 |f+1,L,a,w=>((∀i,¬wM ops L i)->ae2 a w)/\∀i,wM ops L i->sS P ops i (KP P ops ae2 f (add L i)) a w
theorem sY{ops:qn qu}{listed:qn W}{L:X->W}(hs:listed.size=ops.size)(hL:∀t,listed.getD t Z=L t)(i:X):i∈Region.ready .any ops listed↔wM ops L i:=by
 unfold Region.ready wM;rw[List.mem_filter,PQ];have hd:∀t,t<ops.size->listed.getD t V=L t:=λt ht=>by
  rw[<-hL];have:t<listed.size:=om
  simp[this]
 constructor
 .rintro ⟨h1,h2⟩
  rw[Sp h1]at h2;simp only[PC,PM,OH,RN]at h2;refine⟨_,Sp h1,?_,λx hx hb=>?_⟩
  .rw[<-hd i h1];simpa using h2.1
  .have:=h2.2 x (SP.2 hx)
   rw[hb,hL]at this;simpa using this
 .rintro ⟨o,h1,h2,h3⟩
  have hi:i<ops.size:=(OW.1 h1).1;refine⟨hi,?_⟩;rw[h1];simp only[PC,PM,OH,RN];refine⟨by rw[hd i hi,h2];rfl,λx hx=>?_⟩;rw[hL];cases hb:Region.binds .any x with
  |false=>rfl
  |true=>rw[h3 x (SP.1 hx) hb];rfl
theorem vz{P:qo}{ops:qn qu}{ae2:Act->Y->Prop}{ae5:Exit->Act->Y->Prop}(hQ:∀a w,ae2 a w->ae5 .normal a w):
  ∀(f:X)(listed:qn W)(L:X->W)(a:Act)(w:Y),listed.size=ops.size->(∀t,listed.getD t Z=L t)->KP P ops ae2 f L a w->wpAny P .any ops ae5 f listed a w
 |0,listed,L,a,w,hs,hL,h=>by
  refine⟨?_,hQ _ _ h.2⟩;cases hr:Region.ready .any ops listed with
  |nil=>rfl
  |cons x xs=>exact qi ((sY hs hL x).1 (by rw[hr];simp)) (h.1 x)
 |f+1,listed,L,a,w,hs,hL,h=>by
  refine⟨λhr=>hQ _ _ (h.1 λi hi=>by have:=(sY hs hL i).2 hi;rw[hr]at this;simp at this),λi hi=>?_⟩;have hri:=(sY hs hL i).1 hi;have hlt:i<ops.size:=by obtain⟨o,h1,_⟩:=hri;exact(OW.1 h1).1
  refine((h.2 i hri).mono λa' w' h'=>?_).wpOp;refine vz hQ f _ (add L i) a' w' (by simp[hs]) (λt=>?_) h';simp only[add,PV];rw[Se];by_cases e:i=t
  .subst e;simp[hs,hlt]
  .rw[Q e,<-hL t,PV]
   have:(t==i)=false:=by simpa using λh=>e h.symm
   rw[this];rfl
def Ll(P:qo)(ops:qn qu)(i:X)(aeU L:X->W):Prop:=
 ∀(j:X)(y:qu),ops[j]?=S y->L j=Z->j≠i->(∀x∈y.after.toList,Region.binds .any x=V->(L x.on||aeU x.on)=V)->
  aeU j=V/\∃x,ops[i]?=S x/\x.apart ops y=V/\mw x=V/\mw y=V/\nk (cls P x) (cls P y)=V
theorem add_comm(L:X->W)(i j:X):add (add L i) j=add (add L j) i:=by funext t;simp only[add];cases t==i<;>cases t==j<;>rfl
theorem sS.some{P:qo}{ops:qn qu}{i:X}{x:qu}{y:qu}{K:Act->Y->Prop}{a:Act}{w:Y}(hx:ops[i]?=S x)(hc:nk (cls P x) (cls P y)=V)(h:sS P ops i K a w):∃a' w',K a' w':=by
 obtain⟨x',hx',h⟩:=h;obtain rfl:x=x':=by rw[hx]at hx';simpa using hx'
 rcases h with⟨_,h⟩|⟨_,h⟩
 .generalize cls P x=c at hc h
  cases c with
  |pure=>obtain⟨v,_,h⟩:=h;exact⟨_,_,h⟩
  |read=>obtain⟨v,_,h⟩:=h;exact⟨_,_,h⟩
  |alloc=>simp[nk]at hc
  |other=>simp[nk]at hc
 .exact ⟨_,_,h⟩
def fM(P:qo)(ops:qn qu)(ae2:Act->Y->Prop)(aeX:(X->W)->Y->Prop):X->(X->W)->Act->Y->Prop
 |0,L,a,w=>aeX L w/\(∀i,¬wM ops L i)/\ae2 a w
 |f+1,L,a,w=>aeX L w/\((∀i,¬wM ops L i)->ae2 a w)/\∀i,wM ops L i->sS P ops i (fM P ops ae2 aeX f (add L i)) a w
theorem fM.out{P:qo}{ops:qn qu}{ae2:Act->Y->Prop}{aeX:(X->W)->Y->Prop}:∀{f:X}{L:X->W}{a:Act}{w:Y},fM P ops ae2 aeX f L a w->KP P ops ae2 f L a w
 |0,_,_,_,h=>h.2
 |_+1,_,_,_,h=>⟨h.2.1,λi hi=>(h.2.2 i hi).mono λ_ _ h=>h.out⟩
theorem fM.here{P:qo}{ops:qn qu}{ae2:Act->Y->Prop}{aeX:(X->W)->Y->Prop}{f:X}{L:X->W}{a:Act}{w:Y}(h:fM P ops ae2 aeX f L a w):aeX L w:=by
 cases f with
 |zero=>exact h.1
 |succ f=>exact h.1
theorem fM.mono{P:qo}{ops:qn qu}{ae2:Act->Y->Prop}{aeX J':(X->W)->Y->Prop}:∀{f:X}{L:X->W}{a:Act}{w:Y},fM P ops ae2 aeX f L a w->(∀L w,aeX L w->J' L w)->fM P ops ae2 J' f L a w
 |0,_,_,_,h,hJ=>⟨hJ _ _ h.1,h.2⟩
 |_+1,_,_,_,h,hJ=>⟨hJ _ _ h.1,h.2.1,λi hi=>(h.2.2 i hi).mono λ_ _ h=>h.mono hJ⟩
theorem Gq{x y:JN}(h:nk x y=V):x= .pure\/x= .read:=by cases x<;>simp[nk]at h|-
theorem CI{P:qo}{ops:qn qu}{i:X}{x:qu}{K:Act->Y->Prop}{a:Act}{w:Y}(hx:ops[i]?=S x)(hc:cls P x= .pure\/cls P x= .read)(h:sS P ops i K a w):∃a',K a' w:=by
 obtain⟨x',hx',h⟩:=h;obtain rfl:x=x':=by rw[hx]at hx';simpa using hx'
 rcases h with⟨_,h⟩|⟨_,h⟩
 .rcases hc with hc|hc<;>rw[hc]at h
  .obtain ⟨v,_,h⟩:=h;exact⟨_,h⟩
  .obtain ⟨v,_,h⟩:=h;exact⟨_,h⟩
 .exact ⟨_,h⟩
theorem AH{P:qo}{ops:qn qu}{ae2:Act->Y->Prop}{aeX:(X->W)->Y->Prop}{i:X}{o:qu}{aeU:X->W}(ho:ops[i]?=S o)(hJ:(cls P o= .pure\/cls P o= .read)->∀L w,aeX (add L i) w->aeX L w):
  ∀(f:X)(L:X->W)(a:Act)(w:Y),wM ops L i->Ll P ops i aeU L->aeX L w->sS P ops i (fM P ops ae2 aeX f (add L i)) a w->fM P ops ae2 aeX (f+1) L a w:=by
 intro f;induction f with
 |zero=>
  intro L a w hi hf hJL h;refine⟨hJL,λh0=>qi hi (h0 i),λj hj=>?_⟩;by_cases e:j=i
  .subst e;exact h
  .obtain ⟨y,hy,hLj,hpre⟩:=hj
   obtain⟨_,x,hx,hap,hsx,hsy,hc⟩:=hf j y hy hLj e (λz hz hb=>by rw[hpre z hz hb];rfl);obtain⟨a',w',h'⟩:=h.some hx hc;refine qi ⟨y,hy,?_,λz hz hb=>?_⟩ (h'.2.1 j)
   .simp only[add,hLj,Q9];simpa using e
   .simp only[add,hpre z hz hb,QO]
 |succ f ih=>
  intro L a w hi hf hJL h;refine⟨hJL,λh0=>qi hi (h0 i),λj hj=>?_⟩;by_cases e:j=i
  .subst e;exact h
  .obtain ⟨y,hy,hLj,hpre⟩:=hj
   obtain⟨hU,x,hx,hap,hsx,hsy,hc⟩:=hf j y hy hLj e (λz hz hb=>by rw[hpre z hz hb];rfl);have hj':wM ops (add L i) j:=⟨y,hy,by simp only[add,hLj,Q9];simpa using e,λz hz hb=>by simp only[add,hpre z hz hb,QO]⟩
   have h2:sS P ops i (sS P ops j (fM P ops ae2 aeX f (add (add L i) j))) a w:=h.mono λa' w' h'=>h'.2.2 j hj';refine(Hj hx hy hap hsx hsy hc h2).mono λa' w' h'=>?_;rw[add_comm]at h';obtain rfl:o=x:=by rw[ho]at hx;simpa using hx
   have hpr:=Gq hc;obtain⟨a'',h''⟩:=CI ho hpr h';refine ih (add L j) a' w' ?_ ?_ (hJ hpr _ _ h''.here) h'
   .obtain ⟨x',hx',hLi,hpi⟩:=hi
    exact⟨x',hx',by simp only[add,hLi,Q9];simpa using λh=>e h.symm,λz hz hb=>by simp only[add,hpi z hz hb,QO]⟩
   .intro j' y' hy' hL' hne hp'
    refine hf j' y' hy' ?_ hne (λz hz hb=>?_)
    .simp only[add,RV]at hL';exact hL'.2
    .have:=hp' z hz hb
     simp only[add,PE]at this|-;rcases this with (h|h)|h
     .have hz:z.on=j:=by simpa using h
      rw[hz];exact .inr hU
     .exact .inl h
     .exact .inr h
def JP(ops:qn qu)(i:X)(aeU L:X->W):Prop:=
 ∀(j:X)(y:qu),ops[j]?=S y->L j=Z->j≠i->(∀x∈y.after.toList,Region.binds .any x=V->(L x.on||aeU x.on)=V)->
  aeU j=V/\∃x,ops[i]?=S x/\x.apart ops y=V/\mw x=V/\mw y=V
theorem EJ{P:qo}{ops:qn qu}{ae2:Act->Y->Prop}{aeX:(X->W)->Y->Prop}{i:X}{o:qu}{aeU aeV:X->W}{v:N}{E:Sem Next}(ho:ops[i]?=S o)(hg:o.guard=I)(hcls:cls P o= .read)(hJ:∀L w,aeX (add L i) w->aeX L w)
  (hSi:aeV i=V) (hSU:∀t,aeU t=V->aeV t=V):
  ∀(f:X)(L:X->W)(a:Act)(w:Y),wM ops L i->JP ops i aeU L->(∀t,L t=V->aeV t=V)->qv a.eval o=E->(∀w',Ext w w'->E.run P w'= .ok (.value v) w')->
   fM P ops ae2 (λL w=>aeX L w/\((∀t,L t=V->aeV t=V)->∀w',Ext w w'->E.run P w'= .ok (.value v) w')) f (add L i) (a.put o.dst v) w->fM P ops ae2 aeX (f+1) L a w:=by
 intro f;have hwant:∀a:Act,Region.wanted o (yielded ops a.tmps)=true:=λa=>by simp[Region.wanted,hg]
 have now:∀(f:X)(L:X->W)(a:Act)(w:Y),qv a.eval o=E->(∀w',Ext w w'->E.run P w'= .ok (.value v) w')->
   fM P ops ae2 (λL w=>aeX L w/\((∀t,L t=V->aeV t=V)->∀w',Ext w w'->E.run P w'= .ok (.value v) w')) f (add L i) (a.put o.dst v) w->sS P ops i (fM P ops ae2 aeX f (add L i)) a w:=by
  intro f L a w hE hHd h;refine⟨o,ho,.inl ⟨hwant a,?_⟩⟩;rw[hcls];exact⟨v,λw' hw'=>by rw[hE];exact hHd w' hw',h.mono λ_ _ h=>h.1⟩
 induction f with
 |zero=>
  intro L a w hi hf hLS hE hHd h;refine⟨hJ _ _ h.here.1,λh0=>qi hi (h0 i),λj hj=>?_⟩;by_cases e:j=i
  .subst e;exact now 0 L a w hE hHd h
  .obtain ⟨y,hy,hLj,hpre⟩:=hj
   refine qi ⟨y,hy,?_,λz hz hb=>?_⟩ (h.2.1 j)
   .simp only[add,hLj,Q9];simpa using e
   .simp only[add,hpre z hz hb,QO]
 |succ f ih=>
  intro L a w hi hf hLS hE hHd h;refine⟨hJ _ _ h.here.1,λh0=>qi hi (h0 i),λj hj=>?_⟩;by_cases e:j=i
  .subst e;exact now (f+1) L a w hE hHd h
  .obtain ⟨y,hy,hLj,hpre⟩:=id hj
   obtain⟨hU,x,hx,hap,hsx,hsy⟩:=hf j y hy hLj e (λz hz hb=>by rw[hpre z hz hb];rfl);obtain rfl:o=x:=by rw[ho]at hx;simpa using hx
   obtain⟨h1,h2,h3⟩:=Oper.apart_spec hap;have hj':wM ops (add L i) j:=⟨y,hy,by simp only[add,hLj,Q9];simpa using e,λz hz hb=>by simp only[add,hpre z hz hb,QO]⟩
   have hop:=h.2.2 j hj';have exX:∀(a:Act)u,qv (a.put y.dst u).eval o=qv a.eval o:=λa u=>execOp_put o (oD hsx) a y.dst u h3;have exY:∀(a:Act)u,qv (a.put o.dst u).eval y=qv a.eval y:=λa u=>execOp_put y (oD hsy) a o.dst u h1;have waY:∀(a:Act)u,Region.wanted y (yielded ops (a.put o.dst u).tmps)=Region.wanted y (yielded ops a.tmps):=λa u=>wanted_put y a o.dst u h1;have cm:∀(a:Act)u v,(a.put o.dst u).put y.dst v=(a.put y.dst v).put o.dst u:=λa u v=>Act.put_comm a u v h2;have fin:∀u w',fM P ops ae2 (λL w=>aeX L w/\((∀t,L t=V->aeV t=V)->∀w',Ext w w'->E.run P w'= .ok (.value v) w')) f (add (add L i) j) ((a.put o.dst v).put y.dst u) w'->fM P ops ae2 aeX (f+1) (add L j) (a.put y.dst u) w':=by
    intro u w' h';have hS':∀t,add (add L i) j t=V->aeV t=true:=λt ht=>by
     simp only[add,PE]at ht;rcases ht with ht|ht|ht
     .have:t=j:=by simpa using ht
      rw[this];exact hSU j hU
     .have:t=i:=by simpa using ht
      rw[this];exact hSi
     .exact hLS t ht
    have hHd':=h'.here.2 hS';rw[add_comm,cm]at h';refine ih (add L j) (a.put y.dst u) w' ?_ ?_ ?_ (by rw[exX];exact hE) hHd' h'
    .obtain ⟨x',hx',hLi,hpi⟩:=hi
     exact⟨x',hx',by simp only[add,hLi,Q9];simpa using λh=>e h.symm,λz hz hb=>by simp only[add,hpi z hz hb,QO]⟩
    .intro j' y' hy' hL' hne hp'
     refine hf j' y' hy' ?_ hne (λz hz hb=>?_)
     .simp only[add,RV]at hL';exact hL'.2
     .have:=hp' z hz hb
      simp only[add,PE]at this|-;rcases this with (h|h)|h
      .have hz:z.on=j:=by simpa using h
       rw[hz];exact .inr hU
      .exact .inl h
      .exact .inr h
    .intro t ht
     simp only[add,PE]at ht;rcases ht with ht|ht
     .have:t=j:=by simpa using ht
      rw[this];exact hSU j hU
     .exact hLS t ht
   obtain⟨y',hy',hop⟩:=hop;obtain rfl:y=y':=by rw[hy]at hy';simpa using hy'
   refine⟨y,hy,?_⟩;rw[waY]at hop;rcases hop with⟨hw,hop⟩|⟨hw,hop⟩
   .exact .inl ⟨hw,(kC (exY a v).symm hop).mono fin⟩
   .exact .inr ⟨hw,fin _ _ hop⟩
def It:J Edge->X
 | []=>0
 |x::l=>bif Region.binds .any x then P7 (PL 1 x.on) (It l)else It l
theorem oL{a b:X}:sub a b=V↔∀t,bit a t=V->bit b t=true:=by
 unfold sub;constructor
 .intro h t ht
  have h:=Pc h;rw[mX]at ht|-;have:(SM a b).testBit t=true:=by rw[h];exact ht
  have h2:(a &&& b).testBit t=true:=this;rw[Tp,OH]at h2;exact h2.2
 .intro h
  have:SM a b=a:=by
   apply Nat.eq_of_testBit_eq;intro t;show(a &&& b).testBit t=_;rw[Tp];cases ha:a.testBit t with
   |false=>rfl
   |true=>have:=h t (by rw[mX];exact ha);rw[mX]at this;rw[this];rfl
  rw[this];exact S2 a
theorem rM(aeU:X->W):∀(l:J Edge),(∀t,bit (It l) t=V->aeU t=V)↔∀x∈l,Region.binds .any x=V->aeU x.on=V
 | []=>by simp[It,mY]
 |x::l=>by
  simp only[It];cases hb:Region.binds .any x with
  |false=>
   simp only[qp,Oz,forall_eq_or_imp,hb,OF,false_implies,true_and];exact rM aeU l
  |true=>
   simp only[ql,Oz,forall_eq_or_imp,hb,true_implies];rw[<-rM aeU l];constructor
   .intro h
    refine⟨h x.on (by rw[fe,lj];simp),λt ht=>h t (by rw[fe,ht,QO])⟩
   .rintro ⟨h1,h2⟩ t ht
    rw[fe,lj,PE]at ht;rcases ht with ht|ht
    .have:t=x.on:=by simpa using ht
     rw[this];exact h1
    .exact h2 t ht
def Fp(all:J qu)(m i:X):W:=match nth all i with|some o=> !bit m i&&sub (It o.after.toList) m|none=>Z
theorem rO{ops:qn qu}{m i:X}:Fp ops.toList m i=V↔wM ops (bit m) i:=by
 unfold Fp wM;rw[dz,O7];cases ho:ops[i]? with
 |none=>simp
 |some o=>
  simp only[OH,Option.some.injEq,exists_eq_left',oL,rM (bit m)];simp
def Cd:X->(X->W)->W
 |0,_=>V
 |n+1,p=>p n&&Cd n p
theorem mV:∀{n:X}{p:X->W},Cd n p=V->∀i,i<n->p i=V
 |n+1,p,h,i,hi=>by
  simp only[Cd,OH]at h;rcases R2 i n with h'|h'
  .exact mV h.2 i h'
  .have:i=n:=om
   rw[this];exact h.1
def J1(P:qo)(ops:qn qu)(i u m:X):W:=
 Cd ops.toList.length λj=>bit m j||Pk j i||(match nth ops.toList i,nth ops.toList j with
  |some x,S y=> !sub (It y.after.toList) (P7 m u)||(bit u j&&x.apart ops y&&mw x&&mw y&&nk (cls P x) (cls P y))
  |_,_=>Z)
theorem EI{P:qo}{ops:qn qu}{i u m:X}(h:J1 P ops i u m=V):Ll P ops i (bit u) (bit m):=by
 intro j y hy hm hne hp;have hlt:j<ops.toList.length:=by rw[Pr];exact(OW.1 hy).1
 have h:=mV h j hlt;rw[hm,Q8,PE]at h;rcases h with h|h
 .exact qi (Pc h) hne
 rw[dz,dz,O7,O7,hy]at h;split at h
 .rename_i x y' hx hy'
  simp only[Option.some.injEq]at hy';subst hy';rw[PE]at h;rcases h with h|h
  .have hs:sub (It y.after.toList) (P7 m u)=true:=by rw[oL,rM (bit (P7 m u))];intro x hx hb;rw[fe];exact hp x hx hb
   rw[hs]at h;cases h
  .simp only[OH]at h
   exact⟨h.1.1.1.1,x,hx,h.1.1.1.2,h.1.1.2,h.1.2,h.2⟩
 .cases h
def bq.len:bq->X
 | .done=>0
 | .one _ _ p=>p.len+1
 | .hold _ _ _ p=>p.len+1
 | .alt _ p q=>Nat.max (p.len+1) q.len
 | .none=>0
def GG(ops:qn qu)(i u m:X):W:=
 Cd ops.toList.length λj=>bit m j||Pk j i||(match nth ops.toList i,nth ops.toList j with
  |some x,S y=> !sub (It y.after.toList) (P7 m u)||(bit u j&&x.apart ops y&&mw x&&mw y)
  |_,_=>Z)
theorem Cr{ops:qn qu}{i u m:X}(h:GG ops i u m=V):JP ops i (bit u) (bit m):=by
 intro j y hy hm hne hp;have hlt:j<ops.toList.length:=by rw[Pr];exact(OW.1 hy).1
 have h:=mV h j hlt;rw[hm,Q8,PE]at h;rcases h with h|h
 .exact qi (Pc h) hne
 rw[dz,dz,O7,O7,hy]at h;split at h
 .rename_i x y' hx hy'
  simp only[Option.some.injEq]at hy';subst hy';rw[PE]at h;rcases h with h|h
  .have hs:sub (It y.after.toList) (P7 m u)=true:=by rw[oL,rM (bit (P7 m u))];intro x hx hb;rw[fe];exact hp x hx hb
   rw[hs]at h;cases h
  .simp only[OH]at h
   exact⟨h.1.1.1,x,hx,h.1.1.2,h.1.2,h.2⟩
 .cases h
def DG(P:qo)(ops:qn qu)(i:X)(hs:J X):W:=
 (match nth ops.toList i with|some o=>(match cls P o with| .pure=>hs.all (bit · i)| .read=>hs.all (bit · i)|_=>V)|none=>Z)
def dx(ops:qn qu)(i:X):W:=
 (match nth ops.toList i with|some o=>(match o.op,o.dst,o.guard with| .load _ _,S _,I=>V|_,_,_=>Z)|none=>Z)
def DR(P:qo)(ops:qn qu):bq->X->X->J X->W
 | .done,m,c,_=>Pk c 0&&Cd ops.toList.length (bit m)
 | .one i u p,m,c,hs=>Pk c 0&&Fp ops.toList m i&&J1 P ops i u m&&DG P ops i hs&&DR P ops p (P7 m (PL 1 i)) 0 hs
 | .hold i u s p,m,c,hs=>Pk c 0&&Fp ops.toList m i&&GG ops i u m&&DG P ops i hs&&dx ops i&&sub m s&&sub u s&&bit s i&&DR P ops p (P7 m (PL 1 i)) 0 (s::hs)
 | .alt i p q,m,c,hs=>Fp ops.toList m i&&DR P ops p (P7 m (PL 1 i)) 0 hs&&DR P ops q m (P7 c (PL 1 i)) hs
 | .none,m,c,_=> !Pk c 0&&Cd ops.toList.length λj=> !Fp ops.toList m j||bit c j
theorem yF(m i:X):add (bit m) i=bit (P7 m (PL 1 i)):=by funext t;rw[fe,lj,Bool.or_comm];rfl
def Nn(P:qo)(h:p9)(w:Y):Prop:=∀w',Ext w w'->(loadVar h.t h.a).run P w'= .ok h.v w'
def JH(P:qo)(hs:J p9)(L:X->W)(w:Y):Prop:=∀h∈hs,(∀t,L t=V->bit h.s t=V)->Nn P h w
theorem Dq{w:Y}{a:qf}:∀(l:J N)(i:X)(C:Prop),zP w a i l C->(∀j v,nth l j=S v->w.cell? (a.add (i+j))=S v)/\C
 | [],i,C,h=>⟨λj v hj=>by simp[nth]at hj,h⟩
 |x::l,i,C,h=>by
  obtain⟨h1,h2⟩:=h;obtain⟨h3,h4⟩:=Dq l (i+1) C h2;refine⟨λj v hj=>?_,h4⟩;cases j with
  |zero=>simp only[nth,Option.some.injEq]at hj;subst hj;exact h1
  |succ j=>have:=h3 j v hj;rw[show i+(j+1)=i+1+j from by omega];exact this
theorem EK{h:p9}{w:Y}{C:Prop}(hh:GN P h w C):Nn P h w/\C:=by
 unfold GN F1 at hh;split at hh
 .exact hh.elim
 rename_i d hd;have hs:=λw=>lI hd w;have ha:=λw=>uH hd w;split at hh
 .rename_i x hx
  refine⟨λw' hw=>?_,hh.2⟩;unfold loadVar;rw[Sem.run_bind,ha,Df hx];simp only[Result.andThen_ok,OF,qx];exact kQ (hw _ _ hh.1)
 .rename_i l hl
  obtain⟨h1,h2⟩:=De hl;split at hh
  .rename_i cs hv
   cases hb:Pk cs.toList.length (sz P h.t)<;>rw[hb]at hh<;>simp only[ql,qp]at hh
   have hb:=Pc hb;obtain⟨h3,h4⟩:=Dq _ _ _ hh;refine⟨λw' hw=>?_,h4⟩;unfold loadVar;rw[Sem.run_bind,ha,h1];simp only[Result.andThen_ok,qz];rw[Sem.run_bind,hs];simp only[Result.andThen_ok];rw[Sem.run_bind];unfold loadCells;rw[<-hb,di w' h.a cs.toList 0 #[] (λj v hj=>hw _ _ (h3 j v hj)),hv];simp
  .exact hh.elim
 .exact hh.elim
theorem vC{m:X}{w:Y}{C:Prop}:∀{hs:J p9},Hp P m hs w C->JH P hs (bit m) w/\C
 | [],h=>⟨(λ_ hx=>by cases hx),h⟩
 |x::l,h=>by
  unfold Hp at h;cases hb:sub m x.s with
  |true=>
   rw[hb,ql]at h;obtain⟨h1,h2⟩:=EK h;obtain⟨h3,h4⟩:=vC h2;refine⟨λy hy hL=>?_,h4⟩;rcases Oz.1 hy with rfl|hy
   .exact h1
   .exact h3 y hy hL
  |false=>
   rw[hb,qp]at h;obtain⟨h3,h4⟩:=vC h;refine⟨λy hy hL=>?_,h4⟩;rcases Oz.1 hy with rfl|hy
   .rw[oL.2 hL]at hb;cases hb
   .exact h3 y hy hL
theorem JH.ext{hs:J p9}{L L':X->W}{w w':Y}(h:JH P hs L w)(hw:Ext w w')(hL:∀t,L t=V->L' t=V):JH P hs L' w':=
 λx hx hs=>λw'' hw''=>h x hx (λt ht=>hs t (hL t ht)) w'' (hw.trans hw'')
theorem zg{ops:qn qu}{i:X}{o:qu}{K K':Act->Y->Prop}{a:Act}{w:Y}(ho:ops[i]?=S o)(hc:cls P o≠ .other)(h:sS P ops i K a w)(hk:∀a' w',Ext w w'->K a' w'->K' a' w'):sS P ops i K' a w:=by
 obtain⟨o',ho',h⟩:=h;obtain rfl:o=o':=by rw[ho]at ho';simpa using ho'
 refine⟨o,ho,?_⟩;rcases h with⟨h1,h2⟩|⟨h1,h2⟩
 .exact .inl ⟨h1,h2.Bb hc λ_ _ hE h=>hk _ _ hE h⟩
 .exact .inr ⟨h1,hk _ _ (Ext.refl _) h2⟩
theorem CN (hn:∀(f:X) (fn:Func),P.funcs[f]?=S fn->(fn.name== "runtime.NumGoroutine")=Z) {ops:qn qu} {gm n mk:X} {ae6:Env->Y->Prop} {a0:Act}
  (hd:∀(i:X)(o:qu),ops[i]?=S o->∀x,o.dst=S x->x<n/\bit mk x=V):
  ∀(p:bq)(m c f:X)(hs:J p9)(e:Env)(a:Act)(w:Y),DR P ops p m c (hs.map (·.s))=V->bq.len p<=f->Rel ds n e a->fT mk a0 a->JH P hs (bit m) w->nJ P ops.toList gm p m hs ae6 e w->
   ((∀i,¬wM ops (bit m) i)->c=0->At ds n mk a0 ae6 a w)/\
   (∀j,wM ops (bit m) j->bit c j=Z->∃f',f=f'+1/\sS P ops j (fM P ops (At ds n mk a0 ae6) (JH P hs) f' (add (bit m) j)) a w):=by
 have close:∀(m f:X)(hs:J p9)(a:Act)(w:Y),JH P hs (bit m) w->((∀i,¬wM ops (bit m) i)->(0:X)=0->At ds n mk a0 ae6 a w)/\
   (∀j,wM ops (bit m) j->bit 0 j=Z->∃f',f=f'+1/\sS P ops j (fM P ops (At ds n mk a0 ae6) (JH P hs) f' (add (bit m) j)) a w)->fM P ops (At ds n mk a0 ae6) (JH P hs) f (bit m) a w:=by
  intro m f hs a w hJ ⟨h1,h2⟩;cases f with
  |zero=>
   have h0:∀i,¬wM ops (bit m) i:=λi hi=>by obtain⟨f',hf,_⟩:=h2 i hi (mY i);omega
   exact⟨hJ,h0,h1 h0 U⟩
  |succ f=>
   refine⟨hJ,λh0=>h1 h0 U,λi hi=>?_⟩;obtain⟨f',hf,h⟩:=h2 i hi (mY i);obtain rfl:f=f':=om
   exact h
 have step:∀(p:bq)(i m f:X)(hs:J p9)(o:qu)(e:Env)(a:Act)(w:Y),ops[i]?=S o->DR P ops p (P7 m (PL 1 i)) 0 (hs.map (·.s))=V->bq.len p<=f->Rel ds n e a->fT mk a0 a->JH P hs (bit m) w->
   (∀(m c f:X)(hs:J p9)(e:Env)(a:Act)(w:Y),DR P ops p m c (hs.map (·.s))=V->bq.len p<=f->Rel ds n e a->fT mk a0 a->JH P hs (bit m) w->nJ P ops.toList gm p m hs ae6 e w->
    ((∀i,¬wM ops (bit m) i)->c=0->At ds n mk a0 ae6 a w)/\(∀j,wM ops (bit m) j->bit c j=Z->∃f',f=f'+1/\sS P ops j (fM P ops (At ds n mk a0 ae6) (JH P hs) f' (add (bit m) j)) a w))->
   BL P ops.toList ops.toList gm i o (λe w=>Ge P o (P7 m (PL 1 i)) hs w (nJ P ops.toList gm p (P7 m (PL 1 i)) hs ae6 e w)) e w->
   sS P ops i (fM P ops (At ds n mk a0 ae6) (JH P hs) f (add (bit m) i)) a w:=by
  intro p i m f hs o e a w ho hok hlen hr hk hJ ih h;have h1:=tQ hn ho (hd i o ho) hr hk h;by_cases hc:cls P o= .other
  .refine h1.mono λa' w'⟨hk',e',hr',h'⟩=>?_
   have ho':Hr P o=true:=by unfold Hr;rw[hc]
   unfold Ge at h';rw[ho',ql]at h';obtain⟨hJ',h'⟩:=vC h';rw[yF];exact close _ _ _ _ _ hJ' (ih _ 0 f hs e' a' w' hok hlen hr' hk' hJ' h')
  .refine zg ho hc h1 λa' w' hE⟨hk',e',hr',h'⟩=>?_
   have ho':Hr P o=false:=by unfold Hr;cases hcc:cls P o<;>first|rfl|exact qi hcc hc
   unfold Ge at h';rw[ho',qp]at h';rw[yF];have hJ':JH P hs (bit (P7 m (PL 1 i))) w':=hJ.ext hE λt ht=>by rw[fe,ht];rfl
   exact close _ _ _ _ _ hJ' (ih _ 0 f hs e' a' w' hok hlen hr' hk' hJ' h')
 have outJ:∀(i:X)(hs:J p9)(o:qu),ops[i]?=S o->DG P ops i (hs.map (·.s))=V->(cls P o= .pure\/cls P o= .read)->∀(L:X->W)w,JH P hs (add L i) w->JH P hs L w:=by
  intro i hs o ho hin hc L w hJ x hx hL;refine hJ x hx λt ht=>?_;have hall:(hs.map (·.s)).all (bit · i)=true:=by unfold DG at hin;rw[dz,O7,ho]at hin;simp only at hin;rcases hc with hc|hc<;>rw[hc]at hin<;>exact hin
  simp only[add,PE]at ht;rcases ht with ht|ht
  .have:t=i:=by simpa using ht
   rw[this];exact QW.1 hall _ (O4.2 ⟨x,hx,U⟩)
  .exact hL t ht
 intro p;induction p with
 |done=>
  intro m c f hs e a w hok _ hr hk _ h;simp only[DR,OH]at hok;refine⟨λ_ _=>⟨hk,e,hr,h⟩,λj hj=>?_⟩;obtain⟨o,ho,hl,_⟩:=hj;have:=mV hok.2 j (by rw[Pr];exact(OW.1 ho).1);rw[hl]at this;cases this
 |one i u p ih=>
  intro m c f hs e a w hok hlen hr hk hJ h;simp only[DR,OH]at hok;have hi:=rO.1 hok.1.1.1.2;refine⟨λh0=>qi hi (h0 i),λj hj _=>?_⟩;simp only[bq.len]at hlen;obtain⟨f',rfl⟩:∃f',f=f'+1:=⟨f-1,om⟩
  refine⟨f',U,?_⟩;simp only[nJ]at h;split at h
  .rename_i o ho
   rw[dz,O7]at ho;have h3:=step p i m f' hs o e a w ho hok.2 om hr hk hJ ih h;exact(AH ho (outJ i hs o ho hok.1.2) f' (bit m) a w hi (EI hok.1.1.2) hJ h3).2.2 j hj
  .exact h.elim
 |hold i u s p ih=>
  intro m c f hs e a w hok hlen hr hk hJ h;simp only[DR,OH]at hok;obtain⟨⟨⟨⟨⟨⟨⟨⟨_,hok1⟩,hok2⟩,hok3⟩,hok4⟩,hok5⟩,hok6⟩,hok7⟩,hok8⟩:=hok;have hi:=rO.1 hok1;refine⟨λh0=>qi hi (h0 i),λj hj _=>?_⟩;simp only[bq.len]at hlen;obtain⟨f',rfl⟩:∃f',f=f'+1:=⟨f-1,om⟩
  refine⟨f',U,?_⟩;simp only[nJ]at h;split at h
  .rename_i o ho
   have hheld:=hok4;unfold dx at hheld;rw[ho]at hheld;rw[dz,O7]at ho;simp only at hheld;split at h
   .rename_i t x d hop hdst
    rw[hop,hdst]at hheld;have hg:o.guard=none:=by
     cases hgd:o.guard with
     |none=>rfl
     |some g=>rw[hgd]at hheld;cases hheld
    split at h
    .rename_i ad hx
     obtain⟨v,hv,hrun⟩:=nE h;have hex:∀w',Ext w w'->(qv a.eval o).run P w'= .ok (.value v) w':=λw' hw=>by simp[qv,hop,hr.ev hx,Instr.loadAt,Instr.sureAddr,hrun w' hw]
     have hcls:cls P o= .read:=by simp[cls,hop]
     have hr':Rel ds n (e.put (S d) v) (a.put (S d) v):=hr.put (λy hy=>(hd i o ho y (by rw[hdst];exact hy)).1) v;have hk':fT mk a0 (a.put (S d) v):=hk.put (λy hy=>(hd i o ho y (by rw[hdst];exact hy)).2) v;have hJ':JH P (⟨s,t,ad,v⟩::hs) (bit (P7 m (PL 1 i))) w:=λy hy hL=>by
      rcases Oz.1 hy with rfl|hy
      .exact hrun
      .exact hJ y hy λt ht=>hL t (by rw[fe,ht];rfl)
     have h3:=close _ _ _ _ _ hJ' (ih _ 0 f' (⟨s,t,ad,v⟩::hs) _ _ w hok8 om hr' hk' hJ' hv);have h4:fM P ops (At ds n mk a0 ae6) (λL w=>JH P hs L w/\((∀t,L t=V->bit s t=V)->∀w',Ext w w'->(qv a.eval o).run P w'= .ok (.value v) w')) f' (add (bit m) i) (a.put o.dst v) w:=by
      rw[hdst,yF];refine h3.mono λL w hJ=>⟨λy hy=>hJ y (Pq _ hy),λhL w' hw'=>?_⟩
      have:=hJ _ (List.mem_cons_self ..) hL w' hw';simp[qv,hop,hr.ev hx,Instr.loadAt,Instr.sureAddr,this]
     exact(EJ ho hg hcls (outJ i hs o ho hok3 (.inr hcls)) hok7 (λt ht=>oL.1 hok6 t ht) f' (bit m) a w hi (Cr hok2) (λt ht=>oL.1 hok5 t ht) U hex h4).2.2 j hj
    .exact h.elim
   .exact h.elim
  .exact h.elim
 |alt i p q ihp ihq=>
  intro m c f hs e a w hok hlen hr hk hJ h;simp only[DR,OH]at hok;have hi:=rO.1 hok.1.1;refine⟨λh0=>qi hi (h0 i),λj hj hc=>?_⟩;simp only[bq.len]at hlen;have hlen:Nat.max (p.len+1) q.len<=f:=hlen;have hl1:p.len+1<=f:=ON (Nat.le_max_left _ _) hlen;have hl2:q.len<=f:=ON (Nat.le_max_right _ _) hlen;obtain⟨h1,h2⟩:=h;by_cases e':j=i
  .subst e'
   obtain⟨f',rfl⟩:∃f',f=f'+1:=⟨f-1,om⟩
   refine⟨f',U,?_⟩;split at h1
   .rename_i o ho
    rw[dz,O7]at ho;exact step p j m f' hs o e a w ho hok.1.2 om hr hk hJ ihp h1
   .exact h1.elim
  .refine (ihq m _ f hs e a w hok.2 hl2 hr hk hJ h2).2 j hj ?_
   rw[fe,hc,lj];simpa using e'
 |none=>
  intro m c f hs e a w hok _ hr hk _ _;simp only[DR,OH]at hok;refine⟨λ_ h0=>?_,λj hj hc=>?_⟩
  .subst h0;exact qi hok.1 qb
  .obtain ⟨o,ho,_⟩:=id hj
   have:=mV hok.2 j (by rw[Pr];exact(OW.1 ho).1);rw[rO.2 hj,hc]at this;cases this
theorem zw (hn:∀(f:X) (fn:Func),P.funcs[f]?=S fn->(fn.name== "runtime.NumGoroutine")=Z) (hm:P.follows .mixedOrders=V) {id:X} {ops:qn qu} {d:W} {p:bq} {n:X} {ae6:Env->Y->Prop} {ae5:Exit->Act->Y->Prop}
  (hf:ou n ops.toList=V) (hp:d=V->DR P ops p 0 0 []=V/\bq.len p<=ops.size) {e:Env} {a:Act} {w:Y} (hr:Rel ds n e a)
  (hQ:∀a' w',At ds n (JY ops.toList) a ae6 a' w'->ae5 .normal a' w')
  (h:bif d then nJ P ops.toList (Ky ops.toList) p 0 [] ae6 e w.drew else opsV P ops.toList (Ky ops.toList) ops.toList 0 ae6 e w):
  (Code.region id ops d).wp P ae5 a w:=by
 have hd:∀(i:X)(o:qu),ops[i]?=S o->∀x,o.dst=S x->x<n/\bit (JY ops.toList) x=true:=λi o ho x hx=>
  tE hf i o (by rw[O7];exact ho) x hx
 cases d with
 |false=>
  simp only[qp]at h;refine wp_region ?_;have:=yf hn (gm:=Ky ops.toList) hd hQ ops.toList 0 (λj o hj=>by rw[OJ];rw[O7]at hj;exact hj) e a w hr (fT.refl _ _) h;rw[Pr]at this;rw[List.range_eq_range'];exact this
 |true=>
  simp only[ql]at h;refine wp_region_any hm ?_;obtain⟨h1,h2⟩:=hp U;have h3:=CN hn (gm:=Ky ops.toList) hd p 0 0 ops.size [] e a w.drew h1 h2 hr (fT.refl _ _) (λ_ hx=>by cases hx) h;refine vz hQ ops.size _ (bit 0) a _ qc (λt=>?_) ?_
  .rw[mY,PV]
   cases hx:(Tf ops.size Z)[t]? with
   |none=>rfl
   |some b=>
    have:=OW.1 hx;obtain⟨h4,h5⟩:=this;simp at h5;simp[h5]
  .cases hsz:ops.size with
   |zero=>
    have h0:∀i,¬wM ops (bit 0) i:=λi hi=>by obtain⟨o,ho,_⟩:=hi;have:=(OW.1 ho).1;omega
    exact⟨h0,h3.1 h0 U⟩
   |succ f=>
    refine⟨λh0=>h3.1 h0 U,λi hi=>?_⟩;obtain⟨f',hf',h⟩:=h3.2 i hi (mY i);obtain rfl:f=f':=om
    exact h.mono λa w h=>h.out
theorem wz{c:Sc}{v:N}{k:c.D->Prop}(h:c.un v k):∃d,v=c.mk d/\k d:=by
 unfold Sc.un at h;split at h
 .split at h
  .rename_i e;subst e;exact⟨_,U,h⟩
  .exact h.elim
 .exact ⟨_,U,h⟩
 .exact ⟨_,U,h⟩
 .exact ⟨_,U,h⟩
 .exact ⟨_,U,h⟩
 .exact ⟨_,U,h⟩
 .exact ⟨_,U,h⟩
 .exact ⟨_,U,h⟩
 .exact h.elim
theorem Ah{r:Type}:∀(ss:J Sc)(acc vs:J N)(ae2:J N->r)(k:r->Prop),Ag ss vs (ER ss acc ae2) k->k (ae2 (acc.reverse++vs))
 | [],acc,[],ae2,k,h=>by simpa [Ag,ER]using h
 | [],_,_::_,_,_,h=>h.elim
 |_::_,_,[],_,_,h=>h.elim
 |c::ss,acc,v::vs,ae2,k,h=>by obtain⟨d,rfl,h'⟩:=wz (h:c.un v _);have:=Ah ss (c.mk d::acc) vs ae2 k h';simpa using this
theorem re(f:Env->Y->Prop)(e:Env)(w:Y):∀(cs:J (X × Sh))(ef:Env),jc cs (vn cs f ef) e w->
  ∃e',f e' w/\∀t v,e' t=S v->e t=S v\/ef t=S v
 | [],ef,h=>⟨ef,h,λ_ _ h=> .inr h⟩
 |(s,.c x)::l,ef,h=>by
  simp only[jc]at h;split at h
  .rename_i v hv
   obtain⟨d,rfl,h'⟩:=wz h;obtain⟨e',h1,h2⟩:=re f e w l _ h';refine⟨e',h1,λt u ht=>?_⟩;rcases h2 t u ht with h3|h3
   .exact .inl h3
   .simp only[Env.set]at h3
    cases hb:Pk t s with
    |false=>rw[hb]at h3;exact .inr h3
    |true=>rw[hb]at h3;rw[Pc hb];simp only[ql]at h3;exact .inl (hv.trans h3)
  .exact h.elim
 |(s,.a ss)::l,ef,h=>by
  simp only[jc]at h;split at h
  .rename_i cs hv
   have h:=Ah ss [] cs.toList _ _ h;obtain⟨e',h1,h2⟩:=re f e w l _ h;refine⟨e',h1,λt u ht=>?_⟩;rcases h2 t u ht with h3|h3
   .exact .inl h3
   .simp only[Env.set]at h3
    cases hb:Pk t s with
    |false=>rw[hb]at h3;exact .inr h3
    |true=>
     rw[hb]at h3;rw[Pc hb];simp only[ql,RP,PF]at h3;exact .inl (hv.trans h3)
  .exact h.elim
 |(s,.big)::l,ef,h=>by
  simp only[jc]at h;split at h
  .rename_i cs hv
   obtain⟨e',h1,h2⟩:=re f e w l _ h;refine⟨e',h1,λt u ht=>?_⟩;rcases h2 t u ht with h3|h3
   .exact .inl h3
   .simp only[Env.set]at h3
    cases hb:Pk t s with
    |false=>rw[hb]at h3;exact .inr h3
    |true=>rw[hb]at h3;rw[Pc hb];simp only[ql]at h3;exact .inl (hv.trans h3)
  .exact h.elim
theorem AL{r:Type}:∀(ss:J Sc)(acc:J N)(ae2 ae3:J N->r)(k:r->r->Prop),(∀vs,k (ae2 vs) (ae3 vs))->KA ss (ER ss acc ae2) (ER ss acc ae3) k
 | [],acc,ae2,ae3,k,h=>h _
 |c::ss,acc,ae2,ae3,k,h=>λd=>AL ss (c.mk d::acc) ae2 ae3 k h
theorem rB{ae2 ae3:Env->Y->Prop}(h:∀e w,ae2 e w->ae3 e w):∀(cs:J (X × Sh))(ef:Env),imp cs (vn cs ae2 ef) (vn cs ae3 ef)
 | [],ef=>λw=>h ef w
 |(s,.c x)::l,ef=>λd=>rB h l _
 |(s,.a ss)::l,ef=>AL ss [] _ _ _ λvs=>rB h l _
 |(s,.big)::l,ef=>λcs=>rB h l _
theorem Rel.forget{n m:X}{e e' e'':Env}{a0 a:Act}(h0:Rel ds n e a0)(hk:fT m a0 a)(h1:Rel ds n e' a)(h:∀t v,e'' t=S v->e' t=S v\/(e.forget m) t=S v):Rel ds n e'' a:=by
 refine⟨h1.1,h1.2.1,λt v ht=>?_⟩;rcases h t v ht with h2|h2
 .exact h1.2.2 t v h2
 .simp only[Env.forget]at h2
  cases hb:bit m t with
  |true=>rw[hb]at h2;simp at h2
  |false=>
   rw[hb]at h2;rw[hk t hb];exact h0.2.2 t v h2
theorem tt{j:qg (J (X × Sh))}{n m:X}{ae6:Env->Y->Prop}{e:Env}{body:(Env->Y->Prop)->Prop}{a0:Act}(hr:Rel ds n e a0)(h:BY j m ae6 e body):
  ∃N',body N'/\∀a w,At ds n m a0 N' a w->At ds n m a0 ae6 a w:=by
 unfold BY at h;split at h
 .exact ⟨ae6,h,λ_ _ h=>h⟩
 .rename_i cs
  refine⟨_,h (vn cs ae6 (e.forget m)) (rB (λ_ _ h=>h) cs _),?_⟩;rintro a w ⟨hk,e',hr',h'⟩;obtain⟨e'',h1,h2⟩:=re ae6 e' w cs _ h';exact⟨hk,e'',hr.forget hk hr' h2,h1⟩
def lift(ds:J Deferred)(n m:X)(a0:Act)(ae6:Env->Y->Prop)(aeW:X->Env->Y->Prop)(R:Env->Y->Prop):Exit->Act->Y->Prop
 | .normal,a,w=>At ds n m a0 ae6 a w
 | .exit i,a,w=>At ds n m a0 (aeW i) a w
 | .ret,a,w=>At ds n m a0 R a w
 |_,_,_=>qj
def Ie(P:qo)(n:X):Code->An->W
 | .region _ ops d,an=>ou n ops.toList&&(!d||(DR P ops an.p 0 0 []&&QT an.p.len ops.toList.length))
 | .seq a b,an=>Ie P n a an.a&&Ie P n b an.b
 | .cond _ a b,an=>Ie P n a an.a&&Ie P n b an.b
 | .block _ b,an=>Ie P n b an.a
 | .loop b,an=>Ie P n b an.a
 |_,_=>V
theorem At.up{n m m':X}{a0 a1:Act}{ae6:Env->Y->Prop}{a:Act}{w:Y}(hk:fT m' a0 a1)(hm:∀t,bit m t=V->bit m' t=V)(h:At ds n m a1 ae6 a w):At ds n m' a0 ae6 a w:=
 ⟨hk.trans (h.1.mono hm),h.2⟩
theorem At.mono{n m:X}{a0:Act}{ae6 N':Env->Y->Prop}{a:Act}{w:Y}(h:At ds n m a0 ae6 a w)(hN:∀e w,ae6 e w->N' e w):At ds n m a0 N' a w:=
 let ⟨hk,e,hr,h⟩:=h;⟨hk,e,hr,hN _ _ h⟩
theorem y7{n m m':X}{a0 a1:Act}{ae6 N':Env->Y->Prop}{aeW:X->Env->Y->Prop}{R:Env->Y->Prop}(hk:fT m' a0 a1)(hm:∀t,bit m t=V->bit m' t=V)(hN:∀a w,At ds n m' a0 ae6 a w->At ds n m' a0 N' a w):
  ∀en a w,lift ds n m a1 ae6 aeW R en a w->lift ds n m' a0 N' aeW R en a w
 | .normal,a,w,h=>hN a w (At.up hk hm h)
 | .exit i,a,w,h=>At.up hk hm h
 | .ret,a,w,h=>At.up hk hm h
 | .goto _,_,_,h=>h
 | .panic _,_,_,h=>h
 | .outgrown,_,_,h=>h
theorem og (hn:∀(f:X) (fn:Func),P.funcs[f]?=S fn->(fn.name== "runtime.NumGoroutine")=Z) (hm:P.follows .mixedOrders=V) {n:X}:
  ∀(c:Code)(an:An)(ae6:Env->Y->Prop)(aeW:X->Env->Y->Prop)(R:Env->Y->Prop)(e:Env)(a:Act)(w:Y),
   Ie P n c an=V->Rel ds n e a->vc P c an ae6 aeW R e w->c.wp P (lift ds n (dm c) a ae6 aeW R) a w:=by
 intro c;induction c with
 |skip=>intro an ae6 aeW R e a w _ hr h;exact wp_skip ⟨fT.refl _ _,e,hr,h⟩
 |region id ops d=>
  intro an ae6 aeW R e a w hf hr h;simp only[Ie,OH,PE]at hf;obtain⟨N',h,hN⟩:=tt hr h;refine zw hn hm hf.1 (λhd=>?_) hr (λa' w' ha=>hN a' w' ha) h;rcases hf.2 with h1|h1
  .rw[hd]at h1;cases h1
  .exact ⟨h1.1,by have:=Qo h1.2;rw[Pr]at this;exact this⟩
 |seq x y ihx ihy=>
  intro an ae6 aeW R e a w hf hr h;simp only[Ie,OH]at hf;refine wp_seq (wp_mono (ihx an.a _ aeW R e a w hf.1 hr h) ?_);intro en a' w' hq;have hmx:∀t,bit (dm x) t=V->bit (dm (.seq x y)) t=true:=λt ht=>by simp only[dm,fe,ht,S0]
  have hmy:∀t,bit (dm y) t=V->bit (dm (.seq x y)) t=true:=λt ht=>by simp only[dm,fe,ht,QO]
  cases en with
  |normal=>
   obtain⟨hk,e',hr',h'⟩:=hq;exact wp_mono (ihy an.b ae6 aeW R e' a' w' hf.2 hr' h') (y7 (hk.mono hmx) hmy λ_ _ h=>h)
  |exit i=>exact At.up (fT.refl _ _) hmx hq
  |ret=>exact At.up (fT.refl _ _) hmx hq
  |goto l=>exact hq
  |panic ch=>exact hq
  |outgrown=>exact hq
 |cond c x y ihx ihy=>
  intro an ae6 aeW R e a w hf hr h;simp only[Ie,OH]at hf;obtain⟨N',h,hN⟩:=tt hr h;split at h
  .rename_i b hb
   have hmx:∀t,bit (dm x) t=V->bit (dm (.cond c x y)) t=true:=λt ht=>by simp only[dm,fe,ht,S0]
   have hmy:∀t,bit (dm y) t=V->bit (dm (.cond c x y)) t=true:=λt ht=>by simp only[dm,fe,ht,QO]
   refine wp_cond_split (hr.ev hb) (λht=>?_) (λht=>?_)
   .rw[ht]at h
    exact wp_mono (ihx an.a N' aeW R e a w hf.1 hr h) (y7 (fT.refl _ _) hmx hN)
   .rw[ht]at h
    exact wp_mono (ihy an.b N' aeW R e a w hf.2 hr h) (y7 (fT.refl _ _) hmy hN)
  .exact h.elim
 |block id b ih=>
  intro an ae6 aeW R e a w hf hr h;obtain⟨N',h,hN⟩:=tt hr h;refine wp_block (wp_mono (ih an.a N' _ R e a w hf hr h) ?_);intro en a' w' hq;cases en with
  |normal=>exact hN a' w' hq
  |exit i=>
   simp only[Exit.inBlock];by_cases hi:i=id
   .rw[A hi]
    refine hN a' w' (At.mono hq λe w h=>?_);rw[hi,S2]at h;exact h
   .rw[Q hi]
    refine At.mono hq λe w h=>?_;have:Pk i id=false:=by
     cases hb:Pk i id with
     |false=>rfl
     |true=>exact qi (Pc hb) hi
    rw[this]at h;exact h
  |ret=>exact hq
  |goto l=>exact hq
  |panic ch=>exact hq
  |outgrown=>exact hq
 |loop b ih=>
  intro an ae6 aeW R e a w hf hr h;simp only[vc]at h;split at h
  .rename_i cs _
   let ae5:=lift ds n (dm b) a ae6 aeW R
   let ae3:Env->Y->Prop:=λe' w'=>∀a',fT (dm b) a a'->Rel ds n e' a'->∀(fr:Frame)(k:J Item)(ks:J Frame),
    ∃en a2 w2,ae5 en a2 w2/\Arrives P (lone (fr.at a' (.code b:: .inLoop b::k)) ks w') fr k ks en a2 w2
   have close:∀a' w' e',fT (dm b) a a'->Rel ds n e' a'->jc cs (vn cs ae3 (e.forget (dm b))) e' w'->∀(fr:Frame)(k:J Item)(ks:J Frame),
     ∃en a2 w2,ae5 en a2 w2/\Arrives P (lone (fr.at a' (.code b:: .inLoop b::k)) ks w') fr k ks en a2 w2:=by
    intro a' w' e' hk hr' h';obtain⟨e'',h1,h2⟩:=re ae3 e' w' cs _ h';exact h1 a' hk (hr.forget hk hr' h2)
   have hloop:jc cs (vn cs ae3 (e.forget (dm b))) e w:=by
    refine h _ (rB ?_ cs _);intro e' w' hb a' hk hr' fr k ks;obtain⟨en,a1,w1,hq,harr⟩:=ih an.a _ aeW R e' a' w' hf hr' hb fr (.inLoop b::k) ks;cases en with
    |normal=>
     obtain⟨hk1,e1,hr1,h1⟩:=hq;obtain⟨en2,a2,w2,hq2,harr2⟩:=close a1 w1 e1 (hk.trans hk1) hr1 h1 fr k ks;exact⟨en2,a2,w2,hq2,.of_steps (Steps.trans harr (.one step_inLoop)) harr2⟩
    |exit id=>exact⟨.exit id,a1,w1,At.up hk (λ_ h=>h) hq,.pass (x:= .inLoop b) U (λ_ _=> .inl qc) harr⟩
    |goto l=>exact hq.elim
    |ret=>exact⟨.ret,a1,w1,At.up hk (λ_ h=>h) hq,.pass (x:= .inLoop b) U (λ_ _=> .inl qc) harr⟩
    |panic ch=>exact hq.elim
    |outgrown=>exact hq.elim
   intro fr k ks;obtain⟨en,a2,w2,hq,harr⟩:=close a w e (fT.refl _ _) hr hloop fr k ks;exact⟨en,a2,w2,hq,.of_steps (.one step_loop) harr⟩
  .exact h.elim
 |rangeFunc f ps x y _ _=>intro an ae6 aeW R e a w _ hr h;exact h.elim
 |exit id=>intro an ae6 aeW R e a w _ hr h;exact wp_exit ⟨fT.refl _ _,e,hr,h⟩
 |scope b _=>intro an ae6 aeW R e a w _ hr h;exact h.elim
 |label l=>intro an ae6 aeW R e a w _ hr h;exact h.elim
 |goto l=>intro an ae6 aeW R e a w _ hr h;exact h.elim
 |ret=>intro an ae6 aeW R e a w _ hr h;exact wp_ret ⟨fT.refl _ _,e,hr,h⟩
 |refuse s=>intro an ae6 aeW R e a w _ hr h;exact h.elim
theorem AD{r:Type}:∀(ss:J Sc)(acc vs:J N)(K:u2 ss r)(k:J N->r->Prop),Ag ss vs K (λg=>k (acc.reverse++vs) g)->Gz.exKA ss acc K k
 | [],acc,[],K,k,h=>by simpa [Ag,Gz.exKA]using h
 | [],_,_::_,_,_,h=>h.elim
 |_::_,_,[],_,_,h=>h.elim
 |c::ss,acc,v::vs,K,k,h=>by obtain⟨d,rfl,h'⟩:=wz (h:c.un v _);exact⟨d,AD ss (c.mk d::acc) vs (K d) k (by simpa using h')⟩
def FC:J (X × Sh)->X->W
 | [],_=>V
 |(s,_)::l,i=>Pk s i&&FC l (i+1)
theorem uz(w:Y):∀(cs:J (X × Sh))(i:X)(acc vs:J N)(K:xp cs),FC cs i=V->vs.length=i+cs.length->jc cs K (nth vs) w->
  Gz cs K acc (.returned (zx (acc.reverse++vs.drop i))) w
 | [],i,acc,vs,K,_,hl,h=>by simp only[PY,QD]at hl;refine⟨?_,h⟩;rw[QB om,OD]
 |(s,.c x)::l,i,acc,vs,K,hs,hl,h=>by
  simp only[FC,OH]at hs;have hsi:=Pc hs.1;subst hsi;simp only[jc]at h;split at h
  .rename_i v hv
   rw[dz]at hv;obtain⟨d,rfl,h'⟩:=wz h;refine⟨d,?_⟩;have:=uz w l (s+1) (x.mk d::acc) vs (K d) hs.2 (by simp at hl;omega) h';obtain⟨h1,h2⟩:=Om.1 hv;rw[Pt h1,h2];simpa using this
  .exact h.elim
 |(s,.a ss)::l,i,acc,vs,K,hs,hl,h=>by
  simp only[FC,OH]at hs;have hsi:=Pc hs.1;subst hsi;simp only[jc]at h;split at h
  .rename_i cs hv
   rw[dz]at hv;simp only[Gz];refine AD ss [] cs.toList K _ ?_;obtain⟨h1,h2⟩:=Om.1 hv;have key:∀(ss:J Sc)(us:J N)(K:u2 ss (xp l))(k k':xp l->Prop),(∀g,k g->k' g)->Ag ss us K k->Ag ss us K k':=by
    intro ss;induction ss with
    |nil=>intro us K k k' hk h;cases us with|nil=>exact hk _ h|cons _ _=>exact h.elim
    |cons c ss ih=>
     intro us K k k' hk h;cases us with
     |nil=>exact h.elim
     |cons u us=>
      have h:c.un u _:=h;show c.un u _;have un_mono:∀(c:Sc)(v:N)(k k':c.D->Prop),(∀d,k d->k' d)->c.un v k->c.un v k':=by
       intro c v k k' hk h;unfold Sc.un at*
       split at h
       .split at h
        .rename_i e;simp only[e,qz];exact hk _ h
        .exact h.elim
       .exact hk _ h
       .exact hk _ h
       .exact hk _ h
       .exact hk _ h
       .exact hk _ h
       .exact hk _ h
       .exact hk _ h
       .exact h.elim
      exact un_mono c u _ _ (λd hd=>ih us (K d) k k' hk hd) h
   refine key ss cs.toList K _ _ (λg hg=>?_) h;have:=uz w l (s+1) (.agg cs::acc) vs g hs.2 (by simp at hl;omega) hg;rw[Pt h1,h2];simpa using this
  .exact h.elim
 |(s,.big)::l,i,acc,vs,K,hs,hl,h=>by
  simp only[FC,OH]at hs;have hsi:=Pc hs.1;subst hsi;simp only[jc]at h;split at h
  .rename_i cs hv
   rw[dz]at hv;refine⟨cs,?_⟩;have:=uz w l (s+1) (.agg cs::acc) vs (K cs) hs.2 (by simp at hl;omega) h;obtain⟨h1,h2⟩:=Om.1 hv;rw[Pt h1,h2];simpa using this
  .exact h.elim
theorem pT{n:X}{e:Env}{a:Act}{w:Y}(hr:Rel ds n e a):∀(l:J ResultVar)(acc:J N)(k:J N->Prop),rP P l e w acc k->
  ∃vs,k (acc.reverse++vs)/\vs.length=l.length/\
   (l.mapM λ(x:ResultVar)=>(match x with| .tmp t=>pure (a.tmps.getD t undef)| .cell b t=>do loadVar t (<-asAddr (a.tmps.getD b undef)):Sem N)).run P w= .ok vs w
 | [],acc,k,h=>⟨[],by simpa [rP]using h,rfl,qc⟩
 | .tmp t::l,acc,k,h=>by
  simp only[rP]at h;split at h
  .rename_i v hv
   obtain⟨vs,h1,h2,h3⟩:=pT hr l (v::acc) k h;refine⟨v::vs,by simpa using h1,by simp[h2],?_⟩;rw[SI,Sem.run_bind];simp only[Sem.run_pure,Result.andThen_ok];rw[Sem.run_bind,h3,hr.2.2 t v hv];rfl
  .exact h.elim
 | .cell b t::l,acc,k,h=>by
  simp only[rP]at h;split at h
  .rename_i p hp
   obtain⟨v,h,hrun⟩:=nE h;obtain⟨vs,h1,h2,h3⟩:=pT hr l (v::acc) k h;refine⟨v::vs,by simpa using h1,by simp[h2],?_⟩;rw[SI,Sem.run_bind];have hl:(do loadVar t (<-asAddr (a.tmps.getD b undef)):Sem N).run P w= .ok v w:=by rw[hr.2.2 b _ hp];simp only[asAddr,Sem.run_bind,Sem.run_pure,Result.andThen_ok];exact hrun w (Ext.refl w)
   rw[hl];simp only[Result.andThen_ok];rw[Sem.run_bind,h3];rfl
  .exact h.elim
def IX(P:qo)(fn:Func)(c:Code)(an:An)(cs:J (X × Sh))(na:X):W:=
 Ie P fn.ntmps c an&&QT na fn.ntmps&&FC cs 0&&Pk fn.results.toList.length cs.length
theorem GF (hn:∀(f:X) (fn:Func),P.funcs[f]?=S fn->(fn.name== "runtime.NumGoroutine")=Z) (hm:P.follows .mixedOrders=V) {f:FuncId} {fn:Func} {c:Code} {an:An} {cs:J (X × Sh)}
  {args:J N} {K:xp cs} {w:Y} (hf:P.funcs[f]?=S fn) (hb:fn.body=S c) (hok:IX P fn c an cs args.length=V) (h:L8 P fn c an cs args K w):Calls P f ⟨args⟩ w (Gz cs K []):=by
 simp only[IX,OH]at hok;have hle:=Qo hok.1.1.2;have hlen:=Pc hok.2;refine calls_of_wp hf hb ?_;have hr:Rel [] fn.ntmps (nth args) { tmps:=(⟨args⟩:qn N)++Tf (fn.ntmps-(⟨args⟩:qn N).size) undef,defers:=[]}:=by refine⟨by simp;omega,rfl,λt v ht=>?_⟩;rw[dz]at ht;obtain⟨h1,h2⟩:=Om.1 ht;rw[PV,Array.getElem?_append_left (by simpa using h1)];simp[ht]
 refine wp_mono (og hn hm c an _ _ _ (nth args) _ w hok.1.1.1 hr h) ?_;have key:∀(e:Env)(a:Act)(w:Y),Rel [] fn.ntmps e a->(rP P fn.results.toList e w [] λvs=>jc cs K (nth vs) w)->
   a.defers= []/\∃v,(results fn a.tmps).run P w= .ok v w/\Gz cs K [] (.returned v) w:=by
  intro e a w hr h;obtain⟨vs,h1,h2,h3⟩:=pT hr _ _ _ h;refine⟨hr.2.1,zx vs,?_,?_⟩
  .unfold results
   rw[Sem.run_bind,Sq,Sem.run_map];refine Eq.trans (qw (λ(r:Result (J N))=>(r.andThen λa w'=>Result.ok a.toArray w').andThen λ(a:qn N)w'=>Sem.run P (pure (if h:a.size=1 then a[0]else Value.tuple a)) w') h3) ?_;simp only[Result.andThen_ok]
   match vs with
   | []=>rfl
   | [v]=>rfl
   |v::u::vs=>rfl
  .have:=uz w cs 0 [] vs K hok.1.2 om (by simpa using h1)
   simpa using this
 intro en a w hq;cases en with
 |normal=>obtain⟨_,e,hr,h⟩:=hq;exact key e a w hr h
 |ret=>obtain⟨_,e,hr,h⟩:=hq;exact key e a w hr h
 |exit i=>obtain⟨_,e,hr,h⟩:=hq;exact h.elim
 |goto l=>exact hq.elim
 |panic ch=>exact hq.elim
 |outgrown=>exact hq.elim
def aD:Y->qf->X->J N->(Y->Prop)->Prop
 |w,_,_,[],k=>k w
 |w,a,o,v::vs,k=>St w (a.add o) v λw'=>aD w' a (o+1) vs k
def av(w:Y)(a:qf):X->(ss:J Sc)->u2 ss Prop->Prop
 |_,[],p=>p
 |o,c::ss,f=>∃x:c.D,w.cell? (a.add o)=S (c.mk x)/\av w a (o+1) ss (f x)
def sv(w:Y)(b:X)(l:J N):Prop:=∃t,w.heap[b]?=S (.cells ⟨l⟩ t (0,0))
def pf(w:Y)(b:X)(es:qn qD)(c:X):Prop:=w.heap[b]?=S (.map es c)
structure ia(ae2:X->Prop)(w w':Y):Prop where
 os:w'.os=w.os
 tape:w'.tape=w.tape
 output:w'.output=w.output
 size:w.heap.size<=w'.heap.size
 block:∀k,k<w.heap.size->¬ae2 k->w'.heap[k]?=w.heap[k]?
abbrev No:X->Prop:=λ_=>qj
theorem ia.refl(ae2:X->Prop)(w:Y):ia ae2 w w:=⟨U,U,U,On _,λ_ _ _=>rfl⟩
theorem ia.mono{ae2 F':X->Prop}{w w':Y}(h:ia ae2 w w')(hf:∀k,k<w.heap.size->ae2 k->F' k):ia F' w w':=
 ⟨h.os,h.tape,h.output,h.size,λk hk hn=>h.block k hk (λhF=>hn (hf k hk hF))⟩
theorem ia.trans{ae2 F':X->Prop}{a b c:Y}(h:ia ae2 a b)(h':ia F' b c)(hf:∀k,k<a.heap.size->F' k->ae2 k):ia ae2 a c:=
 ⟨h'.os.trans h.os,h'.tape.trans h.tape,h'.output.trans h.output,ON h.size h'.size,λk hk hn=>
  (h'.block k (Qc hk h.size) (λhF=>hn (hf k hk hF))).trans (h.block k hk hn)⟩
theorem ia.then{ae2:X->Prop}{a b c:Y}(h:ia ae2 a b)(h':ia ae2 b c):ia ae2 a c:=h.trans h' λ_ _ h=>h
theorem ia.no{ae2:X->Prop}{a b c:Y}(h:ia ae2 a b)(h':ia No b c):ia ae2 a c:=h.trans h' λ_ _ h=>h.elim
theorem ia.LW{ae2:X->Prop}{a b:Y}(h:ia No a b):ia ae2 a b:=h.mono λ_ _ h=>h.elim
theorem ia.below{ae2:X->Prop}{w w':Y}(h:ia ae2 w w'){B:X}(hB:B<=w.heap.size)(hf:∀k,ae2 k->B<=k):RowKit.Below B w w':=
 ⟨h.os,h.tape,h.output,h.size,λk hk=>h.block k om (λhF=>by have:=hf k hF;omega)⟩
theorem sv.lt{w:Y}{b:X}{l:J N}(h:sv w b l):b<w.heap.size:=by obtain⟨t,h⟩:=h;exact(OW.1 h).1
theorem pf.lt{w:Y}{b:X}{es:qn qD}{c:X}(h:pf w b es c):b<w.heap.size:=(OW.1 h).1
theorem sv.wD{ae2:X->Prop}{w w':Y}{b:X}{l:J N}(h:sv w b l)(u:ia ae2 w w')(hn:¬ae2 b):sv w' b l:=by have:=u.block b h.lt hn;obtain⟨t,h⟩:=h;exact⟨t,by rw[this];exact h⟩
theorem pf.wD{ae2:X->Prop}{w w':Y}{b:X}{es:qn qD}{c:X}(h:pf w b es c)(u:ia ae2 w w')(hn:¬ae2 b):pf w' b es c:=by have:=u.block b h.lt hn;unfold pf at *;rw[this];exact h
theorem sv.cell{w:Y}{b:X}{l:J N}(h:sv w b l)(i:X):w.cell? ⟨b,i,I⟩=l[i]?:=by obtain⟨t,h⟩:=h;simp[World.cell?,h]
theorem sv.frozen{w:Y}{b:X}{l:J N}(h:sv w b l)(i:X):w.frozen? ⟨b,i,I⟩=false:=by obtain⟨t,h⟩:=h;simp[World.frozen?,h]
theorem aO(b o n:X):(Addr.mk b o I).add n=⟨b,o+n,I⟩:=by
 unfold Addr.add;by_cases h:n=0
 .subst h;simp
 .simp[h]
theorem sv.Lt{w:Y}{b o n:X}{l:J N}{v:N}(h:sv w b l)(hv:l[o+n]?=S v):w.cell? ((Addr.mk b o I).add n)=S v:=by rw[aO,h.cell];exact hv
theorem sv.Ls{w:Y}{b o:X}{l:J N}{v:N}(h:sv w b l)(hv:l[o]?=S v):w.cell? (Addr.mk b o I)=S v:=by rw[h.cell];exact hv
theorem heap_setCell(w:Y)(b i:X)(v:N)(k:X):(w.setCell ⟨b,i,I⟩ v).heap[k]?=if k=b then(w.heap[b]?).map (λo=>match o with| .cells c e f=> .cells (c.setIfInBounds i v) e f|o=>o)else w.heap[k]?:=by
 simp only[World.setCell,QG,Option.isSome_none,OF,qx];by_cases h:b=k
 .subst h;simp only[qz];rfl
 .rw[Q h,Q (λe=>h e.symm)]
theorem sv.set{w:Y}{b:X}{l:J N}(h:sv w b l)(i:X)(v:N):sv (w.setCell ⟨b,i,I⟩ v) b (l.set i v):=by obtain⟨t,h⟩:=h;refine⟨t,?_⟩;rw[heap_setCell,A U,h];simp
theorem BV(w:Y)(b i:X)(v:N):ia (·=b) w (w.setCell ⟨b,i,I⟩ v):=
 ⟨rfl,rfl,rfl,qc,λk _ hn=>by rw[heap_setCell,Q hn]⟩
theorem gd(w:Y)(o:Obj):ia No w (w.alloc o):=
 ⟨rfl,rfl,rfl,qc,λk hk _=>by show(w.heap.push o)[k]?=_;rw[Array.getElem?_push,Q om]⟩
theorem si{w w':Y}(h:w'.heap=w.heap)(h1:w'.os=w.os)(h2:w'.tape=w.tape)(h3:w'.output=w.output):ia No w w':=
 ⟨h1,h2,h3,by rw[h];exact On _,λk _ _=>by rw[h]⟩
theorem heap_alloc_new(w:Y)(o:Obj):(w.alloc o).heap[w.heap.size]?=S o:=by show(w.heap.push o)[w.heap.size]?=_;simp
theorem St.mk'{w:Y}{b o:X}{v:N}{k:Y->Prop}{l:J N}(hb:sv w b l)(ho:o<l.length)(hv:v.oneCell'=V)
  (h:∀w',ia (·=b) w w'->w'.heap.size=w.heap.size->sv w' b (l.set o v)->k w'):St w ⟨b,o,I⟩ v k:=by
 refine⟨?_,hb.frozen o,hv,h _ (BV w b o v) qc (hb.set o v)⟩;rw[hb.cell,gE ho];rfl
theorem Al.mk'{w:Y}{l:J N}{t:qh}{k:Y->Prop}(h:∀w',ia No w w'->w'.heap.size=w.heap.size+1->sv w' w.heap.size l->k w'):Al w (.cells ⟨l⟩ t) k:=
 h _ (gd _ _) qc ⟨t,heap_alloc_new _ _⟩
theorem Al.map'{w:Y}{k:Y->Prop}(h:∀w',ia No w w'->w'.heap.size=w.heap.size+1->pf w' w.heap.size #[] 0->k w'):Al w (.map #[] 0) k:=
 h _ (gd _ _) qc (heap_alloc_new _ _)
theorem Dr.mk'{w:Y}{k:Y->Prop}(h:∀w',ia No w w'->w'.heap=w.heap->k w'):Dr w k:=h w.drew (si U U U U) U
inductive lf(z:X)(w:Y)(s:Sl)(cs:J N):Prop
 |nil (ha:s.a=I) (hl:s.len=0) (hc:s.cap=0) (hcs:cs= [])
 |mk (b o:X) (l:J N) (ha:s.a=S ⟨b,o,I⟩) (hb:sv w b l) (hl:s.len<=s.cap) (hc:o+s.cap*z<=l.length) (hcs:cs=(l.drop o).take (s.len*z))
def Sl.In(s:Sl)(ae3:X->Prop):Prop:=∀a,s.a=S a->ae3 a.block
theorem lf.length{z:X}{w:Y}{s:Sl}{cs:J N}(h:lf z w s cs):cs.length=s.len*z:=by
 cases h with
 |nil ha hl hc hcs=>simp[hcs,hl]
 |mk b o l ha hb hl hc hcs=>
  have:s.len*z<=s.cap*z:=OU z hl;simp[hcs];omega
theorem lf.wD{ae2:X->Prop}{z:X}{w w':Y}{s:Sl}{cs:J N}(h:lf z w s cs)(u:ia ae2 w w')(hn:s.In λk=>¬ae2 k):lf z w' s cs:=by
 cases h with
 |nil ha hl hc hcs=>exact .nil ha hl hc hcs
 |mk b o l ha hb hl hc hcs=>exact .mk b o l ha (hb.wD u (hn _ ha)) hl hc hcs
theorem lf.lt{z:X}{w:Y}{s:Sl}{cs:J N}(h:lf z w s cs):s.In (·<w.heap.size):=λa ha=>by
 cases h with
 |nil h _ _ _=>rw[h]at ha;cases ha
 |mk b o l h hb _ _ _=>rw[h]at ha;cases ha;exact hb.lt
theorem lf.fK{z:X}{w:Y}{s:Sl}{cs:J N}(h:lf z w s cs):s.len<=s.cap:=by
 cases h with
 |nil _ hl _ _=>omega
 |mk _ _ _ _ _ hl _ _=>exact hl
theorem lf.cell{z:X}{w:Y}{s:Sl}{cs:J N}(h:lf z w s cs){i:X}{v:N}(hv:cs[i]?=S v):∃b o,s.a=S ⟨b,o,I⟩/\w.cell? ⟨b,o+i,I⟩=S v:=by
 cases h with
 |nil _ _ _ hcs=>rw[hcs]at hv;simp at hv
 |mk b o l ha hb hl hc hcs=>
  refine⟨b,o,ha,?_⟩;rw[hb.cell];rw[hcs,OM]at hv;split at hv
  .rw[OP]at hv;exact hv
  .cases hv
theorem cY:∀(cs:J N)(o:X)(vs:J N)(i:X),o+vs.length<=cs.length->(putAt cs o vs)[i]?=if o<=i/\i<o+vs.length then vs[i-o]? else cs[i]?
 |cs,o,[],i,_=>by
  have:putAt cs o []=cs:=by cases cs<;>cases o<;>rfl
  rw[this,Q (by simp only[PY];omega)]
 | [],o,v::vs,i,h=>by simp at h
 |c::cs,0,v::vs,0,h=>by simp[putAt]
 |c::cs,0,v::vs,i+1,h=>by have:=cY cs 0 vs i (by simp at h|-;omega);simp only[putAt,OK];rw[this];simp
 |c::cs,o+1,v::vs,0,h=>by simp[putAt]
 |c::cs,o+1,v::vs,i+1,h=>by
  have:=cY cs o (v::vs) i (by simp at h|-;omega);simp only[putAt,OK];rw[this];simp only[OB]at*
  by_cases hi:o<=i/\i<o+(vs.length+1)
  .rw[A hi,A om];congr 1;omega
  .rw[Q hi,Q om]
theorem jD(cs:J N)(o:X):putAt cs o []=cs:=by cases cs<;>cases o<;>rfl
theorem gY{b:X}:∀(vs:J N)(l:J N)(o:X)(w:Y),sv w b l->o+vs.length<=l.length->(∀v∈vs,v.oneCell'=V)->∀i j,o=j+i->
  ∃w',(storeCells ⟨b,j,I⟩ vs i).run P w= .ok () w'/\ia (·=b) w w'/\w'.heap.size=w.heap.size/\sv w' b (putAt l o vs)
 | [],l,o,w,hb,_,_,i,j,_=>⟨w,by simp[storeCells],ia.refl _ _,rfl,by rw[jD];exact hb⟩
 |v::vs,l,o,w,hb,hl,hv,i,j,ho=>by
  simp only[OB]at hl;have hs:St w ⟨b,o,I⟩ v (λw'=>ia (·=b) w w'/\w'.heap.size=w.heap.size/\sv w' b (l.set o v)):=St.mk' hb om (hv v qc) λw' h1 h2 h3=>⟨h1,h2,h3⟩
  obtain⟨h1,h2,h3,h4⟩:=uZ (P:=P) hs;obtain⟨w',h5,h6,h7,h8⟩:=gY vs (l.set o v) (o+1) _ h4 (by simp;omega) (λu hu=>hv u (by simp[hu])) (i+1) j om;refine⟨w',?_,h2.then h6,om,by rw[pO];exact h8⟩;simp only[storeCells];rw[Sem.run_bind,show(Addr.mk b j I).add i=⟨b,o,I⟩from by rw[aO,ho],h1];exact h5
theorem gN{z:X}{w:Y}{s:Sl}{cs:J N}(h:lf z w s cs)(n:X)(hn:n<=s.len):(Builtin.firstCells z n (.slice s.a s.len s.cap)).run P w= .ok ⟨cs.take (n*z)⟩ w:=by
 cases h with
 |nil ha hl hc hcs=>
  have:n=0:=om
  subst this;simp[Builtin.firstCells,ha]
 |mk b o l ha hb hl hc hcs=>
  have h1:n*z<=s.len*z:=OU z hn;have h2:s.len*z<=s.cap*z:=OU z hl;have hlen:(cs.take (n*z)).length=n*z:=by rw[hcs];simp;omega
  simp only[Builtin.firstCells,ha];unfold loadCells;have:=di (P:=P) w ⟨b,o,I⟩ (cs.take (n*z)) 0 #[] (λj v hj=>by
   rw[dz,OM]at hj;split at hj
   .rw[hcs,OM]at hj
    split at hj
    .rw[OP]at hj
     rw[aO,OJ,hb.cell];exact hj
    .cases hj
   .cases hj)
  rw[hlen]at this;rw[this];simp
theorem xN(n:X):∀(r c:X),Builtin.growBy n r c<=(c+1000)*2^r
 |0,c=>by simp[Builtin.growBy]
 |r+1,c=>by
  unfold Builtin.growBy;have hp:1<=2^r:=Nat.one_le_two_pow;split
  .rw[Sx]
   have:c+1000<=(c+1000)*(2^r*2):=by
    have:1<=2^r*2:=om
    exact Nat.le_mul_of_pos_right _ om
   omega
  .have h:=xN n r (c+(c+768) / 4)
   rw[Sx];have h2:c+(c+768) / 4+1000<=(c+1000)*2:=om
   calc _<=(c+(c+768) / 4+1000)*2^r:=h
    _<=((c+1000)*2)*2^r:=OU _ h2
    _=(c+1000)*(2^r*2):=by rw[Nat.mul_assoc,R4 2]
theorem vA(n c:X):Builtin.nextslicecap n c<=n+16*c+16000:=by
 unfold Builtin.nextslicecap;split
 .omega
 .split
  .omega
  .have h:=xN n 4 c
   simp only[Nat.reducePow]at h;have h2:(c+1000)*16=16*c+16000:=by rw[PJ,R4]
   rw[h2]at h;exact ON h (Nat.add_le_add_right (Nat.le_add_left _ _) _)
structure Mn(z:X)(w:Y)(s:Sl)(cs:J N)(s':Sl)(w':Y):Prop where
 own:lf z w' s' cs
 wD:ia (λk=>∃a,s.a=S a/\a.block=k) w w'
 size:w'.heap.size<=w.heap.size+1
 here:s'.In λk=>(∃a,s.a=S a/\a.block=k)\/k=w.heap.size
theorem Gj{T el:qh}{inf:qJ}{zv:N}{z:X}{w:Y}{s x:Sl}{cs ds:J N}
  (hu:P.underlying T=S (.slice el)) (hi:P.info? el=S inf) (hz:inf.zero=S zv) (hsz:inf.size=z) (hzc:zv.cells.size=z) (hb:1<=inf.bytes)
  (hs:lf z w s cs) (hdl:ds.length=x.len*z) (hnew:∀aeZ:Y,aeZ.heap=w.heap->(Builtin.firstCells z x.len (.slice x.a x.len x.cap)).run P aeZ= .ok ⟨ds⟩ aeZ) (hd:∀v∈ds,v.oneCell'=V)
  (hbig:(17*(s.len+x.len)+16000)*inf.bytes<=2^48):
  ∃s' w',aP P [T,T] T (.slice s.a s.len s.cap) (.slice x.a x.len x.cap) w s' w'/\s'.len=s.len+x.len/\Mn z w s (cs++ds) s' w':=by
 have hsize:∀w,(sizeOf el).run P w= .ok z w:=λw=>by rw[fO hi w];simp[sz,hi,hsz]
 have hinfo:∀w,(typeInfo el).run P w= .ok inf w:=λw=>by simp[typeInfo,hi]
 have hzero:∀w,(qE el).run P w= .ok zv w:=λw=>by simp[qE,hinfo,hz]
 have hcl:=hs.length;have hcells:=hnew w U;by_cases hcap:s.len+x.len<=s.cap
 .
  by_cases hnone:s.a=I
  .have hz0:s.len=0/\s.cap=0/\cs= []:=by
    cases hs with
    |nil _ h1 h2 h3=>exact⟨h1,h2,h3⟩
    |mk b o l h _ _ _ _=>rw[h]at hnone;cases hnone
   have hx0:x.len=0:=om
   have hds:ds= []:=by apply P1;rw[hdl,hx0];simp
   refine⟨⟨I,0,0⟩,w,?_,by simp[hz0.1,hx0],.nil U U U (by simp[hz0.2.2,hds]),ia.refl _ _,om,λa ha=>by cases ha⟩;unfold aP Builtin.append_;simp only[hnone,hz0.1,hz0.2.1]at*
   subst hds;rw[hx0]at hcells;simp[aS hu,hsize,Builtin.lenOf,hx0,hcells]
  .cases hs with
   |nil h _ _ _=>exact qi h hnone
   |mk b o l ha hbl hl hc hcs=>
    have hmul:(s.len+x.len)*z<=s.cap*z:=OU z hcap;have hroom:o+s.len*z+ds.length<=l.length:=by rw[hdl];rw[PJ]at hmul;omega
    obtain⟨w',h1,h2,h3,h4⟩:=gY (P:=P) ds l (o+s.len*z) w hbl hroom hd 0 (o+s.len*z) om;refine⟨⟨s.a,s.len+x.len,s.cap⟩,w',?_,U,?_,h2.mono λk _ hk=>⟨_,ha,hk.symm⟩,om,λa h=>?_⟩
    .unfold aP Builtin.append_
     simp only[PX,PA,OK,Sem.run_bind,aS hu,Result.andThen_ok,hsize,Builtin.lenOf,Sem.run_pure,hcap,qz,OF,qx,PN];rw[hcells];simp only[Result.andThen_ok,ha,aO];rw[Sem.run_bind,h1];rfl
    .refine .mk b o _ ha h4 (by simpa using hcap) (by rw[gR];exact hc) ?_
     apply O2;intro i;have hsl:s.len*z<=s.cap*z:=OU z hl;rw[OM];simp only[PJ]at*
     by_cases hi':i<s.len*z+x.len*z
     .rw[A hi',OP,cY _ _ _ _ hroom]
      by_cases h5:i<s.len*z
      .rw[Q om,Oy om,hcs,OM,A h5,OP]
      .rw[A om,OA om]
       congr 1;omega
     .rw[Q hi']
      apply OQ;simp;omega
    .exact .inl ⟨a,h,U⟩
 .
  have hlc:=hs.fK
  let need:=s.len+x.len
  have hneed:¬need<=s.cap:=hcap
  let q:Question:= .appendCap need s.cap el
  let n:=q.cut (w.tape w.drawn q)
  have hle:=vA need s.cap;have hlim:¬(Builtin.nextslicecap need s.cap*inf.bytes>2^48):=by
   have h0:Builtin.nextslicecap need s.cap<=17*(s.len+x.len)+16000:=by refine ON hle ?_;show s.len+x.len+16*s.cap+16000<=_;generalize 16000=y;omega
   have:Builtin.nextslicecap need s.cap*inf.bytes<=(17*(s.len+x.len)+16000)*inf.bytes:=OU _ h0;omega
  have hneedb:need<=2^48:=by have h1:(17*(s.len+x.len)+16000)*1<=(17*(s.len+x.len)+16000)*inf.bytes:=SU _ hb;show s.len+x.len<=_;omega
  have hn1:need<=n:=by show need<=need+_%_;omega
  let row:J N:=cs++ds++(Builtin.zeroCells zv.cells (n-need)).toList
  let w':=w.drew.alloc (.cells ⟨row⟩ el)
  have hold:∀aeZ:Y,aeZ.heap=w.heap->(Builtin.firstCells z s.len (.slice s.a s.len s.cap)).run P aeZ= .ok ⟨cs⟩ aeZ:=λaeZ hW=>by
   have hs':lf z aeZ s cs:=by
    cases hs with
    |nil a b c d=>exact .nil a b c d
    |mk b o l a h c d e=>
     obtain⟨t,ht⟩:=h;exact .mk b o l a ⟨t,by rw[hW];exact ht⟩ c d e
   rw[gN hs' s.len (On _),<-hcl,Qr]
  refine⟨⟨S ⟨w.heap.size,0,I⟩,need,n⟩,w',?_,U,?_,((si (w:=w) (w':=w.drew) U U U U).no (gd _ _)).LW,by simp[w'],λa h=> .inr (by cases h;rfl)⟩
  .unfold aP Builtin.append_
   simp only[PX,PA,OK,Sem.run_bind,aS hu,Result.andThen_ok,hsize,Builtin.lenOf,Sem.run_pure,hcap,OF,qx,PN,hinfo];have hc1:¬(((s.len+x.len:X):O)>qd.max/\(qj\/inf.bytes=0)):=by
    rintro⟨_,h|h⟩
    .exact h
    .omega
   rw[Q hc1,Sem.run_bind,hinfo];simp only[Result.andThen_ok];rw[Q hlim,Sem.run_bind,run_choose];have hf:Question.forced (.appendCap (s.len+x.len) s.cap el)=false:=rfl;simp only[hf,OF,qx,Result.andThen_ok,World.drew_eq];rw[Sem.run_bind,hinfo];simp only[Result.andThen_ok];rw[Sem.run_bind,run_askRoom];simp only[Result.andThen_ok];rw[Sem.run_bind,hold w.drew U];simp only[Result.andThen_ok,qz];rw[Sem.run_bind,hnew w.drew U];simp only[Result.andThen_ok];rw[Sem.run_bind,hzero];simp only[Result.andThen_ok,newRow,Sem.run_bind,run_newObj,Sem.run_pure];have hrow:((⟨cs⟩:qn N)++⟨ds⟩++Builtin.zeroCells zv.cells (n-need))=⟨row⟩:=by apply QX;simp[row]
   show Result.ok (Value.slice (S ⟨w.heap.size,0,I⟩) (s.len+x.len) n) (w.drew.alloc (.cells ((⟨cs⟩:qn N)++⟨ds⟩++Builtin.zeroCells zv.cells (n-need)) el))=_;rw[hrow]
  .have hzl:(Builtin.zeroCells zv.cells (n-need)).toList.length=(n-need)*z:=by simp[Builtin.zeroCells,hzc]
   have hrl:row.length=n*z:=by simp only[row,Ov,hcl,hdl,hzl];rw[<-PJ,<-PJ];congr 1;show s.len+x.len+(n-(s.len+x.len))=n;have:s.len+x.len<=n:=hn1;omega
   refine .mk w.heap.size 0 row U ⟨el,?_⟩ hn1 (by rw[hrl];show 0+n*z<=n*z;omega) ?_
   .exact heap_alloc_new w.drew _
   .show cs++ds=(row.drop 0).take ((s.len+x.len)*z)
    have:(s.len+x.len)*z=(cs++ds).length:=by rw[Ov,hcl,hdl,PJ]
    rw[this,P6];simp only[row];rw[QK]
theorem vk{z:X}{w:Y}{x:Sl}{ds:J N}(hx:lf z w x ds):∀aeZ:Y,aeZ.heap=w.heap->(Builtin.firstCells z x.len (.slice x.a x.len x.cap)).run P aeZ= .ok ⟨ds⟩ aeZ:=λaeZ hW=>by
 have hdl:=hx.length;have hx':lf z aeZ x ds:=by
  cases hx with
  |nil a b c d=>exact .nil a b c d
  |mk b o l a h c d e=>
   obtain⟨t,ht⟩:=h;exact .mk b o l a ⟨t,by rw[hW];exact ht⟩ c d e
 rw[gN hx' x.len (On _),<-hdl,Qr]
theorem lC{α β:Type}(f:α->β):∀(l:J α)(i:X),(l.eraseIdx i).map f=(l.map f).eraseIdx i
 | [],_=>rfl
 |_::_,0=>rfl
 |a::l,i+1=>by simp[lC f l i]
end
section
variable{K ae0:Type}[qO K]
def dO:J (K × ae0)->K->qg ae0
 | [],_=>I
 |(a,v)::l,k=>if a=k then S v else dO l k
def jL:J (K × ae0)->K->ae0->J (K × ae0)
 | [],k,v=>[(k,v)]
 |(a,u)::l,k,v=>if a=k then(a,v)::l else(a,u)::jL l k v
def lh:J (K × ae0)->K->J (K × ae0)
 | [],_=>[]
 |(a,u)::l,k=>if a=k then l else(a,u)::lh l k
theorem sO(l:J (K × ae0))(k:K)(v:ae0)(x:K):dO (jL l k v) x=if k=x then S v else dO l x:=by
 induction l with
 |nil=>simp[jL,dO]
 |cons p l ih=>
  obtain⟨a,u⟩:=p;simp only[jL];by_cases h:a=k
  .subst h;simp only[qz,dO];split<;>rfl
  .simp only[h,qx,dO,ih]
   by_cases h2:a=x
   .subst h2;rw[A U,Q (λe=>h e.symm)];simp
   .simp[h2]
theorem rF{l:J (K × ae0)}{k:K}{v:ae0}(h:dO l k=S v):(k,v)∈l:=by
 induction l with
 |nil=>cases h
 |cons p l ih=>
  obtain⟨a,u⟩:=p;simp only[dO]at h;split at h
  .rename_i e;subst e;cases h;simp
  .exact Pq _ (ih h)
theorem fX{l:J (K × ae0)}{k:K}:dO l k=I↔k∉l.map (·.1):=by
 induction l with
 |nil=>simp[dO]
 |cons p l ih=>
  obtain⟨a,u⟩:=p;simp only[dO,OZ,Oz,not_or];split
  .rename_i e;subst e;simp
  .rename_i e;rw[ih];exact⟨λh=>⟨λe'=>e e'.symm,h⟩,λh=>h.2⟩
theorem sN{l:J (K × ae0)}(hn:(l.map (·.1)).Nodup)(k x:K):dO (lh l k) x=if k=x then I else dO l x:=by
 induction l with
 |nil=>simp[lh,dO]
 |cons p l ih=>
  obtain⟨a,u⟩:=p;simp only[OZ,Pu]at hn;simp only[lh];by_cases h:a=k
  .subst h
   simp only[qz,dO];by_cases h2:a=x
   .subst h2;rw[A U];exact fX.2 hn.1
   .simp[h2]
  .simp only[h,qx,dO,ih hn.2]
   by_cases h2:a=x
   .subst h2;rw[A U,Q (λe=>h e.symm)];simp
   .simp[h2]
theorem EP{l:J (K × ae0)}(k:K)(v:ae0)(x:K):x∈(jL l k v).map (·.1)↔x=k\/x∈l.map (·.1):=by
 induction l with
 |nil=>simp[jL]
 |cons p l ih=>
  obtain⟨a,u⟩:=p;simp only[jL];by_cases h:a=k
  .subst h;simp
  .simp only[h,qx,OZ,Oz,ih]
   constructor
   .rintro (h|h|h)<;>simp[h]
   .rintro (h|h|h)<;>simp[h]
theorem pJ{l:J (K × ae0)}(hn:(l.map (·.1)).Nodup)(k:K)(v:ae0):((jL l k v).map (·.1)).Nodup:=by
 induction l with
 |nil=>simp[jL]
 |cons p l ih=>
  obtain⟨a,u⟩:=p;simp only[OZ,Pu]at hn;simp only[jL];by_cases h:a=k
  .subst h;simpa using hn
  .simp only[h,qx,OZ,Pu]
   refine⟨λhm=>?_,ih hn.2⟩;rcases (EP k v a).1 hm with h1|h1
   .exact h h1
   .exact hn.1 h1
theorem yH(l:J (K × ae0))(k:K):(lh l k).Sublist l:=by
 induction l with
 |nil=>exact .slnil
 |cons p l ih=>
  obtain⟨a,u⟩:=p;simp only[lh];split
  .exact List.sublist_cons_self _ _
  .exact ih.cons_cons _
theorem pI{l:J (K × ae0)}(hn:(l.map (·.1)).Nodup)(k:K):((lh l k).map (·.1)).Nodup:=List.Nodup.sublist ((yH l k).map _) hn
end
structure kv(P:qo)(kt:qh){K:Type}[qO K](enc:K->N):Prop where
 check:∀b k w,(Instr.checkKey b 10000 kt (enc k)).run P w= .ok () w
 find:∀(k:K)(es:J qD)(ks:J K)(w:Y),es.map (·.key)=ks.map enc->
  (Instr.findKey kt (enc k) es).run P w= .ok ((ks.findIdx? λx=>F (x=k)).bind λi=>(es[i]?).map λe=>(i,e.val)) w
 same:∀k,Instr.sameBits 10000 (enc k) (enc k)=V
structure lP{K ae0:Type}(enc:K->N)(encV:ae0->N)(w:Y)(m:X)(L:J (K × ae0)):Prop where
 ex:∃es c,pf w m es c/\es.toList.map (λe=>(e.key,e.val))=L.map (λp=>(enc p.1,encV p.2))/\(es.toList.map (·.born)).Nodup/\∀e∈es.toList,e.born<c
 nodup:(L.map (·.1)).Nodup
theorem lP.lt{K ae0:Type}{enc:K->N}{encV:ae0->N}{w:Y}{m:X}{L:J (K × ae0)}(h:lP enc encV w m L):m<w.heap.size:=by obtain⟨es,c,h,_⟩:=h.ex;exact h.lt
theorem lP.wD{K ae0:Type}{enc:K->N}{encV:ae0->N}{ae2:X->Prop}{w w':Y}{m:X}{L:J (K × ae0)}(h:lP enc encV w m L)(u:ia ae2 w w')(hn:¬ae2 m):lP enc encV w' m L:=by obtain⟨es,c,h1,h2⟩:=h.ex;exact⟨⟨es,c,h1.wD u hn,h2⟩,h.nodup⟩
section
variable{P:qo}{T kt el:qh}{K ae0:Type}[qO K]{enc:K->N}{encV:ae0->N}
theorem run_getObj_map{w:Y}{m:X}{es:qn qD}{c:X}(h:pf w m es c):(getObj m).run P w= .ok (.map es c) w:=by unfold pf at h;simp[getObj,Sem.run,h]
theorem run_setObj_map{w:Y}{m:X}{es:qn qD}{c:X}(h:pf w m es c)(o:Obj):(setObj m o).run P w= .ok () { w with heap:=w.heap.setIfInBounds m o}:=by unfold pf at h;simp[setObj,Sem.run,h]
theorem mn(w:Y)(m:X)(o:Obj):ia (·=m) w { w with heap:=w.heap.setIfInBounds m o}:=
 ⟨rfl,rfl,rfl,qc,λk _ hn=>by show(w.heap.setIfInBounds m o)[k]?=_;rw[QM (λe=>hn e.symm)]⟩
theorem lQ{w:Y}{m:X}{es:qn qD}{c:X}(h:pf w m es c)(es':qn qD)(c':X):pf { w with heap:=w.heap.setIfInBounds m (.map es' c')} m es' c':=by have:=h.lt;show(w.heap.setIfInBounds m _)[m]?=_;rw[Array.getElem?_setIfInBounds_self_of_lt this]
theorem yT(L:J (K × ae0))(k:K):∀v,dO L k=S v↔∃i,(L.map (·.1)).findIdx? (λx=>F (x=k))=S i/\L[i]?.map (·.2)=S v:=by
 intro v;induction L with
 |nil=>simp[dO]
 |cons p l ih=>
  obtain⟨a,u⟩:=p;simp only[dO,OZ,QH];by_cases h:a=k
  .simp[h]
  .simp only[h,qx,decide_false,OF,ih]
   constructor
   .rintro ⟨i,h1,h2⟩;exact⟨i+1,by simp[h1],by simpa using h2⟩
   .rintro ⟨i,h1,h2⟩
    simp only[P4]at h1;obtain⟨j,h1,rfl⟩:=h1;exact⟨j,h1,by simpa using h2⟩
theorem yU(L:J (K × ae0))(k:K):dO L k=I↔(L.map (·.1)).findIdx? (λx=>F (x=k))=none:=by
 rw[fX,List.findIdx?_eq_none_iff];constructor
 .intro h x hx;simp;intro e;subst e;exact h hx
 .intro h hx;have:=h k hx;simp at this
theorem nw{es:J qD}{L:J (K × ae0)}(h:es.map (λe=>(e.key,e.val))=L.map (λp=>(enc p.1,encV p.2))):es.map (·.key)=(L.map (·.1)).map enc:=by have:=qw (List.map Prod.fst) h;simpa [Function.comp_def]using this
theorem AB{es:J qD}{L:J (K × ae0)}(h:es.map (λe=>(e.key,e.val))=L.map (λp=>(enc p.1,encV p.2)))(i:X):(es[i]?).map (·.val)=(L[i]?).map λp=>encV p.2:=by have:=qw (λl=>(l[i]?).map Prod.snd) h;simpa [Function.comp_def]using this
theorem sD(hk:kv P kt enc){es:qn qD}{L:J (K × ae0)}(h:es.toList.map (λe=>(e.key,e.val))=L.map (λp=>(enc p.1,encV p.2))){k:K}{v:ae0}(hl:dO L k=S v)(w:Y):
  ∃i,(Instr.findKey kt (enc k) es.toList).run P w= .ok (S (i,encV v)) w/\(L.map (·.1)).findIdx? (λx=>F (x=k))=S i:=by
 obtain⟨i,h1,h2⟩:=(yT L k v).1 hl;refine⟨i,?_,h1⟩;rw[hk.find k es.toList (L.map (·.1)) w (nw h),h1];simp only[RR];have hv:=AB h i;have:(L[i]?).map (λp=>encV p.2)=S (encV v):=by have:=qw (Option.map encV) h2;simpa [Function.comp_def]using this
 rw[this]at hv;cases he:es.toList[i]? with
 |none=>rw[he]at hv;simp at hv
 |some e=>rw[he]at hv;simp at hv;simp[hv]
theorem oo(hk:kv P kt enc){es:qn qD}{L:J (K × ae0)}(h:es.toList.map (λe=>(e.key,e.val))=L.map (λp=>(enc p.1,encV p.2))){k:K}(hl:dO L k=I)(w:Y):
  (Instr.findKey kt (enc k) es.toList).run P w= .ok I w:=by
 rw[hk.find k es.toList (L.map (·.1)) w (nw h),(yU L k).1 hl];rfl
theorem lP.E2(hu:P.underlying T=S (.map kt el))(hk:kv P kt enc){w:Y}{m:X}{L:J (K × ae0)}(h:lP enc encV w m L){k:K}{v:ae0}(hl:dO L k=S v):
  tz P T (.map (S m)) (enc k) (encV v) V w/\z7 P T (.map (S m)) (enc k) (encV v) w:=by
 obtain⟨es,c,h1,h2,_⟩:=h.ex;obtain⟨i,h3,_⟩:=sD hk h2 hl w;constructor
 .unfold tz Instr.lookup
  simp only[Sem.run_bind,aS hu,Result.andThen_ok,run_getObj_map h1,Sem.run_pure,hk.check,h3,qz]
 .unfold z7 Instr.lookup
  simp only[Sem.run_bind,aS hu,Result.andThen_ok,run_getObj_map h1,Sem.run_pure,hk.check,h3,OF,qx]
theorem lP.fX(hu:P.underlying T=S (.map kt el))(hk:kv P kt enc){z:N}(hz:∀w,(qE el).run P w= .ok z w){w:Y}{m:X}{L:J (K × ae0)}(h:lP enc encV w m L){k:K}(hl:dO L k=I):
  tz P T (.map (S m)) (enc k) z Z w/\z7 P T (.map (S m)) (enc k) z w:=by
 obtain⟨es,c,h1,h2,_⟩:=h.ex;have h3:=oo hk h2 hl w;constructor
 .unfold tz Instr.lookup
  simp only[Sem.run_bind,aS hu,Result.andThen_ok,run_getObj_map h1,Sem.run_pure,hk.check,h3,hz,qz]
 .unfold z7 Instr.lookup
  simp only[Sem.run_bind,aS hu,Result.andThen_ok,run_getObj_map h1,Sem.run_pure,hk.check,h3,hz,OF,qx]
theorem Aj:∀(L:J (K × ae0))(k:K)(v:ae0)(i:X),(L.map (·.1)).findIdx? (λx=>F (x=k))=S i->jL L k v=L.set i (k,v)
 | [],k,v,i,h=>by simp at h
 |(a,u)::l,k,v,i,h=>by
  simp only[OZ,QH]at h;simp only[jL];by_cases e:a=k
  .subst e
   simp only[decide_true,qz,Option.some.injEq]at h;subst h;simp
  .simp only[e,decide_false,OF,qx,P4]at h
   obtain⟨j,h,rfl⟩:=h;simp[e,Aj l k v j h]
theorem Ai:∀(L:J (K × ae0))(k:K)(v:ae0),dO L k=I->jL L k v=L++ [(k,v)]
 | [],k,v,_=>rfl
 |(a,u)::l,k,v,h=>by
  simp only[dO]at h;split at h
  .cases h
  .rename_i e;simp[jL,e,Ai l k v h]
theorem u5:∀(L:J (K × ae0))(k:K)(i:X),(L.map (·.1)).findIdx? (λx=>F (x=k))=S i->lh L k=L.eraseIdx i
 | [],k,i,h=>by simp at h
 |(a,u)::l,k,i,h=>by
  simp only[OZ,QH]at h;simp only[lh];by_cases e:a=k
  .subst e
   simp only[decide_true,qz,Option.some.injEq]at h;subst h;simp
  .simp only[e,decide_false,OF,qx,P4]at h
   obtain⟨j,h,rfl⟩:=h;simp[e,u5 l k j h]
theorem xq:∀(L:J (K × ae0))(k:K),dO L k=I->lh L k=L
 | [],k,_=>rfl
 |(a,u)::l,k,h=>by
  simp only[dO]at h;split at h
  .cases h
  .rename_i e;simp[lh,e,xq l k h]
theorem lP.put(hu:P.underlying T=S (.map kt el))(hk:kv P kt enc){w:Y}{m:X}{L:J (K × ae0)}(h:lP enc encV w m L)(k:K)(v:ae0):
  ∃w',gK P T (.map (S m)) (enc k) (encV v) w w'/\ia (·=m) w w'/\w'.heap.size=w.heap.size/\lP enc encV w' m (jL L k v):=by
 obtain⟨es,c,h1,h2,h3,h4⟩:=h.ex;cases hl:dO L k with
 |some u=>
  obtain⟨i,h5,h6⟩:=sD hk h2 hl w;have hi:i<L.length:=by have:=(OT.1 h6).1;simpa using this
  have hlen:es.size=L.length:=by have:=qw List.length h2;simpa using this
  have hkey:((es[i]?).map (·.key)).getD (enc k)=enc k:=by
   have h7:=qw (λl=>l[i]?) (nw h2);obtain⟨h8,h9,_⟩:=OT.1 h6;have h9:L[i].1=k:=by simpa using h9
   simp only[OX,O7,gE hi,PC,h9]at h7;rw[h7];rfl
  refine⟨_,?_,mn w m _,qc,⟨⟨_,_,lQ h1 (es.modify i λe=>{ e with key:=enc k,val:=encV v}) c,?_,?_,?_⟩,pJ h.nodup k v⟩⟩
  .unfold gK Instr.mapUpdate
   simp only[Sem.run_bind,aS hu,Result.andThen_ok,run_getObj_map h1,hk.check,h5,hkey,Instr.keyThatStays,hk.same,qz,Sem.run_pure];exact run_setObj_map h1 _
  .rw[Aj L k v i h6]
   apply O2;intro j;have h7:=qw (λl=>l[j]?) h2;simp only[OX,O7,QG,Pb]at h7|-;by_cases e:i=j
   .subst e
    have:i<es.size:=om
    simp[hi,this]
   .simp only[e,qx];exact h7
  .have:(es.modify i λe=>{ e with key:=enc k,val:=encV v}).toList.map (·.born)=es.toList.map (·.born):=by
    apply O2;intro j;simp only[OX,O7,QG];by_cases e:i=j
    .subst e;cases es[i]?<;>simp
    .simp[e]
   rw[this];exact h3
  .intro e he
   obtain⟨j,hj⟩:=O5.1 he;simp only[O7,QG]at hj;by_cases e':i=j
   .subst e'
    simp only[qz,P4]at hj;obtain⟨x,hx,rfl⟩:=hj;exact h4 x (O5.2 ⟨i,by simpa using hx⟩)
   .simp only[e',qx]at hj
    exact h4 e (O5.2 ⟨j,by simpa using hj⟩)
 |none=>
  have h5:=oo hk h2 hl w;refine⟨_,?_,mn w m _,qc,⟨⟨_,_,lQ h1 (es.push { key:=enc k,val:=encV v,born:=c}) (c+1),?_,?_,?_⟩,pJ h.nodup k v⟩⟩
  .unfold gK Instr.mapUpdate
   simp only[Sem.run_bind,aS hu,Result.andThen_ok,run_getObj_map h1,hk.check,h5];exact run_setObj_map h1 _
  .rw[Ai L k v hl]
   simp[h2]
  .simp only[S6,List.map_append,OZ,Qb]
   rw[List.nodup_append];refine⟨h3,qc,?_⟩;intro a ha b hb;simp only[OY]at hb;subst hb;obtain⟨e,he,rfl⟩:=O4.1 ha;have:=h4 e he;omega
  .intro e he
   simp only[S6,Pn,OY]at he;rcases he with he|he
   .have:=h4 e he;omega
   .subst he;show c<c+1;omega
theorem lP.del(hu:P.underlying T=S (.map kt el))(hk:kv P kt enc){w:Y}{m:X}{L:J (K × ae0)}{t:qh}{ts:J qh}(h:lP enc encV w m L)(k:K):
  ∃w',yz P (T::ts) t (.map (S m)) (enc k) w w'/\ia (·=m) w w'/\w'.heap.size=w.heap.size/\lP enc encV w' m (lh L k):=by
 obtain⟨es,c,h1,h2,h3,h4⟩:=h.ex;cases hl:dO L k with
 |some u=>
  obtain⟨i,h5,h6⟩:=sD hk h2 hl w;refine⟨_,?_,mn w m _,qc,⟨⟨_,_,lQ h1 (es.eraseIdxIfInBounds i) c,?_,?_,?_⟩,pI h.nodup k⟩⟩
  .unfold yz Builtin.delete_
   simp only[PX,PA,OK,Sem.run_bind,aS hu,Result.andThen_ok,run_getObj_map h1,hk.check,h5];rw[run_setObj_map h1];rfl
  .rw[u5 L k i h6]
   simp only[Q6];rw[lC,lC,h2]
  .simp only[Q6]
   rw[lC];exact List.Nodup.sublist (Rf _ _) h3
  .intro e he
   simp only[Q6]at he;exact h4 e ((Rf _ _).mem he)
 |none=>
  have h5:=oo hk h2 hl w;refine⟨_,?_,mn w m _,qc,⟨⟨_,_,lQ h1 es c,?_,h3,h4⟩,pI h.nodup k⟩⟩
  .unfold yz Builtin.delete_
   simp only[PX,PA,OK,Sem.run_bind,aS hu,Result.andThen_ok,run_getObj_map h1,hk.check,h5];rw[run_setObj_map h1];rfl
  .rw[xq L k hl];exact h2
theorem bf(j:qK)(hu:P.underlying kt=S (.int j)):kv P kt (λn:O=>Value.int j n):=by
 have hfind:∀(k:O)(es:J qD)(ks:J O)(i:X),es.map (·.key)=ks.map (λn=>Value.int j n)->
   Instr.findNow (.int j) (.int j k) es i=S ((ks.findIdx? λx=>F (x=k)).bind λq=>(es[q]?).map λe=>(q+i,e.val)):=by
  intro k es;induction es with
  |nil=>intro ks i h;cases ks with
   |nil=>rfl
   |cons _ _=>simp at h
  |cons e es ih=>
   intro ks i h;cases ks with
   |nil=>simp at h
   |cons x ks=>
    simp only[OZ,List.cons.injEq]at h;simp only[Instr.findNow,h.1,Instr.sameNow,qz];by_cases hx:x=k
    .subst hx;simp[QH]
    .have:(k==x)=false:=by simpa using λe=>hx e.symm
     rw[this];simp only[ih ks (i+1) h.2,QH,hx,decide_false,OF,qx];cases hq:ks.findIdx? (λx=>F (x=k))with
     |none=>rfl
     |some q=>
      simp only[RR,PC,OK];congr 2;funext e;congr 1;omega
 refine⟨λb k w=>?_,λk es ks w h=>?_,λk=>by unfold Instr.sameBits;simp⟩
 .unfold Instr.checkKey
  rw[Sem.run_bind,aS hu];rfl
 .unfold Instr.findKey
  rw[Sem.run_bind,aS hu];simp only[Result.andThen_ok,hfind k es ks 0 h,QD];rfl
end
structure aH where
 holds:(X->Prop)->Y->Prop
 loc:∀(ae3:X->Prop)(w w':Y),holds ae3 w->(∀k,ae3 k->w'.heap[k]?=w.heap[k]?)->holds ae3 w'
 up:∀(ae3 G':X->Prop)(w:Y),holds ae3 w->(∀k,ae3 k->G' k)->holds G' w
def gi(B:X)(w:Y)(L:J aH):Prop:=
 ∃ae1:J (aH ×(X->Prop)),ae1.map (·.1)=L/\(∀p∈ae1,p.1.holds p.2 w/\∀k,p.2 k->B<=k/\k<w.heap.size)/\ae1.Pairwise λp q=>∀k,p.2 k->¬q.2 k
structure Ow(B:X)(w0 w:Y)(L:J aH):Prop where
 base:B<=w0.heap.size
 wD:ia (B<=·) w0 w
 held:gi B w L
section
variable{B:X}{w0 w:Y}{L R:J aH}
theorem Ow.size(h:Ow B w0 w L):B<=w.heap.size:=ON h.base h.wD.size
theorem Ow.below(h:Ow B w0 w L):RowKit.Below B w0 w:=h.wD.below h.base λ_ h=>h
theorem Ow.start(w:Y):Ow w.heap.size w w []:=⟨On _,ia.refl _ _,[],U,qc,.nil⟩
theorem gi.take(h:gi B w L)(i:X){ae7:aH}(hi:L[i]?=S ae7):gi B w (ae7::L.eraseIdx i):=by
 obtain⟨ae1,h1,h2,h3⟩:=h;subst h1;rw[OX]at hi;cases hz:ae1[i]? with
 |none=>rw[hz]at hi;cases hi
 |some p=>
  rw[hz]at hi;simp only[PC,Option.some.injEq]at hi;subst hi;refine⟨p::ae1.eraseIdx i,by simp[lC],?_,?_⟩
  .intro q hq
   rcases Oz.1 hq with rfl|hq
   .exact h2 _ (OV hz)
   .exact h2 _ ((Rf _ _).mem hq)
  .refine PB.2 ⟨?_,h3.sublist (Rf _ _)⟩
   have:∀(ae1:J (aH ×(X->Prop)))(i:X),ae1[i]?=S p->ae1.Pairwise (λp q=>∀k,p.2 k->¬q.2 k)->∀q∈ae1.eraseIdx i,∀k,p.2 k->¬q.2 k:=by
    intro ae1;induction ae1 with
    |nil=>intro i h;simp at h
    |cons x ae1 ih=>
     intro i hi hp q hq;obtain⟨hx,hZ⟩:=PB.1 hp;cases i with
     |zero=>simp at hi;subst hi;exact hx q (by simpa using hq)
     |succ i=>
      simp only[OK]at hi;simp only[QU,Oz]at hq;rcases hq with rfl|hq
      .intro k hk hq';exact hx p (OV hi) k hq' hk
      .exact ih i hi hZ q hq
   exact this ae1 i hz h3
theorem gi.drop{ae7:aH}(h:gi B w (ae7::R)):gi B w R:=by
 obtain⟨ae1,h1,h2,h3⟩:=h;cases ae1 with
 |nil=>cases h1
 |cons p ae1=>
  simp only[OZ,List.cons.injEq]at h1;exact⟨ae1,h1.2,λq hq=>h2 q (by simp[hq]),(PB.1 h3).2⟩
theorem gi.cG{ae7:aH}(h:gi B w (ae7::R)):∃ae3:X->Prop,ae7.holds ae3 w/\(∀k,ae3 k->B<=k/\k<w.heap.size)/\
  ∃ae1:J (aH ×(X->Prop)),ae1.map (·.1)=R/\(∀p∈ae1,p.1.holds p.2 w/\∀k,p.2 k->B<=k/\k<w.heap.size)/\ae1.Pairwise (λp q=>∀k,p.2 k->¬q.2 k)/\∀q∈ae1,∀k,ae3 k->¬q.2 k:=by
 obtain⟨ae1,h1,h2,h3⟩:=h;cases ae1 with
 |nil=>cases h1
 |cons p ae1=>
  simp only[OZ,List.cons.injEq]at h1;obtain⟨rfl,h1⟩:=h1;obtain⟨h4,h5⟩:=h2 p qc;exact⟨p.2,h4,h5,ae1,h1,λq hq=>h2 q (by simp[hq]),(PB.1 h3).2,(PB.1 h3).1⟩
theorem gi.oi{ae7:aH}{ae3:X->Prop}(hA:ae7.holds ae3 w)(hG:∀k,ae3 k->B<=k/\k<w.heap.size){ae1:J (aH ×(X->Prop))}(h1:ae1.map (·.1)=R)
  (h2:∀p∈ae1,p.1.holds p.2 w/\∀k,p.2 k->B<=k/\k<w.heap.size) (h3:ae1.Pairwise λp q=>∀k,p.2 k->¬q.2 k) (h4:∀q∈ae1,∀k,ae3 k->¬q.2 k):gi B w (ae7::R):=
 ⟨(ae7,ae3)::ae1,by simp[h1],λp hp=>by
  rcases Oz.1 hp with rfl|hp
  .exact ⟨hA,hG⟩
  .exact h2 p hp,PB.2 ⟨h4,h3⟩⟩
theorem gi.step{ae7 A':aH}{w':Y}(h:gi B w (ae7::R))
  (hs:∀ae3,ae7.holds ae3 w->(∀k,ae3 k->B<=k/\k<w.heap.size)->ia ae3 w w'/\∃G',A'.holds G' w'/\∀k,G' k->(ae3 k\/w.heap.size<=k)/\k<w'.heap.size) (hB:B<=w.heap.size):gi B w' (A'::R):=by
 obtain⟨ae3,hA,hG,ae1,h1,h2,h3,h4⟩:=h.cG;obtain⟨hu,G',hA',hG'⟩:=hs ae3 hA hG;refine gi.oi hA' (λk hk=>?_) h1 (λp hp=>?_) h3 (λq hq k hk hq'=>?_)
 .obtain ⟨h5,h6⟩:=hG' k hk
  refine⟨?_,h6⟩;rcases h5 with h5|h5
  .exact (hG k h5).1
  .omega
 .obtain ⟨h5,h6⟩:=h2 p hp
  refine⟨p.1.loc p.2 w w' h5 λk hk=>hu.block k (h6 k hk).2 λhGk=>h4 p hp k hGk hk,λk hk=>⟨(h6 k hk).1,Qc (h6 k hk).2 hu.size⟩⟩
 .obtain ⟨h5,h6⟩:=hG' k hk
  rcases h5 with h5|h5
  .exact h4 q hq k h5 hq'
  .have:=((h2 q hq).2 k hq').2;omega
theorem gi.new{A':aH}{w':Y}(h:gi B w R)(hu:ia No w w'){G':X->Prop}(hA':A'.holds G' w')(hG':∀k,G' k->w.heap.size<=k/\k<w'.heap.size)(hB:B<=w.heap.size):gi B w' (A'::R):=by
 obtain⟨ae1,h1,h2,h3⟩:=h;refine gi.oi hA' (λk hk=>?_) h1 (λp hp=>?_) h3 (λq hq k hk hq'=>?_)
 .have:=hG' k hk;omega
 .obtain ⟨h5,h6⟩:=h2 p hp
  exact⟨p.1.loc p.2 w w' h5 λk hk=>hu.block k (h6 k hk).2 λh=>h,λk hk=>⟨(h6 k hk).1,Qc (h6 k hk).2 hu.size⟩⟩
 .have:=hG' k hk;have:=((h2 q hq).2 k hq').2;omega
theorem gi.same{w':Y}(h:gi B w R)(hu:ia No w w'):gi B w' R:=by obtain⟨ae1,h1,h2,h3⟩:=h;refine⟨ae1,h1,λp hp=>?_,h3⟩;obtain⟨h5,h6⟩:=h2 p hp;exact⟨p.1.loc p.2 w w' h5 λk hk=>hu.block k (h6 k hk).2 λh=>h,λk hk=>⟨(h6 k hk).1,Qc (h6 k hk).2 hu.size⟩⟩
theorem Fa{α β:Type _}(f:α->β){L L':J β}(hp:L.Perm L'):∀ae1:J α,ae1.map f=L->∃Z':J α,Z'.Perm ae1/\Z'.map f=L':=by
 induction hp with
 |nil=>intro ae1 h;exact⟨ae1,.refl _,h⟩
 |cons x _ ih=>
  intro ae1 h;cases ae1 with
  |nil=>simp at h
  |cons z ae1=>
   simp only[OZ,List.cons.injEq]at h;obtain⟨Z',h1,h2⟩:=ih ae1 h.2;exact⟨z::Z',h1.cons z,by simp[h.1,h2]⟩
 |swap x y l=>
  intro ae1 h
  match ae1,h with
  |a::b::ae1,h=>
   simp only[OZ,List.cons.injEq]at h;exact⟨b::a::ae1,List.Perm.swap _ _ _,by simp[h.1,h.2.1,h.2.2]⟩
 |trans _ _ ih1 ih2=>
  intro ae1 h;obtain⟨Z1,h1,h2⟩:=ih1 ae1 h;obtain⟨Z2,h3,h4⟩:=ih2 Z1 h2;exact⟨Z2,h3.trans h1,h4⟩
theorem gi.perm{L':J aH}(h:gi B w L)(hp:L.Perm L'):gi B w L':=by obtain⟨ae1,h1,h2,h3⟩:=h;obtain⟨Z',h4,h5⟩:=Fa (·.1) hp ae1 h1;exact⟨Z',h5,λp hp=>h2 p (h4.mem_iff.1 hp),h3.perm h4.symm λhR k hk hk'=>hR k hk' hk⟩
theorem Ow.perm{L':J aH}(h:Ow B w0 w L)(hp:L.Perm L'):Ow B w0 w L':=⟨h.base,h.wD,h.held.perm hp⟩
theorem Ow.take(h:Ow B w0 w L)(i:X){ae7:aH}(hi:L[i]?=S ae7):Ow B w0 w (ae7::L.eraseIdx i):=⟨h.base,h.wD,h.held.take i hi⟩
theorem Ow.drop{ae7:aH}(h:Ow B w0 w (ae7::R)):Ow B w0 w R:=⟨h.base,h.wD,h.held.drop⟩
theorem Ow.step{ae7 A':aH}{w':Y}(h:Ow B w0 w (ae7::R))
  (hs:∀ae3,ae7.holds ae3 w->(∀k,ae3 k->B<=k/\k<w.heap.size)->ia ae3 w w'/\∃G',A'.holds G' w'/\∀k,G' k->(ae3 k\/w.heap.size<=k)/\k<w'.heap.size):Ow B w0 w' (A'::R):=by
 refine⟨h.base,?_,h.held.step hs h.size⟩;obtain⟨ae3,hA,hG,_⟩:=h.held.cG;exact h.wD.trans (hs ae3 hA hG).1 λk _ hk=>(hG k hk).1
theorem Ow.new{A':aH}{w':Y}(h:Ow B w0 w R)(hu:ia No w w'){G':X->Prop}(hA':A'.holds G' w')(hG':∀k,G' k->w.heap.size<=k/\k<w'.heap.size):Ow B w0 w' (A'::R):=
 ⟨h.base,h.wD.no hu,h.held.new hu hA' hG' h.size⟩
theorem Ow.same{w':Y}(h:Ow B w0 w R)(hu:ia No w w'):Ow B w0 w' R:=⟨h.base,h.wD.no hu,h.held.same hu⟩
theorem Ow.head{ae7:aH}{p:Prop}(h:Ow B w0 w (ae7::R))(hp:∀ae3,ae7.holds ae3 w->p):p:=by obtain⟨ae3,hA,_⟩:=h.held.cG;exact hp ae3 hA
theorem Ow.conv{ae7 A':aH}(h:Ow B w0 w (ae7::R))(hc:∀ae3,ae7.holds ae3 w->A'.holds ae3 w):Ow B w0 w (A'::R):=
 h.step λae3 hA hG=>⟨ia.refl _ _,ae3,hc ae3 hA,λk hk=>⟨.inl hk,(hG k hk).2⟩⟩
def aa(b:X)(l:J N):aH where
 holds ae3 w:=ae3 b/\sv w b l
 loc ae3 w w' h hk:=⟨h.1,by obtain⟨t,ht⟩:=h.2;exact⟨t,by rw[hk b h.1];exact ht⟩⟩
 up ae3 G' w h hk:=⟨hk b h.1,h.2⟩
def FZ(z:X)(s:Sl)(cs:J N):aH where
 holds ae3 w:=s.In ae3/\lf z w s cs
 loc ae3 w w' h hk:=⟨h.1,by
  cases h.2 with
  |nil a b c d=>exact .nil a b c d
  |mk b o l a hb c d e=>
   obtain⟨t,ht⟩:=hb;exact .mk b o l a ⟨t,by rw[hk b (h.1 _ a)];exact ht⟩ c d e⟩
 up ae3 G' w h hk:=⟨λa ha=>hk _ (h.1 a ha),h.2⟩
def mU{K ae0:Type}(enc:K->N)(encV:ae0->N)(m:X)(L:J (K × ae0)):aH where
 holds ae3 w:=ae3 m/\lP enc encV w m L
 loc ae3 w w' h hk:=⟨h.1,by obtain⟨es,c,h1,h2⟩:=h.2.ex;exact⟨⟨es,c,by unfold pf at *;rw[hk m h.1];exact h1,h2⟩,h.2.nodup⟩⟩
 up ae3 G' w h hk:=⟨hk m h.1,h.2⟩
def dJ(p:Prop):aH where
 holds _ _:=p
 loc _ _ _ h _:=h
 up _ _ _ h _:=h
def pa{α:Type}(f:α->aH):aH where
 holds ae3 w:=∃x,(f x).holds ae3 w
 loc ae3 w w' h hk:=by obtain⟨x,h⟩:=h;exact⟨x,(f x).loc ae3 w w' h hk⟩
 up ae3 G' w h hk:=by obtain⟨x,h⟩:=h;exact⟨x,(f x).up ae3 G' w h hk⟩
def bo(M:J aH):aH where
 holds ae3 w:=∃ae1:J (aH ×(X->Prop)),ae1.map (·.1)=M/\(∀p∈ae1,p.1.holds p.2 w/\∀k,p.2 k->ae3 k)/\ae1.Pairwise λp q=>∀k,p.2 k->¬q.2 k
 loc ae3 w w' h hk:=by obtain⟨ae1,h1,h2,h3⟩:=h;exact⟨ae1,h1,λp hp=>⟨p.1.loc p.2 w w' (h2 p hp).1 λk hk'=>hk k ((h2 p hp).2 k hk'),(h2 p hp).2⟩,h3⟩
 up ae3 G' w h hk:=by obtain⟨ae1,h1,h2,h3⟩:=h;exact⟨ae1,h1,λp hp=>⟨(h2 p hp).1,λk hk'=>hk k ((h2 p hp).2 k hk')⟩,h3⟩
theorem Ow.ex{α:Type}{f:α->aH}(h:Ow B w0 w (pa f::R)):∃x,Ow B w0 w (f x::R):=by obtain⟨ae3,⟨x,hx⟩,_⟩:=h.held.cG;obtain⟨ae3,hA,hG,ae1,h1,h2,h3,h4⟩:=h.held.cG;obtain⟨x,hx⟩:=hA;exact⟨x,h.base,h.wD,gi.oi hx hG h1 h2 h3 h4⟩
theorem Ow.eP{α:Type}{f:α->aH}(x:α)(h:Ow B w0 w (f x::R)):Ow B w0 w (pa f::R):=h.conv λ_ h=>⟨x,h⟩
theorem Ow.pure{p:Prop}(h:Ow B w0 w (dJ p::R)):p/\Ow B w0 w R:=⟨h.head λ_ h=>h,h.drop⟩
theorem Ow.cZ{p:Prop}(hp:p)(h:Ow B w0 w R):Ow B w0 w (dJ p::R):=by obtain⟨ae1,h1,h2,h3⟩:=h.held;exact⟨h.base,h.wD,gi.oi (ae3:=No) hp (λ_ h=>h.elim) h1 h2 h3 λ_ _ _ h=>h.elim⟩
theorem Ow.star{M:J aH}(h:Ow B w0 w (bo M::R)):Ow B w0 w (M++R):=by
 obtain⟨ae3,hA,hG,ae1,h1,h2,h3,h4⟩:=h.held.cG;obtain⟨aeY,y1,y2,y3⟩:=hA;refine⟨h.base,h.wD,aeY++ae1,by simp[y1,h1],λp hp=>?_,Q3.2 ⟨y3,h3,λp hp q hq k hk=>h4 q hq k ((y2 p hp).2 k hk)⟩⟩;rcases Pn.1 hp with hp|hp
 .exact ⟨(y2 p hp).1,λk hk=>hG k ((y2 p hp).2 k hk)⟩
 .exact h2 p hp
theorem Ow.br{M:J aH}(h:Ow B w0 w (M++R)):Ow B w0 w (bo M::R):=by
 obtain⟨ae1,h1,h2,h3⟩:=h.held;have h1:ae1.map (·.1)=M++R:=h1;obtain⟨aeY,Z',hYZ,hY,hZ⟩:=List.map_eq_append_iff.1 h1;subst hYZ;obtain⟨p1,p2,p3⟩:=Q3.1 h3;refine⟨h.base,h.wD,gi.oi (ae3:=λk=>∃p∈aeY,p.2 k) ⟨aeY,hY,λp hp=>⟨(h2 p (by simp[hp])).1,λk hk=>⟨p,hp,hk⟩⟩,p1⟩ (λk hk=>?_) hZ (λp hp=>h2 p (by simp[hp])) p2 ?_⟩
 .obtain ⟨p,hp,hk⟩:=hk;exact(h2 p (by simp[hp])).2 k hk
 .rintro q hq k ⟨p,hp,hk⟩;exact p3 p hp q hq k hk
theorem Ow.al{l:J N}{t:qh}{k:Y->Prop}(h:Ow B w0 w R)(hk:∀w',Ow B w0 w' (aa w.heap.size l::R)->k w'):Al w (.cells ⟨l⟩ t) k:=
 Al.mk' λw' hu hs hb=>hk w' (h.new (A':=aa w.heap.size l) (G':=λk=>k=w.heap.size) hu ⟨U,hb⟩ λk e=>by omega)
abbrev _root_.Nat.p(n:X):qf:= .mk n 0 I
abbrev A2(w:Y)(l:J N)(t:qh)(k:X->Y->Prop):Prop:=Al w (.cells ⟨l⟩ t) (k w.heap.size)
theorem Ow.a{l:J N}{t:qh}{k:X->Y->Prop}(h:Ow B w0 w R)(hk:∀c w',Ow B w0 w' (aa c l::R)->k c w'):A2 w l t k:=h.al λw' h=>hk _ w' h
theorem Ow.Dt{K ae0:Type}(enc:K->N)(encV:ae0->N){k:Y->Prop}(h:Ow B w0 w R)(hk:∀w',Ow B w0 w' (mU enc encV w.heap.size []::R)->k w'):Al w (.map #[] 0) k:=
 Al.map' λw' hu hs hb=>hk w' (h.new (A':=mU enc encV w.heap.size []) (G':=λk=>k=w.heap.size) hu ⟨U,⟨⟨#[],0,hb,qc,qc,qc⟩,qc⟩⟩ λk e=>by omega)
theorem Ow.dr{k:Y->Prop}(h:Ow B w0 w R)(hk:∀w',Ow B w0 w' R->k w'):Dr w k:=Dr.mk' λw' hu _=>hk w' (h.same hu)
theorem Ow.wV{b:X}{l:J N}(h:Ow B w0 w L)(i:X)(hi:L[i]?=S (aa b l)):sv w b l:=(h.take i hi).head λ_ h=>h.2
theorem Ow.ld{b o n:X}{l:J N}{v:N}(h:Ow B w0 w L)(i:X)(hi:L[i]?=S (aa b l))(hv:l[o+n]?=S v):w.cell? ((Addr.mk b o I).add n)=S v:=(h.wV i hi).Lt hv
theorem Ow.iM{b o:X}{l:J N}{v:N}(h:Ow B w0 w L)(i:X)(hi:L[i]?=S (aa b l))(hv:l[o]?=S v):w.cell? (Addr.mk b o I)=S v:=(h.wV i hi).Ls hv
theorem Ow.set{ae7 A':aH}(h:Ow B w0 w (A'::L.eraseIdx 0))(hi:L[0]?=S ae7):Ow B w0 w (L.set 0 A'):=by
 cases L with
 |nil=>simp at hi
 |cons x L=>simpa using h
def ins{α:Type _}:J α->X->α->J α
 |l,0,a=>a::l
 | [],_+1,a=>[a]
 |x::l,n+1,a=>x::ins l n a
theorem zd{α:Type _}{a x:α}:∀{l:J α}{n:X},x∈ins l n a->x=a\/x∈l
 |l,0,h=>by simpa [ins]using h
 | [],_+1,h=>by simp[ins]at h;exact .inl h
 |y::l,n+1,h=>by
  simp only[ins,Oz]at h;rcases h with h|h
  .exact .inr (by simp[h])
  .rcases zd h with h|h
   .exact .inl h
   .exact .inr (by simp[h])
theorem gi.put{A':aH}{i:X}(h:gi B w (A'::L.eraseIdx i))(hi:i<L.length):gi B w (L.set i A'):=by
 obtain⟨ae3,hA,hG,ae1,h1,h2,h3,h4⟩:=h.cG;refine⟨ins ae1 i (A',ae3),?_,λp hp=>?_,?_⟩
 .have:∀(ae1:J (aH ×(X->Prop)))(L:J aH)(i:X),ae1.map (·.1)=L.eraseIdx i->i<L.length->(ins ae1 i (A',ae3)).map (·.1)=L.set i A':=by
   intro ae1;induction ae1 with
   |nil=>
    intro L i h hi;cases L with
    |nil=>simp at hi
    |cons x L=>
     cases i with
     |zero=>simp at h;subst h;simp[ins]
     |succ i=>simp at h
   |cons z ae1 ih=>
    intro L i h hi;cases L with
    |nil=>simp at hi
    |cons x L=>
     cases i with
     |zero=>simp at h;simp[ins,h]
     |succ i=>
      simp only[OZ,QU,List.cons.injEq]at h;simp only[ins,OZ,OI,h.1];rw[ih L i h.2 (by simpa using hi)]
  exact this ae1 L i h1 hi
 .rcases zd hp with rfl|hp
  .exact ⟨hA,hG⟩
  .exact h2 p hp
 .have:∀(ae1:J (aH ×(X->Prop)))(i:X),ae1.Pairwise (λp q=>∀k,p.2 k->¬q.2 k)->(∀q∈ae1,∀k,ae3 k->¬q.2 k)->(ins ae1 i (A',ae3)).Pairwise (λp q=>∀k,p.2 k->¬q.2 k):=by
   intro ae1;induction ae1 with
   |nil=>intro i _ _;cases i<;>simp[ins]
   |cons z ae1 ih=>
    intro i hp hq;obtain⟨h5,h6⟩:=PB.1 hp;cases i with
    |zero=>simp only[ins];exact PB.2 ⟨hq,hp⟩
    |succ i=>
     simp only[ins];refine PB.2 ⟨λq hq'=>?_,ih i h6 λq hq'=>hq q (by simp[hq'])⟩;rcases zd hq' with rfl|hq'
     .intro k hk hk';exact hq z qc k hk' hk
     .exact h5 q hq'
  exact this ae1 i h3 h4
theorem Ow.put{A':aH}{i:X}(h:Ow B w0 w (A'::L.eraseIdx i))(hi:i<L.length):Ow B w0 w (L.set i A'):=⟨h.base,h.wD,h.held.put hi⟩
theorem dq{α:Type}{L:J α}{i:X}{ae7:α}(h:L[i]?=S ae7):i<L.length:=(Om.1 h).1
theorem Ow.st{b o:X}{l:J N}{v:N}{k:Y->Prop}(h:Ow B w0 w L)(i:X)(hi:L[i]?=S (aa b l))(ho:(l[o]?).isSome=V)(hv:v.oneCell'=V)
  (hk:∀w',Ow B w0 w' (L.set i (aa b (l.set o v)))->k w'):St w ⟨b,o,I⟩ v k:=
 St.mk' (h.wV i hi) (by simpa using ho) hv λw' hu hs hb=>hk w' (((h.take i hi).step (A':=aa b (l.set o v)) λae3 hA hG=>⟨hu.mono λk _ e=>by rw[e];exact hA.1,ae3,⟨hA.1,hb⟩,λk hk=>⟨.inl hk,by have:=(hG k hk).2;omega⟩⟩).put (dq hi))
theorem Ow.Oi{b o n:X}{l:J N}{v:N}{k:Y->Prop}(h:Ow B w0 w L)(i:X)(hi:L[i]?=S (aa b l))(ho:(l[o+n]?).isSome=V)(hv:v.oneCell'=V)
  (hk:∀w',Ow B w0 w' (L.set i (aa b (l.set (o+n) v)))->k w'):St w ((Addr.mk b o I).add n) v k:=by
 rw[aO];exact h.st i hi ho hv hk
theorem wr{x:O}(h1: -9223372036854775808<=x)(h2:x<9223372036854775808):qd.wrap x=x:=by
 have e1:(2:O)^64=18446744073709551616:=qb
 have e2:(2:O)^63=9223372036854775808:=qb
 simp only[IntKind.wrap,IntKind.bits,IntKind.signed,Nat.reduceSub,e1,e2,Qa,qA];split<;>omega
theorem wI(i:X)(h:i<9223372036854775807):qd.wrap ((i:O)+1)=((i+1:X):O):=by rw[wr om om];omega
theorem K8{x:O}(h1:0<=x)(h2:x<18446744073709551616):qq.wrap x=x:=by
 have e1:(2:O)^64=18446744073709551616:=qb
 simp only[IntKind.wrap,IntKind.bits,IntKind.signed,e1,Bool.false_and,OF,qx];omega
structure dF(α:Type)where
 z:X
 enc:α->J N
 len:∀x,(enc x).length=z
 one:∀x,∀v∈enc x,v.oneCell'=V
 pos:1<=z
def aB:dF O:=⟨1,λn=>[.int .i64 n],λ_=>rfl,λx v h=>by simp at h;subst h;rfl,On _⟩
theorem aK{α:Type}(E:dF α):∀(xs:J α),(xs.flatMap E.enc).length=xs.length*E.z
 | []=>by simp
 |x::xs=>by simp[aK E xs,E.len,Qu,RZ]
theorem nA{α:Type}(E:dF α):∀(xs:J α)(j c:X)(x:α),xs[j]?=S x->c<E.z->(xs.flatMap E.enc)[j*E.z+c]?=(E.enc x)[c]?
 | [],j,c,x,h,_=>by simp at h
 |y::xs,0,c,x,h,hc=>by simp at h;subst h;simp only[PO,Rh,OJ];rw[Oy (by rw[E.len];exact hc)]
 |y::xs,j+1,c,x,h,hc=>by simp only[PO];have:=nA E xs j c x (by simpa using h) hc;rw[OA (by rw[E.len,Qu];omega),E.len,Qu];rw[show j*E.z+E.z+c-E.z=j*E.z+c from by omega];exact this
theorem nB{α:Type}(E:dF α):∀(xs:J α)(j:X)(x:α),j<xs.length->(xs.set j x).flatMap E.enc=putAt (xs.flatMap E.enc) (j*E.z) (E.enc x)
 | [],j,x,h=>by simp at h
 |y::xs,0,x,h=>by
  have:∀(us vs cs:J N),us.length=vs.length->putAt (us++cs) 0 vs=vs++cs:=by
   intro us;induction us with
   |nil=>intro vs cs h;cases vs with|nil=>simp[jD]|cons _ _=>simp at h
   |cons u us ih=>intro vs cs h;cases vs with|nil=>simp at h|cons v vs=>simp[putAt,ih vs cs (by simpa using h)]
  simp only[List.set_cons_zero,PO,Rh];rw[this _ _ _ (by rw[E.len,E.len])]
 |y::xs,j+1,x,h=>by
  have:∀(us cs vs:J N)(o:X),putAt (us++cs) (us.length+o) vs=us++putAt cs o vs:=by
   intro us;induction us with
   |nil=>intro cs vs o;simp
   |cons u us ih=>
    intro cs vs o;simp only[List.cons_append,OB];rw[show us.length+1+o=(us.length+o)+1 from by omega];cases vs with
    |nil=>rw[jD,jD]
    |cons v vs=>simp only[putAt];rw[ih]
  simp only[OI,PO,Qu];rw[nB E xs j x (by simpa using h),show j*E.z+E.z=(E.enc y).length+j*E.z from by rw[E.len];omega,this]
def af{α:Type}(E:dF α)(s:Sl)(xs:J α):aH where
 holds ae3 w:=s.In ae3/\s.len=xs.length/\lf E.z w s (xs.flatMap E.enc)
 loc ae3 w w' h hk:=⟨h.1,h.2.1,((FZ E.z s _).loc ae3 w w' ⟨h.1,h.2.2⟩ hk).2⟩
 up ae3 G' w h hk:=⟨λa ha=>hk _ (h.1 a ha),h.2⟩
end
section
variable{P:qo}{B:X}{w0 w:Y}{L R:J aH}{α:Type}{E:dF α}
theorem Ow.wN{s:Sl}{xs:J α}(h:Ow B w0 w L)(i:X)(hi:L[i]?=S (af E s xs)):lf E.z w s (xs.flatMap E.enc):=(h.take i hi).head λ_ h=>h.2.2
theorem Ow.len{s:Sl}{xs:J α}(h:Ow B w0 w L)(i:X)(hi:L[i]?=S (af E s xs)):s.len=xs.length:=(h.take i hi).head λ_ h=>h.2.1
theorem lf.get{s:Sl}{xs:J α}(h:lf E.z w s (xs.flatMap E.enc)){j:X}{x:α}(hj:xs[j]?=S x):
  ∃b o,s.a=S ⟨b,o,I⟩/\∀c v,(E.enc x)[c]?=S v->w.cell? ⟨b,o+(j*E.z+c),I⟩=S v:=by
 have hz:=E.pos;have hg:∀c v,(E.enc x)[c]?=S v->(xs.flatMap E.enc)[j*E.z+c]?=S v:=λc v hv=>by rw[nA E xs j c x hj (by have:=(Om.1 hv).1;rw[E.len]at this;exact this)];exact hv
 cases h with
 |nil ha hl hc hcs=>
  have hl:=aK E xs;rw[hcs]at hl;have:xs.length=0:=by
   rcases R5.1 hl.symm with h|h
   .exact h
   .omega
  have:=(Om.1 hj).1;omega
 |mk b o l ha hb hl hc hcs=>
  refine⟨b,o,ha,λc v hv=>?_⟩;obtain⟨b',o',ha',h'⟩:=lf.cell (.mk b o l ha hb hl hc hcs:lf E.z w s (xs.flatMap E.enc)) (hg c v hv);rw[ha]at ha';simp only[Option.some.injEq,Addr.mk.injEq]at ha';rw[ha'.1,ha'.2.1];exact h'
theorem Ow.get{s:Sl}{xs:J α}(h:Ow B w0 w L)(i:X)(hi:L[i]?=S (af E s xs)){j:X}{x:α}(hj:xs[j]?=S x):
  ∃b o,s.a=S ⟨b,o,I⟩/\∀c v,(E.enc x)[c]?=S v->w.cell? ⟨b,o+(j*E.z+c),I⟩=S v:=(h.wN i hi).get hj
theorem Ow.GJ{s:Sl}{xs:J O}(h:Ow B w0 w L)(i:X)(hi:L[i]?=S (af aB s xs)){j:X}{x:O}(hj:xs[j]?=S x):
  ∃a,s.a=S a/\w.cell? (a.add (j*1))=S (.int .i64 x):=by
 obtain⟨b,o,ha,hc⟩:=h.get i hi hj;exact⟨_,ha,by rw[aO];exact hc 0 _ U⟩
theorem Ow.N4{s:Sl}{xs:J α}{k:Y->Prop}(h:Ow B w0 w L)(i:X)(hi:L[i]?=S (af E s xs)){j:X}(hj:j<xs.length)(x:α){b o:X}(ha:s.a=S ⟨b,o,I⟩)
  {v:N} (hx:E.enc x= [v]) (hk:∀w',Ow B w0 w' (L.set i (af E s (xs.set j x)))->k w'):St w ⟨b,o+j*E.z,I⟩ v k:=by
 have hz:E.z=1:=by rw[<-E.len x,hx];rfl
 have hone:v.oneCell'=true:=E.one x v (by rw[hx];simp);have hs:=h.wN i hi;have hl:=h.len i hi;cases hs with
 |nil ha' _ _ _=>rw[ha']at ha;cases ha
 |mk b' o' l ha' hb hle hc hcs=>
  rw[ha']at ha;simp only[Option.some.injEq,Addr.mk.injEq,and_true]at ha;obtain⟨rfl,rfl⟩:=ha;have hfl:=aK E xs;have hlt:j*E.z<xs.length*E.z:=by rw[hz];omega
  have hle2:s.len*E.z<=s.cap*E.z:=OU _ hle;rw[<-hl]at hlt;refine St.mk' hb om hone λw' hu hsz hb'=>hk w' (((h.take i hi).step (A':=af E s (xs.set j x)) λae3 hA hG=>⟨hu.mono λk _ e=>by rw[e];exact hA.1 _ ha',ae3,⟨hA.1,by simpa using hl,?_⟩,λk hk=>⟨.inl hk,by have:=(hG k hk).2;omega⟩⟩).put (dq hi));refine .mk b' o' _ ha' hb' hle (by simpa using hc) ?_;rw[nB E xs j x hj,hx,hcs];have key:∀(l:J N)(o n m:X),o+n<=l.length->m<n->putAt ((l.drop o).take n) m [v]=((l.set (o+m) v).drop o).take n:=by
   intro l o n m h1 h2;apply O2;intro t;rw[cY _ _ _ _ (by simp;omega)];simp only[List.length_singleton,OM,OP,Pb];by_cases e:m=t
   .subst e
    rw[A om,A h2,A U,A om];simp
   .rw[Q om,Q (show ¬o+m=o+t by omega)]
  exact key l o' (s.len*E.z) (j*E.z) om hlt
theorem Ow.Lo{T el:qh}{inf:qJ}{zv:N}{s x:Sl}{xs ys:J α}{k:Sl->Y->Prop}
  (hu:P.underlying T=S (.slice el)) (hi:P.info? el=S inf) (hz:inf.zero=S zv) (hsz:inf.size=E.z) (hzc:zv.cells.size=E.z) (hb:1<=inf.bytes)
  (h:Ow B w0 w L) (i:X) (hL:L[i]?=S (af E s xs)) (hdl:(ys.flatMap E.enc).length=x.len*E.z) (hnew:∀aeZ:Y,aeZ.heap=w.heap->(Builtin.firstCells E.z x.len (.slice x.a x.len x.cap)).run P aeZ= .ok ⟨ys.flatMap E.enc⟩ aeZ) (hxl:x.len=ys.length) (hbig:(17*(xs.length+ys.length)+16000)*inf.bytes<=2^48)
  (hk:∀s' w',s'.len=xs.length+ys.length->Ow B w0 w' (L.set i (af E s' (xs++ys)))->k s' w'):
  ∃s' w',aP P [T,T] T (.slice s.a s.len s.cap) (.slice x.a x.len x.cap) w s' w'/\k s' w':=by
 have hs:=h.wN i hL;have hl:=h.len i hL;have hone:∀v∈ys.flatMap E.enc,v.oneCell'=true:=λv hv=>by obtain⟨y,_,hy⟩:=Rl.1 hv;exact E.one y v hy
 obtain⟨s',w',h1,h2,h3⟩:=Gj (P:=P) (T:=T) hu hi hz hsz hzc hb hs hdl hnew hone (by rw[hl,hxl];exact hbig);refine⟨s',w',h1,hk s' w' (by rw[h2,hl,hxl]) (((h.take i hL).step (A':=af E s' (xs++ys)) λae3 hA hG=>⟨h3.wD.mono λk _⟨a,ha,e⟩=>by rw[<-e];exact hA.1 a ha,λk=>s'.In (λj=>j≠k)->qj,⟨?_,?_,?_⟩,?_⟩).put (dq hL))⟩
 .intro a ha hn;exact hn a ha U
 .rw[h2,hl,hxl,Ov]
 .rw[Pd];exact h3.own
 .intro k hk
  have:∃a,s'.a=S a/\a.block=k:=by refine Classical.byContradiction λhn=>hk λa ha e=>hn ⟨a,ha,e⟩
  obtain⟨a,ha,rfl⟩:=this;refine⟨?_,h3.own.lt a ha⟩;rcases h3.here a ha with⟨a0,h4,h5⟩|h4
  .rw[<-h5];exact .inl (hA.1 a0 h4)
  .exact .inr om
theorem Ow.app{T el:qh}{inf:qJ}{zv:N}{s x:Sl}{xs ys:J α}{k:Sl->Y->Prop}
  (hu:P.underlying T=S (.slice el)) (hi:P.info? el=S inf) (hz:inf.zero=S zv) (hsz:inf.size=E.z) (hzc:zv.cells.size=E.z) (hb:1<=inf.bytes)
  (h:Ow B w0 w L) (i:X) (hL:L[i]?=S (af E s xs)) (hx:lf E.z w x (ys.flatMap E.enc)) (hxl:x.len=ys.length) (hbig:(17*(xs.length+ys.length)+16000)*inf.bytes<=2^48)
  (hk:∀s' w',s'.len=xs.length+ys.length->Ow B w0 w' (L.set i (af E s' (xs++ys)))->k s' w'):
  ∃s' w',aP P [T,T] T (.slice s.a s.len s.cap) (.slice x.a x.len x.cap) w s' w'/\k s' w':=
 Ow.Lo hu hi hz hsz hzc hb h i hL hx.length (vk hx) hxl hbig hk
theorem Ow.ID{T el:qh}{inf:qJ}{zv:N}{s:Sl}{xs:J α}{y:α}{b:X}{k:Sl->Y->Prop}
  (hu:P.underlying T=S (.slice el)) (hi:P.info? el=S inf) (hz:inf.zero=S zv) (hsz:inf.size=E.z) (hzc:zv.cells.size=E.z) (hb:1<=inf.bytes)
  (h:Ow B w0 w (aa b (E.enc y)::L)) (i:X) (hL:L[i]?=S (af E s xs)) (hbig:(17*(xs.length+1)+16000)*inf.bytes<=2^48)
  (hk:∀s' w',s'.len=xs.length+1->Ow B w0 w' (L.set i (af E s' (xs++ [y])))->k s' w'):
  ∃s' w',aP P [T,T] T (.slice s.a s.len s.cap) (.slice (S (Addr.mk b 0 I)) 1 1) w s' w'/\k s' w':=by
 have hx:lf E.z w ⟨S (Addr.mk b 0 I),1,1⟩ ([y].flatMap E.enc):=by
  refine .mk b 0 (E.enc y) U (h.wV 0 U) (On _) (by simp[E.len]) ?_;have:(1:X)*E.z=(E.enc y).length:=by rw[E.len];omega
  simp only[PO,List.flatMap_nil,OD,P6,this,Qr]
 have h':Ow B w0 w L:=h.drop;exact h'.app (x:=⟨S (Addr.mk b 0 I),1,1⟩) (ys:=[y]) hu hi hz hsz hzc hb i hL hx U (by simpa using hbig) (by simpa using hk)
theorem lf.no{z:X}{w':Y}{s:Sl}{cs:J N}(h:lf z w s cs)(u:ia No w w'):lf z w' s cs:=h.wD u λ_ _ h=>h
theorem lf.sub{z:X}{s:Sl}{cs:J N}(h:lf z w s cs){l hh:X}(hl:l<=hh)(hh':hh<=s.len):lf z w ⟨eH s.a l s.cap z,hh-l,s.cap-l⟩ ((cs.take (hh*z)).drop (l*z)):=by
 cases h with
 |nil ha h1 h2 h3=>
  have:l=0/\hh=0:=om
  obtain⟨rfl,rfl⟩:=this;exact .nil (by simp[eH,ha]) U (by simp[h2]) (by simp[h3])
 |mk b o ls ha hb hle hc hcs=>
  have m1:l*z<=hh*z:=OU _ hl;have m2:hh*z<=s.len*z:=OU _ hh';have m3:s.len*z<=s.cap*z:=OU _ hle;by_cases e:s.cap=l
  .have e2:hh=l:=om
   refine .mk b o ls (by simp[eH,e,ha]) hb ?_ ?_ ?_
   .show hh-l<=s.cap-l
    omega
   .show o+(s.cap-l)*z<=ls.length
    rw[e,P0,Rh];omega
   .rw[e2]
    simp only[P0,Rh,List.take_zero];apply QB;rw[OO];omega
  .refine .mk b (o+l*z) ls ?_ hb ?_ ?_ ?_
   .simp only[eH,Q e,ha,PC,aO]
   .show hh-l<=s.cap-l
    omega
   .show o+l*z+(s.cap-l)*z<=ls.length
    rw[Si];omega
   .show _=(ls.drop (o+l*z)).take ((hh-l)*z)
    rw[hcs,QL,Pv m2,Si,List.drop_take,Pz]
theorem Ow.yK{b:X}{l l':J N}(h:Ow B w0 w (aa b l::R))(e:l=l'):Ow B w0 w (aa b l'::R):=e▸h
theorem aT{id:X}{first cap:qn N}{args:J N}{R:Ending->Y->Prop}(h:okF P id (Calls P id (first++⟨args⟩++cap) w R)):cT P (.func (.func id) first cap) args w R:=⟨id,first,cap,U,h⟩
theorem Ow.empty{b:X}(h:Ow B w0 w (aa b []::R)):Ow B w0 w (af E ⟨S (Addr.mk b 0 I),0,0⟩ []::R):=
 h.conv λae3 hG=>⟨λa ha=>by cases ha;exact hG.1,U,.mk b 0 [] U hG.2 (On _) qc qc⟩
theorem Ow.cH(h:Ow B w0 w R):Ow B w0 w (af E ⟨I,0,0⟩ []::R):=by have:=Ow.cZ (p:=G) trivial h;exact this.conv λae3 _=>⟨(λa ha=>by cases ha),rfl,.nil U U U U⟩
theorem FH(a:qg qf)(cap z:X)(h:∀x,a=S x->x.spot=I):eH a 0 cap z=a:=by
 unfold eH;split
 .rfl
 .cases a with
  |none=>rfl
  |some x=>simp[Addr.add]
theorem lf.spot{z:X}{s:Sl}{cs:J N}(h:lf z w s cs):∀x,s.a=S x->x.spot=none:=λx hx=>by
 cases h with
 |nil ha _ _ _=>rw[ha]at hx;cases hx
 |mk b o l ha _ _ _ _=>rw[ha]at hx;cases hx;rfl
theorem Ow.pre{s:Sl}{xs:J α}(h:Ow B w0 w L)(i:X)(hi:L[i]?=S (af E s xs)){n:X}(hn:n<=xs.length):Ow B w0 w (L.set i (af E ⟨s.a,n,s.cap⟩ (xs.take n))):=by
 refine(Ow.conv (h.take i hi) λae3 hG=>?_).put (dq hi);have hfl:=aK E xs;refine⟨λa ha=>hG.1 a ha,by simp[hn],?_⟩;have htake:(xs.take n).flatMap E.enc=(xs.flatMap E.enc).take (n*E.z):=by
  have h1:xs.flatMap E.enc=(xs.take n).flatMap E.enc++(xs.drop n).flatMap E.enc:=by rw[<-Pd,O8]
  have h2:((xs.take n).flatMap E.enc).length=n*E.z:=by rw[aK];simp[hn]
  rw[h1,<-h2,QK]
 cases hG.2.2 with
 |nil ha hl hc hcs=>
  have h0:xs.length=0:=by rw[<-hG.2.1];exact hl
  have:n=0:=om
  subst this;exact .nil ha U hc qc
 |mk b o l ha hb hl hc hcs=>
  have:=hG.2.1;refine .mk b o l ha hb (by show n<=s.cap;omega) hc ?_;rw[htake,hcs];show _=(l.drop o).take (n*E.z);rw[QL];congr 1;have:n*E.z<=s.len*E.z:=OU _ om;omega
theorem Ow.clear{T el t:qh}{zv:N}{z0:α}{s:Sl}{xs:J α}{C:Y->Prop}(hu:P.underlying T=S (.slice el))(hz:∀w,(qE el).run P w= .ok zv w)(hzc:zv.cells.toList=E.enc z0)
  (h:Ow B w0 w L) (i:X) (hi:L[i]?=S (af E s xs)) {n:X} (hn:n<=xs.length) (hC:∀w',Ow B w0 w' (L.set i (af E s (xs.take n++Oq (xs.length-n) z0)))->C w'):
  ∃w',jb P [T] t (.slice (eH s.a n s.cap E.z) (s.len-n) (s.cap-n)) w w'/\C w':=by
 have hs:=h.wN i hi;have hl:=h.len i hi;by_cases hnl:n=xs.length
 .refine ⟨w,?_,hC w ?_⟩
  .unfold jb Builtin.clear_
   have:s.len-n=0:=om
   rw[this];simp only[PX,PA,Sem.run_bind,aS hu,Result.andThen_ok];cases eH s.a n s.cap E.z<;>rfl
  .have:xs.take n++Oq (xs.length-n) z0=xs:=by rw[hnl];simp
   rw[this];have hset:L.set i (af E s xs)=L:=by
    apply O2;intro j;rw[Pb];by_cases e:i=j
    .subst e;rw[A U,A (dq hi),hi]
    .simp[e]
   rw[hset];exact h
 .cases hs with
  |nil ha hl' hc hcs=>omega
  |mk b o l ha hb hle hc hcs=>
   have hzl:zv.cells.size=E.z:=by rw[<-Pr,hzc,E.len]
   have hfl:=aK E xs;have hlt:n<s.len:=om
   have hmul:s.len*E.z<=s.cap*E.z:=OU _ hle;have hnm:n*E.z<=s.len*E.z:=OU _ om;have hA:eH s.a n s.cap E.z=S ⟨b,o+n*E.z,I⟩:=by unfold eH;rw[Q om,ha];simp only[PC,aO]
   let zs:J N:=(Builtin.zeroCells zv.cells (s.len-n)).toList
   have hzs:zs=(Oq (xs.length-n) z0).flatMap E.enc:=by
    have h1:(Builtin.zeroCells zv.cells (s.len-n))=⟨rep (s.len-n) zv.cells.toList⟩:=by unfold Builtin.zeroCells;exact sm zv.cells (s.len-n) (by rw[hzl];exact E.pos)
    have h2:∀m,rep m (E.enc z0)=(Oq m z0).flatMap E.enc:=by
     intro m;induction m with
     |zero=>rfl
     |succ m ih=>simp[rep,Q5,ih]
    show(Builtin.zeroCells zv.cells (s.len-n)).toList=_;rw[h1,hzc,h2,hl]
   have hzlen:zs.length=(s.len-n)*E.z:=by rw[hzs,aK];simp[hl]
   have hroom:o+n*E.z+zs.length<=l.length:=by rw[hzlen,Si];omega
   have hone:∀v∈zs,v.oneCell'=true:=λv hv=>by rw[hzs]at hv;obtain⟨y,_,hy⟩:=Rl.1 hv;exact E.one y v hy
   obtain⟨w',h1,h2,h3,h4⟩:=gY (P:=P) zs l (o+n*E.z) w hb hroom hone 0 (o+n*E.z) om;refine⟨w',?_,hC w' (((h.take i hi).step (A':=af E s (xs.take n++Oq (xs.length-n) z0)) λae3 hA' hG=>⟨h2.mono λk _ e=>by rw[e];exact hA'.1 _ ha,ae3,⟨hA'.1,?_,?_⟩,λk hk=>⟨.inl hk,by have:=(hG k hk).2;omega⟩⟩).put (dq hi))⟩
   .unfold jb Builtin.clear_
    rw[hA];obtain⟨d,hd⟩:∃d,s.len-n=d+1:=⟨s.len-n-1,om⟩
    simp only[PX,PA,Sem.run_bind,aS hu,Result.andThen_ok];have h1':(storeCells ⟨b,o+n*E.z,I⟩ (Builtin.zeroCells zv.cells (d+1)).toList).run P w= .ok () w':=by rw[<-hd];exact h1
    rw[hd];simp only[hz,Sem.run_bind,Result.andThen_ok,h1'];rfl
   .simp[hl];omega
   .refine .mk b o _ ha h4 hle (by rw[gR];exact hc) ?_
    have hpre:(xs.take n).flatMap E.enc=(xs.flatMap E.enc).take (n*E.z):=by
     have g1:xs.flatMap E.enc=(xs.take n).flatMap E.enc++(xs.drop n).flatMap E.enc:=by rw[<-Pd,O8]
     have g2:((xs.take n).flatMap E.enc).length=n*E.z:=by rw[aK];simp[hn]
     rw[g1,<-g2,QK]
    rw[Pd,<-hzs,hpre,hcs];apply O2;intro t;rw[OM,OP,cY _ _ _ _ hroom,QL,Pv hnm];by_cases e:t<n*E.z
    .rw[Oy (by simp;omega),OM,A e,OP,A om,Q om]
    .have hl2:(List.take (n*E.z) (List.drop o l)).length=n*E.z:=by simp;omega
     rw[OA om,hl2];by_cases e2:t<s.len*E.z
     .rw[A e2,A (by rw[hzlen,Si];omega)]
      congr 1;omega
     .rw[Q e2]
      apply OQ;rw[hzlen,Si];omega
theorem Ow.tI{T kt el:qh}{K ae0:Type}[qO K]{enc:K->N}{encV:ae0->N}{m:X}{M:J (K × ae0)}{k:K}{v:ae0}(hu:P.underlying T=S (.map kt el))(hk:kv P kt enc)
  (h:Ow B w0 w L) (i:X) (hi:L[i]?=S (mU enc encV m M)) (hl:dO M k=S v):tz P T (.map (S m)) (enc k) (encV v) V w/\z7 P T (.map (S m)) (enc k) (encV v) w:=
 ((h.take i hi).head λ_ h=>h.2).E2 hu hk hl
theorem Ow.vw{T kt el:qh}{K ae0:Type}[qO K]{enc:K->N}{encV:ae0->N}{m:X}{M:J (K × ae0)}{k:K}{z:N}(hu:P.underlying T=S (.map kt el))(hk:kv P kt enc)(hz:∀w,(qE el).run P w= .ok z w)
  (h:Ow B w0 w L) (i:X) (hi:L[i]?=S (mU enc encV m M)) (hl:dO M k=I):tz P T (.map (S m)) (enc k) z Z w/\z7 P T (.map (S m)) (enc k) z w:=
 ((h.take i hi).head λ_ h=>h.2).fX hu hk hz hl
theorem Ow.kM{T kt el:qh}{K ae0:Type}[qO K]{enc:K->N}{encV:ae0->N}{m:X}{M:J (K × ae0)}{k:K}{v:ae0}{C:Y->Prop}(hu:P.underlying T=S (.map kt el))(hk:kv P kt enc)
  (h:Ow B w0 w L) (i:X) (hi:L[i]?=S (mU enc encV m M)) (hC:∀w',Ow B w0 w' (L.set i (mU enc encV m (jL M k v)))->C w'):∃w',gK P T (.map (S m)) (enc k) (encV v) w w'/\C w':=by
 obtain⟨w',h1,h2,h3,h4⟩:=((h.take i hi).head λ_ h=>h.2).put (P:=P) (T:=T) hu hk k v;exact⟨w',h1,hC w' (((h.take i hi).step (A':=mU enc encV m (jL M k v)) λae3 hA hG=>⟨h2.mono λk _ e=>by rw[e];exact hA.1,ae3,⟨hA.1,h4⟩,λk hk=>⟨.inl hk,by have:=(hG k hk).2;omega⟩⟩).put (dq hi))⟩
theorem Ow.Je{T kt el t:qh}{ts:J qh}{K ae0:Type}[qO K]{enc:K->N}{encV:ae0->N}{m:X}{M:J (K × ae0)}{k:K}{C:Y->Prop}(hu:P.underlying T=S (.map kt el))(hk:kv P kt enc)
  (h:Ow B w0 w L) (i:X) (hi:L[i]?=S (mU enc encV m M)) (hC:∀w',Ow B w0 w' (L.set i (mU enc encV m (lh M k)))->C w'):∃w',yz P (T::ts) t (.map (S m)) (enc k) w w'/\C w':=by
 obtain⟨w',h1,h2,h3,h4⟩:=((h.take i hi).head λ_ h=>h.2).del (P:=P) (T:=T) (t:=t) (ts:=ts) hu hk k;exact⟨w',h1,hC w' (((h.take i hi).step (A':=mU enc encV m (lh M k)) λae3 hA hG=>⟨h2.mono λk _ e=>by rw[e];exact hA.1,ae3,⟨hA.1,h4⟩,λk hk=>⟨.inl hk,by have:=(hG k hk).2;omega⟩⟩).put (dq hi))⟩
structure El{α:Type}(E:dF α)(w0:Y)(s:Sl)(xs:J α):Prop where
 len:s.len=xs.length
 cap:s.len<=s.cap
 LI:∀j x,xs[j]?=S x->∃a,s.a=S a/\a.block<w0.heap.size/\∀c v,(E.enc x)[c]?=S v->w0.cell? ((a.add (j*E.z)).add c)=S v
theorem oh(a:qf)(n:X):(a.add n).block=a.block:=by unfold Addr.add;split<;>rfl
theorem add_nil(a:qf):a.add 0=a:=by simp[Addr.add]
theorem El.get{α:Type}{E:dF α}{w0 w:Y}{s:Sl}{xs:J α}{L:J aH}(hi:El E w0 s xs)(h:Ow w0.heap.size w0 w L){j:X}{x:α}(hj:xs[j]?=S x):
  ∃a,s.a=S a/\∀c v,(E.enc x)[c]?=S v->w.cell? ((a.add (j*E.z)).add c)=S v:=by
 obtain⟨a,h1,h2,h3⟩:=hi.LI j x hj;refine⟨a,h1,λc v hv=>?_⟩;rw[h.below.cell (by rw[oh,oh];exact h2)];exact h3 c v hv
theorem El.lt{α:Type}{E:dF α}{w0:Y}{s:Sl}{xs:J α}(h:El E w0 s xs){i:X}(hi:(i:O)<(s.len:O)):∃x,xs[i]?=S x:=⟨_,gE (by have:=h.len;omega)⟩
theorem HZ(a:qg qf)(m z:X):eH a 0 m z=a:=by
 unfold eH;split
 .rfl
 .cases a with
  |none=>rfl
  |some x=>simp[Addr.add]
theorem yG(a:qf)(i j:X):(a.add i).add j=a.add (i+j):=by
 unfold Addr.add;by_cases hj:j=0
 .subst hj;simp
 .by_cases hi:i=0
  .subst hi;simp[hj]
  .simp[hi,hj,Ql]
end
section
variable{P:qo}{α:Type}{E:dF α}{w0 w:Y}{L:J aH}
theorem rr(E:dF α):∀(xs:J α)(i:X)(v:N),(xs.flatMap E.enc)[i]?=S v->∃j x c,xs[j]?=S x/\(E.enc x)[c]?=S v/\i=j*E.z+c
 | [],i,v,h=>by simp at h
 |x::xs,i,v,h=>by
  rw[PO]at h;by_cases hi:i<E.z
  .rw[Oy (by rw[E.len];exact hi)]at h
   exact⟨0,x,i,U,h,om⟩
  .rw[OA (by rw[E.len];omega),E.len]at h
   obtain⟨j,y,c,h1,h2,h3⟩:=rr E xs (i-E.z) v h;exact⟨j+1,y,c,h1,h2,by rw[PJ];omega⟩
theorem Ow.Mr{T el:qh}{inf:qJ}{zv:N}{s x:Sl}{xs ys:J α}{n:X}{k:Sl->Y->Prop}
  (hu:P.underlying T=S (.slice el)) (hf:P.info? el=S inf) (hz:inf.zero=S zv) (hsz:inf.size=E.z) (hzc:zv.cells.size=E.z) (hb:1<=inf.bytes) (hi:El E w0 x ys) (hn:n<=ys.length)
  (h:Ow w0.heap.size w0 w L) (i:X) (hL:L[i]?=S (af E s xs)) (hbig:(17*(xs.length+n)+16000)*inf.bytes<=2^48)
  (hk:∀s' w',s'.len=xs.length+n->Ow w0.heap.size w0 w' (L.set i (af E s' (xs++ys.take n)))->k s' w'):
  ∃s' w',aP P [T,T] T (.slice s.a s.len s.cap) (.slice (eH x.a 0 x.cap E.z) (n-0) (x.cap-0)) w s' w'/\k s' w':=by
 rw[HZ];have hl:(ys.take n).length=n:=by rw[OO];omega
 refine Ow.Lo (x:=⟨x.a,n-0,x.cap-0⟩) (ys:=ys.take n) hu hf hz hsz hzc hb h i hL (by rw[aK,hl];rfl) (λaeZ hW=>?_) (by rw[hl];rfl) (by rw[hl];exact hbig) (by rw[hl];exact hk);cases hx:x.a with
 |none=>
  have hy:ys.take n= []:=by
   cases ys with
   |nil=>simp
   |cons y ys=>obtain⟨a,ha,_⟩:=hi.LI 0 y U;rw[hx]at ha;cases ha
  rw[hy];rfl
 |some a=>
  have hc:∀j v,((ys.take n).flatMap E.enc)[j]?=S v->aeZ.cell? (a.add j)=S v:=λj v hv=>by
   obtain⟨q,y,c,h1,h2,h3⟩:=rr E _ j v hv;rw[OM]at h1;split at h1
   .obtain ⟨a',ha',hg⟩:=hi.get h h1
    rw[hx]at ha';cases ha';have:=hg c v h2;rw[yG]at this;rw[h3];unfold World.cell? at this|-;rw[hW];exact this
   .cases h1
  have hlen:((ys.take n).flatMap E.enc).length=n*E.z:=by rw[aK,hl]
  simp only[Builtin.firstCells];unfold loadCells;have:=di (P:=P) aeZ a ((ys.take n).flatMap E.enc) 0 #[] (λj v hj=>by rw[dz]at hj;rw[OJ];exact hc j v hj);rw[hlen]at this;rw[show n-0=n from U,this];simp
def IW(f:qh->J N->J N->qg W)(z:qh->X)(xs ys:J N):J (qh × X)->qg W
 | []=>S V
 |(t,o)::r=>match f t ((xs.drop o).take (z t)) ((ys.drop o).take (z t)),IW f z xs ys r with
  |some p,S q=>S (p&&q)
  |_,_=>I
def pw(P:qo):X->qh->J N->J N->qg W
 |0,_,_,_=>I
 |d+1,t,xs,ys=>match P.underlying t with
  |some .bool=>(match xs,ys with| [.bool a],[.bool b]=>S (a==b)|_,_=>I)
  |some (.int _)=>(match xs,ys with| [.int k a],[.int k' b]=>if k=k' then S (a==b)else I|_,_=>I)
  |some .string=>(match xs,ys with| [.string a],[.string b]=>S (a==b)|_,_=>I)
  |some (.array n e)=>if Pk (P.cellsOf e) 0 then I else IW (pw P d) P.cellsOf xs ys ((OC n).map λi=>(e,i*P.cellsOf e))
  |some (.struct fs)=>if P.stoodInHeld t||fs.any (λf=>f.name== "_" ||Pk (P.cellsOf f.type) 0) then I else IW (pw P d) P.cellsOf xs ys (fs.toList.map λf=>(f.type,f.offset))
  |_=>I
def mR(P:qo)(t:qh)(xs:J N):N:=match P.underlying t with
 |some (.array _ _)|some (.struct _)=> .agg ⟨xs⟩
 |_=>xs.headD (.bool Z)
theorem zl{P:qo}{t:qh}{d:X}{xs ys:J N}{o:X}{r:W}(z0:P.cellsOf t≠0)(h:pw P d t ((xs.drop o).take (P.cellsOf t)) ys=S r\/pw P d t ys ((xs.drop o).take (P.cellsOf t))=S r)(w:Y):
  (part t ⟨xs⟩ o).run P w= .ok (mR P t ((xs.drop o).take (P.cellsOf t))) w:=by
 have key:∀v,(xs.drop o).take (P.cellsOf t)= [v]->xs[o]?=S v:=λv hv=>by
  have:((xs.drop o).take (P.cellsOf t))[0]?=S v:=by rw[hv];rfl
  rw[OM,A om,OP]at this;simpa using this
 cases d with
 |zero=>rcases h with h|h<;>simp[pw]at h
 |succ d=>
  cases hu:P.underlying t with
  |none=>rcases h with h|h<;>simp[pw,hu]at h
  |some k=>
   have hi:∃i,P.info? t=S i:=by
    cases hi:P.info? t with
    |none=>simp[Program.underlying,hi]at hu
    |some i=>exact⟨i,U⟩
   obtain⟨i,hi⟩:=hi;have plain:(∃v,(xs.drop o).take (P.cellsOf t)= [v])->(∀n e,k≠ .array n e)->(∀fs,k≠ .struct fs)->(part t ⟨xs⟩ o).run P w= .ok (mR P t ((xs.drop o).take (P.cellsOf t))) w:=by
    intro⟨v,hv⟩ n1 n2;have hx:=key v hv;have hx':(⟨xs⟩:qn N)[o]?=S v:=by simpa using hx
    rw[hv];cases k<;>simp_all [part,isAgg,run_underlying hu,mR]
   cases k with
   |array n e=>
    simp[part,isAgg,run_underlying hu,run_sizeOf w hi,mR,hu,List.extract]
   |struct fs=>simp[part,isAgg,run_underlying hu,run_sizeOf w hi,mR,hu,List.extract]
   |bool=>
    refine plain ?_ (by intros;simp) (by intros;simp);rcases h with h|h<;>simp only[pw,hu]at h<;>split at h<;>simp_all
   |int q=>
    refine plain ?_ (by intros;simp) (by intros;simp);rcases h with h|h<;>simp only[pw,hu]at h<;>split at h<;>simp_all
   |string=>
    refine plain ?_ (by intros;simp) (by intros;simp);rcases h with h|h<;>simp only[pw,hu]at h<;>split at h<;>simp_all
   |_=>rcases h with h|h<;>simp[pw,hu]at h
theorem sB{P:qo}:∀(d:X){t:qh}{xs ys:J N}{r:W},pw P d t xs ys=S r->∀(dd:X)(w:Y),d<=dd->(Op.equalIn dd t (mR P t xs) (mR P t ys)).run P w= .ok r w:=by
 intro d;induction d with
 |zero=>intro t xs ys r h;simp[pw]at h
 |succ d ih=>
  intro t xs ys r h dd w hd;obtain⟨dd,rfl⟩:∃n,dd=n+1:=⟨dd-1,om⟩
  cases hu:P.underlying t with
  |none=>simp[pw,hu]at h
  |some k=>
   simp only[pw,hu]at h;cases k with
   |bool=>
    simp only at h;split at h
    .cases h;simp only[mR,hu,Tl];exact run_equalIn_bool w dd t _ _ hu
    .cases h
   |int q=>
    simp only at h;split at h
    .split at h
     .rename_i e;subst e;cases h;simp only[mR,hu,Tl];exact run_equalIn_int w dd t _ _ _ _ hu
     .cases h
    .cases h
   |string=>
    simp only at h;split at h
    .cases h;simp only[mR,hu,Tl,beq_toListBytes];exact run_equalIn_string w dd t _ _ hu
    .cases h
   |array n e=>
    simp only at h;split at h
    .cases h
    .rename_i hz
     have hz:P.cellsOf e≠0:=λe=>hz (by rw[e];rfl);have hi:∃i,P.info? e=S i:=by
      cases hi:P.info? e with
      |none=>exfalso;apply hz;simp[Program.cellsOf,hi]
      |some i=>exact⟨i,U⟩
     obtain⟨i,hi⟩:=hi;simp only[mR,hu];rw[run_equalIn_array w dd _ _ hu hi];generalize OC n=is at h;induction is generalizing r with
     |nil=>simp only[Qb,IW,Option.some.injEq]at h;subst h;simp[Op.eqItems]
     |cons j is ihl=>
      simp only[OZ,IW]at h;cases hp:pw P d e ((xs.drop (j*P.cellsOf e)).take (P.cellsOf e)) ((ys.drop (j*P.cellsOf e)).take (P.cellsOf e))with
      |none=>rw[hp]at h;simp at h
      |some p=>
       cases hq:IW (pw P d) P.cellsOf xs ys (is.map λi=>(e,i*P.cellsOf e))with
       |none=>rw[hp,hq]at h;simp at h
       |some q=>
        rw[hp,hq]at h;simp only[Option.some.injEq]at h;subst h;simp only[Op.eqItems,Sem.run_bind,zl hz (.inl hp),zl hz (.inr hp),Result.andThen_ok,ih hp dd w om];cases p
        .simp
        .simp only[PK,OF,qx,Qa];exact ihl hq
   |struct fs=>
    simp only at h;split at h
    .cases h
    .rename_i hc
     simp only[PE,not_or,Bool.not_eq_true]at hc;obtain⟨hst,hfs⟩:=hc;have hf:P.fieldsOf t=fs:=by simp[Program.fieldsOf,hu]
     simp only[mR,hu];rw[run_equalIn_struct w dd t _ _ (by rw[hf];exact hu) hst,hf];have hfs:∀f∈fs.toList,f.name≠ "_" /\P.cellsOf f.type≠0:=λf hf'=>by have:=(Array.any_eq_false'.1 hfs) f (Array.mem_toList_iff.1 hf');simp only[PE,qG,not_or] at this;exact ⟨this.1,λe=>this.2 (by rw[e];rfl)⟩
     generalize fs.toList=ls at h hfs;induction ls generalizing r with
     |nil=>simp only[Qb,IW,Option.some.injEq]at h;subst h;simp[Op.eqFields]
     |cons f ls ihl=>
      simp only[OZ,IW]at h;obtain⟨hn,hz⟩:=hfs f qc;cases hp:pw P d f.type ((xs.drop f.offset).take (P.cellsOf f.type)) ((ys.drop f.offset).take (P.cellsOf f.type))with
      |none=>rw[hp]at h;simp at h
      |some p=>
       cases hq:IW (pw P d) P.cellsOf xs ys (ls.map λf=>(f.type,f.offset))with
       |none=>rw[hp,hq]at h;simp at h
       |some q=>
        rw[hp,hq]at h;simp only[Option.some.injEq]at h;subst h;simp only[Op.eqFields,hn,ne_eq,not_false_iff,qz,Sem.run_bind,zl hz (.inl hp),zl hz (.inr hp),Result.andThen_ok,ih hp dd w om];cases p
        .simp
        .simp only[PK,OF,qx,Qa];exact ihl hq λf hf'=>hfs f (by simp[hf'])
   |_=>simp at h
theorem J0{P:qo}{t:qh}{x y:qB}{xs ys:J N}{r:W}(ha:mR P t xs= .agg ⟨xs⟩)(hb:mR P t ys= .agg ⟨ys⟩)(hg:P.eqGuardType P.depth t=Z)(h:pw P 9 t xs ys=S r):B8 P .eql t x y (.agg ⟨xs⟩) (.agg ⟨ys⟩) r:=by intro w;have:=sB 9 h 10000 w qb;rw[ha,hb]at this;simp only[Sem.run_bind,run_eqGuard_agg w .eql t x y _ _ hg,Result.andThen_ok,run_eql_struct,this]
theorem Hk{P:qo}{t:qh}{x y:qB}{xs ys:J N}{r:W}(ha:mR P t xs= .agg ⟨xs⟩)(hb:mR P t ys= .agg ⟨ys⟩)(hg:P.eqGuardType P.depth t=Z)(h:pw P 9 t xs ys=S r):B8 P .neq t x y (.agg ⟨xs⟩) (.agg ⟨ys⟩) (!r):=by intro w;have:=sB 9 h 10000 w qb;rw[ha,hb]at this;simp only[Sem.run_bind,run_eqGuard_agg w .neq t x y _ _ hg,Result.andThen_ok,run_neq_struct,this]
end
end Go.Vc
namespace Go.Vc
open Go.ChangeShapes Go.WideShapes
section
variable{H:Type}{enc:qh × N->H}{P:qo}{w:Y}{base:X}{spare:X->W}{held:W}
inductive SK
 |int (k:qK)|bool|str
def SK.fit:SK->N->Prop
 | .int k,v=>∃n,v= .int k n/\(Lit.int k n).wf=V
 | .bool,v=>∃b,v= .bool b
 | .str,v=>∃s:ByteArray,v= .string s/\s.size<=maxLen
def rq(f:qh->qg (J SK)):J (qh × X)->X->qg (J SK)
 | [],_=>S []
 |(t,o')::r,o=>if Pk o' o then(match f t with|some ks=>(rq f r (o+ks.length)).map (ks++·)|none=>I)else I
def flatK(P:qo):X->qh->qg (J SK)
 |0,_=>I
 |d+1,t=>match P.underlying t with
  |some (.int k)=>S [.int k]
  |some .bool=>S [.bool]
  |some .string=>S [.str]
  |some (.struct fs)=>(match rq (flatK P d) (fs.toList.map λf=>(f.type,f.offset)) 0 with|some ks=>if Pk ks.length (P.cellsOf t)then S ks else I|none=>I)
  |some (.array n e)=>(match rq (flatK P d) ((OC n).map λi=>(e,i*P.cellsOf e)) 0 with|some ks=>if Pk ks.length (P.cellsOf t)then S ks else I|none=>I)
  |_=>I
inductive Fits:J SK->J N->Prop
 |nil:Fits [] []
 |cons {k:SK} {v:N} {ks:J SK} {vs:J N} (h:k.fit v) (hs:Fits ks vs):Fits (k::ks) (v::vs)
theorem Fits.length{ks:J SK}{vs:J N}(h:Fits ks vs):vs.length=ks.length:=by induction h<;>simp_all
theorem Fits.append{ks ks':J SK}{vs vs':J N}(h:Fits ks vs)(h':Fits ks' vs'):Fits (ks++ks') (vs++vs'):=by
 induction h with
 |nil=>exact h'
 |cons h _ ih=>exact .cons h ih
theorem Fits.cG{k:SK}{ks:J SK}{vs:J N}(h:Fits (k::ks) vs):∃v vs',vs=v::vs'/\k.fit v/\Fits ks vs':=by
 cases h with
 |cons h hs=>exact⟨_,_,U,h,hs⟩
theorem Fits.zi{vs:J N}(h:Fits [] vs):vs= []:=by cases h;rfl
theorem py{P:qo}{f:qh->qg (J SK)}{cs:J N}:∀(l:J (qh × X))(o:X)(ks:J SK),rq f l o=S ks->(∀p∈l,∀ks,f p.1=S ks->Fits ks ((cs.drop p.2).take (P.cellsOf p.1)))->
  ∃vs,Fits ks vs/\cs.drop o=vs++cs.drop (o+ks.length)
 | [],o,ks,h,_=>by simp only[rq,Option.some.injEq]at h;subst h;exact⟨[],.nil,qc⟩
 |(t,o')::r,o,ks,h,hp=>by
  simp only[rq]at h;split at h
  .rename_i ho
   have ho:=Pc ho;subst ho;cases hf:f t with
   |none=>rw[hf]at h;cases h
   |some k1=>
    rw[hf]at h;simp only at h;cases hr:rq f r (o'+k1.length)with
    |none=>rw[hr]at h;cases h
    |some k2=>
     rw[hr]at h;simp only[PC,Option.some.injEq]at h;subst h;have h1:=hp (t,o') qc k1 hf;obtain⟨vs,h2,h3⟩:=py r _ _ hr λp hp'=>hp p (by simp[hp']);refine⟨_,h1.append h2,?_⟩;have hlen:min (P.cellsOf t) (cs.length-o')=k1.length:=by have:=h1.length;rwa [OO,Qd]at this
     rw[O1,Ov,<-Ql,<-h3,<-Pz];have:(cs.drop o').take (P.cellsOf t)=(cs.drop o').take k1.length:=by
      by_cases e:P.cellsOf t<=cs.length-o'
      .rw[Pv e]at hlen;rw[hlen]
      .rw[Nat.min_eq_right om]at hlen
       rw[Ou (by rw[Qd];omega),Ou (by rw[Qd];omega)]
     show _=(cs.drop o').take (P.cellsOf t)++_;rw[this,O8]
  .cases h
theorem Co:∀(d:X){fuel:X}{t:qh}{cs:J N}{x:DataW H × J MemPlace}{ks:J SK},flatK P d t=S ks->DataW.trod enc P w base spare held fuel t cs=S x->Fits ks cs:=by
 intro d;induction d with
 |zero=>intro fuel t cs x ks h;simp[flatK]at h
 |succ d ih=>
  intro fuel t cs x ks h hx;have all:∀(ks':J SK),cs.length=P.cellsOf t->Pk ks'.length (P.cellsOf t)=V->(∃vs,Fits ks' vs/\cs.drop 0=vs++cs.drop (0+ks'.length))->Fits ks' cs:=by intro ks' h1 h2 ⟨vs,h3,h4⟩;have h2:=Pc h2;rw[P6,QB om,OD]at h4;rw[h4];exact h3
  cases hu:P.underlying t with
  |none=>simp[flatK,hu]at h
  |some k=>
   simp only[flatK,hu]at h;cases k with
   |int q=>
    simp only[Option.some.injEq]at h;subst h;obtain⟨n,rfl,_,hw⟩:=DataW.trod_int hu hx;exact .cons ⟨n,U,hw⟩ .nil
   |bool=>
    simp only[Option.some.injEq]at h;subst h;obtain⟨b,rfl,_⟩:=DataW.trod_bool hu hx;exact .cons ⟨b,U⟩ .nil
   |string=>
    simp only[Option.some.injEq]at h;subst h;obtain⟨s,rfl,_,hs⟩:=DataW.trod_string hu hx;exact .cons ⟨s,U,hs⟩ .nil
   |struct fs=>
    simp only at h;cases hf:rq (flatK P d) (fs.toList.map λf=>(f.type,f.offset)) 0 with
    |none=>rw[hf]at h;cases h
    |some ks'=>
     rw[hf]at h;simp only at h;split at h
     .rename_i hl
      cases h;obtain⟨xs,n,rfl,rfl,hlen,hxl,hall⟩:=DataW.trod_struct hu hx;refine all _ hlen hl (py (P:=P) _ _ _ hf λp hp ks'' hk=>?_);obtain⟨f,hf',rfl⟩:=O4.1 hp;obtain⟨i,hi⟩:=List.getElem?_of_mem hf';have hi':fs[i]?=S f:=by simpa using hi
      have hlt:i<xs.length:=by rw[hxl];exact(OW.1 hi').1
      have:=hall i f hi';rw[gE hlt]at this;exact ih hk this
     .cases h
   |array n e=>
    simp only at h;cases hf:rq (flatK P d) ((OC n).map λi=>(e,i*P.cellsOf e)) 0 with
    |none=>rw[hf]at h;cases h
    |some ks'=>
     rw[hf]at h;simp only at h;split at h
     .rename_i hl
      cases h;obtain⟨xs,n',rfl,hlen,hall⟩:∃(xs:J (DataW H × J MemPlace))(m:X),fuel=m+1/\cs.length=P.cellsOf t/\∀i,i<n->∃y,DataW.trod enc P w base spare held m e ((cs.drop (i*P.cellsOf e)).take (P.cellsOf e))=S y:=by
       cases fuel with
       |zero=>simp[DataW.trod]at hx
       |succ m=>
        unfold DataW.trod at hx;rw[hu]at hx;simp only at hx;split at hx
        .rename_i hl2
         simp only[P4]at hx;obtain⟨xs,hp,_⟩:=hx;refine⟨xs,m,U,hl2,λi hi=>?_⟩;have hg:=mapM_some_get hp i i (by simp[hi]);have hl3:=mapM_some_length hp;rw[gE (by rw[List.length_range]at hl3;omega)]at hg;exact⟨_,hg⟩
        .cases hx
      refine all _ hlen hl (py (P:=P) _ _ _ hf λp hp ks'' hk=>?_);obtain⟨i,hi,rfl⟩:=O4.1 hp;obtain⟨y,hy⟩:=hall i (PQ.1 hi);exact ih hk hy
     .cases h
   |_=>simp at h
theorem IQ{w:Y}{a:qf}{v:N}(h:w.cell? a=S v):a.block<w.heap.size:=by
 refine Nat.lt_of_not_le λhn=>?_;have:w.heap[a.block]?=none:=by simp[hn]
 unfold World.cell? at h;simp[this]at h
theorem Cw{α:Type}{E:dF α}{good:α->Prop}{t e:qh}{aeZ:Y}{sp:X->W}{a:qg qf}{len cap d:X}{dd:DataW H}{ps:J MemPlace}{ks:J SK}(ht:P.underlying t=S (.slice e))(hz:P.cellsOf e=E.z)(hk:flatK P d e=S ks)
  (dec:∀cs,Fits ks cs->∃x,cs=E.enc x/\good x) (h:DataW.Trod enc P aeZ 0 sp held t (.slice a len cap) dd ps):∃xs,El E aeZ ⟨a,len,cap⟩ xs/\∀x∈xs,good x:=by
 obtain⟨fuel,h⟩:=h;rcases Go.Deep.open_slice ht h with⟨hcs,_⟩|⟨a',len',cap',m,n,D,Pl,hcs,_,hl,hm,hmm,_,hel⟩
 .simp[Value.cells]at hcs
  obtain⟨rfl,rfl,rfl⟩:=hcs;exact⟨[],⟨U,On _,(λj x hj=>by simp at hj)⟩,(λx hx=>by cases hx)⟩
 .simp[Value.cells]at hcs
  obtain⟨rfl,rfl,rfl⟩:=hcs;have hmlen:len<=m:=by rw[hmm];split<;>omega
  have one:∀i,i<len->∃x,good x/\a'.block<aeZ.heap.size/\∀c v,(E.enc x)[c]?=S v->aeZ.cell? ((a'.add (i*E.z)).add c)=S v:=λi hi=>by
   obtain⟨cs',h1,h2⟩:=hel i om;obtain⟨_,h3,h4⟩:=World.cells?_some h1;obtain⟨x,rfl,hg⟩:=dec cs' (Co d hk h2);rw[hz]at h4;have hpos:=E.pos;refine⟨x,hg,?_,λc v hv=>?_⟩
   .have:=h4 0 hpos
    rw[gE (by rw[E.len];exact hpos)]at this;have:=IQ this
    rwa [oh,oh]at this
   .rw[h4 c (by have:=(Om.1 hv).1;rw[E.len]at this;exact this)]
    exact hv
  have ex:∀n,n<=len->∃xs:J α,xs.length=n/\(∀x∈xs,good x)/\∀j x,xs[j]?=S x->a'.block<aeZ.heap.size/\∀c v,(E.enc x)[c]?=S v->aeZ.cell? ((a'.add (j*E.z)).add c)=S v:=by
   intro n;induction n with
   |zero=>intro _;exact⟨[],U,(λx hx=>by cases hx),(λj x hj=>by simp at hj)⟩
   |succ n ih=>
    intro hn;obtain⟨xs,h1,h2,h3⟩:=ih om;obtain⟨x,h4,h5,h6⟩:=one n om;refine⟨xs++ [x],by simp[h1],λy hy=>?_,λj y hj=>?_⟩
    .rcases Pn.1 hy with hy|hy
     .exact h2 y hy
     .simp only[OY]at hy;subst hy;exact h4
    .by_cases hjn:j<xs.length
     .rw[Oy hjn]at hj;exact h3 j y hj
     .rw[OA om]at hj
      have hj0:j-xs.length=0:=by
       refine Classical.byContradiction λhne=>?_;rw[OQ (by simp;omega)]at hj;cases hj
      rw[hj0]at hj;simp only[PA,Option.some.injEq]at hj;subst hj;have:j=n:=om
      subst this;exact⟨h5,h6⟩
  obtain⟨xs,h1,h2,h3⟩:=ex len (On _);exact⟨xs,⟨h1.symm,‹len<=cap›,λj x hj=>⟨a',U,h3 j x hj⟩⟩,h2⟩
end
end Go.Vc
namespace Go.Vc
section
variable{P:qo}{B:X}{w0 w:Y}{L L':J aH}{b o n:X}{l:J N}{R:J aH}{α:Type}{E:dF α}{ss:J Sl}{rows:J (J α)}{s:Sl}{xs:J α}
theorem nz{K:Type}[qO K]{kt:qh}{enc:K->N}(heq:∀k x w,(Op.equal kt (enc k) (enc x)).run P w= .ok (F (x=k)) w)(k:K):∀(es:J qD)(ks:J K)(j:X)(w:Y),es.map (·.key)=ks.map enc->
  (Instr.findAsking kt (enc k) es j).run P w= .ok ((ks.findIdx? λx=>F (x=k)).bind λi=>(es[i]?).map λe=>(j+i,e.val)) w
 | [],ks,j,w,h=>by
  cases ks with
  |nil=>simp[Instr.findAsking]
  |cons _ _=>simp at h
 |e::es,ks,j,w,h=>by
  cases ks with
  |nil=>simp at h
  |cons x ks=>
   simp only[OZ,List.cons.injEq]at h;simp only[Instr.findAsking,Sem.run_bind,h.1,heq,Result.andThen_ok];by_cases hx:x=k
   .subst hx;simp[QH]
   .simp only[hx,decide_false,OF,qx]
    rw[nz heq k es ks (j+1) w h.2];simp only[QH,hx,decide_false,OF,qx];cases hq:ks.findIdx? (λx=>F (x=k))with
    |none=>rfl
    |some q=>
     simp only[RR,PC,OK];congr 3;funext e;congr 1;omega
def dT(p:O × O):N:= .agg #[.int .i64 p.1,.int .i64 p.2]
theorem Cz {kt:qh} {f0 f1:Field} (hu:P.underlying kt=S (.struct #[f0,f1])) (h0:P.underlying f0.type=S (.int .i64)) (h1:P.underlying f1.type=S (.int .i64)) (n0:f0.name≠ "_") (n1:f1.name≠ "_") (o0:f0.offset=0) (o1:f1.offset=1)
  (heq:∀a b c d:O,pw P 9 kt [.int .i64 a,.int .i64 b] [.int .i64 c,.int .i64 d]=S (a==c&&(b==d&&V))):kv P kt dT:=by
 refine⟨λem k w=>?_,λk es ks w h=>?_,λk=>by unfold Instr.sameBits dT;simp[Instr.sameBits]⟩
 .have p0:(part f0.type #[Value.int .i64 k.1,.int .i64 k.2] f0.offset).run P w= .ok (.int .i64 k.1) w:=run_part_plain w (by simp[Program.plainKey,h0]) (by rw[o0];rfl)
  have p1:(part f1.type #[Value.int .i64 k.1,.int .i64 k.2] f1.offset).run P w= .ok (.int .i64 k.2) w:=run_part_plain w (by simp[Program.plainKey,h1]) (by rw[o1];rfl);have c0:∀n v,(Instr.checkKey em (n+1) f0.type (.int .i64 v)).run P w= .ok () w:=λn v=>by unfold Instr.checkKey;rw[Sem.run_bind,run_underlying h0];rfl
  have c1:∀n v,(Instr.checkKey em (n+1) f1.type (.int .i64 v)).run P w= .ok () w:=λn v=>by unfold Instr.checkKey;rw[Sem.run_bind,run_underlying h1];rfl
  unfold Instr.checkKey dT;rw[Sem.run_bind,run_underlying hu];simp only[Result.andThen_ok];rw[<-Array.forIn_toList];simp[n0,n1,Sem.run_bind,p0,p1,c0,c1]
 .have heq':∀(k x:O × O)(w:Y),(Op.equal kt (dT k) (dT x)).run P w= .ok (F (x=k)) w:=λk x w=>by
   have:=sB 9 (heq k.1 k.2 x.1 x.2) 10000 w qb;have e:∀p:O × O,mR P kt [.int .i64 p.1,.int .i64 p.2]=dT p:=λp=>by simp[mR,hu,dT]
   rw[e k,e x]at this;show(Op.equalIn 10000 kt (dT k) (dT x)).run P w=_;rw[this];congr 1;rw[Bool.eq_iff_iff];simp only[Bool.and_true,OH,qG,qA,Prod.ext_iff];constructor
   .rintro ⟨h1,h2⟩;exact⟨h1.symm,h2.symm⟩
   .rintro ⟨h1,h2⟩;exact⟨h1.symm,h2.symm⟩
  rw[run_findKey_eq w (by simp[hu])];have:=nz heq' k es ks 0 w h;simpa using this
theorem FF{l:J N}{o:X}{v:N}{vs:J N}(h:o+(vs.length+1)<=l.length):putAt (l.set o v) (o+1) vs=putAt l o (v::vs):=by
 apply O2;intro i;rw[cY _ _ _ _ (by rw[Pe];omega),cY _ _ _ _ (by simpa using h)];simp only[OB,Pb];by_cases e:o=i
 .subst e
  rw[Q om,A U,A om,A om,P0];rfl
 .by_cases e2:o+1<=i/\i<o+1+vs.length
  .rw[A e2,A om,show i-o=(i-(o+1))+1 from by omega,OK]
  .rw[Q e2,Q e,Q om]
theorem aD.mk'{b:X}:∀(vs:J N){w:Y}{o p:X}{l:J N}{k:Y->Prop},sv w b l->o+p+vs.length<=l.length->vs.all Value.oneCell'=V->
  (∀w',ia (·=b) w w'->w'.heap.size=w.heap.size->sv w' b (putAt l (o+p) vs)->k w')->aD w ⟨b,o,I⟩ p vs k
 | [],w,o,p,l,k,hb,_,_,hk=>hk w (ia.refl _ _) U (by rw[jD];exact hb)
 |v::vs,w,o,p,l,k,hb,hl,hone,hk=>by
  simp only[List.all_cons,OH]at hone;simp only[OB]at hl;show St w ((Addr.mk b o I).add p) v _;rw[aO];refine St.mk' hb om hone.1 λw' hu hs hb'=>?_;refine aD.mk' vs hb' (by rw[Pe];omega) hone.2 λw2 hu2 hs2 hb2=>?_;refine hk w2 (hu.then hu2) (hs2.trans hs) ?_;rw[show o+(p+1)=o+p+1 from by omega,FF om]at hb2;exact hb2
theorem oF{l:J N}{o:X}{vs:J N}(h:o+vs.length<=l.length):(putAt l o vs).length=l.length:=by
 apply Nat.le_antisymm
 .refine Sw λhlt=>?_
  have:=cY l o vs l.length h;rw[Q om,OQ (On _)]at this;rw[gE hlt]at this;cases this
 .refine Sw λhlt=>?_
  have:=cY l o vs (putAt l o vs).length h;rw[OQ (On _)]at this;split at this
  .rename_i h2
   rw[gE om]at this;cases this
  .rw[gE hlt]at this;cases this
theorem Ow.Iv{b o:X}{l vs:J N}{k:Y->Prop}(h:Ow B w0 w L)(i:X)(hi:L[i]?=S (aa b l))(hle:QT (o+vs.length) l.length=V)(hone:vs.all Value.oneCell'=V)
  (hk:∀w',Ow B w0 w' (L.set i (aa b (putAt l o vs)))->k w'):aD w ⟨b,o,I⟩ 0 vs k:=
 aD.mk' vs (h.wV i hi) (Qo hle) hone λw' hu hs hb=>hk w' (((h.take i hi).step (A':=aa b (putAt l o vs)) λae3 hA hG=>⟨hu.mono λk _ e=>by rw[e];exact hA.1,ae3,⟨hA.1,hb⟩,λk hk=>⟨.inl hk,by have:=(hG k hk).2;omega⟩⟩).put (dq hi))
theorem Ow.Nh{s:Sl}{xs:J α}{k:Y->Prop}(h:Ow B w0 w L)(i:X)(hi:L[i]?=S (af E s xs)){j:X}(hj:j<xs.length)(x:α){b o:X}(ha:s.a=S ⟨b,o,I⟩)
  (hk:∀w',Ow B w0 w' (L.set i (af E s (xs.set j x)))->k w'):aD w ⟨b,o+j*E.z,I⟩ 0 (E.enc x) k:=by
 have hone:(E.enc x).all Value.oneCell'=true:=QW.2 λv hv=>E.one x v hv;have hs:=h.wN i hi;have hl:=h.len i hi;cases hs with
 |nil ha' _ _ _=>rw[ha']at ha;cases ha
 |mk b' o' l ha' hb hle hc hcs=>
  rw[ha']at ha;simp only[Option.some.injEq,Addr.mk.injEq,and_true]at ha;obtain⟨rfl,rfl⟩:=ha;have hfl:=aK E xs;have hlx:=E.len x;have m1:(j+1)*E.z<=xs.length*E.z:=OU _ om;rw[Qu]at m1;have m2:s.len*E.z<=s.cap*E.z:=OU _ hle;rw[hl]at m2;have hfit:o'+j*E.z+(E.enc x).length<=l.length:=by rw[hlx];omega
  refine aD.mk' (E.enc x) (o:=o'+j*E.z) (p:=0) hb (by simpa using hfit) hone λw' hu hsz hb'=>hk w' (((h.take i hi).step (A':=af E s (xs.set j x)) λae3 hA hG=>⟨hu.mono λk _ e=>by rw[e];exact hA.1 _ ha',ae3,⟨hA.1,by simpa using hl,?_⟩,λk hk=>⟨.inl hk,by have:=(hG k hk).2;omega⟩⟩).put (dq hi));refine .mk b' o' _ ha' hb' hle (by rw[oF (by simpa using hfit)];exact hc) ?_;rw[nB E xs j x hj,hcs,QD];apply O2;intro t;have hlen2:((l.drop o').take (s.len*E.z)).length=xs.length*E.z:=by rw[<-hcs];exact hfl
  rw[cY _ _ _ _ (by rw[hlen2,hlx];omega),OM,OM,OP,OP,cY _ _ _ _ hfit,hlx];have hz:s.len*E.z=xs.length*E.z:=by rw[hl]
  by_cases e:j*E.z<=t/\t<j*E.z+E.z
  .rw[A e,A om,A om]
   congr 1;omega
  .rw[Q e]
   split
   .rw[Q om]
   .rfl
theorem Ow.Oj{s:Sl}{xs:J α}{k:Y->Prop}{x:α}{v:N}(h:Ow B w0 w L)(i:X)(hi:L[i]?=S (af E s xs)){j c:X}(hj:xs[j]?=S x)(x':α)(hx:E.enc x'=(E.enc x).set c v)(hc:c<E.z)(hv:v.oneCell'=V){b o:X}(ha:s.a=S ⟨b,o,I⟩)
  (hk:∀w',Ow B w0 w' (L.set i (af E s (xs.set j x')))->k w'):St w ⟨b,o+j*E.z+c,I⟩ v k:=by
 have hs:=h.wN i hi;have hl:=h.len i hi;have hjl:=(Om.1 hj).1;cases hs with
 |nil ha' _ _ _=>rw[ha']at ha;cases ha
 |mk b' o' l ha' hb hle hc' hcs=>
  rw[ha']at ha;simp only[Option.some.injEq,Addr.mk.injEq,and_true]at ha;obtain⟨rfl,rfl⟩:=ha;have hfl:=aK E xs;have hlx:=E.len x;have hlx':=E.len x';have m1:(j+1)*E.z<=xs.length*E.z:=OU _ om;rw[Qu]at m1;have m2:s.len*E.z<=s.cap*E.z:=OU _ hle;rw[hl]at m2;refine St.mk' hb om hv λw' hu hsz hb'=>hk w' (((h.take i hi).step (A':=af E s (xs.set j x')) λae3 hA hG=>⟨hu.mono λk _ e=>by rw[e];exact hA.1 _ ha',ae3,⟨hA.1,by simpa using hl,?_⟩,λk hk=>⟨.inl hk,by have:=(hG k hk).2;omega⟩⟩).put (dq hi));refine .mk b' o' _ ha' hb' hle (by rw[Pe];exact hc') ?_;rw[nB E xs j x' hjl];apply O2;intro t;rw[cY _ _ _ _ (by rw[hfl,hlx'];omega),hlx',OM,OP,Pb];have hz:s.len*E.z=xs.length*E.z:=by rw[hl]
  have hold:(xs.flatMap E.enc)[t]?=if t<s.len*E.z then l[o'+t]? else none:=by rw[hcs,OM,OP]
  by_cases e:j*E.z<=t/\t<j*E.z+E.z
  .rw[A e,hx,Pb,hlx]
   have hg:=nA E xs j (t-j*E.z) x hj om;rw[show j*E.z+(t-j*E.z)=t from by omega,hold,A om]at hg;rw[A (show t<s.len*E.z by omega),<-hg];by_cases e2:c=t-j*E.z
   .rw[A e2,A hc,A om,A om]
   .rw[Q e2,Q om]
  .rw[Q e,hold]
   split
   .rw[Q om]
   .rfl
theorem Ow.pD{b o:X}{l:J N}{c0 c1:Sc}{x0:c0.D}{x1:c1.D}{f:c0.D->c1.D->Prop}(h:Ow B w0 w L)(i:X)(hi:L[i]?=S (aa b l))(hl:(l.drop o).take 2= [c0.mk x0,c1.mk x1])(hf:f x0 x1):av w ⟨b,o,I⟩ 0 [c0,c1] f:=by
 have g:∀j,j<2->w.cell? ((Addr.mk b o I).add j)= [c0.mk x0,c1.mk x1][j]?:=λj hj=>by rw[aO,(h.wV i hi).cell,<-hl,OM,A hj,OP]
 exact⟨_,g 0 qb,_,g 1 qb,hf⟩
theorem Ow.MY{b o:X}{l:J N}{c0 c1 c2:Sc}{x0:c0.D}{x1:c1.D}{x2:c2.D}{f:c0.D->c1.D->c2.D->Prop}(h:Ow B w0 w L)(i:X)(hi:L[i]?=S (aa b l))(hl:(l.drop o).take 3= [c0.mk x0,c1.mk x1,c2.mk x2])(hf:f x0 x1 x2):av w ⟨b,o,I⟩ 0 [c0,c1,c2] f:=by
 have g:∀j,j<3->w.cell? ((Addr.mk b o I).add j)= [c0.mk x0,c1.mk x1,c2.mk x2][j]?:=λj hj=>by rw[aO,(h.wV i hi).cell,<-hl,OM,A hj,OP]
 exact⟨_,g 0 qb,_,g 1 qb,_,g 2 qb,hf⟩
theorem Ow.MZ{b o:X}{l:J N}{c0 c1 c2 c3:Sc}{x0:c0.D}{x1:c1.D}{x2:c2.D}{x3:c3.D}{f:c0.D->c1.D->c2.D->c3.D->Prop}(h:Ow B w0 w L)(i:X)(hi:L[i]?=S (aa b l))(hl:(l.drop o).take 4= [c0.mk x0,c1.mk x1,c2.mk x2,c3.mk x3])(hf:f x0 x1 x2 x3):av w ⟨b,o,I⟩ 0 [c0,c1,c2,c3] f:=by
 have g:∀j,j<4->w.cell? ((Addr.mk b o I).add j)= [c0.mk x0,c1.mk x1,c2.mk x2,c3.mk x3][j]?:=λj hj=>by rw[aO,(h.wV i hi).cell,<-hl,OM,A hj,OP]
 exact⟨_,g 0 qb,_,g 1 qb,_,g 2 qb,_,g 3 qb,hf⟩
theorem Ow.tY{b o:X}{l:J N}{c0 c1 c2 c3 c4 c5:Sc}{x0:c0.D}{x1:c1.D}{x2:c2.D}{x3:c3.D}{x4:c4.D}{x5:c5.D}{f:c0.D->c1.D->c2.D->c3.D->c4.D->c5.D->Prop}(h:Ow B w0 w L)(i:X)(hi:L[i]?=S (aa b l))(hl:(l.drop o).take 6= [c0.mk x0,c1.mk x1,c2.mk x2,c3.mk x3,c4.mk x4,c5.mk x5])(hf:f x0 x1 x2 x3 x4 x5):av w ⟨b,o,I⟩ 0 [c0,c1,c2,c3,c4,c5] f:=by
 have g:∀j,j<6->w.cell? ((Addr.mk b o I).add j)= [c0.mk x0,c1.mk x1,c2.mk x2,c3.mk x3,c4.mk x4,c5.mk x5][j]?:=λj hj=>by rw[aO,(h.wV i hi).cell,<-hl,OM,A hj,OP]
 exact⟨_,g 0 qb,_,g 1 qb,_,g 2 qb,_,g 3 qb,_,g 4 qb,_,g 5 qb,hf⟩
theorem Ow.M0{b o:X}{l:J N}{c0 c1 c2 c3 c4 c5 c6:Sc}{x0:c0.D}{x1:c1.D}{x2:c2.D}{x3:c3.D}{x4:c4.D}{x5:c5.D}{x6:c6.D}{f:c0.D->c1.D->c2.D->c3.D->c4.D->c5.D->c6.D->Prop}(h:Ow B w0 w L)(i:X)(hi:L[i]?=S (aa b l))(hl:(l.drop o).take 7= [c0.mk x0,c1.mk x1,c2.mk x2,c3.mk x3,c4.mk x4,c5.mk x5,c6.mk x6])(hf:f x0 x1 x2 x3 x4 x5 x6):av w ⟨b,o,I⟩ 0 [c0,c1,c2,c3,c4,c5,c6] f:=by
 have g:∀j,j<7->w.cell? ((Addr.mk b o I).add j)= [c0.mk x0,c1.mk x1,c2.mk x2,c3.mk x3,c4.mk x4,c5.mk x5,c6.mk x6][j]?:=λj hj=>by rw[aO,(h.wV i hi).cell,<-hl,OM,A hj,OP]
 exact⟨_,g 0 qb,_,g 1 qb,_,g 2 qb,_,g 3 qb,_,g 4 qb,_,g 5 qb,_,g 6 qb,hf⟩
theorem Ow.M3{b o:X}{l:J N}{c0 c1 c2 c3 c4 c5 c6 c7:Sc}{x0:c0.D}{x1:c1.D}{x2:c2.D}{x3:c3.D}{x4:c4.D}{x5:c5.D}{x6:c6.D}{x7:c7.D}{f:c0.D->c1.D->c2.D->c3.D->c4.D->c5.D->c6.D->c7.D->Prop}(h:Ow B w0 w L)(i:X)(hi:L[i]?=S (aa b l))(hl:(l.drop o).take 8= [c0.mk x0,c1.mk x1,c2.mk x2,c3.mk x3,c4.mk x4,c5.mk x5,c6.mk x6,c7.mk x7])(hf:f x0 x1 x2 x3 x4 x5 x6 x7):av w ⟨b,o,I⟩ 0 [c0,c1,c2,c3,c4,c5,c6,c7] f:=by
 have g:∀j,j<8->w.cell? ((Addr.mk b o I).add j)= [c0.mk x0,c1.mk x1,c2.mk x2,c3.mk x3,c4.mk x4,c5.mk x5,c6.mk x6,c7.mk x7][j]?:=λj hj=>by rw[aO,(h.wV i hi).cell,<-hl,OM,A hj,OP]
 exact⟨_,g 0 qb,_,g 1 qb,_,g 2 qb,_,g 3 qb,_,g 4 qb,_,g 5 qb,_,g 6 qb,_,g 7 qb,hf⟩
theorem Ow.LP{b o:X}{l:J N}{c0 c1 c2 c3 c4 c5 c6 c7 c8 c9:Sc}{x0:c0.D}{x1:c1.D}{x2:c2.D}{x3:c3.D}{x4:c4.D}{x5:c5.D}{x6:c6.D}{x7:c7.D}{x8:c8.D}{x9:c9.D}{f:c0.D->c1.D->c2.D->c3.D->c4.D->c5.D->c6.D->c7.D->c8.D->c9.D->Prop}(h:Ow B w0 w L)(i:X)(hi:L[i]?=S (aa b l))(hl:(l.drop o).take 10= [c0.mk x0,c1.mk x1,c2.mk x2,c3.mk x3,c4.mk x4,c5.mk x5,c6.mk x6,c7.mk x7,c8.mk x8,c9.mk x9])(hf:f x0 x1 x2 x3 x4 x5 x6 x7 x8 x9):av w ⟨b,o,I⟩ 0 [c0,c1,c2,c3,c4,c5,c6,c7,c8,c9] f:=by
 have g:∀j,j<10->w.cell? ((Addr.mk b o I).add j)= [c0.mk x0,c1.mk x1,c2.mk x2,c3.mk x3,c4.mk x4,c5.mk x5,c6.mk x6,c7.mk x7,c8.mk x8,c9.mk x9][j]?:=λj hj=>by rw[aO,(h.wV i hi).cell,<-hl,OM,A hj,OP]
 exact⟨_,g 0 qb,_,g 1 qb,_,g 2 qb,_,g 3 qb,_,g 4 qb,_,g 5 qb,_,g 6 qb,_,g 7 qb,_,g 8 qb,_,g 9 qb,hf⟩
theorem Ow.LQ{b o:X}{l:J N}{c0 c1 c2 c3 c4 c5 c6 c7 c8 c9 c10 c11:Sc}{x0:c0.D}{x1:c1.D}{x2:c2.D}{x3:c3.D}{x4:c4.D}{x5:c5.D}{x6:c6.D}{x7:c7.D}{x8:c8.D}{x9:c9.D}{x10:c10.D}{x11:c11.D}{f:c0.D->c1.D->c2.D->c3.D->c4.D->c5.D->c6.D->c7.D->c8.D->c9.D->c10.D->c11.D->Prop}(h:Ow B w0 w L)(i:X)(hi:L[i]?=S (aa b l))(hl:(l.drop o).take 12= [c0.mk x0,c1.mk x1,c2.mk x2,c3.mk x3,c4.mk x4,c5.mk x5,c6.mk x6,c7.mk x7,c8.mk x8,c9.mk x9,c10.mk x10,c11.mk x11])(hf:f x0 x1 x2 x3 x4 x5 x6 x7 x8 x9 x10 x11):av w ⟨b,o,I⟩ 0 [c0,c1,c2,c3,c4,c5,c6,c7,c8,c9,c10,c11] f:=by
 have g:∀j,j<12->w.cell? ((Addr.mk b o I).add j)= [c0.mk x0,c1.mk x1,c2.mk x2,c3.mk x3,c4.mk x4,c5.mk x5,c6.mk x6,c7.mk x7,c8.mk x8,c9.mk x9,c10.mk x10,c11.mk x11][j]?:=λj hj=>by rw[aO,(h.wV i hi).cell,<-hl,OM,A hj,OP]
 exact⟨_,g 0 qb,_,g 1 qb,_,g 2 qb,_,g 3 qb,_,g 4 qb,_,g 5 qb,_,g 6 qb,_,g 7 qb,_,g 8 qb,_,g 9 qb,_,g 10 qb,_,g 11 qb,hf⟩
theorem bg{p:Prop}[Decidable p]{ae7 C:Prop}(h1:p->ae7)(h2:¬p->C):bif F p then ae7 else C:=by
 by_cases h:p
 .rw[qm h];exact h1 h
 .rw[qk h];exact h2 h
theorem az{p:Prop}[Decidable p]{ae7 C:Prop}(h:p)(h1:ae7):bif F p then ae7 else C:=by rw[qm h];exact h1
theorem aw{p:Prop}[Decidable p]{ae7 C:Prop}(h:¬p)(h1:C):bif F p then ae7 else C:=by rw[qk h];exact h1
theorem cb{b:W}{ae7 C:Prop}(h1:b=V->ae7)(h2:b=Z->C):bif b then ae7 else C:=by
 cases b with
 |true=>exact h1 U
 |false=>exact h2 U
theorem aU{b:W}{ae7 C:Prop}(h:b=V)(h1:ae7):bif b then ae7 else C:=by rw[h];exact h1
theorem aW{b:W}{ae7 C:Prop}(h:b=Z)(h1:C):bif b then ae7 else C:=by rw[h];exact h1
theorem JW{b:W}{ae7 C:Prop}(h1:b=Z->ae7)(h2:b=V->C):bif !b then ae7 else C:=by
 cases b with
 |true=>exact h2 U
 |false=>exact h1 U
theorem dK{x y:O}{ae7 C:Prop}(h1:x=y->ae7)(h2:x≠y->C):bif x==y then ae7 else C:=by
 by_cases h:x=y
 .rw[show(x==y)=V from by simpa using h];exact h1 h
 .rw[show(x==y)=Z from by simpa using h];exact h2 h
theorem jg{x y:O}{ae7 C:Prop}(h:x=y)(h1:ae7):bif x==y then ae7 else C:=by rw[show(x==y)=V from by simpa using h];exact h1
theorem jf{x y:O}{ae7 C:Prop}(h:x≠y)(h1:C):bif x==y then ae7 else C:=by rw[show(x==y)=Z from by simpa using h];exact h1
theorem oO{x y:O}{ae7 C:Prop}(h1:x≠y->ae7)(h2:x=y->C):bif x !=y then ae7 else C:=by
 by_cases h:x=y
 .rw[show(x !=y)=Z from by simpa using h];exact h2 h
 .rw[show(x !=y)=V from by simpa using h];exact h1 h
theorem iy{x y:O}{ae7 C:Prop}(h:x≠y)(h1:ae7):bif x !=y then ae7 else C:=by rw[show(x !=y)=V from by simpa using h];exact h1
theorem fG{x y:O}{ae7 C:Prop}(h:x=y)(h1:C):bif x !=y then ae7 else C:=by rw[show(x !=y)=Z from by simpa using h];exact h1
class dE(b:X)(L:J aH)(l:outParam (J N))where
 i:X
 at_:L[i]?=S (aa b l)
instance dE.tail{b:X}{aeW:aH}{L:J aH}{l:J N}[ae4:dE b L l]:dE b (aeW::L) l:=⟨ae4.i+1,by simpa using ae4.at_⟩
instance dE.head{b:X}{L:J aH}{l:J N}:dE b (aa b l::L) l:=⟨0,U⟩
class tx(b:X)(L:J aH)(l:outParam (J N))(f:J N->J N)(L':outParam (J aH))where
 i:X
 at_:L[i]?=S (aa b l)
 up:L'=L.set i (aa b (f l))
instance tx.tail{b:X}{aeW:aH}{L L':J aH}{l:J N}{f:J N->J N}[ae4:tx b L l f L']:tx b (aeW::L) l f (aeW::L'):=⟨ae4.i+1,by simpa using ae4.at_,(qw (aeW::·) ae4.up)⟩
instance tx.head{b:X}{L:J aH}{l:J N}{f:J N->J N}:tx b (aa b l::L) l f (aa b (f l)::L):=⟨0,U,U⟩
theorem Ow.aF{v:N}[ae4:dE b L l](h:Ow B w0 w L)(hv:l[o]?=S v):w.cell? (Addr.mk b o I)=S v:=h.iM ae4.i ae4.at_ hv
theorem Ow.aE{v:N}[ae4:dE b L l](h:Ow B w0 w L)(hv:l[o+n]?=S v):w.cell? ((Addr.mk b o I).add n)=S v:=h.ld ae4.i ae4.at_ hv
class yA(l:J N)(n:X)(v:N)(r:outParam (J N)):Prop where
 e:l.set n v=r
instance(priority:=low)yA.any {l:J N} {n:X} {v:N}:yA l n v (l.set n v):=⟨U⟩
instance yA.here{x v:N}{l:J N}:yA (x::l) 0 v (v::l):=⟨U⟩
instance yA.skip{x v:N}{n:X}{l r:J N}[ae4:yA l n v r]:yA (x::l) (n+1) v (x::r):=⟨by rw[OI,ae4.e]⟩
theorem Ow.jx{v:N}{r:J N}{k:Y->Prop}[I0:dE b L l][aeX:yA l o v r][ae4:tx b L l (λ_=>r) L'](h:Ow B w0 w L)(ho:(l[o]?).isSome=V)(hv:v.oneCell'=V)(hk:∀w',Ow B w0 w' L'->k w'):St w ⟨b,o,I⟩ v k:=
 h.st ae4.i ae4.at_ ho hv λw' h'=>hk w' (by rw[aeX.e]at h';rw[ae4.up];exact h')
theorem Ow.gh{v:N}{r:J N}{k:Y->Prop}[I0:dE b L l][aeX:yA l (o+n) v r][ae4:tx b L l (λ_=>r) L'](h:Ow B w0 w L)(ho:(l[o+n]?).isSome=V)(hv:v.oneCell'=V)(hk:∀w',Ow B w0 w' L'->k w'):St w ((Addr.mk b o I).add n) v k:=
 h.Oi ae4.i ae4.at_ ho hv λw' h'=>hk w' (by rw[aeX.e]at h';rw[ae4.up];exact h')
theorem Ow.aN{c0 c1:Sc}{x0:c0.D}{x1:c1.D}{f:c0.D->c1.D->Prop}[ae4:dE b L l](h:Ow B w0 w L)(hl:(l.drop o).take 2= [c0.mk x0,c1.mk x1])(hf:f x0 x1):av w ⟨b,o,I⟩ 0 [c0,c1] f:=h.pD ae4.i ae4.at_ hl hf
theorem Ow.oP{c0 c1 c2:Sc}{x0:c0.D}{x1:c1.D}{x2:c2.D}{f:c0.D->c1.D->c2.D->Prop}[ae4:dE b L l](h:Ow B w0 w L)(hl:(l.drop o).take 3= [c0.mk x0,c1.mk x1,c2.mk x2])(hf:f x0 x1 x2):av w ⟨b,o,I⟩ 0 [c0,c1,c2] f:=h.MY ae4.i ae4.at_ hl hf
theorem Ow.gO{c0 c1 c2 c3:Sc}{x0:c0.D}{x1:c1.D}{x2:c2.D}{x3:c3.D}{f:c0.D->c1.D->c2.D->c3.D->Prop}[ae4:dE b L l](h:Ow B w0 w L)(hl:(l.drop o).take 4= [c0.mk x0,c1.mk x1,c2.mk x2,c3.mk x3])(hf:f x0 x1 x2 x3):av w ⟨b,o,I⟩ 0 [c0,c1,c2,c3] f:=h.MZ ae4.i ae4.at_ hl hf
theorem Ow.dI{c0 c1 c2 c3 c4 c5:Sc}{x0:c0.D}{x1:c1.D}{x2:c2.D}{x3:c3.D}{x4:c4.D}{x5:c5.D}{f:c0.D->c1.D->c2.D->c3.D->c4.D->c5.D->Prop}[ae4:dE b L l](h:Ow B w0 w L)(hl:(l.drop o).take 6= [c0.mk x0,c1.mk x1,c2.mk x2,c3.mk x3,c4.mk x4,c5.mk x5])(hf:f x0 x1 x2 x3 x4 x5):av w ⟨b,o,I⟩ 0 [c0,c1,c2,c3,c4,c5] f:=h.tY ae4.i ae4.at_ hl hf
theorem Ow.y6{c0 c1 c2 c3 c4 c5 c6:Sc}{x0:c0.D}{x1:c1.D}{x2:c2.D}{x3:c3.D}{x4:c4.D}{x5:c5.D}{x6:c6.D}{f:c0.D->c1.D->c2.D->c3.D->c4.D->c5.D->c6.D->Prop}[ae4:dE b L l](h:Ow B w0 w L)(hl:(l.drop o).take 7= [c0.mk x0,c1.mk x1,c2.mk x2,c3.mk x3,c4.mk x4,c5.mk x5,c6.mk x6])(hf:f x0 x1 x2 x3 x4 x5 x6):av w ⟨b,o,I⟩ 0 [c0,c1,c2,c3,c4,c5,c6] f:=h.M0 ae4.i ae4.at_ hl hf
theorem Ow.I8{c0 c1 c2 c3 c4 c5 c6 c7:Sc}{x0:c0.D}{x1:c1.D}{x2:c2.D}{x3:c3.D}{x4:c4.D}{x5:c5.D}{x6:c6.D}{x7:c7.D}{f:c0.D->c1.D->c2.D->c3.D->c4.D->c5.D->c6.D->c7.D->Prop}[ae4:dE b L l](h:Ow B w0 w L)(hl:(l.drop o).take 8= [c0.mk x0,c1.mk x1,c2.mk x2,c3.mk x3,c4.mk x4,c5.mk x5,c6.mk x6,c7.mk x7])(hf:f x0 x1 x2 x3 x4 x5 x6 x7):av w ⟨b,o,I⟩ 0 [c0,c1,c2,c3,c4,c5,c6,c7] f:=h.M3 ae4.i ae4.at_ hl hf
theorem Ow.jV{c0 c1 c2 c3 c4 c5 c6 c7 c8 c9:Sc}{x0:c0.D}{x1:c1.D}{x2:c2.D}{x3:c3.D}{x4:c4.D}{x5:c5.D}{x6:c6.D}{x7:c7.D}{x8:c8.D}{x9:c9.D}{f:c0.D->c1.D->c2.D->c3.D->c4.D->c5.D->c6.D->c7.D->c8.D->c9.D->Prop}[ae4:dE b L l](h:Ow B w0 w L)(hl:(l.drop o).take 10= [c0.mk x0,c1.mk x1,c2.mk x2,c3.mk x3,c4.mk x4,c5.mk x5,c6.mk x6,c7.mk x7,c8.mk x8,c9.mk x9])(hf:f x0 x1 x2 x3 x4 x5 x6 x7 x8 x9):av w ⟨b,o,I⟩ 0 [c0,c1,c2,c3,c4,c5,c6,c7,c8,c9] f:=h.LP ae4.i ae4.at_ hl hf
theorem Ow.DL{c0 c1 c2 c3 c4 c5 c6 c7 c8 c9 c10 c11:Sc}{x0:c0.D}{x1:c1.D}{x2:c2.D}{x3:c3.D}{x4:c4.D}{x5:c5.D}{x6:c6.D}{x7:c7.D}{x8:c8.D}{x9:c9.D}{x10:c10.D}{x11:c11.D}{f:c0.D->c1.D->c2.D->c3.D->c4.D->c5.D->c6.D->c7.D->c8.D->c9.D->c10.D->c11.D->Prop}[ae4:dE b L l](h:Ow B w0 w L)(hl:(l.drop o).take 12= [c0.mk x0,c1.mk x1,c2.mk x2,c3.mk x3,c4.mk x4,c5.mk x5,c6.mk x6,c7.mk x7,c8.mk x8,c9.mk x9,c10.mk x10,c11.mk x11])(hf:f x0 x1 x2 x3 x4 x5 x6 x7 x8 x9 x10 x11):av w ⟨b,o,I⟩ 0 [c0,c1,c2,c3,c4,c5,c6,c7,c8,c9,c10,c11] f:=h.LQ ae4.i ae4.at_ hl hf
theorem Ow.cw{a0 a1:aH}(h:Ow B w0 w (a0::a1::L)):Ow B w0 w (a1::a0::L):=h.take 1 U
theorem Ow.vU{a0 a1:aH}(h:Ow B w0 w (a0::a1::L)):Ow B w0 w (a0::L):=h.cw.drop
theorem Ow.lK{a0 a1 a2:aH}(h:Ow B w0 w (a0::a1::a2::L)):Ow B w0 w (a2::a0::a1::L):=h.take 2 U
theorem Ow.HM{a0 a1 a2:aH}(h:Ow B w0 w (a0::a1::a2::L)):Ow B w0 w (a0::a1::L):=h.lK.drop
theorem Ow.xm{a0 a1 a2 a3:aH}(h:Ow B w0 w (a0::a1::a2::a3::L)):Ow B w0 w (a3::a0::a1::a2::L):=h.take 3 U
theorem Ow.Lk{a0 a1 a2 a3:aH}(h:Ow B w0 w (a0::a1::a2::a3::L)):Ow B w0 w (a0::a1::a2::L):=h.xm.drop
class uX(l:J N)(o:X)(vs:J N)(r:outParam (J N)):Prop where
 e:putAt l o vs=r
instance(priority:=low)uX.any {l:J N} {o:X} {vs:J N}:uX l o vs (putAt l o vs):=⟨U⟩
instance uX.nil{l:J N}:uX l 0 [] l:=⟨jD l 0⟩
instance uX.here{x v:N}{l vs r:J N}[ae4:uX l 0 vs r]:uX (x::l) 0 (v::vs) (v::r):=⟨by show v::putAt l 0 vs=_;rw[ae4.e]⟩
instance uX.skip{x v:N}{o:X}{l vs r:J N}[ae4:uX l o (v::vs) r]:uX (x::l) (o+1) (v::vs) (x::r):=⟨by show x::putAt l o (v::vs)=_;rw[ae4.e]⟩
theorem Ow.ay{vs r:J N}{k:Y->Prop}[I0:dE b L l][aeX:uX l o vs r][ae4:tx b L l (λ_=>r) L'](h:Ow B w0 w L)(hle:QT (o+vs.length) l.length=V)(hone:vs.all Value.oneCell'=V)(hk:∀w',Ow B w0 w' L'->k w'):aD w ⟨b,o,I⟩ 0 vs k:=
 h.Iv ae4.i ae4.at_ hle hone λw' h'=>hk w' (by rw[aeX.e]at h';rw[ae4.up];exact h')
class eD(ae7:aH)(L:J aH)(R:outParam (J aH)):Prop where
 perm:L.Perm (ae7::R)
instance eD.tail{ae7 aeW:aH}{L R:J aH}[ae4:eD ae7 L R]:eD ae7 (aeW::L) (aeW::R):=⟨(ae4.perm.cons aeW).trans (List.Perm.swap _ _ _)⟩
instance eD.head{ae7:aH}{L:J aH}:eD ae7 (ae7::L) L:=⟨List.Perm.refl _⟩
class wT(L L':J aH):Prop where
 sub:∃ae1,L.Perm (ae1++L')
instance wT.skip{aeW:aH}{L L':J aH}[ae4:wT L L']:wT (aeW::L) L':=⟨by obtain⟨ae1,h⟩:=ae4.sub;exact⟨aeW::ae1,h.cons aeW⟩⟩
instance wT.pick{ae7:aH}{L R L':J aH}[ae4:eD ae7 L R][aeX:wT R L']:wT L (ae7::L'):=⟨by obtain⟨ae1,h⟩:=aeX.sub;exact⟨ae1,ae4.perm.trans ((h.cons ae7).trans List.perm_middle.symm)⟩⟩
instance wT.same{L:J aH}:wT L L:=⟨[],List.Perm.refl _⟩
theorem Ow.JZ{B:X}{w0 w:Y}{L:J aH}:∀{ae1:J aH},Ow B w0 w (ae1++L)->Ow B w0 w L
 | [],h=>h
 |_::ae1,h=>Ow.JZ (ae1:=ae1) h.drop
theorem Ow.sub{B:X}{w0 w:Y}{L L':J aH}[ae4:wT L L'](h:Ow B w0 w L):Ow B w0 w L':=by obtain⟨ae1,hp⟩:=ae4.sub;exact(h.perm hp).JZ
theorem Ow.pick{B:X}{w0 w:Y}{L R:J aH}{ae7:aH}[ae4:eD ae7 L R](h:Ow B w0 w L):Ow B w0 w (ae7::R):=h.perm ae4.perm
theorem F4{w:Y}{ae7:qf}{C:Prop}:∀(vs:J N)(i:X),(∀j v,vs[j]?=S v->w.cell? (ae7.add (i+j))=S v)->C->zP w ae7 i vs C
 | [],_,_,hC=>hC
 |v::vs,i,h,hC=>⟨h 0 v U,F4 vs (i+1) (λj u hj=>by rw[show i+1+j=i+(j+1)from by omega];exact h (j+1) u (by simpa using hj)) hC⟩
theorem Ow.hd{B:X}{w0 w:Y}{L:J aH}{b o:X}{l vs:J N}{C:Prop}[ae4:dE b L l](h:Ow B w0 w L)(hl:(l.drop o).take vs.length=vs)(hC:C):zP w ⟨b,o,I⟩ 0 vs C:=
 F4 vs 0 (λj v hj=>by
  rw[aO,(h.wV ae4.i ae4.at_).cell,OJ];rw[<-hl,OM]at hj;split at hj
  .rw[OP]at hj;exact hj
  .cases hj) hC
theorem eX{α:Type}{x:α}{ae3:α->Prop}(h:ae3 x):∃a,S x=S a/\ae3 a:=⟨x,U,h⟩
theorem a2{p:Prop}(h:p):p/\G:=⟨h,trivial⟩
class bY(s:Sl)(L:J aH)(α:outParam Type)(E:outParam (dF α))(xs:outParam (J α))where
 i:X
 at_:L[i]?=S (af E s xs)
instance bY.tail{s:Sl}{aeW:aH}{L:J aH}{α:Type}{E:dF α}{xs:J α}[ae4:bY s L α E xs]:bY s (aeW::L) α E xs:=⟨ae4.i+1,by simpa using ae4.at_⟩
instance bY.head{s:Sl}{L:J aH}{α:Type}{E:dF α}{xs:J α}:bY s (af E s xs::L) α E xs:=⟨0,U⟩
theorem Ow.aL(s:Sl)[ae4:bY s L α E xs](h:Ow B w0 w L):s.len=xs.length:=h.len ae4.i ae4.at_
theorem Gd{b o i j z:X}(c:X)(hij:i=j):((Addr.mk b o I).add (i*z)).add c=⟨b,o+(j*z+c),I⟩:=by rw[aO,aO,hij,Ql]
theorem Gc{b o i j z:X}(hij:i=j):(Addr.mk b o I).add (i*z)=⟨b,o+(j*z+0),I⟩:=by rw[aO,hij,QD]
theorem Ow.bX[ae4:bY s L α E xs]{i:O}{j:X}{x:α}{ae3:qf->Prop}(h:Ow B w0 w L)(hij:i=(j:O))(hj:xs[j]?=S x)
  (hG:∀a,s.a=S a->(∀v,(E.enc x)[0]?=S v->w.cell? (a.add (i.toNat*E.z))=S v)->(∀c v,(E.enc x)[c]?=S v->w.cell? ((a.add (i.toNat*E.z)).add c)=S v)->ae3 a):
  ∃a,s.a=S a/\0<=i/\i<(s.len:O)/\ae3 a:=by
 obtain⟨b,o,ha,hc⟩:=h.get ae4.i ae4.at_ hj;have hlen:=h.len ae4.i ae4.at_;have hlt:=(Om.1 hj).1;have hn:i.toNat=j:=om
 refine⟨_,ha,om,om,hG _ ha (λv hv=>?_) λc v hv=>?_⟩
 .rw[Gc hn];exact hc 0 v hv
 .rw[Gd c hn];exact hc c v hv
theorem Ow.Lf[ae4:bY s L α E xs]{i:O}{j:X}{x:α}(h:Ow B w0 w L)(hij:i=(j:O))(hj:xs[j]?=S x){a:qf}(ha:s.a=S a):
  (∀v,(E.enc x)[0]?=S v->w.cell? (a.add (i.toNat*E.z))=S v)/\(∀c v,(E.enc x)[c]?=S v->w.cell? ((a.add (i.toNat*E.z)).add c)=S v):=by
 obtain⟨b,o,ha',hc⟩:=h.get ae4.i ae4.at_ hj;rw[ha]at ha';simp only[Option.some.injEq]at ha';subst ha';have hn:i.toNat=j:=om
 refine⟨λv hv=>?_,λc v hv=>?_⟩
 .rw[Gc hn];exact hc 0 v hv
 .rw[Gd c hn];exact hc c v hv
theorem Ow.wg(s:Sl)[ae4:bY s L α E xs](h:Ow B w0 w L){a:qf}(ha:s.a=S a):a=⟨a.block,a.off,I⟩:=by have:=(h.wN ae4.i ae4.at_).spot a ha;cases a;simp at this;subst this;rfl
theorem vF{ae7:aH}{L R:J aH}(ae4:eD ae7 L R)(h:Ow B w0 w L):Ow B w0 w (ae7::R):=h.perm ae4.perm
theorem Ow.Dh[ae4:bY s L α E xs]{R:J aH}[aeX:eD (af E s xs) L R]{i:O}{j:X}{a:qf}{v:N}{k:Y->Prop}(h:Ow B w0 w L)(x:α)(hij:i=(j:O))(hj:j<xs.length)(ha:s.a=S a)(hx:E.enc x= [v])
  (hk:∀w',Ow B w0 w' (af E s (xs.set j x)::R)->k w'):St w (a.add (i.toNat*E.z)) v k:=by
 have e:=h.wg s ha;have hn:i.toNat=j:=om
 rw[e,aO,hn];exact(vF aeX h).N4 0 U hj x (by rw[ha];exact qw S e) hx hk
theorem Ow.rW[ae4:bY s L α E xs]{R:J aH}[aeX:eD (af E s xs) L R]{i:O}{j:X}{a:qf}{k:Y->Prop}(h:Ow B w0 w L)(x:α)(hij:i=(j:O))(hj:j<xs.length)(ha:s.a=S a)
  (hk:∀w',Ow B w0 w' (af E s (xs.set j x)::R)->k w'):aD w (a.add (i.toNat*E.z)) 0 (E.enc x) k:=by
 have e:=h.wg s ha;have hn:i.toNat=j:=om
 rw[e,aO,hn];exact(vF aeX h).Nh 0 U hj x (by rw[ha];exact qw S e) hk
theorem Ow.rX[ae4:bY s L α E xs]{R:J aH}[aeX:eD (af E s xs) L R]{i:O}{j c:X}{a:qf}{x:α}{v:N}{k:Y->Prop}(h:Ow B w0 w L)(x':α)(hij:i=(j:O))(hj:xs[j]?=S x)(ha:s.a=S a)(hx:E.enc x'=(E.enc x).set c v)(hc:c<E.z)(hv:v.oneCell'=V)
  (hk:∀w',Ow B w0 w' (af E s (xs.set j x')::R)->k w'):St w ((a.add (i.toNat*E.z)).add c) v k:=by
 have e:=h.wg s ha;have hn:i.toNat=j:=om
 rw[e,aO,aO,hn];exact(vF aeX h).Oj 0 U hj x' hx hc hv (by rw[ha];exact qw S e) hk
theorem Ow.eR{T el:qh}{inf:qJ}{zv:N}{y:α}{b:X}{k:Sl->Y->Prop}[ae4:bY s L α E xs]{R:J aH}[aeX:eD (af E s xs) L R]
  (hu:P.underlying T=S (.slice el)) (hi:P.info? el=S inf) (hz:inf.zero=S zv) (hsz:inf.size=E.z) (hzc:zv.cells.size=E.z) (hb:1<=inf.bytes)
  (h:Ow B w0 w (aa b (E.enc y)::L)) (hbig:(17*(xs.length+1)+16000)*inf.bytes<=2^48)
  (hk:∀s' w',s'.len=xs.length+1->Ow B w0 w' (af E s' (xs++ [y])::R)->k s' w'):
  ∃s' w',aP P [T,T] T (.slice s.a s.len s.cap) (.slice (S (Addr.mk b 0 I)) 1 1) w s' w'/\k s' w':=
 Ow.ID hu hi hz hsz hzc hb (h.perm (aeX.perm.cons _)) 0 U hbig hk
theorem Ow.rH{T el:qh}{inf:qJ}{zv:N}{z0:α}{n:O}{k:Sl->Y->Prop}(hu:P.underlying T=S (.slice el))(hi:P.info? el=S inf)(hz:inf.zero=S zv)(hsz:inf.size=E.z)(hzc:zv.cells.toList=E.enc z0)
  (h:Ow B w0 w L) (h0:0<=n) (hn:(inf.bytes:O)*n<=2^48) (hnn:n<=2^48) (hk:∀s' w',s'.len=n.toNat->Ow B w0 w' (af E s' (Oq n.toNat z0)::L)->k s' w'):
  ∃s' w',jH P T (.int .i64 n) (.int .i64 n) w s' w'/\k s' w':=by
 obtain⟨m,rfl⟩:=Int.eq_ofNat_of_zero_le h0;have hp48:(2:O)^48=281474976710656:=qb
 rw[hp48]at hn hnn;have hw:qd.wrap (m:O)=(m:O):=wr om om;have hzl:zv.cells.size=E.z:=by rw[<-Pr,hzc,E.len]
 let row:J N:=rep m (E.enc z0)
 have hrow:row=(Oq m z0).flatMap E.enc:=by
  show rep m (E.enc z0)=_;clear hk hw hn hnn h0;induction m with
  |zero=>rfl
  |succ m ih=>simp[rep,Q5,ih]
 have hrl:row.length=m*E.z:=by rw[hrow,aK];simp
 have hcells:(SA (m*sz P el)).map (λi=>(if m*sz P el=0 then(#[]:qn N)else zv.cells)[i%(if m*sz P el=0 then(#[]:qn N)else zv.cells).size]!)=⟨row⟩:=by
  have hsz2:sz P el=zv.cells.size:=by simp[sz,hi,hsz,hzl]
  by_cases e:m*sz P el=0
  .have hpos:=E.pos
   have:m=0:=by
    rcases R5.1 e with e|e
    .exact e
    .rw[hsz2,hzl]at e;omega
   subst this;simp[row,rep]
  .simp only[Q e]
   rw[hsz2,sm zv.cells m (by rw[hzl];exact E.pos),hzc]
 refine⟨⟨S ⟨w.heap.size,0,I⟩,m,m⟩,w.alloc (.cells ⟨row⟩ el),?_,hk _ _ U ?_⟩
 .unfold jH Instr.makeSlice
  have hsize:∀w,(sizeOf el).run P w= .ok (sz P el) w:=λw=>fO hi w;have hinfo:∀w,(typeInfo el).run P w= .ok inf w:=λw=>by simp[typeInfo,hi]
  have hzero:∀w,(qE el).run P w= .ok zv w:=λw=>by simp[qE,hinfo,hz]
  have hint:∀w,(asInt (.int .i64 (m:O))).run P w= .ok (m:O) w:=λw=>by simp[asInt,asIntOf]
  have c2:¬((inf.bytes:O)*(m:O)>2^48):=by rw[hp48];omega
  have c0:¬((m:O)<0):=om
  have c3:¬((m:O)>(m:O)):=om
  simp only[Sem.run_bind,aS hu,Result.andThen_ok,hint,hinfo,hw,qk c2,qk c0,qk c3,Q9,OF,qx,Oo,run_askRoom,hsize];by_cases e:m*sz P el=0
  .simp only[A e]at hcells
   simp only[e,qz,Sem.run_pure,Result.andThen_ok,newRow,Sem.run_bind,run_newObj];rw[e]at hcells;rw[hcells];rfl
  .simp only[Q e]at hcells
   simp only[e,qx,Sem.run_bind,hzero,Sem.run_pure,Result.andThen_ok,newRow,run_newObj];rw[hcells];rfl
 .refine h.new (A':=af E ⟨S ⟨w.heap.size,0,I⟩,m,m⟩ (Oq m z0)) (G':=λk=>k=w.heap.size) (gd _ _) ⟨λa ha=>by cases ha;rfl,qc,?_⟩ λk e=>by subst e;simp
  refine .mk w.heap.size 0 row U ⟨el,heap_alloc_new _ _⟩ (On _) (by rw[hrl];simp) ?_;show _=(row.drop 0).take (m*E.z);rw[P6,<-hrl,Qr,hrow]
def cU{α:Type}(E:dF α)(ss:J Sl)(rows:J (J α)):aH:=pa λ_:Unit=>bo (dJ (ss.length=rows.length)::Ot (af E) ss rows)
def pU:dF Sl:=⟨1,λs=>[.slice s.a s.len s.cap],λ_=>rfl,λx v h=>by simp at h;subst h;rfl,On _⟩
theorem Ow.Bz(h:Ow B w0 w (cU E ss rows::R)):ss.length=rows.length/\Ow B w0 w (Ot (af E) ss rows++R):=by obtain⟨_,h⟩:=h.ex;exact Ow.pure h.star
theorem Ow.zf(hl:ss.length=rows.length)(h:Ow B w0 w (Ot (af E) ss rows++R)):Ow B w0 w (cU E ss rows::R):=
 Ow.eP () (Ow.br (Ow.cZ hl h))
theorem JM{j:X}{s:Sl}{row:J α}(hs:ss[j]?=S s)(hr:rows[j]?=S row)(R:J aH):(Ot (af E) ss rows++R)[j]?=S (af E s row):=by have h1:=(Om.1 hs).1;have h2:=(Om.1 hr).1;rw[Oy (by simp;omega),List.getElem?_zipWith,hs,hr]
theorem Ow.row(h:Ow B w0 w (cU E ss rows::R)){j:X}{s:Sl}{row:J α}(hs:ss[j]?=S s)(hr:rows[j]?=S row):
  Ow B w0 w (af E s row::((Ot (af E) ss rows).eraseIdx j++R)):=by
 obtain⟨hl,h⟩:=h.Bz;have h1:=(Om.1 hs).1;have:=h.take j (JM hs hr R)
 rwa [Qh (by simp;omega)]at this
theorem Ee{s':Sl}{row':J α}:∀(ss:J Sl)(rows:J (J α))(j:X),Ot (af E) (ss.set j s') (rows.set j row')=(Ot (af E) ss rows).set j (af E s' row')
 | [],rows,j=>by simp
 |_::_,[],j=>by cases j<;>simp
 |s::ss,r::rows,0=>by simp
 |s::ss,r::rows,j+1=>by simp[Ee ss rows j]
theorem Ow.By{j:X}{s':Sl}{row':J α}(hl:ss.length=rows.length)(hj:j<rows.length)(h:Ow B w0 w (af E s' row'::((Ot (af E) ss rows).eraseIdx j++R))):
  Ow B w0 w (cU E (ss.set j s') (rows.set j row')::R):=by
 refine Ow.zf (by simp[hl]) ?_;rw[Ee];have hj':j<(Ot (af E) ss rows).length:=by simp;omega
 have h2:Ow B w0 w (af E s' row'::(Ot (af E) ss rows++R).eraseIdx j):=by rwa [Qh hj']
 have:=h2.put (by simp;omega)
 rwa [List.set_append_left _ _ hj']at this
theorem Ow.BA(h:Ow B w0 w R):Ow B w0 w (cU E [] []::R):=Ow.zf U h
theorem B4{s:Sl}{row:J α}:∀(ss:J Sl)(rows:J (J α)),ss.length=rows.length->Ot (af E) (ss++ [s]) (rows++ [row])=Ot (af E) ss rows++ [af E s row]
 | [],[],_=>rfl
 | [],_::_,h=>by simp at h
 |_::_,[],h=>by simp at h
 |a::ss,b::rows,h=>by simp[B4 ss rows (by simpa using h)]
theorem Ow.D2{s:Sl}{row:J α}(h:Ow B w0 w (af E s row::cU E ss rows::R)):Ow B w0 w (cU E (ss++ [s]) (rows++ [row])::R):=by have h2:Ow B w0 w (cU E ss rows::af E s row::R):=h.perm (List.Perm.swap _ _ _);obtain⟨hl,h3⟩:=h2.Bz;refine Ow.zf (by simp[hl]) ?_;rw[B4 _ _ hl,O1];exact h3
theorem Ow.um(h:Ow B w0 w (cU E ss rows::R)){j k:X}{s:Sl}{row:J α}{x:α}{i:O}{ae3:qf->Prop}(hs:ss[j]?=S s)(hr:rows[j]?=S row)(hik:i=(k:O))(hk:row[k]?=S x)
  (hG:∀a,s.a=S a->(∀v,(E.enc x)[0]?=S v->w.cell? (a.add (i.toNat*E.z))=S v)->(∀c v,(E.enc x)[c]?=S v->w.cell? ((a.add (i.toNat*E.z)).add c)=S v)->ae3 a):
  ∃a,s.a=S a/\0<=i/\i<(s.len:O)/\ae3 a:=(h.row hs hr).bX hik hk hG
theorem Ow.Jv(h:Ow B w0 w (cU E ss rows::R)){j k:X}{s:Sl}{row:J α}{i:O}{a:qf}{K:Y->Prop}(x:α)(hs:ss[j]?=S s)(hr:rows[j]?=S row)(hik:i=(k:O))(hk:k<row.length)(ha:s.a=S a)
  (hK:∀w',Ow B w0 w' (cU E ss (rows.set j (row.set k x))::R)->K w'):aD w (a.add (i.toNat*E.z)) 0 (E.enc x) K:=by
 obtain⟨hl,_⟩:=h.Bz;have h1:=(Om.1 hr).1;refine(h.row hs hr).rW x hik hk ha λw' h'=>hK w' ?_;have:=h'.By (ss:=ss) (rows:=rows) (j:=j) hl h1;have hset:ss.set j s=ss:=by
  apply O2;intro t;rw[Pb];by_cases e:j=t
  .subst e;rw[A U,A om,hs]
  .rw[Q e]
 rwa [hset]at this
theorem Ow.gv(h:Ow B w0 w (cU E ss rows::R)){j:X}{s:Sl}{row:J α}(hs:ss[j]?=S s)(hr:rows[j]?=S row):s.len=row.length:=(h.row hs hr).len 0 U
end
end Go.Vc
namespace Go.Vc
open Go.ChangeShapes Go.WideShapes
section
variable{B:X}{w0 w:Y}{L L':J aH}{α:Type}{E:dF α}{s:Sl}{xs:J α}
structure Rd{α:Type}(E:dF α)(B:X)(w0:Y)(L:J aH)(s:Sl)(xs:J α):Prop where
 len:s.len=xs.length
 LI:∀w',Ow B w0 w' L->∀(i:O)(j:X)(x:α),i=(j:O)->xs[j]?=S x->∃a,s.a=S a/\(∀v,(E.enc x)[0]?=S v->w'.cell? (a.add (i.toNat*E.z))=S v)/\(∀c v,(E.enc x)[c]?=S v->w'.cell? ((a.add (i.toNat*E.z)).add c)=S v)
theorem Rd.own[ae4:bY s L α E xs](hl:s.len=xs.length):Rd E B w0 L s xs:=⟨hl,λw' h i j x hij hj=>by obtain⟨b,o,ha,_⟩:=h.get ae4.i ae4.at_ hj;exact⟨_,ha,h.Lf hij hj ha⟩⟩
theorem Rd.more(hr:Rd E B w0 L s xs)[ae4:wT L' L]:Rd E B w0 L' s xs:=⟨hr.len,λw' h=>hr.LI w' h.sub⟩
theorem Rd.ix(hr:Rd E B w0 L s xs)(h:Ow B w0 w L){i:O}{j:X}{x:α}{ae3:qf->Prop}(hij:i=(j:O))(hj:xs[j]?=S x)
  (hG:∀a,s.a=S a->(∀v,(E.enc x)[0]?=S v->w.cell? (a.add (i.toNat*E.z))=S v)->(∀c v,(E.enc x)[c]?=S v->w.cell? ((a.add (i.toNat*E.z)).add c)=S v)->ae3 a):
  ∃a,s.a=S a/\0<=i/\i<(s.len:O)/\ae3 a:=by
 obtain⟨a,ha,h0,hc⟩:=hr.LI w h i j x hij hj;have h1:=(Om.1 hj).1;have h2:=hr.len;exact⟨a,ha,om,om,hG a ha h0 hc⟩
theorem Ow.Ak{b:X}{L:J aH}{l:J N}(h:Ow B w0 w (aa b l::L))(xs:J α)(hl:l=xs.flatMap E.enc):Ow B w0 w (af E ⟨S ⟨b,0,I⟩,xs.length,xs.length⟩ xs::L):=by
 subst hl;refine h.conv λae3 hG=>⟨λa ha=>by cases ha;exact hG.1,U,.mk b 0 _ U hG.2 (On _) ?_ ?_⟩
 .rw[aK];simp
 .rw[P6,<-aK,Qr]
end
end Go.Vc
namespace Go.Vc
section
variable{P:qo}{B:X}{w0 w:Y}{L R:J aH}{α:Type}{E:dF α}{s:Sl}{xs:J α}
theorem CO(l:J N)(o n:X){q:X}{vs:J N}(h1:o+n<=l.length)(h2:q+vs.length<=n):((putAt l (o+q) vs).drop o).take n=putAt ((l.drop o).take n) q vs:=by
 apply O2;intro t;rw[OM,cY _ _ _ _ (by simp;omega),OM];by_cases e:t<n
 .rw[A e,A e,OP,cY _ _ _ _ om,OP]
  by_cases e2:q<=t/\t<q+vs.length
  .rw[A e2,A om];congr 1;omega
  .rw[Q e2,Q om]
 .rw[Q e,Q e]
  by_cases e2:q<=t/\t<q+vs.length
  .omega
  .rw[Q e2]
theorem AG{α:Type}(E:dF α)(xs ys:J α)(p:X)(h:p+ys.length<=xs.length):putAt (xs.flatMap E.enc) (p*E.z) (ys.flatMap E.enc)=(xs.take p++ys++xs.drop (p+ys.length)).flatMap E.enc:=by
 have hl:=aK E xs;have hly:=aK E ys;have hm:(p+ys.length)*E.z<=xs.length*E.z:=OU _ h;rw[PJ]at hm;have htake:∀n,(xs.take n).flatMap E.enc=(xs.flatMap E.enc).take (n*E.z):=λn=>by
  by_cases hn:n<=xs.length
  .have h1:xs.flatMap E.enc=(xs.take n).flatMap E.enc++(xs.drop n).flatMap E.enc:=by rw[<-Pd,O8]
   have h2:((xs.take n).flatMap E.enc).length=n*E.z:=by rw[aK];simp[hn]
   rw[h1,<-h2,QK]
  .rw[Ou om,Ou]
   rw[hl];exact OU _ om
 have hdrop:(xs.drop (p+ys.length)).flatMap E.enc=(xs.flatMap E.enc).drop ((p+ys.length)*E.z):=by
  have h1:xs.flatMap E.enc=(xs.take (p+ys.length)).flatMap E.enc++(xs.drop (p+ys.length)).flatMap E.enc:=by rw[<-Pd,O8]
  have h2:((xs.take (p+ys.length)).flatMap E.enc).length=(p+ys.length)*E.z:=by rw[aK,OO,Pv h]
  rw[h1,<-h2,Sf]
 rw[Pd,Pd,htake,hdrop];generalize xs.flatMap E.enc=cs at*
 generalize ys.flatMap E.enc=ds at*
 apply O2;intro t;rw[cY _ _ _ _ (by rw[hl,hly];exact hm)];have hlt:(cs.take (p*E.z)).length=p*E.z:=by simp;omega
 by_cases e1:t<p*E.z
 .rw[Q om,O1,Oy om,OM,A e1]
 .by_cases e2:t<p*E.z+ds.length
  .rw[A om,Oy (by rw[Ov];omega),OA om,hlt]
  .rw[Q om,OA (by rw[Ov];omega),Ov,hlt,OP,PJ,<-hly]
   congr 1;omega
theorem Ow.kG(h:Ow B w0 w (af E s xs::R)):lf E.z w s (xs.flatMap E.enc):=h.wN 0 U
theorem Ow.D5{z:X}{cs ds:J N}{q b o:X}(h:Ow B w0 w (FZ z s cs::R))(ha:s.a=S ⟨b,o,I⟩)(hq:q+ds.length<=cs.length)(hone:∀v∈ds,v.oneCell'=V):
  ∃w',(storeCells ⟨b,o+q,I⟩ ds 0).run P w= .ok () w'/\Ow B w0 w' (FZ z s (putAt cs q ds)::R):=by
 have hs:lf z w s cs:=h.head λ_ h=>h.2;have hlen:=hs.length;cases hs with
 |nil ha' _ _ _=>rw[ha']at ha;cases ha
 |mk b' o' l ha' hb hle hc hcs=>
  rw[ha']at ha;simp only[Option.some.injEq,Addr.mk.injEq,and_true]at ha;obtain⟨rfl,rfl⟩:=ha;have m1:s.len*z<=s.cap*z:=OU z hle;obtain⟨w',h1,h2,h3,h4⟩:=gY (P:=P) ds l (o'+q) w hb om hone 0 (o'+q) om;refine⟨w',h1,h.step (A':=FZ z s (putAt cs q ds)) λae3 hA hG=>⟨h2.mono λk _ e=>by rw[e];exact hA.1 _ ha',ae3,⟨hA.1,?_⟩,λk hk=>⟨.inl hk,by have:=(hG k hk).2;omega⟩⟩⟩;refine .mk b' o' _ ha' h4 hle (by rw[oF om];exact hc) ?_;rw[hcs,CO l o' (s.len*z) om om]
theorem Ow.N6(h:Ow B w0 w (af E s xs::R)):Ow B w0 w (FZ E.z s (xs.flatMap E.enc)::R):=h.conv λ_ h=>⟨h.1,h.2.2⟩
theorem Ow.M4{cs:J N}(hl:s.len=xs.length)(hc:cs=xs.flatMap E.enc)(h:Ow B w0 w (FZ E.z s cs::R)):Ow B w0 w (af E s xs::R):=h.conv λ_ h=>⟨h.1,hl,hc▸h.2⟩
theorem wZ{z n:X}{a:qf}{cap len:X}{ds:J N}(hn:ds.length=n*z)(hg:∀j v,ds[j]?=S v->w.cell? (a.add j)=S v):(Builtin.firstCells z n (.slice (S a) len cap)).run P w= .ok ⟨ds⟩ w:=by simp only[Builtin.firstCells];unfold loadCells;have:=di (P:=P) w a ds 0 #[] (λj v hj=>by rw[dz]at hj;rw[OJ];exact hg j v hj);rw[hn]at this;rw[this];simp
theorem Ow.Gu{T el t:qh}{inf:qJ}{z p dl dc b o sl sc:X}{cs ds:J N}{sa:qf}{k:O->Y->Prop}(hu:P.underlying T=S (.slice el))(hi:P.info? el=S inf)(hsz:inf.size=z)
  (h:Ow B w0 w (FZ z s cs::R)) (ha:s.a=S ⟨b,o,I⟩) (hd:ds.length=min sl dl*z) (hone:∀v∈ds,v.oneCell'=V) (hp:(p+min sl dl)*z<=cs.length)
  (hsrc:∀j v,ds[j]?=S v->w.cell? (sa.add j)=S v) (hk:∀w',Ow B w0 w' (FZ z s (putAt cs (p*z) ds)::R)->k ((min sl dl:X):O) w'):
  ∃n w',kZ P [T,T] t (.slice (S ⟨b,o+p*z,I⟩) dl dc) (.slice (S sa) sl sc) w n w'/\k n w':=by
 have hsize:∀w,(sizeOf el).run P w= .ok z w:=λw=>by rw[fO hi w];simp[sz,hi,hsz]
 rw[PJ]at hp;obtain⟨w',h1,h2⟩:=h.D5 (P:=P) (q:=p*z) (ds:=ds) ha om hone;refine⟨_,w',?_,hk w' h2⟩;unfold kZ Builtin.copy_;simp only[PX,PA,OK,Sem.run_bind,aS hu,Result.andThen_ok,hsize,Builtin.lenOf,Sem.run_pure];rw[show Nat.min sl dl=min sl dl from U,wZ (w:=w) hd hsrc];simp only[Result.andThen_ok,h1];rfl
theorem Ow.u7{T el:qh}{inf:qJ}{i j:X}{k:Sl->Y->Prop}(hu:P.underlying T=S (.slice el))(hi:P.info? el=S inf)(hsz:inf.size=E.z)(h:Ow B w0 w (af E s xs::R))(hij:i<=j)(hj:j<=xs.length)(hi0:i<xs.length)
  (hk:∀w',Ow B w0 w' (af E s (xs.take i++xs.drop j++xs.drop (i+(xs.length-j)))::R)->k ⟨s.a,i+(xs.length-j),s.cap⟩ w'):
  ∃t w',aP P [T,T] T (.slice (eH s.a 0 s.cap E.z) (i-0) (s.cap-0)) (.slice (eH s.a j s.cap E.z) (s.len-j) (s.cap-j)) w t w'/\k t w':=by
 have hsize:∀w,(sizeOf el).run P w= .ok E.z w:=λw=>by rw[fO hi w];simp[sz,hi,hsz]
 have hl:=h.len 0 U;have hs:=h.kG;have hsp:=hs.spot;have hsub:=hs.sub (l:=j) (hh:=s.len) om (On _);have hds:((xs.flatMap E.enc).take (s.len*E.z)).drop (j*E.z)=(xs.drop j).flatMap E.enc:=by
  rw[hl,<-aK,Qr];have h1:xs.flatMap E.enc=(xs.take j).flatMap E.enc++(xs.drop j).flatMap E.enc:=by rw[<-Pd,O8]
  have h2:((xs.take j).flatMap E.enc).length=j*E.z:=by rw[aK];simp[hj]
  rw[h1,<-h2,Sf]
 rw[hds]at hsub;have hcells:=gN (P:=P) hsub (s.len-j) (On _);have hdl:((xs.drop j).flatMap E.enc).length=(s.len-j)*E.z:=by rw[aK,Qd,hl]
 rw[<-hdl,Qr]at hcells;have hcap:=hs.fK;obtain⟨b,o,ha,_⟩:=h.get 0 U (gE hi0);obtain⟨w',h1,h2⟩:=h.N6.D5 (P:=P) (q:=i*E.z) (ds:=(xs.drop j).flatMap E.enc) ha (by
  rw[aK,aK,Qd,<-PJ];exact OU _ om) (λv hv=>by
  obtain⟨y,_,hy⟩:=Rl.1 hv;exact E.one y v hy)
 have e0:eH s.a 0 s.cap E.z=s.a:=FH _ _ _ hsp;refine⟨_,w',?_,hk w' (Ow.M4 (cs:=putAt (xs.flatMap E.enc) (i*E.z) ((xs.drop j).flatMap E.enc)) ?_ ?_ h2)⟩
 .unfold aP Builtin.append_
  rw[e0];simp only[S4];simp only[PX,PA,OK,Sem.run_bind,aS hu,Result.andThen_ok,hsize,Builtin.lenOf,Sem.run_pure,OF,qx,PN];rw[A (show i+(s.len-j)<=s.cap by omega)];simp only[qz];rw[Sem.run_bind,hcells];simp only[Result.andThen_ok,ha,aO];rw[Sem.run_bind,h1,hl];rfl
 .simp;omega
 .rw[AG E xs (xs.drop j) i (by rw[Qd];omega),Qd]
theorem gX{a:qg qf}{b o i cap z:X}(ha:a=S ⟨b,o,I⟩)(hne:cap≠i):Vc.eH a i cap z=S ⟨b,o+i*z,I⟩:=by unfold Vc.eH;rw[Q hne,ha];simp only[PC,aO]
theorem Ow.DB{T el t:qh}{inf:qJ}{p dl dc sl sc b o:X}{sa:qf}{zs:J α}{k:O->Y->Prop}(hu:P.underlying T=S (.slice el))(hi:P.info? el=S inf)(hsz:inf.size=E.z)
  (h:Ow B w0 w (af E s xs::R)) (ha:s.a=S ⟨b,o,I⟩) (hzl:zs.length=min sl dl) (hp:p+zs.length<=xs.length) (hsrc:∀j v,(zs.flatMap E.enc)[j]?=S v->w.cell? (sa.add j)=S v)
  (hk:∀w',Ow B w0 w' (af E s (xs.take p++zs++xs.drop (p+zs.length))::R)->k ((min sl dl:X):O) w'):
  ∃n w',kZ P [T,T] t (.slice (S ⟨b,o+p*E.z,I⟩) dl dc) (.slice (S sa) sl sc) w n w'/\k n w':=by
 have hl:=h.len 0 U;refine h.N6.Gu hu hi hsz ha (p:=p) (ds:=zs.flatMap E.enc) (by rw[aK,hzl]) (λv hv=>by obtain⟨y,_,hy⟩:=Rl.1 hv;exact E.one y v hy) (by rw[aK,<-hzl];exact OU _ hp) hsrc λw' h'=>hk w' (Ow.M4 ?_ (AG E xs zs p hp) h');simp;omega
theorem Ow.grow{m:X}(h:Ow B w0 w (af E s xs::R))(hm:xs.length+m<=s.cap){b o:X}(ha:s.a=S ⟨b,o,I⟩):∃junk:J N,junk.length=m*E.z/\Ow B w0 w (FZ E.z ⟨s.a,xs.length+m,s.cap⟩ (xs.flatMap E.enc++junk)::R):=by
 obtain⟨ae3,hA,hG,ae1,h1,h2,h3,h4⟩:=h.held.cG;obtain⟨hin,hlen,hs⟩:=hA;cases hs with
 |nil ha' _ _ _=>rw[ha']at ha;cases ha
 |mk b' o' l ha' hb hle hc hcs=>
  have m1:(xs.length+m)*E.z<=s.cap*E.z:=OU _ hm;rw[PJ]at m1;refine⟨(l.drop (o'+xs.length*E.z)).take (m*E.z),by simp;omega,h.base,h.wD,gi.oi (ae7:=FZ E.z ⟨s.a,xs.length+m,s.cap⟩ _) ⟨hin,.mk b' o' l ha' hb hm hc ?_⟩ hG h1 h2 h3 h4⟩;show _=(l.drop o').take ((xs.length+m)*E.z);rw[hcs,hlen,PJ,List.take_add,Pz]
theorem Ow.Kh{ae7 A':aH}{p:Prop}(h:Ow B w0 w (ae7::A'::R))(hp:∀ae3 G',ae7.holds ae3 w->A'.holds G' w->(∀k,ae3 k->¬G' k)->p):p:=by
 obtain⟨ae1,h1,h2,h3⟩:=h.held
 match ae1,h1 with
 |x::y::ae1,h1=>
  simp only[OZ,List.cons.injEq]at h1;obtain⟨rfl,rfl,_⟩:=h1;exact hp x.2 y.2 (h2 x qc).1 (h2 y qc).1 ((PB.1 h3).1 y qc)
theorem Ow.overlaps {f:FuncId} {fn:Func} {tS tR e:qh} {size la ca lb cb c b o o' z:X} {l:J N} {cs:J N} {s':Sl} (hf:P.funcs[f]?=S fn) (hname:(fn.name== "runtime.NumGoroutine")=Z) (hb:fn.body.isNone=V) (hn:Extern.findNext fn=I)
  (he:Extern.find fn=S (Extern.SlicesOverlaps.overlaps #[tS,tS] #[tR])) (ht:P.underlying tS=S (.slice e)) (hz:∀w,(Go.sizeOf e).run P w= .ok size w)
  (h:Ow B w0 w (aa c l::FZ z s' cs::R)) (ha:s'.a=S ⟨b,o,I⟩) (hcs:cs≠ []):zY P f #[.slice (S ⟨c,0,I⟩) la ca,.slice (S ⟨b,o',I⟩) lb cb] w (.bool Z) w:=by
 refine h.Kh λae3 G' hA hA' hd=>?_;have hne:c≠b:=λe=>hd c hA.1 (by have:=hA'.1 _ ha;rw[e];exact this);obtain⟨t1,ht1⟩:=hA.2;cases hA'.2 with
 |nil ha' _ _ _=>rw[ha']at ha;cases ha
 |mk b' o2 l' ha' hb' hle hc hcs'=>
  rw[ha']at ha;simp only[Option.some.injEq,Addr.mk.injEq,and_true]at ha;obtain⟨rfl,rfl⟩:=ha;obtain⟨t2,ht2⟩:=hb';have hl':l'.length≠0:=λe=>by have:l'= []:=P1 e;subst this;simp at hcs';exact hcs hcs'
  unfold zY;rw[run_callFunc_extern hf hname hb hn he,Lib.run_overlaps_apart w tS tR e ht size hz ⟨c,0,I⟩ ⟨b',o',I⟩ la ca lb cb hne t1 t2 l.length l'.length
   (by simp[World.shape?,ht1]) (by simp[World.shape?,ht2]) hl' (by simp[World.frozen?,ht1]) (by simp[World.frozen?,ht1])]
  rfl
theorem Ow.Ms{T aeU el:qh}{inf:qJ}{zv:N}{z0:α}{i m:X}{ku:qK}{k:Sl->Y->Prop}(hu:P.underlying T=S (.slice el))(hui:P.underlying aeU=S (.int ku))(hi:P.info? el=S inf)(hz:inf.zero=S zv)(hsz:inf.size=E.z)(hzc:zv.cells.toList=E.enc z0)(hb:1<=inf.bytes)
  (h:Ow B w0 w (af E s xs::R)) (hi0:i<=xs.length) (zR:1<=m) (hcap:s.cap<i+m) (hbig:(17*(i+m)+16000)*inf.bytes<=2^48)
  (hk:∀s' w',s'.len=i+m->s'.len<=s'.cap->Ow B w0 w' (af E s' (xs.take i++Oq m z0)::af E s xs::R)->k s' w'):
  ∃s' w',aP P [T,aeU] T (.slice (eH s.a 0 s.cap E.z) (i-0) (s.cap-0)) (.int .i64 (m:O)) w s' w'/\k s' w':=by
 have hsize:∀w,(sizeOf el).run P w= .ok E.z w:=λw=>by rw[fO hi w];simp[sz,hi,hsz]
 have hinfo:∀w,(typeInfo el).run P w= .ok inf w:=λw=>by simp[typeInfo,hi]
 have hzero:∀w,(qE el).run P w= .ok zv w:=λw=>by simp[qE,hinfo,hz]
 have hl:=h.len 0 U;have hs:=h.kG;have hlc:=hs.fK;have hsp:=hs.spot;have e0:eH s.a 0 s.cap E.z=s.a:=FH _ _ _ hsp;have hzl:zv.cells.size=E.z:=by rw[<-Pr,hzc,E.len]
 let need:=i+m
 let q:Question:= .appendCap need s.cap el
 let n:=q.cut (w.tape w.drawn q)
 have hle:=vA need s.cap;have hlim:¬(Builtin.nextslicecap need s.cap*inf.bytes>2^48):=by
  have h0:Builtin.nextslicecap need s.cap<=17*(i+m)+16000:=by refine ON hle ?_;show i+m+16*s.cap+16000<=_;generalize 16000=y;omega
  have:Builtin.nextslicecap need s.cap*inf.bytes<=(17*(i+m)+16000)*inf.bytes:=OU _ h0;omega
 have hneedb:need<=2^44:=by have h1:(17*(i+m)+16000)*1<=(17*(i+m)+16000)*inf.bytes:=SU _ hb;show i+m<=_;omega
 have e44:(2:X)^44=17592186044416:=qb
 rw[e44]at hneedb;have hneedb:i+m<=17592186044416:=hneedb;have hn1:need<=n:=by show need<=need+_%_;omega
 let row:J N:=(xs.take i).flatMap E.enc++(Oq m z0).flatMap E.enc++(Builtin.zeroCells zv.cells (n-need)).toList
 let w':=w.drew.alloc (.cells ⟨row⟩ el)
 have hpre:(xs.take i).flatMap E.enc=(xs.flatMap E.enc).take (i*E.z):=by
  have g1:xs.flatMap E.enc=(xs.take i).flatMap E.enc++(xs.drop i).flatMap E.enc:=by rw[<-Pd,O8]
  have g2:((xs.take i).flatMap E.enc).length=i*E.z:=by rw[aK];simp[hi0]
  rw[g1,<-g2,QK]
 have hold:(Builtin.firstCells E.z i (.slice s.a i s.cap)).run P w.drew= .ok ⟨(xs.take i).flatMap E.enc⟩ w.drew:=by have h1:=h.drop;have hp:=(h.same (w':=w.drew) (si U U U U)).pre 0 U (n:=i) hi0;have:=gN (P:=P) (hp.wN 0 U) i (On _);rw[this,Ou (by rw[aK];simp[hi0])]
 have hzs:(Builtin.zeroCells zv.cells m).toList=(Oq m z0).flatMap E.enc:=by
  have h1:(Builtin.zeroCells zv.cells m)=⟨rep m zv.cells.toList⟩:=by unfold Builtin.zeroCells;exact sm zv.cells m (by rw[hzl];exact E.pos)
  have h2:∀m,rep m (E.enc z0)=(Oq m z0).flatMap E.enc:=by
   intro m;induction m with
   |zero=>rfl
   |succ m ih=>simp[rep,Q5,ih]
  rw[h1,hzc,h2]
 have hzl2:(Builtin.zeroCells zv.cells (n-need)).toList.length=(n-need)*E.z:=by simp[Builtin.zeroCells,hzl]
 refine⟨⟨S ⟨w.heap.size,0,I⟩,need,n⟩,w',?_,hk _ _ U hn1 ?_⟩
 .have hint:∀w,(asInt (.int .i64 (m:O))).run P w= .ok (m:O) w:=λw=>by simp[asInt,asIntOf]
  have hwm:qd.wrap (m:O)=(m:O):=wr om om;have hmb:¬((m:O)*(inf.bytes:O)>2^48):=by
   have h1:m*inf.bytes<=(17*(i+m)+16000)*inf.bytes:=OU _ om;have h2:m*inf.bytes<=2^48:=ON h1 hbig;have e48:(2:O)^48=((2^48:X):O):=qb
   rw[e48,<-Int.natCast_mul];omega
  have Le:¬((m:O)<0):=om
  have hcap2:¬(i+m<=s.cap):=om
  have hmax:¬(((i+m:X):O)>qd.max/\(G\/inf.bytes=0)):=by
   have:qd.max=9223372036854775807:=qb
   rw[this];omega
  unfold aP Builtin.append_;rw[e0];simp only[S4];have hint2:∀w,(asIntOf (.int .i64 (m:O))).run P w= .ok (.i64,(m:O)) w:=λw=>by simp[asIntOf]
  simp only[PX,PA,OK,Sem.run_bind,aS hu,aS hui,Result.andThen_ok,hsize,Sem.run_pure,qz,hint,hwm,Le,qx,hinfo,hmb,Oo,hcap2,PK,OF];rw[Q hmax,Sem.run_bind,hinfo];simp only[Result.andThen_ok];rw[Q hlim,Sem.run_bind,run_choose];have hf:Question.forced (.appendCap (i+m) s.cap el)=false:=rfl;simp only[hf,OF,qx,Result.andThen_ok,World.drew_eq];rw[Sem.run_bind,hinfo];simp only[Result.andThen_ok];rw[Sem.run_bind,run_askRoom];simp only[Result.andThen_ok];rw[Sem.run_bind,hold];simp only[Result.andThen_ok];have hmz:¬(m*E.z=0):=by have hpos:=E.pos;intro e;rcases R5.1 e with e|e<;>omega
  rw[Q hmz];simp only[Sem.run_bind,hzero,Result.andThen_ok,Sem.run_pure,newRow,run_newObj];have hrow:((⟨(xs.take i).flatMap E.enc⟩:qn N)++Builtin.zeroCells zv.cells m++Builtin.zeroCells zv.cells (n-need))=⟨row⟩:=by apply QX;simp only[row,Array.toList_append,hzs]
  show Result.ok (Value.slice (S ⟨w.heap.size,0,I⟩) (i+m) n) (w.drew.alloc (.cells ((⟨(xs.take i).flatMap E.enc⟩:qn N)++Builtin.zeroCells zv.cells m++Builtin.zeroCells zv.cells (n-need)) el))=_;rw[hrow]
 .have hrl:row.length=n*E.z:=by simp only[row,Ov,aK,hzl2,OO,Pv hi0,List.length_replicate];rw[<-PJ,<-PJ];congr 1;show i+m+(n-(i+m))=n;have:i+m<=n:=hn1;omega
  have h2:=h.same (w':=w.drew) (si U U U U);refine h2.new (A':=af E ⟨S ⟨w.heap.size,0,I⟩,need,n⟩ (xs.take i++Oq m z0)) (G':=λk=>k=w.heap.size) (gd _ _) ⟨λa ha=>by cases ha;rfl,by simp[need,hi0],?_⟩ λk e=>by subst e;exact⟨On _,by simp[w']⟩
  refine .mk w.heap.size 0 row U ⟨el,heap_alloc_new w.drew _⟩ hn1 (by rw[hrl];show 0+n*E.z<=n*E.z;omega) ?_;show _=(row.drop 0).take ((i+m)*E.z);have:(i+m)*E.z=((xs.take i++Oq m z0).flatMap E.enc).length:=by rw[aK];simp[hi0]
  rw[this,P6];simp only[row];rw[<-Pd,QK]
theorem Ow.Ka[ae4:bY s L α E xs](h:Ow B w0 w L){p n t:X}(hp:p+n<=xs.length)(ht:t<n):
  ∃a a0,s.a=S a0/\Vc.eH s.a p s.cap E.z=S a/\a.add (t*E.z)=a0.add ((p+t)*E.z):=by
 obtain⟨b,o,ha,_⟩:=h.get ae4.i ae4.at_ (gE (show p<xs.length by omega));have hl:=h.len ae4.i ae4.at_;have hc:=(h.wN ae4.i ae4.at_).fK;refine⟨_,_,ha,gX ha om,?_⟩;rw[aO,aO,PJ,Ql]
theorem Rd.part[ae4:bY s L α E xs]{p n c:X}(hp:p+n<=xs.length):Rd E B w0 L ⟨Vc.eH s.a p s.cap E.z,n,c⟩ ((xs.drop p).take n):=by
 refine⟨by simp;omega,λw' h i j x hij hj=>?_⟩;rw[OM]at hj;split at hj
 .rename_i hjn
  rw[OP]at hj;obtain⟨a,a0,ha0,ha,he⟩:=h.Ka (s:=s) (E:=E) (p:=p) (n:=n) (t:=j) hp hjn;obtain⟨h0,hc⟩:=h.Lf (s:=s) (E:=E) (i:=((p+j:X):O)) (j:=p+j) U hj ha0;have hi:i.toNat=j:=om
  rw[Oo]at h0 hc;refine⟨a,ha,λv hv=>?_,λc v hv=>?_⟩
  .rw[hi,he];exact h0 v hv
  .rw[hi,he];exact hc c v hv
 .cases hj
end
end Go.Vc
