/- What the row rests on: the declarations that it needs, out of my texts (part 6). -/
import Derived.Test.YtfgikfglabdeoaaGreatZo5
import Derived.Ground.GgzProg
import Derived.Ground.SlgmProg
import Derived.Ground.SlmcProg
import Derived.Ground.SlsfProg
import Derived.Shelf.SlIterI.Nil
import Derived.Shelf.SlMaps.Clone
import Derived.Shelf.SlSortCmp.NoneTotal
import Derived.Shelf.SortM.Plain
import Derived.Shelf.SortM.SortNone
open Bool renaming false->Z,true->V
open Decidable renaming decide->F
open Go renaming Addr->qf,Program->qo,TypeId->qh,Value->N,World->Y,zeroValue->qE
open Go.IntKind renaming i64->qd,u64->qq
open Go.Proofs.Tryz renaming isAgg0->aed,isAgg3->qY,prog->qe,sizeOf0->aee,sizeOf22->aek,sizeOf3->qZ,t204->qV,t3->qI,t410->aem,underlying0->aec,underlying115->aeE,underlying124->qX,underlying22->qH,underlying238->qR,underlying3->qy,underlying367->aeB,underlying4->aei,underlying425->aeF,underlying442->aeK,underlying509->aeC,underlying510->aeD,underlying524->aeG,underlying528->aeH,underlying535->aeI,underlying536->aeJ,zeroValue0->aef,zeroValue22->ael,zeroValue3->qP,zeroValue4->aej
open Option renaming none->I,some->S
open _root_ renaming Bool->W,DecidableEq->qO,False->qj,Int->O,List->J,Nat->X,Option->qg,True->G,absurd->qi,beq_iff_eq->qG,congrArg->qw,decide_eq_false->qk,decide_eq_true->qm,decide_eq_true_eq->qA,if_false->qx,if_neg->Q,if_pos->A,if_true->qz,or_false->qC,rfl->U
open Go.Proofs.Tryz
open Bool renaming false_eq_true->OF
open Int renaming eq_ofNat_of_zero_le->Ox,toNat_natCast->Oo
open List renaming any_eq_true->PS,append_nil->OD,eraseIdx_of_length_le->Rs,ext_getElem?->O2,filter_append->O9,filter_cons->Pf,filter_eq_nil_iff->QY,filter_eq_self->Py,filter_nil->P8,filter_sublist->QV,flatMap_append->Pd,getElem?_cons_succ->OK,getElem?_eq_none->OQ,getElem?_map->OX,getElem?_range->PH,getElem?_set->Pb,getElem_mem->Ph,length_append->Ov,length_cons->OB,length_filter_le->OR,length_map->O3,length_take->OO,map->Tc,map_append->OS,map_cons->OZ,map_map->Qk,mem_append->Pn,mem_cons->Oz,mem_filter->OE,mem_map->O4,mem_range->PQ,mem_singleton->OY,nodup_cons->Pu,not_mem_nil->Ps,perm_middle->PD,range->OC,range_succ->QQ,replicate->Oq,set_cons_succ->OI,take_add_one->OG,take_of_length_le->Ou,take_zero->PT
open Nat renaming ble_eq_true_of_le->SJ,le_trans->ON,lt_of_le_of_lt->QZ,min_eq_left->Pv,mod_eq_of_lt->O6,two_pow_pos->PG,zero_add->OJ
open Option renaming map_some->PC,toList_some->Qj
set_option maxRecDepth 100000
set_option maxHeartbeats 4000000
set_option linter.all false
section
open Go.Shelf
namespace Go.Proofs
def Tryz.xf:Go.Shelf.Ren:=⟨λ|6=>328|15=>386|14=>385|28=>429|29=>322|20=>421|21=>422|22=>423|23=>424|24=>425|25=>426|26=>427|27=>428|46=>439|47=>440|48=>441|49=>442|50=>443|57=>454|n=>n,λ|22=>124|24=>155|25=>388|3=>3|39=>367|0=>0|53=>425|55=>39|4=>4|46=>510|45=>509|50=>115|5=>5|9=>9|66=>524|70=>528|76=>535|77=>536|n=>n,λ|n=>n⟩
theorem Tryz.yn:Go.Proofs.SlLaysF0.n6 qe Tryz.xf:={
 mixed:=qa
 f6:=⟨Tryz.f328.name,qb,func328.k⟩
 f14:=⟨Tryz.f385.name,qb,func385.k⟩
 f15:=func386.k
 f20:=⟨Tryz.f421.name,qb,func421.k⟩
 f21:=⟨Tryz.f422.name,qb,func422.k⟩
 f22:=⟨Tryz.f423.name,qb,func423.k⟩
 f23:=⟨Tryz.f424.name,qb,func424.k⟩
 f24:=⟨Tryz.f425.name,qb,func425.k⟩
 f25:=⟨Tryz.f426.name,qb,func426.k⟩
 f26:=⟨Tryz.f427.name,qb,func427.k⟩
 f27:=⟨Tryz.f428.name,qb,func428.k⟩
 f28:=func429.k
 f29:=func322.k
 f46:=⟨Tryz.f439.name,qb,func439.k⟩
 f47:=func440.k
 f48:=func441.k
 f49:=⟨Tryz.f442.name,qb,func442.k⟩
 f50:=⟨Tryz.f443.name,qb,func443.k⟩
 f57:=⟨Tryz.f454.name,qb,func454.k⟩
 t0:=aec
 a0:=aed
 z0:=aee
 v0:=aef
 t3:=qy
 a3:=qY
 z3:=qZ
 v3:=qP
 t4:=aei
 a4:=isAgg4
 z4:=sizeOf4
 v4:=aej
 t5:=underlying5
 a5:=isAgg5
 z5:=sizeOf5
 v5:=zeroValue5
 t9:=underlying9
 a9:=isAgg9
 z9:=sizeOf9
 v9:=zeroValue9
 t22:=qX
 a22:=isAgg124
 z22:=sizeOf124
 v22:=zeroValue124
 t25:=underlying388
 a25:=isAgg388
 z25:=sizeOf388
 v25:=zeroValue388
 t39:=aeB
 a39:=isAgg367
 z39:=sizeOf367
 v39:=zeroValue367
 t45:=aeC
 a45:=isAgg509
 z45:=sizeOf509
 v45:=zeroValue509
 t46:=aeD
 a46:=isAgg510
 z46:=sizeOf510
 v46:=zeroValue510
 t50:=aeE
 a50:=isAgg115
 z50:=sizeOf115
 v50:=zeroValue115
 t53:=aeF
 a53:=isAgg425
 z53:=sizeOf425
 v53:=zeroValue425
 t55:=underlying39
 a55:=isAgg39
 z55:=sizeOf39
 v55:=zeroValue39
 t66:=aeG
 a66:=isAgg524
 z66:=sizeOf524
 v66:=zeroValue524
 t70:=aeH
 a70:=isAgg528
 z70:=sizeOf528
 v70:=zeroValue528
 t76:=aeI
 a76:=isAgg535
 z76:=sizeOf535
 v76:=zeroValue535
 t77:=aeJ
 a77:=isAgg536
 z77:=sizeOf536
 v77:=zeroValue536}
def Tryz.sG:Go.Shelf.Ren:=⟨λ|7=>333|10=>390|n=>n,λ|23=>238|26=>3|3=>70|28=>442|0=>0|27=>441|33=>47|4=>4|n=>n,λ|n=>n⟩
theorem Tryz.DK:Go.Proofs.SlLaysZI.n7 qe Tryz.sG:={
 mixed:=qa
 f7:=⟨Tryz.f333.name,qb,func333.k⟩
 f10:=⟨Tryz.f390.name,qb,func390.k⟩
 t0:=aec
 a0:=aed
 z0:=aee
 v0:=aef
 t4:=aei
 a4:=isAgg4
 z4:=sizeOf4
 v4:=aej
 t23:=qR
 a23:=isAgg238
 z23:=sizeOf238
 v23:=zeroValue238
 t26:=qy
 a26:=qY
 z26:=qZ
 v26:=qP
 t27:=underlying441
 a27:=isAgg441
 z27:=sizeOf441
 v27:=zeroValue441
 t28:=aeK
 a28:=isAgg442
 z28:=sizeOf442
 v28:=zeroValue442
 t33:=underlying47
 a33:=isAgg47
 z33:=sizeOf47
 v33:=zeroValue47}
def Tryz.tP:Go.Shelf.Ren:=⟨λ|6=>332|8=>388|9=>389|11=>430|13=>386|12=>431|23=>429|24=>322|14=>444|15=>445|16=>446|17=>447|18=>448|19=>449|20=>450|21=>451|22=>452|25=>455|26=>440|27=>441|28=>456|29=>457|30=>387|31=>459|n=>n,λ|26=>3|28=>442|24=>22|0=>0|3=>3|37=>367|48=>425|50=>39|4=>4|40=>510|39=>509|45=>115|5=>5|9=>9|51=>524|55=>528|57=>535|58=>536|33=>47|n=>n,λ|n=>n⟩
theorem Tryz.D4:Go.Proofs.SlLaysZI.n6 qe Tryz.tP:={
 mixed:=qa
 f6:=⟨Tryz.f332.name,qb,func332.k⟩
 f8:=⟨Tryz.f388.name,qb,func388.k⟩
 f11:=⟨Tryz.f430.name,qb,func430.k⟩
 t0:=aec
 a0:=aed
 z0:=aee
 v0:=aef
 t24:=qH
 a24:=isAgg22
 z24:=aek
 v24:=ael
 t26:=qy
 a26:=qY
 z26:=qZ
 v26:=qP
 t28:=aeK
 a28:=isAgg442
 z28:=sizeOf442
 v28:=zeroValue442
 i26:=by kernel_rfl}
def Tryz.FJ:Go.Shelf.Ren:=⟨λ|5=>389|8=>386|7=>431|19=>429|20=>322|10=>444|11=>445|12=>446|13=>447|14=>448|15=>449|16=>450|17=>451|18=>452|30=>455|31=>440|32=>441|33=>456|34=>457|35=>387|40=>459|n=>n,λ|23=>22|25=>3|3=>3|32=>367|22=>22|0=>0|44=>425|46=>39|4=>4|36=>510|35=>509|41=>115|5=>5|9=>9|53=>524|57=>528|63=>535|64=>536|n=>n,λ|n=>n⟩
theorem Tryz.Ke:Go.Proofs.SlLaysM.n5 qe Tryz.FJ:={
 mixed:=qa
 f5:=⟨Tryz.f389.name,qb,func389.k⟩
 f7:=⟨Tryz.f431.name,qb,func431.k⟩
 f8:=func386.k
 f10:=⟨Tryz.f444.name,qb,func444.k⟩
 f11:=⟨Tryz.f445.name,qb,func445.k⟩
 f12:=⟨Tryz.f446.name,qb,func446.k⟩
 f13:=⟨Tryz.f447.name,qb,func447.k⟩
 f14:=⟨Tryz.f448.name,qb,func448.k⟩
 f15:=⟨Tryz.f449.name,qb,func449.k⟩
 f16:=⟨Tryz.f450.name,qb,func450.k⟩
 f17:=⟨Tryz.f451.name,qb,func451.k⟩
 f18:=⟨Tryz.f452.name,qb,func452.k⟩
 f19:=func429.k
 f20:=func322.k
 f30:=⟨Tryz.f455.name,qb,func455.k⟩
 f31:=func440.k
 f32:=func441.k
 f33:=⟨Tryz.f456.name,qb,func456.k⟩
 f34:=⟨Tryz.f457.name,qb,func457.k⟩
 f35:=⟨Tryz.f387.name,qb,func387.k⟩
 f40:=⟨Tryz.f459.name,qb,func459.k⟩
 t0:=aec
 a0:=aed
 z0:=aee
 v0:=aef
 t3:=qy
 a3:=qY
 z3:=qZ
 v3:=qP
 t4:=aei
 a4:=isAgg4
 z4:=sizeOf4
 v4:=aej
 t5:=underlying5
 a5:=isAgg5
 z5:=sizeOf5
 v5:=zeroValue5
 t9:=underlying9
 a9:=isAgg9
 z9:=sizeOf9
 v9:=zeroValue9
 t22:=qH
 a22:=isAgg22
 z22:=aek
 v22:=ael
 t23:=qH
 a23:=isAgg22
 z23:=aek
 v23:=ael
 t25:=qy
 a25:=qY
 z25:=qZ
 v25:=qP
 t32:=aeB
 a32:=isAgg367
 z32:=sizeOf367
 v32:=zeroValue367
 t35:=aeC
 a35:=isAgg509
 z35:=sizeOf509
 v35:=zeroValue509
 t36:=aeD
 a36:=isAgg510
 z36:=sizeOf510
 v36:=zeroValue510
 t41:=aeE
 a41:=isAgg115
 z41:=sizeOf115
 v41:=zeroValue115
 t44:=aeF
 a44:=isAgg425
 z44:=sizeOf425
 v44:=zeroValue425
 t46:=underlying39
 a46:=isAgg39
 z46:=sizeOf39
 v46:=zeroValue39
 t53:=aeG
 a53:=isAgg524
 z53:=sizeOf524
 v53:=zeroValue524
 t57:=aeH
 a57:=isAgg528
 z57:=sizeOf528
 v57:=zeroValue528
 t63:=aeI
 a63:=isAgg535
 z63:=sizeOf535
 v63:=zeroValue535
 t64:=aeJ
 a64:=isAgg536
 z64:=sizeOf536
 v64:=zeroValue536}
end Go.Proofs
end
namespace Go.Vc
open Go.Proofs
open Go.WideElems (Fit rd rg pl)
namespace Tb
theorem E1{P:qo}{k:qh}(hk:P.underlying k=S (.int .i64)){ae0:Type}{encV:ae0->N}{w:Y}{m:X}{M:J (O × ae0)}(h:lP (Value.int .i64) encV w m M)(hwf:∀x∈M,(Lit.int .i64 x.1).wf=V)(hsz:M.length<=maxLen):
  ∃D0:DataW Unit,w.ownsMap P k (λ_=>S (.nil,[])) m M.length D0/\(intKeys D0).Perm (M.map (·.1))/\Maps.size D0=M.length:=by
 obtain⟨es,c,hb,hmap,hborn,hlt⟩:=h.ex;have hlen:es.toList.length=M.length:=by have:=qw List.length hmap;simpa using this
 have hkeys:es.toList.map (·.key)=M.map (λp=>Value.int .i64 p.1):=by have:=qw (Tc (·.1)) hmap;rw[Qk,Qk]at this;exact this
 have hread:∀x∈es.toList,∃a:O,x.key= .int .i64 a/\(Lit.int .i64 a).wf=true:=λx hx=>by have:x.key∈es.toList.map (·.key):=O4.2 ⟨x,hx,U⟩;rw[hkeys]at this;obtain⟨p,hp,e⟩:=O4.1 this;exact⟨p.1,e.symm,hwf p hp⟩
 have hrd:∀x∈es.toList,∀a:O,x.key= .int .i64 a->(Lit.int .i64 a).wf=V->rd (H:=Unit) P k (λ_=>S (.nil,[])) x=S (.int .i64 a,.nil):=λx hx a e hw=>by
  have hko:keyOf P k x.key=S (.int .i64 a):=by unfold keyOf mapKey;rw[hk,e];simp[hw]
  unfold rd;rw[hko];rfl
 refine⟨.map ((es.toList.map (rg P k λ_=>S (.nil,[]))).foldr DataW.insert []),⟨es,c,hb,⟨?_,⟨hlt,hborn,?_⟩,λx hx=>?_⟩,?_,U⟩,?_,?_⟩
 .have:es.size=M.length:=by simpa using hlen
  rw[this];exact hsz
 .rw[hkeys]
  have:M.map (λp=>Value.int .i64 p.1)=(M.map (·.1)).map (Value.int .i64):=by rw[Qk];rfl
  rw[this];exact List.Pairwise.map _ (λa b hab e=>hab (by cases e;rfl)) h.nodup
 .obtain ⟨a,e,hw⟩:=hread x hx
  exact⟨_,hrd x hx a e hw⟩
 .have:es.size=M.length:=by simpa using hlen
  omega
 .show (((es.toList.map (rg P k λ_=>S (.nil,[]))).foldr DataW.insert []).map λp=>_root_.Go.intOf p.1).Perm _
  refine((Go.WideShapes.sorted_perm _).map _).trans ?_;rw[Qk];have:es.toList.map ((λp:Lit × DataW Unit=>_root_.Go.intOf p.1)∘rg P k λ_=>S (.nil,[]))=M.map (·.1):=by
   have e1:es.toList.map ((λp:Lit × DataW Unit=>_root_.Go.intOf p.1)∘rg P k λ_=>S (.nil,[]))=es.toList.map (λx=>match x.key with| .int _ a=>a|_=>0):=by
    refine List.map_congr_left λx hx=>?_;obtain⟨a,e,hw⟩:=hread x hx;show _root_.Go.intOf (rg P k _ x).1=_;unfold rg;rw[hrd x hx a e hw,e];rfl
   rw[e1];have e2:=qw (Tc λv:N=>match v with| .int _ a=>a|_=>(0:O)) hkeys;rw[Qk,Qk]at e2;exact e2
  rw[this]
 .show ((es.toList.map (rg P k λ_=>S (.nil,[]))).foldr DataW.insert []).length=_
  rw[(Go.WideShapes.sorted_perm _).length_eq,O3];exact hlen
theorem tJ{B:X}{w0 w w':Y}{R:J aH}{t:qh}{v:N}{xs:J O}(h:Ow B w0 w R)(hb:RowKit.Below w.heap.size w w')(hr:w'.ownsRow w.heap.size t 1 v xs.length (xs.map (Value.int .i64))):
  ∃s:Sl,v= s.v/\Ow B w0 w' (af aB s xs::R):=by
 have hu:ia No w w':=⟨hb.os,hb.tape,hb.output,hb.size,λk hk _=>hb.block k hk⟩
 have hfl:xs.flatMap aB.enc=xs.map (Value.int .i64):=by
  clear hr;induction xs with
  |nil=>rfl
  |cons x xs ih=>rw[List.flatMap_cons,ih];rfl
 rcases hr.2 with⟨rfl,hz⟩|⟨g,cap,cur,rfl,hbase,hgb,r1,r2,r3,r4⟩
 .have:xs= []:=List.eq_nil_of_length_eq_zero hz
  subst this;exact⟨z0,U,(h.same hu).cH⟩
 .refine ⟨⟨S g.p,xs.length,cap⟩,U,h.new (A':=af aB ⟨S g.p,xs.length,cap⟩ xs) (G':=λk=>k=g) hu ⟨λa ha=>?_,U,?_⟩ λk e=>?_⟩
  .cases ha;rfl
  .refine .mk g 0 cur.toList U ⟨t,hgb⟩ r1 ?_ ?_
   .show 0+cap*1<=cur.toList.length
    rw[Array.length_toList];omega
   .rw[hfl,List.drop_zero];exact r4.symm
  .subst e
   exact⟨hbase,(Array.getElem?_eq_some_iff.1 hgb).1⟩
end Tb
end Go.Vc
namespace Go.Vc
open Go.Proofs
namespace Tb
section
variable{B:X}{w0 w:Y}{R L:J aH}{b:X}{m:dv}
def Lh(p:Pg):N:= .agg #[.z p.1,.z p.2]
def oV:dF (qg (O × X)):=⟨2,λo=>[.z ((o.map (·.1)).getD 0),.map (o.map (·.2))],λ_=>rfl,λx v h=>by simp only[Oz,Ps,qC]at h;rcases h with rfl|rfl<;>rfl,qb⟩
def aJ:dF (O × Pg):=⟨3,λo=>[.z o.1,.z o.2.1,.z o.2.2],λ_=>rfl,λx v h=>by simp only[Oz,Ps,qC]at h;rcases h with rfl|rfl|rfl<;>rfl,qb⟩
abbrev LX(m:X)(M:fH):aH:=mU (Value.int .i64) Lh m M
def mH(tb:X->qg O)(mb:X->X):J (qg (O × X)):=(OC 64).map λi=>(tb i).map λn=>(n,mb i)
def ga(tb:X->qg O)(mb:X->X)(M:X->fH)(i:X):aH:=if(tb i).isSome=V then LX (mb i) (M i)else dJ G
def bK(b:X)(m:dv):aH:=pa λx:(X->X)×(X->fH)=>bo (dJ (fx m/\∀i,(x.2 i).Perm (cC m.pg i))::aa b ((mH m.tb x.1).flatMap oV.enc)::(OC 64).map (ga m.tb x.1 x.2))
theorem _root_.Go.Vc.Ow.Kf(h:Ow B w0 w (bK b m::R)):∃(mb:X->X)(M:X->fH),fx m/\(∀i,(M i).Perm (cC m.pg i))/\Ow B w0 w (aa b ((mH m.tb mb).flatMap oV.enc)::((OC 64).map (ga m.tb mb M)++R)):=by obtain⟨⟨mb,M⟩,h⟩:=h.ex;obtain⟨⟨h1,h2⟩,h⟩:=Ow.pure h.star;exact⟨mb,M,h1,h2,h⟩
theorem _root_.Go.Vc.Ow.gz{mb:X->X}{M:X->fH}(h1:fx m)(h2:∀i,(M i).Perm (cC m.pg i))(h:Ow B w0 w (aa b ((mH m.tb mb).flatMap oV.enc)::((OC 64).map (ga m.tb mb M)++R))):Ow B w0 w (bK b m::R):=
 Ow.eP (mb,M) (Ow.br (Ow.cZ ⟨h1,h2⟩ h))
theorem iY{f:X->aH}{i:X}(hi:i<64)(ae7:aH):(ae7::((OC 64).map f++R))[i+1]?=S (f i):=by rw[OK,List.getElem?_append_left (by simp;exact hi),OX,PH hi];rfl
theorem wi{f g:X->aH}{ae7:aH}{i:X}(hi:i<64)(h:∀j,j<64->g j=if j=i then ae7 else f j)(A0:aH):(A0::((OC 64).map f++R)).set (i+1) ae7=A0::((OC 64).map g++R):=by
 rw[OI,List.set_append_left _ _ (by simp;exact hi)];congr 2;apply O2;intro j;rw[Pb,OX,OX];by_cases hj:j<64
 .rw[PH hj]
  by_cases e:i=j
  .subst e;rw[A U,A (by simp;exact hi)];simp only[PC];rw[h i hi,A U]
  .rw[Q e];simp only[PC];rw[h j hj,Q λe2=>e e2.symm]
 .rw[OQ (show(OC 64).length<=j by simp;omega),Q om];rfl
theorem uL{tb:X->qg O}{mb:X->X}{i:X}(hi:i<64):(mH tb mb)[i]?=S ((tb i).map λn=>(n,mb i)):=by unfold mH;rw[OX,PH hi];rfl
theorem rZ{tb:X->qg O}{mb:X->X}:(mH tb mb).length=64:=by unfold mH;simp
theorem JE{tb:X->qg O}{mb:X->X}{i:X}(hi:i<64)(v:qg O)(r:X):(mH tb mb).set i (v.map λn=>(n,r))=mH (oY tb i v) (λj=>if j=i then r else mb j):=by
 apply O2;intro j;rw[Pb];by_cases hj:j<64
 .rw[uL hj,uL hj]
  unfold oY;by_cases e:i=j
  .subst e;rw[A U,A (by rw[rZ];exact hi),A U,A U]
  .rw[Q e,Q λe2=>e e2.symm,Q λe2=>e e2.symm]
 .rw[OQ (show(mH _ _).length<=j by rw[rZ];omega),OQ (show(mH _ _).length<=j by rw[rZ];omega),Q om]
theorem D7{tb:X->qg O}{mb:X->X}{i:X}(hi:i<64):((mH tb mb).flatMap oV.enc)[i*2]?=S (.z ((tb i).getD 0)):=by have:=nA oV (mH tb mb) i 0 _ (uL hi) qb;rw[show i*oV.z+0=i*2 from U]at this;rw[this];cases tb i<;>rfl
theorem D8{tb:X->qg O}{mb:X->X}{i:X}(hi:i<64):((mH tb mb).flatMap oV.enc)[i*2+1]?=S (.map ((tb i).map λ_=>mb i)):=by have:=nA oV (mH tb mb) i 1 _ (uL hi) qb;rw[show i*oV.z+1=i*2+1 from U]at this;rw[this];cases tb i<;>rfl
theorem fx.Be{m:dv}(h:fx m){i:X}(hi:m.tb i=I):cC m.pg i= []:=by unfold cC;rw[QY];intro x hx e;have:=(h.tA x hx).2.2;simp only[qG]at e;rw[e,hi]at this;cases this
end
end Tb
end Go.Vc
namespace Go.Vc
open Go.Proofs Go.Shelf
namespace Tb
section
variable{B:X}{w0 w:Y}{R L:J aH}{b:X}{m:dv}
theorem BI(n:X):AnyZI.SortsIn qe Tryz.tP Fence.wide n:=
 ⟨λwV off cap ss aeZ hH hblk hsz=>callsIn_wide.2 (AnyM.slices_Sort_int Tryz.Ke wV off cap ss aeZ hH hblk hsz),
  λp cap aeZ=>callsIn_wide.2 (AnyM.slices_Sort_int_none Tryz.Ke p cap aeZ)⟩
theorem nC{ae0:Type}{encV:ae0->N}{mb:X}{M:J (O × ae0)}{K:Sl->Pw}(h:Ow B w0 w L)(i:X)(hi:L[i]?=S (mU (Value.int .i64) encV mb M))(hwf:∀x∈M,(Lit.int .i64 x.1).wf=V)(hsz:M.length<=1000000)
  (hK:∀(s:Sl)(ks:J O)(w':Y),ks.Perm (M.map (·.1))->ks.Pairwise (λx y=>F (x<=y)=V)->Ow B w0 w' (af aB s ks::L)->K s w'):
  T0 (S mb) (λr5 w6=>TZ r5 K w6) w:=by
 have hM:lP (Value.int .i64) encV w mb M:=(h.take i hi).head λ_ h=>h.2;have hmax:(1000000:X)<=maxLen:=qb
 obtain⟨D0,hown,hperm,hsize⟩:=E1 (P:=qe) (k:=3) qy hM hwf (ON hsz hmax);have hbl:=hown.lt;unfold T0;refine nI func333 U ?_;have cK:∀mb aeZ,CallsIn Fence.wide 5 qe 333 #[.map mb] aeZ λe w'=>e= .returned (.func (.func 390) #[] #[.q aeZ.heap.size])/\w'=aeZ.alloc (.cells #[.map mb] 238):=λmb aeZ=>AnyZI.keys_in Tryz.DK Fence.wide 5 trivial U mb aeZ;refine(callsIn_wide (n:=5)).1 ((cK _ _).mono ?_);rintro e w' ⟨rfl,rfl⟩;refine⟨_,U,?_⟩;unfold TZ;refine nI func332 U ?_;have hseq:SeqGives Fence.wide 2 qe 390 #[.q w.heap.size] encZ (λss=>ss.Perm (intKeys D0)) (Maps.size D0) (w.alloc (.cells #[.map (S mb)] 238)):=
  AnyZI.keys_gives (ρ:=Tryz.sG) { Tryz.DK with} Fence.wide _ trivial U om w.heap.size mb M.length D0 _ qc qc (by obtain⟨es,clock,hb,Ft,hs,hD⟩:=hown;exact⟨es,clock,(RowKit.Below.heap_alloc _ _ mb hbl).trans hb,Ft,hs,hD⟩)
 have cS:=AnyZI.sorted_in Tryz.D4 Fence.wide 5 trivial trivial trivial trivial U om (BI _) (enters_of func389 qa U) 390 #[.q w.heap.size] trivial (enters_of func390 qa U) _ _ (by rw[hsize];exact ON hsz hmax) (by rw[hsize];omega) _ hseq;change CallsIn _ _ qe 332 _ _ _ at cS;refine(callsIn_wide (n:=5)).1 (cS.mono ?_);rintro e w' ⟨v,ss,rfl,hS,hrow,hnil,hb⟩;have h1:Ow B w0 (w.alloc (.cells #[.map (S mb)] 238)) L:=h.same (gd _ _);have hlen:(ss.mergeSort λx y=>F (x<=y)).length=ss.length:=List.length_mergeSort _;rw[<-hlen]at hrow;obtain⟨s,rfl,h2⟩:=tJ h1 hb hrow;exact⟨s,U,hK s _ w' (((List.mergeSort_perm _ _).trans hS).trans hperm) (List.pairwise_mergeSort (λa b c h1 h2=>by simp at *;omega) (λa b=>by simp;omega) _) h2⟩
theorem H2{P:fH}(h:lg P){ks:J O}(hp:ks.Perm (P.map (·.1)))(hs:ks.Pairwise (λx y=>F (x<=y)=V)):ks=P.map (·.1):=by refine List.Perm.eq_of_pairwise (le:=λx y=>x<=y) (λa b _ _ h1 h2=>by omega) (hs.imp λh=>by simpa using h) ?_ hp;rw[List.pairwise_map];exact h.imp λh=>by omega
theorem oK:∀(P:fH)(a c:O),lg P->(∀x∈P,a<=x.1/\x.1<c)->(P.length:O)<=max 0 (c-a)
 | [],a,c,_,_=>Int.le_max_left _ _
 |x::P,a,c,h,hb=>by
  have h':=List.pairwise_cons.1 h;have h1:=hb x List.mem_cons_self;have:=oK P (x.1+1) c h'.2 λy hy=>⟨by have:=h'.1 y hy;omega,(hb y (List.mem_cons_of_mem _ hy)).2⟩
  simp only[OB];omega
theorem jz{s:Sl}{ys:fH}{y:O × Pg}{c:X}{L:J aH}{k:Sl->Pw}[ae4:bY s L (O × Pg) aJ ys][aeX:eD (af aJ s ys) L R](h:Ow B w0 w (aa c [.z y.1,.z y.2.1,.z y.2.2]::L))(hbig:ys.length<=1000000000)
  (hk:∀s' w',s'.len=ys.length+1->Ow B w0 w' (af aJ s' (ys++ [y])::R)->k s' w'):
  ∃s' w',aP qe [81,81] 81 s.v (.slice (S c.p) 1 1) w s' w'/\k s' w':=
 Ow.eR (E:=aJ) (y:=y) underlying81 (show qe.info? 204=S qV from by kernel_rfl) (zv:=(qV.zero).get qa) qa qa qa qb h (by
  have e:qV.bytes=24:=qa
  rw[e];omega) hk
theorem oy{n:O}{mb:X}{M ae5:fH}{K:Sl->Pw}(h:Ow B w0 w L)(i:X)(hi:L[i]?=S (LX mb M))(hp:M.Perm ae5)(hS:lg ae5)(hb:∀x∈ae5,0<=x.1/\x.1<4096)(hK:∀s w',Ow B w0 w' (af aJ s ae5::L)->K s w'):Ts n (S mb) K w:=by
 apply YD;have hl:=oK ae5 0 4096 hS hb;refine h.a λd w1 h=>?_;refine h.l2 U ?_;refine nC h (i+1) (by simpa using hi) (λx hx=>?_) (by rw[hp.length_eq];omega) λs ks w hks hso h=>?_
 .have:=hb x (hp.mem_iff.1 hx)
  have e1:qd.min= -9223372036854775808:=qb
  have e2:qd.max=9223372036854775807:=qb
  simp only[Lit.wf,e1,e2,Bool.and_eq_true,qA];omega
 have hkeys:=H2 hS (hks.trans (hp.map _)) hso;subst hkeys;have hlen:=h.aL s;rw[O3]at hlen;intro l9 hl9;have loop:∀(j k:X)(out:Sl)(w:Y),k+j=ae5.length->Ow B w0 w (af aJ out (ae5.take k)::af aB s (ae5.map (·.1))::aa d [.z n,.map (S mb)]::L)->l9 out (k:O) w:=by
  intro j;induction j with
  |zero=>
   intro k out w hk h;apply hl9;refine aw om ?_;rw[Ou om]at h;exact hK out w h.vU.vU
  |succ j ih=>
   intro k out w hk h;apply hl9;refine az om ?_;have hx:ae5[k]?=S ae5[k]:=gE om;have hkx:(ae5.map (·.1))[k]?=S ae5[k].1:=by rw[OX,hx];rfl
   refine h.bX (s:=s) (i:=(k:O)) (j:=k) U hkx λa ha h0 hc=>⟨_,h0 _ U,_,h.aE U,ae5[k].2.1,ae5[k].2.2,?_⟩
   have hl2:dO M ae5[k].1=S ae5[k].2:=by rw[oA hp hS];exact hS.look (Ph _)
   refine⟨(h.tI qR (bf .i64 qy) (i+3) (by simpa using hi) hl2).2,?_⟩;refine h.a λd3 w3 h=>?_;refine jz (s:=out) (ys:=ae5.take k) (y:=ae5[k]) h (by rw[OO];omega) λs' w hs' h=>?_;rw[wI k om];refine ih (k+1) s' w om ?_;rw[OG,hx];exact h
 exact loop ae5.length 0 z0 w om (Ow.cH h)
end
end Tb
end Go.Vc
namespace Go.Vc
open Go.Proofs
namespace Tb
section
variable{B:X}{w0 w:Y}{R L:J aH}{b:X}{m:dv}
theorem wrap_u64(z:X):qq.wrap (z:O)=((z%2^64:X):O):=by
 have e1:(2:O)^64=18446744073709551616:=qb
 have e2:(2:X)^64=18446744073709551616:=qb
 simp only[IntKind.wrap,IntKind.bits,IntKind.signed,e1,e2,Bool.false_and,OF,qx];omega
theorem zc(n:X)(hn:n<=64):qq.wrap (iJ .u64 1 (n:O)-1)=((2^n-1:X):O):=by
 have e2:(2:X)^64=18446744073709551616:=qb
 have hp:0<2^n:=PG n;unfold iJ;rw[Oo,show qq.bits=64 from U,Pv hn,Int.one_mul,show((2:O)^n)=((2^n:X):O)from by simp,wrap_u64];by_cases e:n=64
 .subst e
  rw[e2];rfl
 .have hlt:2^n<2^64:=Nat.pow_lt_pow_right om om
  rw[O6 hlt,show(((2^n:X):O)-1)=((2^n-1:X):O)from by omega,wrap_u64,O6 om]
theorem rj(z:X):BitVec.ofInt qq.bits (z:O)=BitVec.ofNat 64 z:=by apply BitVec.eq_of_toNat_eq;simp[IntKind.bits,BitVec.toNat_ofInt]
theorem yI(v n:X)(hv:v<2^64)(hn:n<=64):da .u64 (v:O) ((2^n-1:X):O)=((v%2^n:X):O):=by
 have hp:0<2^n:=PG n;have hle:2^n<=2^64:=Nat.pow_le_pow_right om hn;unfold da;rw[rj,rj];have h1:(BitVec.ofNat 64 v &&& BitVec.ofNat 64 (2^n-1)).toNat=v%2^n:=by rw[BitVec.toNat_and,BitVec.toNat_ofNat,BitVec.toNat_ofNat,O6 hv,O6 om,Nat.and_two_pow_sub_one_eq_mod]
 show qq.wrap (((BitVec.ofNat 64 v &&& BitVec.ofNat 64 (2^n-1)).toNat:X):O)=_;rw[h1,wrap_u64,O6 (QZ (Nat.mod_le _ _) hv)]
theorem mg(x k:X)(hk:k<=64):kS .u64 (x:O) (k:O)=((x / 2^k:X):O):=by unfold kS;rw[Oo,show qq.bits=64 from U,Pv hk];rw[show((2:O)^k)=((2^k:X):O)from by simp];rw[Int.fdiv_eq_ediv_of_nonneg _ (Int.natCast_nonneg _)];simp
theorem KI{P:qo}{T kt el:qh}{K:Type}[qO K]{enc:K->N}(hu:P.underlying T=S (.map kt el))(hk:kv P kt enc){z:N}(hz:∀w,(qE el).run P w= .ok z w){w:Y}{k:K}:
  tz P T (.map I) (enc k) z Z w/\z7 P T (.map I) (enc k) z w:=by
 have h3:=oo (ae0:=Unit) (encV:=λ_=> .nilIface) (L:=[]) hk (es:= #[]) U (k:=k) U w;constructor
 .unfold tz Instr.lookup
  simp only[Sem.run_bind,aS hu,Result.andThen_ok,Sem.run_pure,hk.check,h3,hz,qz]
 .unfold z7 Instr.lookup
  simp only[Sem.run_bind,aS hu,Result.andThen_ok,Sem.run_pure,hk.check,h3,hz,OF,qx]
theorem fR{n:X}{K:O->Pw}(hn:n<=64)(h:K ((2^n-1:X):O) w):Tu (n:O) K w:=by apply Yz;rw[zc n hn];exact⟨om,h⟩
theorem iL{a n:X}{K:W->Pw}(ha:a+n<=64)(h:K V w):Vh (a:O) (n:O) K w:=by apply YB;refine az om (az om (az om ?_));rw[wr om om,qm om];exact h
theorem iK{v a n:X}{K:O->O->Pw}(hv:v<2^64)(hn:a+n<=64)(h:Ow B w0 w L)(hK:∀w',Ow B w0 w' L->K ((v / 2^a%2^n:X):O) 0 w'):T6 (v:O) (a:O) (n:O) K w:=by
 apply YA;refine iL hn ?_;refine aW U ?_;repeat refine h.dr λw h=>?_
 refine⟨om,a2 (fR om ?_)⟩;rw[mg v a om,yI _ n (QZ (Nat.div_le_self _ _) hv) om];exact hK _ h
theorem sV{n:O}{K:W->Pw}(hK:K (F (0<=n/\n<4096)) w):T2 n K w:=by
 apply ZA;refine bg (λe=>?_) (λe=>?_)
 .rw[show F (0<=n/\n<4096)=F (n<4096)from decide_eq_decide.2 om]at hK;exact hK
 .rw[qk om]at hK;exact hK
theorem pN{n:O}{K:W->Pw}(hK:K (F (0<=n/\n<64)) w):T1 n K w:=by
 apply Zy;refine bg (λe=>?_) (λe=>?_)
 .rw[show F (0<=n/\n<64)=F (n<64)from decide_eq_decide.2 om]at hK;exact hK
 .rw[qk om]at hK;exact hK
theorem Bw{n:O}{K:W->Pw}(hK:K (F (0<=n/\n<=7)) w):XH n K w:=by
 apply ZB;refine bg (λe=>?_) (λe=>?_)
 .rw[show F (0<=n/\n<=7)=F (n<=7)from decide_eq_decide.2 om]at hK;exact hK
 .rw[qk om]at hK;exact hK
theorem je{tb:X->qg O}{mb:X->X}{i:X}(hi:i<64)(j:X)(h:Ow B w0 w L)(hL:L[j]?=S (aa b ((mH tb mb).flatMap oV.enc))):w.cell? (⟨b,i*2,I⟩:qf)=S (.z ((tb i).getD 0))/\w.cell? ((⟨b,i*2,I⟩:qf).add 1)=S (.map ((tb i).map λ_=>mb i)):=
 ⟨h.iM j hL (D7 hi),h.ld j hL (D8 hi)⟩
theorem IA(b i:X):(b.p:qf).add (i*2)=⟨b,i*2,I⟩:=by rw[aO,OJ]
theorem lZ{n:O}{mb:X->X}{K:qg qf->W->Pw}(hn:0<=n/\n<4096)(j:X)(h:Ow B w0 w L)(hL:L[j]?=S (aa b ((mH m.tb mb).flatMap oV.enc)))(hK:∀w',Ow B w0 w' L->K (S ⟨b,n.toNat / 64*2,I⟩) (m.tb (n.toNat / 64)).isSome w'):T3 b.o n K w:=by
 apply ZC;obtain⟨k,rfl⟩:=Ox hn.1;rw[wrap_u64,O6 om];refine iK (a:=6) (n:=6) om om h λw h=>?_;rw[Oo]at hK;have e:k / 2^6%2^6=k / 64:=by
  have:(2:X)^6=64:=qb
  rw[this];omega
 rw[e];refine h.dr λw h=>?_;refine⟨_,U,om,om,_,U,om,om,?_⟩;rw[Oo,IA];refine⟨_,(je om j h hL).2,?_⟩;have:=hK w h;cases ht:m.tb (k / 64)with
 |none=>rw[ht]at this;exact this
 |some v=>rw[ht]at this;exact this
theorem Il:∀w,(qE 70).run qe w= .ok (Lh (0,0)) w:=λw=>zeroValue70 w
theorem DN{k:O}{mb:X->X}{M:X->fH}(ho:fx m)(hM:∀i,(M i).Perm (cC m.pg i))(hk:0<=k/\k<4096)(j:X)(h:Ow B w0 w L)(hL:L[j]?=S (ga m.tb mb M (k.toNat / 64))):
  tz qe 238 (.map ((m.tb (k.toNat / 64)).map λ_=>mb (k.toNat / 64))) (.z k) (.agg #[.z ((look m.pg k).getD (0,0)).1,.z ((look m.pg k).getD (0,0)).2]) (look m.pg k).isSome w:=by
 have hlook:look (cC m.pg (k.toNat / 64)) k=look m.pg k:=by
  unfold cC;rw[A6 ho.kU];cases e:look m.pg k with
  |none=>rfl
  |some v=>rw[Option.filter_some,A qc]
 have hget:dO (M (k.toNat / 64)) k=look m.pg k:=by rw[oA (hM _) (ho.kU.filter _)];exact hlook
 cases ht:m.tb (k.toNat / 64)with
 |none=>
  have hno:look m.pg k=none:=by
   cases e:look m.pg k with
   |none=>rfl
   |some v=>have:=(ho.N5 e).2.2;rw[ht]at this;cases this
  rw[hno];exact(KI qR (bf .i64 qy) Il).1
 |some v=>
  unfold ga at hL;rw[A (by rw[ht];rfl)]at hL;cases e:look m.pg k with
  |none=>exact(h.vw qR (bf .i64 qy) Il j hL (by rw[hget,e])).1
  |some p=>exact(h.tI qR (bf .i64 qy) j hL (by rw[hget,e];rfl)).1
theorem Ep{k:O}{K:O->O->W->Pw}(h:Ow B w0 w (bK b m::R))(hK:∀w',Ow B w0 w' (bK b m::R)->K ((look m.pg k).getD (0,0)).1 ((look m.pg k).getD (0,0)).2 (look m.pg k).isSome w'):XI b.o k K w:=by
 apply ZD;obtain⟨mb,M,ho,hM,h⟩:=h.Kf;refine h.a λd w1 h=>?_;refine sV ?_;by_cases hk:0<=k/\k<4096
 .rw[qm hk]
  refine aW U ?_;have hq:k.toNat / 64<64:=om
  refine lZ (mb:=mb) (m:=m) hk 1 h U λw h=>?_;refine⟨_,U,_,(je hq 1 h U).2,⟨_,_,_,DN ho hM hk (k.toNat / 64+2) h (by rw[OK];exact iY hq _),?_⟩⟩;refine h.a λd2 w2 h=>?_;refine h.ay U U λw h=>?_;refine h.aN U ?_;have h:=h.cw;refine h.ay U U λw h=>?_;refine h.aN U ?_;exact hK w (Ow.gz ho hM h.drop.drop)
 .rw[qk hk]
  refine aU U ?_;refine h.ay U U λw h=>?_;refine h.aN U ?_;rw[ho.out hk]at hK;exact hK w (Ow.gz ho hM h.drop)
end
end Tb
end Go.Vc
namespace Go.Vc
open Go.Proofs Go.Shelf
namespace Tb
section
variable{B:X}{w0 w:Y}{R L:J aH}{b:X}{m:dv}
theorem HC{tb:X->qg O}{mb:X->X}{i:X}(hi:i<64)(v:qg O)(r:X):putAt ((mH tb mb).flatMap oV.enc) (i*2) [.z (v.getD 0),.map (v.map λ_=>r)]=(mH (oY tb i v) (λj=>if j=i then r else mb j)).flatMap oV.enc:=by have e:=nB oV (mH tb mb) i (v.map λn=>(n,r)) (by rw[rZ];exact hi);rw[JE hi]at e;rw[e];cases v<;>rfl
theorem yW{tb:X->qg O}{mb:X->X}:((mH tb mb).flatMap oV.enc).length=128:=by rw[aK,rZ];rfl
theorem DX{tb:X->qg O}{mb:X->X}{M:X->fH}{i:X}(hi:i<64)(hs:(tb i).isSome=V)(M1:fH)(A0:aH):(A0::((OC 64).map (ga tb mb M)++R)).set (i+1) (LX (mb i) M1)=A0::((OC 64).map (ga tb mb (λj=>if j=i then M1 else M j))++R):=
 wi hi (λj hj=>by
  unfold ga;by_cases e:j=i
  .subst e;rw[A hs,A U];show LX (mb j) (if j=j then M1 else M j)=_;rw[A U]
  .simp only[Q e]) A0
theorem Hw{M:X->fH}(ho:fx m)(hM:∀i,(M i).Perm (cC m.pg i))(k:O)(p:Pg):∀j,(if j=k.toNat / 64 then jL (M (k.toNat / 64)) k p else M j).Perm (cC (jU m.pg k p) j):=λj=>by
 rw[JC ho.kU];by_cases e:j=k.toNat / 64
 .rw[A e,A e.symm,e];exact Ex (hM _) (ho.kU.filter _) k p
 .rw[Q e,Q λh=>e h.symm];exact hM j
theorem Hv{M:X->fH}(ho:fx m)(hM:∀i,(M i).Perm (cC m.pg i))(k:O):∀j,(if j=k.toNat / 64 then lh (M (k.toNat / 64)) k else M j).Perm (cC (mJ m.pg k) j):=λj=>by
 by_cases e:j=k.toNat / 64
 .rw[A e,e,D6];exact xr (hM _) (ho.kU.filter _) k
 .rw[Q e,Dk λh=>e h.symm];exact hM j
theorem iP{K:qg qf->Pw}(h:Ow B w0 w R)(hK:∀b w',Ow B w0 w' (bK b iF::R)->K b.o w'):Ss K w:=by
 apply Zt;refine h.al λw1 h=>hK _ w1 ?_;generalize w.heap.size=d at h|-;refine Ow.gz (mb:=λ_=>0) (M:=λ_=>[]) fx.new (λi=>List.Perm.refl _) ?_;have e:(OC 64).map (ga iF.tb (λ_=>0) λ_=>[])=Oq 64 (dJ G):=rfl;rw[e];have pures:∀(n:X)(ae7:aH)(R:J aH),Ow B w0 w1 (ae7::R)->Ow B w0 w1 (ae7::(Oq n (dJ G)++R)):=λn=>by
  induction n with
  |zero=>intro ae7 R h;exact h
  |succ n ih=>
   intro ae7 R h;have h2:Ow B w0 w1 (dJ G::ae7::(Oq n (dJ G)++R)):=Ow.cZ trivial (ih ae7 R h);exact h2.perm (List.Perm.swap _ _ _)
 exact pures 64 _ R h
theorem F3{i:O}{K:O->W->Pw}(h:Ow B w0 w (bK b m::R))(hK:K ((m.at i).getD 0) (m.at i).isSome w):XV b.o i K w:=by
 apply ZF;obtain⟨mb,M,ho,hM,h⟩:=h.Kf;unfold dv.at at hK;intro k3 hk3;refine pN ?_;by_cases hi:0<=i/\i<64
 .rw[qm hi]
  rw[Q om]at hK;have hq:i.toNat<64:=om
  refine aW U ⟨_,U,hi.1,hi.2,?_⟩;rw[IA];refine⟨_,(je hq 0 h U).2,?_⟩;cases e:m.tb i.toNat with
  |none=>rw[e]at hK;exact hk3 _ _ (aU U hK)
  |some n=>
   rw[e]at hK;refine hk3 _ _ (aW U ⟨_,U,hi.1,hi.2,?_⟩);rw[IA];refine⟨_,(je hq 0 h U).1,?_⟩;rw[e];exact hK
 .rw[qk hi]
  refine aU U (hk3 _ _ (aU U ?_));by_cases h0:i<0
  .rw[A h0]at hK;exact hK
  .rw[Q h0]at hK
   cases e:m.tb i.toNat with
   |none=>rw[e]at hK;exact hK
   |some n=>have:=ho.fh i.toNat (by rw[e];rfl);omega
theorem F5{k:O}{p:Pg}{K:O->Pw}(h:Ow B w0 w (bK b m::R))(hK:∀w',Ow B w0 w' (bK b (m.nF k p).2::R)->K (m.nF k p).1 w'):UI b.o k p.1 p.2 K w:=by
 apply Zw;obtain⟨mb,M,ho,hM,h⟩:=h.Kf;unfold dv.nF at hK;refine h.a λd w1 h=>?_;intro k6 hk6;have bad:¬(0<=k/\k<4096/\0<=p.1/\0<=p.2/\p.2<=7)->k6 V w1:=λe=>by rw[A e]at hK;exact hk6 _ _ (aU U (hK w1 (Ow.gz ho hM h.drop)))
 refine sV ?_;by_cases hk:0<=k/\k<4096
 case neg=>rw[qk hk];exact aU U (bad λhh=>hk ⟨hh.1,hh.2.1⟩)
 rw[qm hk];refine aW U (h.l1 U ?_);refine bg (λe=>bad λhh=>by omega) (λe1=>?_);refine⟨_,h.aE U,Bw ?_⟩;by_cases hr:0<=p.2/\p.2<=7
 case neg=>rw[qk hr];exact bad λhh=>hr hh.2.2.2
 rw[qm hr];rw[Q (λhh=>hh ⟨hk.1,hk.2,om,hr.1,hr.2⟩)]at hK;have hq:k.toNat / 64<64:=om
 refine hk6 _ _ (aW U ?_);refine lZ (mb:=mb) (m:=m) hk 1 h U λw h=>?_;cases ht:m.tb (k.toNat / 64)with
 |none=>
  rw[A ht]at hK;exact aU U (hK w (Ow.gz ho hM h.drop))
 |some v=>
  have hs:(m.tb (k.toNat / 64)).isSome=true:=by rw[ht];rfl
  rw[Q (by rw[ht];simp)]at hK;refine aW U ⟨_,U,_,(je hq 1 h U).2,?_⟩;refine⟨_,_,_,DN ho hM hk (k.toNat / 64+2) h (by rw[OK];exact iY hq _),?_⟩;refine h.a λd2 w2 h=>?_;refine h.ay U U λw h=>?_;cases hl:(look m.pg k).isSome with
  |true=>
   rw[A hl]at hK;exact aU U (hK w (Ow.gz ho hM h.drop.drop))
  |false=>
   rw[Q (by rw[hl];simp)]at hK;refine aW U ?_;refine h.dr λw h=>?_;refine⟨_,U,_,(je hq 2 h U).2,h.aN U (Go.Vc.a2 ?_)⟩;rw[ht];refine h.kM (v:=p) (M:=M (k.toNat / 64)) (m:=mb (k.toNat / 64)) (enc:=Value.int .i64) (encV:=Lh) qR (bf .i64 qy) (k.toNat / 64+3) ?_ λw h=>?_
   .rw[OK,OK,iY hq];unfold ga;rw[A hs]
   .rw[OI,OI,DX hq hs]at h
    refine hK w (Ow.gz (ho.ins hk hs p) (Hw ho hM k p) h.drop.drop)
theorem pj{k:O}{K:O->O->O->Pw}(h:Ow B w0 w (bK b m::R))(hK:∀w',Ow B w0 w' (bK b (m.bV k).2.2::R)->K (m.bV k).1.1 (m.bV k).1.2 (m.bV k).2.1 w'):TT b.o k K w:=by
 apply Zx;unfold dv.bV at hK;refine h.a λd w1 h=>?_;refine sV ?_;by_cases hk:0<=k/\k<4096
 case neg=>
  rw[qk hk];rw[A hk]at hK;refine aU U ?_;refine h.ay U U λw h=>?_;refine h.aN U ?_;exact hK w h.drop
 rw[qm hk];rw[Q (λhh=>hh hk)]at hK;have hq:k.toNat / 64<64:=om
 refine aW U ?_;refine Ep (h.cw:Ow B w0 w1 (bK b m::aa d _::R)) λw h=>?_;refine h.a λd2 w2 h=>?_;refine h.ay U U λw h=>?_;cases hl:look m.pg k with
 |none=>
  rw[hl]at hK;refine aU U ?_;refine h.ay U U λw h=>?_;refine h.aN U ?_;exact hK w h.sub
 |some p=>
  rw[hl]at hK;refine aW U ?_;have h:Ow B w0 w (aa d2 [.z p.1,.z p.2]::bK b m::aa d [.z 0,.z 0]::R):=by rw[hl]at h;exact h
  have h:Ow B w0 w (bK b m::aa d2 [.z p.1,.z p.2]::aa d [.z 0,.z 0]::R):=h.cw;obtain⟨mb,M,ho,hM,h⟩:=h.Kf;obtain⟨_,_,hs⟩:=ho.N5 hl;have h2:Ow B w0 w (aa d2 [.z p.1,.z p.2]::aa d [.z 0,.z 0]::aa b ((mH m.tb mb).flatMap oV.enc)::((OC 64).map (ga m.tb mb M)++R)):=by
   refine h.perm ?_;have p1:=(PD (a:=aa d2 [.z p.1,.z p.2]) (l₁:=aa b ((mH m.tb mb).flatMap oV.enc)::(OC 64).map (ga m.tb mb M)) (l₂:=aa d [.z 0,.z 0]::R))
   have p2:=(PD (a:=aa d [.z 0,.z 0]) (l₁:=aa b ((mH m.tb mb).flatMap oV.enc)::(OC 64).map (ga m.tb mb M)) (l₂:=R))
   have:=p1.trans (p2.cons _);simpa using this
  refine lZ (mb:=mb) (m:=m) hk 2 h2 U λw h=>?_;refine⟨_,U,_,(je hq 2 h U).2,?_⟩;obtain⟨v,ht⟩:=Option.isSome_iff_exists.1 hs;rw[ht];refine h.Je (k:=k) (M:=M (k.toNat / 64)) (m:=mb (k.toNat / 64)) (enc:=Value.int .i64) (encV:=Lh) qR (bf .i64 qy) (k.toNat / 64+3) ?_ λw h=>?_
  .rw[OK,OK,iY hq];unfold ga;rw[A hs]
  .rw[OI,OI,DX hq hs]at h
   refine h.aN U ?_;have h:=h.cw;refine h.ay U U λw h=>?_;refine h.aN U ?_;exact hK w (Ow.gz (m:=⟨m.tb,mJ m.pg k⟩) ⟨ho.kU.filter _,λx hx=>ho.tA x (OE.1 hx).1,ho.fh⟩ (Hv ho hM k) h.drop.drop)
theorem keys_nil{K:Sl->Pw}(h:Ow B w0 w L)(hK:∀(s:Sl)(w':Y),Ow B w0 w' (af aB s []::L)->K s w'):
  T0 I (λr5 w6=>TZ r5 K w6) w:=by
 unfold T0;refine nI func333 U ?_;have cK:∀mb aeZ,CallsIn Fence.wide 5 qe 333 #[.map mb] aeZ λe w'=>e= .returned (.func (.func 390) #[] #[.q aeZ.heap.size])/\w'=aeZ.alloc (.cells #[.map mb] 238):=λmb aeZ=>AnyZI.keys_in Tryz.DK Fence.wide 5 trivial U mb aeZ;refine(callsIn_wide (n:=5)).1 ((cK _ _).mono ?_);rintro e w' ⟨rfl,rfl⟩;refine⟨_,U,?_⟩;unfold TZ;refine nI func332 U ?_;have hseq:SeqGives Fence.wide 2 qe 390 #[.q w.heap.size] encZ (λss:J O=>ss= []) 0 (w.alloc (.cells #[.map I] 238)):=
  AnyZI.keys_gives_nil (ρ:=Tryz.sG) { Tryz.DK with} Fence.wide _ trivial U w.heap.size _ qc qc
 have cS:=AnyZI.sorted_in Tryz.D4 Fence.wide 5 trivial trivial trivial trivial U om (BI _) (enters_of func389 qa U) 390 #[.q w.heap.size] trivial (enters_of func390 qa U) _ 0 (Nat.zero_le _) om _ hseq;change CallsIn _ _ qe 332 _ _ _ at cS;refine(callsIn_wide (n:=5)).1 (cS.mono ?_);rintro e w' ⟨v,ss,rfl,rfl,hrow,hnil,hb⟩;have h1:Ow B w0 (w.alloc (.cells #[.map I] 238)) L:=h.same (gd _ _);rw[show(([]:J O).mergeSort λx y=>F (x<=y))= []from by simp]at hrow;obtain⟨s,rfl,h2⟩:=tJ h1 hb hrow;exact⟨s,U,hK s w' h2⟩
theorem G2{n:O}{K:Sl->Pw}(h:Ow B w0 w L)(hK:∀s w',Ow B w0 w' (af aJ s []::L)->K s w'):Ts n I K w:=by apply YD;refine h.a λd w1 h=>?_;refine⟨_,h.aE U,keys_nil h λs w h=>?_⟩;have hlen:=h.aL s;intro l9 hl9;apply hl9;refine aw (by rw[hlen];decide) ?_;exact hK _ w (Ow.cH h.drop.drop)
theorem AS{n:O}{mb:X->X}{M:X->fH}{q:X}{K:Sl->Pw}(ho:fx m)(hM:∀i,(M i).Perm (cC m.pg i))(j:X)(h:Ow B w0 w L)(hL:L[j]?=S (ga m.tb mb M q))(hK:∀s w',Ow B w0 w' (af aJ s (cC m.pg q)::L)->K s w'):
  Ts n ((m.tb q).map λ_=>mb q) K w:=by
 cases ht:m.tb q with
 |none=>
  rw[ho.Be ht]at hK;exact G2 h hK
 |some v=>
  unfold ga at hL;rw[A (by rw[ht];rfl)]at hL;refine oy h j hL (hM q) (ho.kU.filter _) (λx hx=>?_) hK;have:=ho.tA x (OE.1 hx).1;exact⟨this.1,this.2.1⟩
theorem DU:∀{L:J aH}{i:X}{a:aH},L[i]?=S a->(a::L.eraseIdx i).Perm L
 |x::L,0,a,h=>by simp at h;subst h;exact List.Perm.refl _
 |x::L,i+1,a,h=>(List.Perm.swap x a _).trans ((DU (L:=L) (i:=i) (by simpa using h)).cons x)
theorem AM{aeW ae7:aH}{i:X}(h:Ow B w0 w (aeW::L))(hi:L[i]?=S ae7):Ow B w0 w (L.set i aeW):=by have h1:Ow B w0 w (ae7::aeW::L.eraseIdx i):=h.perm (((DU hi).symm.cons aeW).trans (List.Perm.swap _ _ _));exact h1.drop.put (dq hi)
theorem tf{t:O}{c n:O}{p:qg X}{K:W->Pw}{d:X}(j:X)(h:Ow B w0 w L)(hL:L[j]?=S (aa d [.z t]))(hK:∀w',Ow B w0 w' L->K (!p.isNone&&n==t) w'):Yi n p d.p K w:=by
 apply Zz;refine h.a λg w1 h=>?_;refine h.l2 U ?_;cases p with
 |none=>exact aW U (hK w1 h.drop)
 |some q=>exact aU U ⟨_,h.aF U,_,h.iM (j+1) (by simpa using hL) U,hK w1 h.drop⟩
theorem wO{t:O}{mb:X->X}{K:W->Pw}{d:X}(j j2:X)(h:Ow B w0 w L)(hL:L[j]?=S (aa d [.z t]))(hL2:L[j2]?=S (aa b ((mH m.tb mb).flatMap oV.enc)))
  (hK:∀w',Ow B w0 w' L->K ((OC 64).any λi=>m.tb i==S t) w'):XG ⟨eH b.o 0 64 2,64-0,64-0⟩ (.func (.func 359) #[] #[.q d]) K w:=by
 apply aam;apply aaz;have ha:eH (S (b.p:qf)) 0 64 2=S b.p:=by rw[gX U qb]
 rw[ha];intro l3 hl3;have loop:∀(k i:X)(w:Y),i+k=64->(∀x,x<i->(m.tb x==S t)=Z)->Ow B w0 w L->l3 (i:O) w:=by
  intro k;induction k with
  |zero=>
   intro i w hik hno h;apply hl3;refine aw (by show ¬(i:O)<64;omega) ?_;have e:((OC 64).any λi=>m.tb i==S t)=false:=by rw[List.any_eq_false];intro x hx;rw[hno x (by have:=PQ.1 hx;omega)];decide
   have:=hK w h;rw[e]at this;exact this
  |succ k ih=>
   intro i w hik hno h;apply hl3;refine az (by show(i:O)<64;omega) ?_;refine⟨_,U,om,by show(i:O)<64;omega,?_⟩;rw[Oo,IA];have hc:=je (by omega:i<64) j2 h hL2;refine⟨_,hc.1,_,hc.2,aT (tf (c:=t) j h hL λw h=>?_)⟩;have e2:(!((m.tb i).map λ_=>mb i).isNone&&((m.tb i).getD 0)==t)=(m.tb i==S t):=by cases m.tb i<;>simp
   rw[e2];cases e:(m.tb i==S t)with
   |true=>
    refine aU U ?_;have e3:((OC 64).any λi=>m.tb i==S t)=true:=PS.2 ⟨i,PQ.2 om,e⟩;have:=hK w h;rw[e3]at this;show K (F ((i:O)>=0)) w;rw[qm (show(i:O)>=0 by omega)];exact this
   |false=>
    refine aW U ?_;rw[wI i om];refine ih (i+1) w om (λx hx=>?_) h;by_cases e4:x=i
    .rw[e4];exact e
    .exact hno x om
 exact loop 64 0 w om (λx hx=>by omega) h
theorem Cc{i n:O}{K:O->Pw}(h:Ow B w0 w (bK b m::R))(hK:∀w',Ow B w0 w' (bK b (m.gZ i n).2::R)->K (m.gZ i n).1 w'):WY b.o i n K w:=by
 apply Zv;obtain⟨mb,M,ho,hM,h⟩:=h.Kf;have hok:=ho.table i n;unfold dv.gZ at hK hok;refine h.a λd w1 h=>?_;intro k5 hk5;have bad:¬(0<=i/\i<64/\0<=n)->k5 V w1:=λe=>by rw[A e]at hK;exact hk5 _ _ (aU U (hK w1 (Ow.gz ho hM h.drop)))
 refine pN ?_;by_cases hi:0<=i/\i<64
 case neg=>rw[qk hi];exact aU U (bad λhh=>hi ⟨hh.1,hh.2.1⟩)
 rw[qm hi];refine aW U (h.l1 U ?_);by_cases hn:n<0
 .rw[qm hn];exact bad λhh=>by omega
 rw[qk hn];rw[Q (λhh=>hh ⟨hi.1,hi.2,om⟩)]at hK hok;have hq:i.toNat<64:=om
 refine hk5 _ _ (aW U ?_);intro k8 hk8;have full:∀w,((m.tb i.toNat).isSome=V\/((OC 64).any λj=>m.tb j==S n)=V)->Ow B w0 w (aa d [.z n]::aa b ((mH m.tb mb).flatMap oV.enc)::((OC 64).map (ga m.tb mb M)++R))->k8 V w:=λw e h=>by rw[A e]at hK;exact hk8 _ _ (aU U (hK w (Ow.gz ho hM h.drop)))
 refine⟨_,U,hi.1,hi.2,?_⟩;rw[IA];refine⟨_,(je hq 1 h U).2,?_⟩;cases ht:m.tb i.toNat with
 |some v=>exact aU U (full w1 (.inl (by rw[ht];rfl)) h)
 |none=>
  refine aW U ⟨_,U,?_⟩;refine wO (m:=m) (mb:=mb) 0 1 h U U λw h=>?_;cases ha:((OC 64).any λj=>m.tb j==S n)with
  |true=>exact full w (.inr ha) h
  |false=>
   rw[Q (by rw[ht,ha];simp)]at hK hok;refine hk8 _ _ (aW U ?_);refine h.dr λw h=>?_;refine⟨_,h.aF U,_,U,Go.Vc.a2 (h.Dt (Value.int .i64) Lh λw2 h=>?_)⟩;generalize w.heap.size=g at h|-;refine⟨hi.1,hi.2,Go.Vc.a2 ?_⟩;rw[IA];refine Ow.Iv (o:=i.toNat*2) h 2 U (by apply SJ;rw[yW];show i.toNat*2+2<=128;omega) U λw h=>?_;have h2:Ow B w0 w (mU (Value.int .i64) Lh g []::aa d [.z n]::aa b (putAt ((mH m.tb mb).flatMap oV.enc) (i.toNat*2) [.z n,.map (S g)])::((OC 64).map (ga m.tb mb M)++R)):=h;have e1:=HC (tb:=m.tb) (mb:=mb) hq (S n) g;have e1:putAt ((mH m.tb mb).flatMap oV.enc) (i.toNat*2) [.z n,.map (S g)]=_:=e1;rw[e1]at h2;have h3:Ow B w0 w (LX g []::aa b ((mH (oY m.tb i.toNat (S n)) λj=>if j=i.toNat then g else mb j).flatMap oV.enc)::((OC 64).map (ga m.tb mb M)++R)):=h2.vU;have ht0:ga m.tb mb M i.toNat=dJ G:=by unfold ga;rw[Q (by rw[ht];simp)]
   have h4:=AM (i:=i.toNat+1) h3 (iY hq _);rw[wi (g:=ga (oY m.tb i.toNat (S n)) (λj=>if j=i.toNat then g else mb j) (λj=>if j=i.toNat then []else M j)) hq (λj hj=>?_)]at h4
   .refine hK w (Ow.gz hok (λj=>?_) h4)
    by_cases e:j=i.toNat
    .rw[e];simp only[qz]
     show([]:fH).Perm (cC m.pg i.toNat);rw[ho.Be ht]
    .simp only[Q e];exact hM j
   .by_cases e:j=i.toNat
    .rw[e]
     unfold ga oY;simp
    .unfold ga oY
     simp only[Q e]
theorem Ei{i:O}{K:Sl->O->Pw}(h:Ow B w0 w (bK b m::R))(hK:∀s w',Ow B w0 w' (af aJ s (m.bp i).1::bK b (m.bp i).2.2::R)->K s (m.bp i).2.1 w'):XW b.o i K w:=by
 apply ZG;obtain⟨mb,M,ho,hM,h⟩:=h.Kf;have hok:=ho.drop i;unfold dv.bp at hK hok;refine pN ?_;by_cases hi:0<=i/\i<64
 case neg=>
  rw[qk hi];rw[A hi]at hK;exact aU U (hK _ w (Ow.cH (Ow.gz ho hM h)))
 rw[qm hi];rw[Q (λhh=>hh hi)]at hK hok;have hq:i.toNat<64:=om
 refine aW U ⟨_,U,hi.1,hi.2,?_⟩;rw[IA];refine⟨_,(je hq 0 h U).2,?_⟩;cases ht:m.tb i.toNat with
 |none=>
  rw[A ht]at hK;exact aU U (hK _ w (Ow.cH (Ow.gz ho hM h)))
 |some v=>
  rw[Q (by rw[ht];simp)]at hK hok;refine aW U ⟨_,U,hi.1,hi.2,?_⟩;rw[IA];refine⟨_,(je hq 0 h U).1,_,(je hq 0 h U).2,AS ho hM (i.toNat+1) h (iY hq _) λs w h=>?_⟩;refine⟨_,U,hi.1,hi.2,?_⟩;rw[IA];refine Ow.Iv (o:=i.toNat*2) h 1 U (by apply SJ;rw[yW];show i.toNat*2+2<=128;omega) U λw h=>?_;have h2:Ow B w0 w (af aJ s (cC m.pg i.toNat)::aa b (putAt ((mH m.tb mb).flatMap oV.enc) (i.toNat*2) [.z 0,.map I])::((OC 64).map (ga m.tb mb M)++R)):=h;have e1:=HC (tb:=m.tb) (mb:=mb) hq I 0;have e1:putAt ((mH m.tb mb).flatMap oV.enc) (i.toNat*2) [.z 0,.map I]=_:=e1;rw[e1]at h2;have h3:=AM (aeW:=dJ G) (i:=i.toNat+2) (Ow.cZ trivial h2) (by rw[OK];exact iY hq _);rw[OI,wi (g:=ga (oY m.tb i.toNat I) (λj=>if j=i.toNat then 0 else mb j) (λj=>if j=i.toNat then []else M j)) hq (λj hj=>?_)]at h3
  .have h4:Ow B w0 w (aa b ((mH (oY m.tb i.toNat I) λj=>if j=i.toNat then 0 else mb j).flatMap oV.enc)::((OC 64).map (ga (oY m.tb i.toNat I) (λj=>if j=i.toNat then 0 else mb j) (λj=>if j=i.toNat then []else M j))++af aJ s (cC m.pg i.toNat)::R)):=by refine h3.perm ?_;have:=(PD (a:=af aJ s (cC m.pg i.toNat)) (l₁:=aa b ((mH (oY m.tb i.toNat I) λj=>if j=i.toNat then 0 else mb j).flatMap oV.enc)::(OC 64).map (ga (oY m.tb i.toNat I) (λj=>if j=i.toNat then 0 else mb j) (λj=>if j=i.toNat then []else M j))) (l₂:=R)).symm;simpa using this
   have h5:Ow B w0 w (bK b ⟨oY m.tb i.toNat I,m.pg.filter λx=>x.1.toNat / 64 !=i.toNat⟩::af aJ s (cC m.pg i.toNat)::R):=Ow.gz (m:=⟨oY m.tb i.toNat I,m.pg.filter λx=>x.1.toNat / 64 !=i.toNat⟩) hok (λj=>?_) h4
   .exact hK s w h5.cw
   .by_cases e:j=i.toNat
    .rw[e];simp only[qz]
     show([]:fH).Perm (cC (m.pg.filter λx=>x.1.toNat / 64 !=i.toNat) i.toNat);have:cC (m.pg.filter λx=>x.1.toNat / 64 !=i.toNat) i.toNat= []:=by unfold cC;rw[List.filter_filter,QY];intro x _;simp
     rw[this]
    .simp only[Q e]
     show(M j).Perm (cC (m.pg.filter λx=>x.1.toNat / 64 !=i.toNat) j);rw[H3 e];exact hM j
  .by_cases e:j=i.toNat
   .rw[e]
    unfold ga oY;simp
   .unfold ga oY
    simp only[Q e]
theorem Gi{s x:Sl}{xs ys:fH}{k:Sl->Pw}(h:Ow B w0 w (af aJ s xs::L))(hx:lf aJ.z w x (ys.flatMap aJ.enc))(hxl:x.len=ys.length)(hbig:xs.length+ys.length<=1000000)(hk:∀s' w',s'.len=xs.length+ys.length->Ow B w0 w' (af aJ s' (xs++ys)::L)->k s' w'):
  ∃s' w',aP qe [81,81] 81 s.v x.v w s' w'/\k s' w':=
 Ow.app (s:=s) (xs:=xs) (ys:=ys) underlying81 (show qe.info? 204=S qV from by kernel_rfl) (zv:=(qV.zero).get qa) qa qa qa qb h 0 U hx hxl (by
  have e:qV.bytes=24:=qa
  rw[e];omega) λs' w' hl h=>hk s' w' hl h
theorem jI{K:Sl->Pw}(h:Ow B w0 w (bK b m::R))(hK:∀s w',Ow B w0 w' (af aJ s m.pg::bK b m::R)->K s w'):Us b.o K w:=by
 apply Zu;obtain⟨mb,M,ho,hM,h⟩:=h.Kf;have hall:=H4 ho;have hlen:=oK m.pg 0 4096 ho.kU λx hx=>⟨(ho.tA x hx).1,(ho.tA x hx).2.1⟩
 refine⟨_,U,⟨(mH m.tb mb).flatMap oV.enc⟩,yW,λi hi=>?_,?_⟩
 .have hb:=h.wV 0 U
  rw[aO,hb.cell,OJ];simp
 intro l5 hl5;have loop:∀(k t:X)(out:Sl)(w:Y),t+k=64->Ow B w0 w (af aJ out ((OC t).flatMap (cC m.pg))::aa b ((mH m.tb mb).flatMap oV.enc)::((OC 64).map (ga m.tb mb M)++R))->l5 out (t:O) w:=by
  intro k;induction k with
  |zero=>
   intro t out w ht h;obtain rfl:t=64:=om
   apply hl5;refine aw om ?_;rw[hall]at h;refine hK out w ?_;have h4:Ow B w0 w (aa b ((mH m.tb mb).flatMap oV.enc)::((OC 64).map (ga m.tb mb M)++af aJ out m.pg::R)):=by refine h.perm ?_;have:=(PD (a:=af aJ out m.pg) (l₁:=aa b ((mH m.tb mb).flatMap oV.enc)::(OC 64).map (ga m.tb mb M)) (l₂:=R)).symm;simpa using this
   have h5:Ow B w0 w (bK b m::af aJ out m.pg::R):=Ow.gz ho hM h4;exact h5.cw
  |succ k ih=>
   intro t out w ht h;apply hl5;refine az om ⟨om,om,?_⟩;have htq:t<64:=om
   refine⟨(m.tb t).getD 0,?_,(m.tb t).map λ_=>mb t,?_,?_⟩
   .rw[Oo,Nat.add_zero]
    simpa using D7 (tb:=m.tb) (mb:=mb) htq
   .rw[Oo]
    simpa using D8 (tb:=m.tb) (mb:=mb) htq
   .refine h.a λd w2 h=>?_;refine h.ay U U λw h=>?_
    refine⟨_,h.aF U,h.l2 U (AS ho hM (t+3) h (by rw[OK,OK];exact iY htq _) λs w h=>?_)⟩;have hs:=h.wN 0 U;have hsl:=h.len 0 U;have h2:Ow B w0 w (af aJ out ((OC t).flatMap (cC m.pg))::aa b ((mH m.tb mb).flatMap oV.enc)::((OC 64).map (ga m.tb mb M)++R)):=h.drop.drop;have hpre:((OC t).flatMap (cC m.pg)).length+(cC m.pg t).length<=1000000:=by
     have e:(OC (t+1)).flatMap (cC m.pg)=(OC t).flatMap (cC m.pg)++cC m.pg t:=by rw[QQ,Pd];simp
     have hsub:((OC (t+1)).flatMap (cC m.pg)).length<=((OC 64).flatMap (cC m.pg)).length:=by
      have e64:OC 64=OC (t+1)++(OC (64-(t+1))).map (λx=>t+1+x):=by rw[<-List.range_add];congr 1;omega
      rw[e64,Pd,Ov];omega
     rw[e,hall,Ov]at hsub;omega
    refine Gi h2 hs hsl hpre λs' w hs' h=>?_;rw[wI t om];refine ih (t+1) s' w om ?_;have e:(OC (t+1)).flatMap (cC m.pg)=(OC t).flatMap (cC m.pg)++cC m.pg t:=by rw[QQ,Pd];simp
    rw[e];exact h
 exact loop 64 0 z0 w om (Ow.cH h)
theorem nD{w:Y}{a:qf}{x:O × Pg}{f:O->O->O->Prop}(g:∀c v,(aJ.enc x)[c]?=S v->w.cell? (a.add c)=S v)(hf:f x.1 x.2.1 x.2.2):av w a 0 [.o,.o,.o] f:=
 ⟨_,g 0 _ U,_,g 1 _ U,_,g 2 _ U,hf⟩
theorem eQ{s:Sl}{ys:J O}{y:O}{c:X}{L:J aH}{k:Sl->Pw}[ae4:bY s L O aB ys][aeX:eD (af aB s ys) L R](h:Ow B w0 w (aa c [.z y]::L))(hbig:ys.length<=1000000000)
  (hk:∀s' w',s'.len=ys.length+1->Ow B w0 w' (af aB s' (ys++ [y])::R)->k s' w'):
  ∃s' w',aP qe [22,22] 22 s.v (.slice (S c.p) 1 1) w s' w'/\k s' w':=
 Ow.eR (E:=aB) (y:=y) qH (show qe.info? 3=S qI from by kernel_rfl) (zv:= .z 0) qa qa U qb h (by
  have e:qI.bytes=8:=qa
  rw[e];omega) hk
def cy(P:fH)(f:O):J O:=(P.filter λx=>x.2.1==f).map (·.1)
theorem zZ{f:O}{K:Sl->Pw}(h:Ow B w0 w (bK b m::R))(hK:∀s w',Ow B w0 w' (af aB s (cy m.pg f)::bK b m::R)->K s w'):XU b.o f K w:=by
 apply ZE;have ho:fx m:=by obtain⟨_,_,ho,_,_⟩:=h.Kf;exact ho
 have hlen:=oK m.pg 0 4096 ho.kU λx hx=>⟨(ho.tA x hx).1,(ho.tA x hx).2.1⟩
 refine jI h λs w h=>?_;have hl:=h.aL s;intro l5 hl5;have loop:∀(k t:X)(out:Sl)(w:Y),t+k=m.pg.length->Ow B w0 w (af aB out (cy (m.pg.take t) f)::af aJ s m.pg::bK b m::R)->l5 out (t:O) w:=by
  intro k;induction k with
  |zero=>
   intro t out w ht h;apply hl5;refine aw om ?_;rw[Ou om]at h;exact hK out w h.vU
  |succ k ih=>
   intro t out w ht h;apply hl5;refine az om ?_;have hx:m.pg[t]?=S m.pg[t]:=gE om;refine h.bX (s:=s) (i:=(t:O)) (j:=t) U hx λa ha h0 hc=>?_;refine nD hc ?_;refine h.a λd w2 h=>?_;refine h.ay U U λw h=>?_;refine h.l2 U ?_;have e:cy (m.pg.take (t+1)) f=cy (m.pg.take t) f++(if m.pg[t].2.1=f then [m.pg[t].1]else []):=by
    unfold cy;rw[OG,hx,Qj,O9,OS];congr 1;by_cases e:m.pg[t].2.1=f
    .rw[A e,Pf,A (by simpa using e)];rfl
    .rw[Q e,Pf,Q (by simpa using e)];rfl
   rw[wI t om];refine dK (λe2=>?_) (λe2=>?_)
   .rw[A e2]at e
    refine h.l1 U ?_;refine h.a λd3 w3 h=>?_;refine eQ (s:=out) (ys:=cy (m.pg.take t) f) (y:=m.pg[t].1) h (by unfold cy;rw[O3];have:=OR (λx:O × Pg=>x.2.1==f) (m.pg.take t);rw[OO]at this;omega) λs' w hs' h=>?_;refine ih (t+1) s' w om ?_;rw[e];exact h.vU
   .rw[Q e2,OD]at e
    refine ih (t+1) out w om ?_;rw[e];exact h.drop
 exact loop m.pg.length 0 z0 w om (Ow.cH h)
def bL(s:Sl):N:= s.v
def jo:dF (O × O):=⟨2,λo=>[.z o.1,.z o.2],λ_=>rfl,λx v h=>by simp only[Oz,Ps,qC]at h;rcases h with rfl|rfl<;>rfl,qb⟩
abbrev L7:=J (O × O)
structure jq(m:dv)(T:L7)(P:fH):Prop where
 ok:fx m
 pg:P.Perm m.pg
 nd:(T.map (·.1)).Nodup
 tb:∀i n,(i,n)∈T↔m.at i=S n
def dG(b:X)(m:dv):aH:=pa λx:(Sl × Sl)× L7 × fH=>bo [dJ (jq m x.2.1 x.2.2),aa b [bL x.1.1,bL x.1.2],af jo x.1.1 x.2.1,af aJ x.1.2 x.2.2]
theorem Bk:∀(n:X)(l:J O),l.Nodup->(∀x∈l,0<=x/\x<(n:O))->l.length<=n
 |0,l,_,h=>by
  cases l with
  |nil=>simp
  |cons a l=>have:=h a qc;omega
 |n+1,l,hn,h=>by
  have h1:=Bk n (l.filter λx=>x !=(n:O)) (hn.sublist QV) λx hx=>by
   have h2:=OE.1 hx;have h3:=h x h2.1;have h4:x≠(n:O):=by simpa using h2.2
   omega
  have h2:l.length<=(l.filter λx=>x !=(n:O)).length+1:=by
   clear h1 h;induction l with
   |nil=>simp
   |cons a l ih=>
    rw[Pu]at hn;by_cases e:a=(n:O)
    .have:l.filter (λx=>x !=(n:O))=l:=by
      rw[Py];intro x hx;have:x≠(n:O):=λe2=>hn.1 (by rw[e,<-e2];exact hx);simpa using this
     rw[List.filter_cons_of_neg (by simp[e]),this,OB];exact Nat.le_refl _
    .rw[List.filter_cons_of_pos (by simpa using e),OB,OB]
     have:=ih hn.2;omega
  omega
end
section
variable{B:X}{w0 w:Y}{R L:J aH}{b:X}{m:dv}{T:L7}{P:fH}
theorem fx.CA(h:fx m):m.pg.length<=4096:=by
 have:=oK m.pg 0 4096 h.kU λx hx=>⟨(h.tA x hx).1,(h.tA x hx).2.1⟩
 omega
theorem Lv{k:O}(h0:0<=k)(h1:k<4096):qd.wrap (k.tdiv 64)=((k.toNat / 64:X):O):=by obtain⟨n,rfl⟩:=Ox h0;have:(n:O).tdiv 64=((n / 64:X):O):=rfl;rw[this,wr om om,Oo]
theorem fx.Gk(h:fx m){i n:O}(e:m.at i=S n):0<=i/\i<64/\m.tb i.toNat=S n:=by
 unfold dv.at at e;split at e
 .cases e
 .have:=h.fh i.toNat (by rw[e];rfl)
  exact⟨om,om,e⟩
theorem fx.Lq{i n:O}(h0:0<=i)(e:m.tb i.toNat=S n):m.at i=S n:=by unfold dv.at;rw[Q om];exact e
theorem jq.K4(h:jq m T P):T.length<=64:=by
 have:=Bk 64 (T.map (·.1)) h.nd λx hx=>by obtain⟨⟨i,n⟩,hy,e⟩:=O4.1 hx;have:=h.ok.Gk ((h.tb i n).1 hy);have e:i=x:=e;omega
 simpa using this
theorem jq.Jl(h:jq m T P):P.length<=4096:=by rw[h.pg.length_eq];exact h.ok.CA
theorem jq.Oe(h:jq m T P):(P.map (·.1)).Nodup:=(h.pg.map _).nodup_iff.2 h.ok.kU.nodup
theorem jq.look(h:jq m T P){k:O}{v:Pg}(hm:(k,v)∈P):look m.pg k=S v:=h.ok.kU.look (h.pg.mem_iff.1 hm)
theorem _root_.Go.Vc.Ow.Iu(h:Ow B w0 w (dG b m::R)):∃sT sP T P,jq m T P/\Ow B w0 w (aa b [bL sT,bL sP]::af jo sT T::af aJ sP P::R):=by obtain⟨⟨⟨sT,sP⟩,T,P⟩,h⟩:=h.ex;obtain⟨h1,h⟩:=Ow.pure h.star;exact⟨sT,sP,T,P,h1,h⟩
theorem _root_.Go.Vc.Ow.iE{sT sP:Sl}(h1:jq m T P)(h:Ow B w0 w (aa b [bL sT,bL sP]::af jo sT T::af aJ sP P::R)):Ow B w0 w (dG b m::R):=
 Ow.eP ((sT,sP),T,P) (Ow.br (Ow.cZ h1 h))
theorem jq.new:jq iF [] []:=⟨fx.new,List.Perm.refl _,qc,λi n=>⟨λh=>by simp at h,λh=>by have:=fx.new.Gk h;simp[iF]at this⟩⟩
theorem sX{i:O}{K:O->W->Pw}(h:Ow B w0 w (dG b m::R))(hK:K ((m.at i).getD 0) (m.at i).isSome w):TW b.o i K w:=by
 apply adH;obtain⟨sT,sP,T,P,hr,h⟩:=h.Iu;have hl:=h.aL sT;have htl:=hr.K4;intro l3 hl3;have loop:∀(j k:X),k+j=T.length->(∀x∈T.take k,x.1≠i)->l3 (k:O) w:=by
  intro j;induction j with
  |zero=>
   intro k hk hno;apply hl3;refine⟨_,U,sT,h.aF U,aw om ?_⟩;have e:m.at i=none:=by
    cases e:m.at i with
    |none=>rfl
    |some n=>exact qi U (hno (i,n) (by rw[Ou om];exact(hr.tb i n).2 e))
   rw[e]at hK;exact hK
  |succ j ih=>
   intro k hk hno;apply hl3;have hx:T[k]?=S T[k]:=gE om;refine⟨_,U,sT,h.aF U,az om ⟨_,U,sT,h.aF U,h.bX (s:=sT) (i:=(k:O)) (j:=k) U hx λa ha h0 hc=>⟨_,h0 _ U,?_⟩⟩⟩
   refine dK (λe=>?_) (λe=>?_)
   .refine ⟨_,U,sT,h.aF U,?_⟩
    refine h.bX (s:=sT) (i:=(k:O)) (j:=k) U hx λa ha h0 hc=>⟨_,hc 1 _ U,?_⟩
    have e2:m.at i=S T[k].2:=(hr.tb i _).1 (by rw[<-e];exact Ph _);rw[e2]at hK;exact hK
   .rw[wI k om]
    refine ih (k+1) om λx hx2=>?_;rw[OG,hx,Qj,Pn,OY]at hx2;rcases hx2 with h1|h1
    .exact hno x h1
    .rw[h1];exact e
 exact loop T.length 0 om (λx hx=>by simp at hx)
theorem Ae{s:Sl}{ys:L7}{y:O × O}{c:X}{L:J aH}{k:Sl->Pw}[ae4:bY s L (O × O) jo ys][aeX:eD (af jo s ys) L R](h:Ow B w0 w (aa c [.z y.1,.z y.2]::L))(hbig:ys.length<=1000000000)
  (hk:∀s' w',s'.len=ys.length+1->Ow B w0 w' (af jo s' (ys++ [y])::R)->k s' w'):
  ∃s' w',aP qe [127,127] 127 s.v (.slice (S c.p) 1 1) w s' w'/\k s' w':=
 Ow.eR (E:=jo) (y:=y) underlying127 (show qe.info? 410=S aem from by kernel_rfl) (zv:=(aem.zero).get qa) qa qa qa qb h (by
  have e:aem.bytes=16:=qa
  rw[e];omega) hk
theorem JS{i j:O}{v:qg O}(hi:0<=i):(⟨oY m.tb i.toNat v,m.pg⟩:dv).at j=if j=i then v else m.at j:=by
 unfold dv.at oY;by_cases hj:j<0
 .rw[A hj,Q om,A hj]
 .rw[Q hj]
  by_cases e:j=i
  .rw[A e,e];simp
  .simp only
   rw[Q om,Q e,Q hj]
theorem Bp{i n:O}{K:O->Pw}(h:Ow B w0 w (dG b m::R))(hK:∀w',Ow B w0 w' (dG b (m.gZ i n).2::R)->K (m.gZ i n).1 w'):Wu b.o i n K w:=by
 apply adD;obtain⟨sT,sP,T,P,hr,h⟩:=h.Iu;have hl:=h.aL sT;have htl:=hr.K4;have hok:=hr.ok.table i n;unfold dv.gZ at hK hok;intro k4 hk4;have bad:¬(0<=i/\i<64/\0<=n)->k4 V w:=λe=>by rw[A e]at hK;exact hk4 _ _ (aU U (hK w (Ow.iE hr h)))
 refine bg (λe=>bad λhh=>by omega) (λe1=>?_);refine bg (λe=>bad λhh=>by omega) (λe2=>?_);by_cases e3:n<0
 .rw[qm e3];exact bad λhh=>by omega
 rw[qk e3];have hi:0<=i/\i<64:=om
 rw[Q (λhh=>hh ⟨hi.1,hi.2,om⟩)]at hK hok;refine hk4 _ _ (aW U ?_);have full:∀(K2:W->Pw),(∀t w',(bif t then K 140 w' else qj)->K2 t w')->((m.tb i.toNat).isSome=V\/((OC 64).any λj=>m.tb j==S n)=V)->K2 V w:=λK2 h2 e=>by rw[A e]at hK;exact h2 V w (aU U (hK w (Ow.iE hr h)))
 intro l7 hl7;have loop:∀(j k:X),k+j=T.length->(∀x∈T.take k,x.1≠i/\x.2≠n)->l7 (k:O) w:=by
  intro j;induction j with
  |zero=>
   intro k hk hno;rw[Ou om]at hno;apply hl7;refine⟨_,U,sT,h.aF U,aw om ?_⟩;have hfree:m.tb i.toNat=none:=by
    cases e:m.tb i.toNat with
    |none=>rfl
    |some v=>exact qi U (hno (i,v) ((hr.tb i v).2 (fx.Lq hi.1 e))).1
   have hany:¬((OC 64).any λj=>m.tb j==S n)=true:=λe=>by
    obtain⟨j,_,e⟩:=PS.1 e;have e:m.tb j=S n:=by simpa using e
    exact qi U (hno ((j:O),n) ((hr.tb _ n).2 (fx.Lq om (by rw[Oo];exact e)))).2
   rw[Q (by rw[hfree];simpa using hany)]at hK hok;refine⟨_,U,sT,h.aF U,h.a λd w2 h=>?_⟩;refine Ae (s:=sT) (ys:=T) (y:=(i,n)) h om λs' w hs' h=>?_;refine⟨_,U,?_⟩;have h:=h.cw;refine h.jx U U λw h=>?_;refine hK w (Ow.iE (sT:=s') (sP:=sP) (T:=T++ [(i,n)]) (P:=P) ⟨hok,hr.pg,?_,λj x=>?_⟩ h)
   .rw[OS,List.nodup_append]
    refine⟨hr.nd,qc,λx hx y hy e=>?_⟩;simp only[OZ,List.map_nil,OY]at hy;obtain⟨z,hz,e2⟩:=O4.1 hx;exact(hno z hz).1 (by rw[e2,e,hy])
   .rw[Pn,OY,JS hi.1]
    by_cases e:j=i
    .rw[A e]
     constructor
     .rintro (h1|h1)
      .exact qi e (hno _ h1).1
      .cases h1;rfl
     .intro h1;cases h1;exact .inr (by rw[e])
    .rw[Q e,hr.tb]
     exact⟨λh1=>h1.resolve_right λh2=>e (by cases h2;rfl),.inl⟩
  |succ j ih=>
   intro k hk hno;apply hl7;have hx:T[k]?=S T[k]:=gE om;have hmem:T[k]∈T:=Ph _;refine⟨_,U,sT,h.aF U,az om ?_⟩;intro k12 hk12;have fl:((m.tb i.toNat).isSome=V\/((OC 64).any λj=>m.tb j==S n)=V)->k12 V w:=λe=>by refine hk12 _ _ (aU U ?_);rw[A e]at hK;exact hK w (Ow.iE hr h)
   refine⟨_,U,sT,h.aF U,h.bX (s:=sT) (i:=(k:O)) (j:=k) U hx λa ha h0 hc=>⟨_,h0 _ U,?_⟩⟩
   have hat:=hr.ok.Gk ((hr.tb T[k].1 T[k].2).1 hmem);refine dK (λe=>fl (.inl (by rw[<-e,hat.2.2];rfl))) (λe=>?_);refine⟨_,U,sT,h.aF U,h.bX (s:=sT) (i:=(k:O)) (j:=k) U hx λa ha h0 hc=>⟨_,hc 1 _ U,?_⟩⟩
   by_cases e5:T[k].2=n
   .rw[show(T[k].2==n)=V from by simpa using e5]
    exact fl (.inr (PS.2 ⟨T[k].1.toNat,PQ.2 om,by rw[hat.2.2,e5];simp⟩))
   .rw[show(T[k].2==n)=Z from by simpa using e5]
    refine hk12 _ _ (aW U ?_);rw[wI k om];refine ih (k+1) om λx hx2=>?_;rw[OG,hx,Qj,Pn,OY]at hx2;rcases hx2 with h1|h1
    .exact hno x h1
    .rw[h1];exact⟨e,e5⟩
 exact loop T.length 0 om (λx hx=>by simp at hx)
theorem DW{n:O}{sT sP:Sl}{K:O->Pw}(hr:jq m T P)(h:Ow B w0 w (aa b [bL sT,bL sP]::af jo sT T::af aJ sP P::R))(hK0:look m.pg n=I->K (-1) w)(hK1:∀(k:X)(v:Pg),P[k]?=S (n,v)->look m.pg n=S v->K (k:O) w):UM b.o n K w:=by
 apply adJ;have hl:=h.aL sP;have hpl:=hr.Jl;intro l3 hl3;have loop:∀(j k:X),k+j=P.length->(∀x∈P.take k,x.1≠n)->l3 (k:O) w:=by
  intro j;induction j with
  |zero=>
   intro k hk hno;rw[Ou om]at hno;apply hl3;refine⟨_,U,sP,h.aE U,aw om (hK0 (cX.2 λx hx=>hno x (hr.pg.mem_iff.2 hx)))⟩
  |succ j ih=>
   intro k hk hno;apply hl3;have hx:P[k]?=S P[k]:=gE om;refine⟨_,U,sP,h.aE U,az om ⟨_,U,sP,h.aE U,h.bX (s:=sP) (i:=(k:O)) (j:=k) U hx λa ha h0 hc=>⟨_,h0 _ U,?_⟩⟩⟩
   refine dK (λe=>?_) (λe=>?_)
   .refine hK1 k P[k].2 (by rw[hx,<-e]) ?_
    exact hr.look (by rw[<-e];exact Ph _)
   .rw[wI k om]
    refine ih (k+1) om λx hx2=>?_;rw[OG,hx,Qj,Pn,OY]at hx2;rcases hx2 with h1|h1
    .exact hno x h1
    .rw[h1];exact e
 exact loop P.length 0 om (λx hx=>by simp at hx)
theorem MW{w:Y}{a:qf}{x:O × Pg}{f:O->O->Prop}(g:∀c v,(aJ.enc x)[c]?=S v->w.cell? (a.add c)=S v)(hf:f x.2.1 x.2.2):av w (a.add 1) 0 [.o,.o] f:=by
 have g4:w.cell? ((a.add 1).add 1)=S (.z x.2.2):=by
  have:=g 2 _ (rfl:(aJ.enc x)[2]?=S (.z x.2.2));have e:(a.add 1).add 1=a.add 2:=by unfold Addr.add;simp
  rw[e];exact this
 have g3:w.cell? ((a.add 1).add 0)=S (.z x.2.1):=g 1 _ U;exact⟨_,g3,_,g4,hf⟩
theorem Dw:∀{P:fH}{k:X}{n:O}{u v:Pg},(P.map (·.1)).Nodup->P[k]?=S (n,u)->jL P n v=P.set k (n,v)/\lh P n=P.eraseIdx k
 | [],k,n,u,v,_,h=>by simp at h
 |x::P,0,n,u,v,_,h=>by simp at h;subst h;simp[jL,lh]
 |x::P,k+1,n,u,v,hn,h=>by
  rw[OZ,Pu]at hn;have h:P[k]?=S (n,u):=by simpa using h
  have hne:x.1≠n:=λe=>hn.1 (O4.2 ⟨_,List.mem_of_getElem? h,by rw[e]⟩);obtain⟨h1,h2⟩:=Dw (v:=v) hn.2 h;unfold jL lh;rw[Q hne,Q hne,h1,h2];exact⟨U,U⟩
theorem GS{P:fH}(h:lg P){n:O}(v:Pg)(hl:look P n=I):((n,v)::P).Perm (jU P n v):=by
 have hs:=ov h n v;refine(List.perm_ext_iff_of_nodup ?_ (fy hs.nodup)).2 λx=>?_
 .refine Pu.2 ⟨λhm=>cX.1 hl _ hm U,fy h.nodup⟩
 .rw[Oz,jv h]
  exact⟨λe=>e.elim .inl λhx=> .inr ⟨hx,cX.1 hl x hx⟩,λe=>e.elim .inl λhx=> .inr hx.1⟩
theorem Fl{k:O}{p:Pg}{K:O->Pw}(h:Ow B w0 w (dG b m::R))(hK:∀w',Ow B w0 w' (dG b (m.nF k p).2::R)->K (m.nF k p).1 w'):Wv b.o k p.1 p.2 K w:=by
 apply adE;have hok:fx m:=by obtain⟨_,_,_,_,hr,_⟩:=h.Iu;exact hr.ok
 unfold dv.nF at hK;refine h.a λd w1 h=>?_;intro k6 hk6;have bad:¬(0<=k/\k<4096/\0<=p.1/\0<=p.2/\p.2<=7)->k6 V w1:=λe=>by rw[A e]at hK;exact hk6 _ _ (aU U (hK w1 h.drop))
 refine bg (λe=>bad λhh=>by omega) (λe1=>?_);refine bg (λe=>bad λhh=>by omega) (λe2=>?_);refine h.l1 U ?_;refine bg (λe=>bad λhh=>by omega) (λe3=>?_);refine h.l2 U ?_;refine bg (λe=>bad λhh=>by omega) (λe4=>?_);refine h.l2 U ?_;by_cases e5:p.2>7
 .rw[qm e5];exact bad λhh=>by omega
 rw[qk e5];have hk:0<=k/\k<4096:=om
 rw[Q (λhh=>hh ⟨hk.1,hk.2,om,om,om⟩)]at hK;refine hk6 _ _ (aW U ⟨qb,?_⟩);rw[Lv hk.1 hk.2];have h:Ow B w0 w1 (dG b m::aa d [.z p.1,.z p.2]::R):=h.cw;refine sX h ?_;have eat:m.at ((k.toNat / 64:X):O)=m.tb (k.toNat / 64):=by unfold dv.at;rw[Q om,Oo]
 rw[eat];cases ht:m.tb (k.toNat / 64)with
 |none=>rw[A ht]at hK;exact aU U (hK w1 h.vU)
 |some v=>
  have hs:(m.tb (k.toNat / 64)).isSome=true:=by rw[ht];rfl
  rw[Q (by rw[ht];simp)]at hK;refine aW U ?_;obtain⟨sT,sP,T,P,hr,h⟩:=h.Iu;have hl:=h.aL sP;have hpl:=hr.Jl;refine DW hr h (λe=>?_) (λj v hj e=>?_)
  .rw[Q (by rw[e];simp)]at hK
   refine aw qb ?_;refine h.dr λw h=>?_;refine⟨_,U,sP,h.aE U,h.aN U (Go.Vc.a2 (h.a λd2 w2 h=>?_))⟩;refine Go.Vc.a2 ?_;refine jz (s:=sP) (ys:=P) (y:=(k,p)) h om λs' w hs' h=>?_;refine⟨_,U,Go.Vc.a2 (h.gh U U λw h=>?_)⟩;refine hK w ?_;have h2:Ow B w0 w (aa b [bL sT,s'.v]::af jo sT T::af aJ s' (P++ [(k,p)])::aa d [.z p.1,.z p.2]::R):=h.sub;have h3:Ow B w0 w (dG b { m with pg:=jU m.pg k p}::aa d [.z p.1,.z p.2]::R):=Ow.iE (m:={ m with pg:=jU m.pg k p}) (sT:=sT) (sP:=s') ⟨hok.ins hk hs p,?_,hr.nd,λi n=>hr.tb i n⟩ h2
   .exact h3.vU
   .exact (List.perm_append_singleton _ _).trans ((hr.pg.cons _).trans (GS hok.kU p e))
  .rw[A (by rw[e];rfl)]at hK
   refine az om ?_;have h:Ow B w0 w1 (dG b m::aa d _::R):=Ow.iE hr h;exact hK w1 h.vU
theorem kF{k:O}{K:O->O->O->Pw}(h:Ow B w0 w (dG b m::R))(hK:∀w',Ow B w0 w' (dG b (m.bV k).2.2::R)->K (m.bV k).1.1 (m.bV k).1.2 (m.bV k).2.1 w'):To b.o k K w:=by
 apply adF;have hok:fx m:=by obtain⟨_,_,_,_,hr,_⟩:=h.Iu;exact hr.ok
 have hok2:=hok.lJ k;unfold dv.bV at hK hok2;refine h.a λd w1 h=>?_;intro k4 hk4;have bad:¬(0<=k/\k<4096)->k4 V w1:=λe=>by
  rw[A e]at hK;refine hk4 _ _ (aU U ?_);refine h.ay U U λw h=>?_;refine h.aN U ?_;exact hK w h.drop
 refine bg (λe=>bad λhh=>by omega) (λe1=>?_);by_cases e2:k>4095
 .rw[qm e2];exact bad λhh=>by omega
 rw[qk e2];rw[Q (λhh=>hh ⟨om,om⟩)]at hK hok2;refine hk4 _ _ (aW U ?_);have h:Ow B w0 w1 (dG b m::aa d [.z 0,.z 0]::R):=h.cw;obtain⟨sT,sP,T,P,hr,h⟩:=h.Iu;have hl:=h.aL sP;have hpl:=hr.Jl;refine DW hr h (λe=>?_) (λj v hj e=>?_)
 .rw[e]at hK
  refine h.a λd2 w2 h=>?_;refine az qb ?_;have h:=h.drop;refine h.ay U U λw h=>?_;refine h.aN U ?_;have h:Ow B w0 w (dG b m::aa d _::R):=Ow.iE hr h;exact hK w h.vU
 .rw[e]at hK hok2
  have hlt:=(List.getElem?_eq_some_iff.1 hj).1;refine h.a λd2 w2 h=>?_;refine aw om ⟨_,U,sP,h.aE U,?_⟩;refine h.bX (s:=sP) (i:=(j:O)) (j:=j) U hj λa ha h0 hc=>MW (x:=(k,v)) hc ?_;have h:Ow B w0 w2 (af aJ ⟨S d2.p,0,0⟩ []::_):=Ow.empty h;refine h.a λd3 w3 h=>?_;refine h.ay U U λw h=>?_;intro l23 hl23;have loop:∀(q i:X)(rest:Sl)(w:Y),i+q=P.length->Ow B w0 w (af aJ rest ((P.take i).eraseIdx j)::aa d3 [.z v.1,.z v.2]::aa b [bL sT,bL sP]::af jo sT T::af aJ sP P::aa d [.z 0,.z 0]::R)->l23 rest (i:O) w:=by
   intro q;induction q with
   |zero=>
    intro i rest w hi h;apply hl23;rw[Ou om]at h;refine⟨_,U,sP,h.aE U,aw om ⟨_,U,h.gh U U λw h=>?_⟩⟩;refine h.aN U ?_;refine h.ay U U λw h=>?_;refine h.aN U ?_;have h2:Ow B w0 w (aa b [bL sT,rest.v]::af jo sT T::af aJ rest (P.eraseIdx j)::R):=h.sub;refine hK w (Ow.iE (m:={ m with pg:=mJ m.pg k}) (sT:=sT) (sP:=rest) ⟨hok2,?_,hr.nd,λi n=>hr.tb i n⟩ h2);have:=xr hr.pg hok.kU k;rw[(Dw (v:=v) hr.Oe hj).2]at this;exact this
   |succ q ih=>
    intro i rest w hi h;apply hl23;have hx:P[i]?=S P[i]:=gE om;have et:P.take (i+1)=P.take i++ [P[i]]:=by rw[OG,hx];rfl
    have ei:qd.wrap ((i:O)+1)=((i+1:X):O):=by rw[wr om om];omega
    refine⟨_,U,sP,h.aE U,az om ?_⟩;rw[ei];refine oO (λe5=>?_) (λe5=>?_)
    .refine ⟨_,U,sP,h.aE U,?_⟩
     refine h.bX (s:=sP) (i:=(i:O)) (j:=i) U hx λa ha h0 hc=>nD hc ?_;refine h.a λd4 w4 h=>?_;have hln:((P.take i).eraseIdx j).length<=4096:=by have:=List.length_eraseIdx_le (P.take i) j;rw[OO]at this;omega
     refine jz (s:=rest) (ys:=(P.take i).eraseIdx j) (y:=P[i]) h om λs' w hs' h=>?_;refine ih (i+1) s' w om ?_;have e6:(P.take (i+1)).eraseIdx j=(P.take i).eraseIdx j++ [P[i]]:=by
      rw[et];by_cases e7:j<i
      .rw[List.eraseIdx_append_of_lt_length (by rw[OO];omega)]
      .rw[Rs (by rw[Ov,OO];simp;omega),Rs (by rw[OO];omega)]
     rw[e6];exact h
    .refine ih (i+1) rest w om ?_
     have e8:i=j:=om
     have e6:(P.take (i+1)).eraseIdx j=(P.take i).eraseIdx j:=by rw[et,<-e8,List.eraseIdx_append_of_length_le (by rw[OO];omega),OO,Pv om,Nat.sub_self,Rs (show(P.take i).length<=i by rw[OO];omega)];simp
     rw[e6];exact h
  exact loop P.length 0 ⟨S d2.p,0,0⟩ w om h.cw
theorem nO{K:Sl->Pw}(h:Ow B w0 w (dG b m::R))(hK:∀s w',Ow B w0 w' (af aJ s m.pg::dG b m::R)->K s w'):R8 b.o K w:=by
 apply adC;obtain⟨sT,sP,T,P,hr,h⟩:=h.Iu;have hl:=h.aL sP;have hpl:=hr.Jl;have hpe:=hr.pg.length_eq;refine h.a λd w1 h=>?_;have h:Ow B w0 w1 (af aJ ⟨S d.p,0,0⟩ []::_):=Ow.empty h;intro l3 hl3;have hle:∀n:X,(m.pg.filter λx=>F (x.1<(n:O))).length<=m.pg.length:=λn=>OR _ _;have loop:∀(j n:X)(out:Sl)(w:Y),n+j=4096->Ow B w0 w (af aJ out (m.pg.filter λx=>F (x.1<(n:O)))::aa b [bL sT,bL sP]::af jo sT T::af aJ sP P::R)->l3 out (n:O) w:=by
  intro j;induction j with
  |zero=>
   intro n out w hn h;apply hl3;intro k7 hk7;rw[qk (show ¬(n:O)<4096 by omega)];refine aW U (hk7 _ _ (aW U ?_));have e:(m.pg.filter λx=>F (x.1<(n:O)))=m.pg:=Py.2 λx hx=>by have:=hr.ok.tA x hx;simp;omega
   rw[e]at h;have h5:Ow B w0 w (dG b m::af aJ out m.pg::R):=Ow.iE hr (h.sub:Ow B w0 w (aa b [bL sT,bL sP]::af jo sT T::af aJ sP P::af aJ out m.pg::R));exact hK out w h5.cw
  |succ j ih=>
   intro n out w hn h;apply hl3;intro k7 hk7;have hlo:=h.aL out;rw[qm (show(n:O)<4096 by omega)];refine aU U ⟨_,U,sP,h.aE U,?_⟩;by_cases hall:(m.pg.filter λx=>F (x.1<(n:O))).length=m.pg.length
   .rw[qk om]
    refine hk7 _ _ (aW U ?_);have e:(m.pg.filter λx=>F (x.1<(n:O)))=m.pg:=List.Sublist.eq_of_length QV hall;rw[e]at h;have h5:Ow B w0 w (dG b m::af aJ out m.pg::R):=Ow.iE hr (h.sub:Ow B w0 w (aa b [bL sT,bL sP]::af jo sT T::af aJ sP P::af aJ out m.pg::R));exact hK out w h5.cw
   .have hlt:=hle n
    rw[qm om];refine hk7 _ _ (aU U ?_);intro l10 hl10;have hsm:∀k:X,((P.take k).filter λx=>x.1==(n:O)).length<=P.length:=λk=>by have:=OR (λx:O × Pg=>x.1==(n:O)) (P.take k);rw[OO]at this;omega
    have loop2:∀(j k:X)(out:Sl)(w:Y),k+j=P.length->Ow B w0 w (af aJ out ((m.pg.filter λx=>F (x.1<(n:O)))++((P.take k).filter λx=>x.1==(n:O)))::aa b [bL sT,bL sP]::af jo sT T::af aJ sP P::R)->l10 out (k:O) w:=by
     intro j;induction j with
     |zero=>
      intro k out w hk h;apply hl10;refine⟨_,U,sP,h.aE U,aw om ?_⟩;rw[wI n om];refine ih (n+1) out w om ?_;rw[Ou om]at h;have e1:(P.filter λx=>x.1==(n:O))=m.pg.filter λx=>x.1==(n:O):=by
       have hp:(P.filter λx=>x.1==(n:O)).Perm (m.pg.filter λx=>x.1==(n:O)):=hr.pg.filter _;cases hl:look m.pg (n:O)with
       |none=>
        have e2:(m.pg.filter λx=>x.1==(n:O))= []:=QY.2 λx hx=>by have:=cX.1 hl x hx;simpa using this
        rw[e2]at hp|-;exact hp.eq_nil
       |some v=>
        have e2:(m.pg.filter λx=>x.1==(n:O))= [((n:O),v)]:=rV (hr.ok.kU.filter _) (by simp[lg]) λx=>by
         rw[OE,OY];constructor
         .rintro ⟨h1,h2⟩
          exact hr.ok.kU.inj h1 (gQ hl) (by simpa using h2)
         .intro h1;rw[h1];exact⟨gQ hl,qc⟩
        rw[e2]at hp|-;exact hp.eq_singleton
      have e2:(m.pg.filter λx=>F (x.1<((n+1:X):O)))=(m.pg.filter λx=>F (x.1<(n:O)))++(m.pg.filter λx=>x.1==(n:O)):=by
       refine rV (hr.ok.kU.filter _) (List.pairwise_append.2 ⟨hr.ok.kU.filter _,hr.ok.kU.filter _,λx hx y hy=>?_⟩) λx=>?_
       .obtain ⟨_,h1⟩:=OE.1 hx
        obtain⟨_,h2⟩:=OE.1 hy;simp only[qA]at h1;simp only[qG]at h2;omega
       .rw[Pn,OE,OE,OE]
        simp only[qA,qG];constructor
        .rintro ⟨h1,h2⟩
         by_cases e:x.1=(n:O)
         .exact .inr ⟨h1,e⟩
         .exact .inl ⟨h1,om⟩
        .rintro (h1|h1)
         .exact ⟨h1.1,om⟩
         .exact ⟨h1.1,om⟩
      rw[e2,<-e1];exact h
     |succ j ih2=>
      intro k out w hk h;apply hl10;have hx:P[k]?=S P[k]:=gE om;have et:P.take (k+1)=P.take k++ [P[k]]:=by rw[OG,hx];rfl
      have ek:qd.wrap ((k:O)+1)=((k+1:X):O):=by rw[wr om om];omega
      refine⟨_,U,sP,h.aE U,az om ⟨_,U,sP,h.aE U,?_⟩⟩;rw[ek];refine h.bX (s:=sP) (i:=(k:O)) (j:=k) U hx λa ha h0 hc=>⟨_,h0 _ U,?_⟩
      refine dK (λe=>?_) (λe=>?_)
      .refine ⟨_,U,sP,h.aE U,?_⟩
       refine h.bX (s:=sP) (i:=(k:O)) (j:=k) U hx λa ha h0 hc=>nD hc ?_;refine h.a λd4 w4 h=>?_;have hb:=hsm k;refine jz (s:=out) (ys:=(m.pg.filter λx=>F (x.1<(n:O)))++((P.take k).filter λx=>x.1==(n:O))) (y:=P[k]) h (by rw[Ov];omega) λs' w hs' h=>?_;refine ih2 (k+1) s' w om ?_;rw[et,O9,Pf,A (by simpa using e),P8,<-List.append_assoc];exact h
      .refine ih2 (k+1) out w om ?_
       rw[et,O9,Pf,Q (by simpa using e),P8,OD];exact h
    refine loop2 P.length 0 out w om ?_;rw[PT,P8,OD];exact h
 refine loop 4096 0 ⟨S d.p,0,0⟩ w1 om ?_;have e:(m.pg.filter λx=>F (x.1<((0:X):O)))= []:=QY.2 λx hx=>by have:=hr.ok.tA x hx;simp;omega
 rw[e];exact h
theorem zo{f:O}{K:Sl->Pw}(h:Ow B w0 w (dG b m::R))(hK:∀s w',Ow B w0 w' (af aB s (cy m.pg f)::dG b m::R)->K s w'):W9 b.o f K w:=by
 apply adG;have ho:fx m:=by obtain⟨_,_,_,_,hr,_⟩:=h.Iu;exact hr.ok
 have hlen:=ho.CA;refine nO h λs w h=>?_;have hl:=h.aL s;refine h.a λd w2 h=>?_;have h:Ow B w0 w2 (af aB ⟨S d.p,0,0⟩ []::_):=Ow.empty h;intro l5 hl5;have loop:∀(k t:X)(out:Sl)(w:Y),t+k=m.pg.length->Ow B w0 w (af aB out (cy (m.pg.take t) f)::af aJ s m.pg::dG b m::R)->l5 out (t:O) w:=by
  intro k;induction k with
  |zero=>
   intro t out w ht h;apply hl5;refine aw om ?_;rw[Ou om]at h;exact hK out w h.vU
  |succ k ih=>
   intro t out w ht h;apply hl5;refine az om ?_;have hx:m.pg[t]?=S m.pg[t]:=gE om;have e:cy (m.pg.take (t+1)) f=cy (m.pg.take t) f++(if m.pg[t].2.1=f then [m.pg[t].1]else []):=by
    unfold cy;rw[OG,hx,Qj,O9,OS];congr 1;by_cases e:m.pg[t].2.1=f
    .rw[A e,Pf,A (by simpa using e)];rfl
    .rw[Q e,Pf,Q (by simpa using e)];rfl
   rw[wI t om];refine h.bX (s:=s) (i:=(t:O)) (j:=t) U hx λa ha h0 hc=>⟨_,hc 1 _ U,?_⟩
   refine dK (λe2=>?_) (λe2=>?_)
   .rw[A e2]at e
    refine h.bX (s:=s) (i:=(t:O)) (j:=t) U hx λa ha h0 hc=>⟨_,h0 _ U,?_⟩
    refine h.a λd3 w3 h=>?_;refine eQ (s:=out) (ys:=cy (m.pg.take t) f) (y:=m.pg[t].1) h (by unfold cy;rw[O3];have:=OR (λx:O × Pg=>x.2.1==f) (m.pg.take t);rw[OO]at this;omega) λs' w hs' h=>?_;refine ih (t+1) s' w om ?_;rw[e];exact h
   .rw[Q e2,OD]at e
    refine ih (t+1) out w om ?_;rw[e];exact h
 exact loop m.pg.length 0 ⟨S d.p,0,0⟩ w2 om h
theorem LO{w:Y}{a:qf}{x:O × O}{f:O->O->Prop}(g:∀c v,(jo.enc x)[c]?=S v->w.cell? (a.add c)=S v)(hf:f x.1 x.2):av w a 0 [.o,.o] f:=
 ⟨_,g 0 _ U,_,g 1 _ U,hf⟩
theorem CS{i:O}{K:Sl->O->Pw}(h:Ow B w0 w (dG b m::R))(hK:∀s w',Ow B w0 w' (af aJ s (m.bp i).1::dG b (m.bp i).2.2::R)->K s (m.bp i).2.1 w'):Xa b.o i K w:=by
 apply adI;have ho:fx m:=by obtain⟨_,_,_,_,hr,_⟩:=h.Iu;exact hr.ok
 have hok:=ho.drop i;have hkl:=ho.CA;unfold dv.bp at hK hok;intro k3 hk3;have bad:¬(0<=i/\i<64)->k3 V w:=λe=>by rw[A e]at hK;exact hk3 _ _ (aU U (hK _ w (Ow.cH h)))
 refine bg (λe=>bad λhh=>by omega) (λe1=>?_);by_cases e2:i>63
 .rw[qm e2];exact bad λhh=>by omega
 rw[qk e2];rw[Q (λhh=>hh ⟨om,om⟩)]at hK hok;refine hk3 _ _ (aW U ?_);refine sX h ?_;have eat:m.at i=m.tb i.toNat:=by unfold dv.at;rw[Q om]
 rw[eat];cases ht:m.tb i.toNat with
 |none=>
  rw[A ht]at hK;exact aU U (hK _ w (Ow.cH h))
 |some v0=>
  rw[Q (by rw[ht];simp)]at hK hok;refine aW U ?_;refine nO h λs9 w h=>?_;have hl9:=h.aL s9;refine h.a λd1 w2 h=>?_;have h:Ow B w0 w2 (af aJ ⟨S d1.p,0,0⟩ []::_):=Ow.empty h;refine h.a λd2 w3 h=>?_;have h:Ow B w0 w3 (af aJ ⟨S d2.p,0,0⟩ []::_):=Ow.empty h;refine h.a λd3 w4 h=>?_;have h:Ow B w0 w4 (af jo ⟨S d3.p,0,0⟩ []::_):=Ow.empty h;have h:Ow B w0 w4 (dG b m::af jo ⟨S d3.p,0,0⟩ []::af aJ ⟨S d2.p,0,0⟩ []::af aJ ⟨S d1.p,0,0⟩ []::af aJ s9 m.pg::R):=h.sub;obtain⟨sT,sP,T,P,hr,h⟩:=h.Iu;have hlT:=h.aL sT;have htl:=hr.K4;intro l14 hl14;have loop:∀(j q:X)(out rest:Sl)(w:Y),q+j=m.pg.length->Ow B w0 w (af aJ out (cC (m.pg.take q) i.toNat)::af aJ rest ((m.pg.take q).filter λx=>x.1.toNat / 64 !=i.toNat)::af aJ s9 m.pg::aa b [bL sT,bL sP]::af jo sT T::af jo ⟨S d3.p,0,0⟩ []::af aJ sP P::R)->l14 out rest (q:O) w:=by
   intro j;induction j with
   |zero=>
    intro q out rest w hq h;apply hl14;refine aw om ?_;rw[Ou om]at h;intro l35 hl35;have loop2:∀(j k:X)(cM:Sl)(w:Y),k+j=T.length->Ow B w0 w (af jo cM ((T.take k).filter λx=>x.1 !=i)::af aJ out (cC m.pg i.toNat)::af aJ rest (m.pg.filter λx=>x.1.toNat / 64 !=i.toNat)::aa b [bL sT,bL sP]::af jo sT T::af aJ sP P::R)->l35 cM (k:O) w:=by
     intro j;induction j with
     |zero=>
      intro k cM w hk h;apply hl35;rw[Ou om]at h;refine⟨_,U,sT,h.aF U,aw om ⟨_,U,h.gh U U λw h=>?_⟩⟩;refine⟨_,U,h.jx U U λw h=>?_⟩;have h2:Ow B w0 w (aa b [cM.v,rest.v]::af jo cM (T.filter λx=>x.1 !=i)::af aJ rest (m.pg.filter λx=>x.1.toNat / 64 !=i.toNat)::af aJ out (cC m.pg i.toNat)::R):=h.sub;have h3:Ow B w0 w (dG b ⟨oY m.tb i.toNat I,m.pg.filter λx=>x.1.toNat / 64 !=i.toNat⟩::af aJ out (cC m.pg i.toNat)::R):=Ow.iE (m:=⟨oY m.tb i.toNat I,m.pg.filter λx=>x.1.toNat / 64 !=i.toNat⟩) (sT:=cM) (sP:=rest) ⟨hok,List.Perm.refl _,hr.nd.sublist (List.filter_sublist.map _),λj n=>?_⟩ h2
      .exact hK out w h3.cw
      .have e9:=JS (m:=m) (j:=j) (v:=I) (show 0<=i by omega)
       have e10:(⟨oY m.tb i.toNat I,m.pg.filter λx=>x.1.toNat / 64 !=i.toNat⟩:dv).at j=(⟨oY m.tb i.toNat I,m.pg⟩:dv).at j:=rfl;rw[e10,e9,OE,hr.tb];by_cases e:j=i
       .rw[A e];simp[e]
       .rw[Q e];simp[e]
     |succ j ih2=>
      intro k cM w hk h;apply hl35;have hx:T[k]?=S T[k]:=gE om;have et:T.take (k+1)=T.take k++ [T[k]]:=by rw[OG,hx];rfl
      have ek:qd.wrap ((k:O)+1)=((k+1:X):O):=by rw[wr om om];omega
      refine⟨_,U,sT,h.aF U,az om ⟨_,U,sT,h.aF U,?_⟩⟩;rw[ek];refine h.bX (s:=sT) (i:=(k:O)) (j:=k) U hx λa ha h0 hc=>⟨_,h0 _ U,?_⟩
      refine oO (λe=>?_) (λe=>?_)
      .refine ⟨_,U,sT,h.aF U,?_⟩
       refine h.bX (s:=sT) (i:=(k:O)) (j:=k) U hx λa ha h0 hc=>LO hc ?_;refine h.a λd4 w4 h=>?_;refine Ae (s:=cM) (ys:=(T.take k).filter λx=>x.1 !=i) (y:=T[k]) h (by have:=OR (λx:O × O=>x.1 !=i) (T.take k);rw[OO]at this;omega) λs' w hs' h=>?_;refine ih2 (k+1) s' w om ?_;rw[et,O9,Pf,A (by simpa using e),P8];exact h
      .refine ih2 (k+1) cM w om ?_
       rw[et,O9,Pf,Q (by simpa using e),P8,OD];exact h
    refine loop2 T.length 0 ⟨S d3.p,0,0⟩ w om ?_;rw[PT,P8];exact h.sub
   |succ j ihj=>
    intro q out rest w hq h;apply hl14;refine az om ?_;have hx:m.pg[q]?=S m.pg[q]:=gE om;have hb:=ho.tA m.pg[q] (Ph _);have et:m.pg.take (q+1)=m.pg.take q++ [m.pg[q]]:=by rw[OG,hx];rfl
    refine h.bX (s:=s9) (i:=(q:O)) (j:=q) U hx λa ha h0 hc=>⟨_,h0 _ U,qb,?_⟩
    rw[Lv hb.1 hb.2.1,show qd.wrap ((q:O)+1)=((q+1:X):O)from by rw[wr om om];omega];refine dK (λe=>?_) (λe=>?_)
    .refine h.bX (s:=s9) (i:=(q:O)) (j:=q) U hx λa ha h0 hc=>nD hc ?_
     refine h.a λd w2 h=>?_;refine jz (s:=out) (ys:=cC (m.pg.take q) i.toNat) (y:=m.pg[q]) h (by have:=OR (λx:O × Pg=>x.1.toNat / 64==i.toNat) (m.pg.take q);rw[OO]at this;unfold cC;omega) λs' w hs' h=>?_;refine ihj (q+1) s' rest w om ?_;have e4:cC (m.pg.take (q+1)) i.toNat=cC (m.pg.take q) i.toNat++ [m.pg[q]]:=by rw[et];unfold cC;rw[O9,Pf,A (by simp;omega)];rfl
     have e5:((m.pg.take (q+1)).filter λx=>x.1.toNat / 64 !=i.toNat)=(m.pg.take q).filter λx=>x.1.toNat / 64 !=i.toNat:=by rw[et,O9,Pf,Q (by simp;omega)];simp
     rw[e4,e5];exact h
    .refine h.bX (s:=s9) (i:=(q:O)) (j:=q) U hx λa ha h0 hc=>nD hc ?_
     refine h.a λd w2 h=>?_;refine jz (s:=rest) (ys:=(m.pg.take q).filter λx=>x.1.toNat / 64 !=i.toNat) (y:=m.pg[q]) h (by have:=OR (λx:O × Pg=>x.1.toNat / 64 !=i.toNat) (m.pg.take q);rw[OO]at this;omega) λs' w hs' h=>?_;refine ihj (q+1) out s' w om ?_;have e4:cC (m.pg.take (q+1)) i.toNat=cC (m.pg.take q) i.toNat:=by rw[et];unfold cC;rw[O9,Pf,Q (by simp;omega)];simp
     have e5:((m.pg.take (q+1)).filter λx=>x.1.toNat / 64 !=i.toNat)=((m.pg.take q).filter λx=>x.1.toNat / 64 !=i.toNat)++ [m.pg[q]]:=by rw[et,O9,Pf,A (by simp;omega)];rfl
     rw[e4,e5];exact h.sub
  refine loop m.pg.length 0 ⟨S d1.p,0,0⟩ ⟨S d2.p,0,0⟩ w4 om ?_;rw[PT,P8,show cC ([]:fH) i.toNat= []from U];exact h.sub
end
end Tb
end Go.Vc
