/- What the row rests on: the declarations that it needs, out of my texts (part 6). -/
import Derived.Test.YtfgikfglabdeoaaGreatZy5
import Derived.Ground.GgzProg
import Derived.Ground.SlgmProg
import Derived.Ground.SlmcProg
import Derived.Ground.SlsfProg
import Derived.Shelf.SlIterI.Nil
import Derived.Shelf.SlMaps.Clone
import Derived.Shelf.SlSortCmp.NoneTotal
import Derived.Shelf.SortM.Plain
import Derived.Shelf.SortM.SortNone
open Bool renaming false->G,true->Z
open Decidable renaming decide->V
open Go renaming Addr->qg,Program->qq,TypeId->qi,Value->Q,World->J,zeroValue->qK
open Go.IntKind renaming i64->qf,u64->qv
open Go.Proofs.Tryz renaming isAgg0->aaK,isAgg3->aaA,isAgg4->aaD,prog->qe,sizeOf0->aaL,sizeOf22->aaP,sizeOf3->aaB,sizeOf4->aaE,t204->qX,t3->qF,t410->aaR,underlying0->aaJ,underlying115->aba,underlying124->aaz,underlying22->qG,underlying232->qO,underlying238->qU,underlying3->qA,underlying367->aa7,underlying4->aaC,underlying425->abb,underlying442->abg,underlying509->aa8,underlying510->aa9,underlying524->abc,underlying528->abd,underlying535->abe,underlying536->abf,zeroValue0->aaM,zeroValue22->aaQ,zeroValue3->qR,zeroValue4->aaF
open Option renaming none->N,some->S
open _root_ renaming Bool->W,DecidableEq->qP,False->qk,Int->O,List->Y,Nat->X,Option->qh,True->I,absurd->qj,beq_iff_eq->qH,congrArg->qz,decide_eq_false->qm,decide_eq_true->qu,decide_eq_true_eq->qB,if_false->qy,if_neg->F,if_pos->qd,if_true->qC,or_false->qI,rfl->U
open Go.Proofs.Tryz
open Bool renaming false_eq_true->LK
open Int renaming eq_ofNat_of_zero_le->LB,toNat_natCast->Lw
open List renaming any_eq_true->Na,append_nil->LQ,eraseIdx_of_length_le->Ot,ext_getElem?->L5,filter_append->Mi,filter_cons->Mc,filter_eq_nil_iff->NA,filter_eq_self->Mv,filter_nil->M8,filter_sublist->NS,flatMap_append->Me,getElem?_cons_succ->LG,getElem?_eq_none->L0,getElem?_map->LV,getElem?_range->ME,getElem?_set->Mb,getElem_mem->Mq,length_append->LC,length_cons->LL,length_filter_le->L6,length_map->L3,length_take->LX,map->P8,map_append->LU,map_cons->L1,map_map->Nl,mem_append->Mm,mem_cons->LD,mem_filter->LP,mem_map->L2,mem_range->Nf,mem_singleton->Mk,nodup_cons->Mj,not_mem_nil->MB,perm_middle->Ml,range->LA,range_succ->N1,replicate->Ly,set_cons_succ->LM,take_add_one->LJ,take_of_length_le->Lz,take_zero->MU
open Nat renaming add_zero->NB,ble_eq_true_of_le->OQ,le_trans->LY,lt_of_le_of_lt->NX,min_eq_left->Ms,mod_eq_of_lt->L7,two_pow_pos->MD,zero_add->LF
open Option renaming map_some->Mx,toList_some->Nj
set_option maxRecDepth 100000
set_option maxHeartbeats 4000000
set_option linter.all false
section
open Go.Shelf
namespace Go.Proofs
def Tryz.vG:Go.Shelf.Ren:=⟨λ|6=>328|15=>386|14=>385|28=>429|29=>322|20=>421|21=>422|22=>423|23=>424|24=>425|25=>426|26=>427|27=>428|46=>439|47=>440|48=>441|49=>442|50=>443|57=>454|n=>n,λ|22=>124|24=>155|25=>388|3=>3|39=>367|0=>0|53=>425|55=>39|4=>4|46=>510|45=>509|50=>115|5=>5|9=>9|66=>524|70=>528|76=>535|77=>536|n=>n,λ|n=>n⟩
theorem Tryz.wL:Go.Proofs.SlLaysF0.n6 qe Tryz.vG:={
 mixed:=qa
 f6:=⟨Tryz.f328.name,qb,func328.k⟩
 f14:=⟨Tryz.f385.name,qb,func385.k⟩
 f15:=func386.k
 f20:=⟨Tryz.f421.name,qb,func421.k⟩
 f21:=⟨Tryz.f422.name,qb,func422.k⟩
 f22:=⟨Tryz.f423.name,qb,func423.k⟩
 f23:=⟨Tryz.f424.name,qb,func424.k⟩
 f24:=⟨Tryz.f425.name,qb,func425.k⟩
 f25:=⟨Tryz.f426.name,qb,func426.k⟩
 f26:=⟨Tryz.f427.name,qb,func427.k⟩
 f27:=⟨Tryz.f428.name,qb,func428.k⟩
 f28:=func429.k
 f29:=func322.k
 f46:=⟨Tryz.f439.name,qb,func439.k⟩
 f47:=func440.k
 f48:=func441.k
 f49:=⟨Tryz.f442.name,qb,func442.k⟩
 f50:=⟨Tryz.f443.name,qb,func443.k⟩
 f57:=⟨Tryz.f454.name,qb,func454.k⟩
 t0:=aaJ
 a0:=aaK
 z0:=aaL
 v0:=aaM
 t3:=qA
 a3:=aaA
 z3:=aaB
 v3:=qR
 t4:=aaC
 a4:=aaD
 z4:=aaE
 v4:=aaF
 t5:=underlying5
 a5:=isAgg5
 z5:=sizeOf5
 v5:=zeroValue5
 t9:=underlying9
 a9:=isAgg9
 z9:=sizeOf9
 v9:=zeroValue9
 t22:=aaz
 a22:=isAgg124
 z22:=sizeOf124
 v22:=zeroValue124
 t25:=underlying388
 a25:=isAgg388
 z25:=sizeOf388
 v25:=zeroValue388
 t39:=aa7
 a39:=isAgg367
 z39:=sizeOf367
 v39:=zeroValue367
 t45:=aa8
 a45:=isAgg509
 z45:=sizeOf509
 v45:=zeroValue509
 t46:=aa9
 a46:=isAgg510
 z46:=sizeOf510
 v46:=zeroValue510
 t50:=aba
 a50:=isAgg115
 z50:=sizeOf115
 v50:=zeroValue115
 t53:=abb
 a53:=isAgg425
 z53:=sizeOf425
 v53:=zeroValue425
 t55:=underlying39
 a55:=isAgg39
 z55:=sizeOf39
 v55:=zeroValue39
 t66:=abc
 a66:=isAgg524
 z66:=sizeOf524
 v66:=zeroValue524
 t70:=abd
 a70:=isAgg528
 z70:=sizeOf528
 v70:=zeroValue528
 t76:=abe
 a76:=isAgg535
 z76:=sizeOf535
 v76:=zeroValue535
 t77:=abf
 a77:=isAgg536
 z77:=sizeOf536
 v77:=zeroValue536}
def Tryz.rD:Go.Shelf.Ren:=⟨λ|7=>333|10=>390|n=>n,λ|23=>238|26=>3|3=>70|28=>442|0=>0|27=>441|33=>47|4=>4|n=>n,λ|n=>n⟩
theorem Tryz.Cb:Go.Proofs.SlLaysZI.n7 qe Tryz.rD:={
 mixed:=qa
 f7:=⟨Tryz.f333.name,qb,func333.k⟩
 f10:=⟨Tryz.f390.name,qb,func390.k⟩
 t0:=aaJ
 a0:=aaK
 z0:=aaL
 v0:=aaM
 t4:=aaC
 a4:=aaD
 z4:=aaE
 v4:=aaF
 t23:=qU
 a23:=isAgg238
 z23:=sizeOf238
 v23:=zeroValue238
 t26:=qA
 a26:=aaA
 z26:=aaB
 v26:=qR
 t27:=underlying441
 a27:=isAgg441
 z27:=sizeOf441
 v27:=zeroValue441
 t28:=abg
 a28:=isAgg442
 z28:=sizeOf442
 v28:=zeroValue442
 t33:=underlying47
 a33:=isAgg47
 z33:=sizeOf47
 v33:=zeroValue47}
def Tryz.sS:Go.Shelf.Ren:=⟨λ|6=>332|8=>388|9=>389|11=>430|13=>386|12=>431|23=>429|24=>322|14=>444|15=>445|16=>446|17=>447|18=>448|19=>449|20=>450|21=>451|22=>452|25=>455|26=>440|27=>441|28=>456|29=>457|30=>387|31=>459|n=>n,λ|26=>3|28=>442|24=>22|0=>0|3=>3|37=>367|48=>425|50=>39|4=>4|40=>510|39=>509|45=>115|5=>5|9=>9|51=>524|55=>528|57=>535|58=>536|33=>47|n=>n,λ|n=>n⟩
theorem Tryz.Cu:Go.Proofs.SlLaysZI.n6 qe Tryz.sS:={
 mixed:=qa
 f6:=⟨Tryz.f332.name,qb,func332.k⟩
 f8:=⟨Tryz.f388.name,qb,func388.k⟩
 f11:=⟨Tryz.f430.name,qb,func430.k⟩
 t0:=aaJ
 a0:=aaK
 z0:=aaL
 v0:=aaM
 t24:=qG
 a24:=isAgg22
 z24:=aaP
 v24:=aaQ
 t26:=qA
 a26:=aaA
 z26:=aaB
 v26:=qR
 t28:=abg
 a28:=isAgg442
 z28:=sizeOf442
 v28:=zeroValue442
 i26:=by kernel_rfl}
def Tryz.DZ:Go.Shelf.Ren:=⟨λ|5=>389|8=>386|7=>431|19=>429|20=>322|10=>444|11=>445|12=>446|13=>447|14=>448|15=>449|16=>450|17=>451|18=>452|30=>455|31=>440|32=>441|33=>456|34=>457|35=>387|40=>459|n=>n,λ|23=>22|25=>3|3=>3|32=>367|22=>22|0=>0|44=>425|46=>39|4=>4|36=>510|35=>509|41=>115|5=>5|9=>9|53=>524|57=>528|63=>535|64=>536|n=>n,λ|n=>n⟩
theorem Tryz.HW:Go.Proofs.SlLaysM.n5 qe Tryz.DZ:={
 mixed:=qa
 f5:=⟨Tryz.f389.name,qb,func389.k⟩
 f7:=⟨Tryz.f431.name,qb,func431.k⟩
 f8:=func386.k
 f10:=⟨Tryz.f444.name,qb,func444.k⟩
 f11:=⟨Tryz.f445.name,qb,func445.k⟩
 f12:=⟨Tryz.f446.name,qb,func446.k⟩
 f13:=⟨Tryz.f447.name,qb,func447.k⟩
 f14:=⟨Tryz.f448.name,qb,func448.k⟩
 f15:=⟨Tryz.f449.name,qb,func449.k⟩
 f16:=⟨Tryz.f450.name,qb,func450.k⟩
 f17:=⟨Tryz.f451.name,qb,func451.k⟩
 f18:=⟨Tryz.f452.name,qb,func452.k⟩
 f19:=func429.k
 f20:=func322.k
 f30:=⟨Tryz.f455.name,qb,func455.k⟩
 f31:=func440.k
 f32:=func441.k
 f33:=⟨Tryz.f456.name,qb,func456.k⟩
 f34:=⟨Tryz.f457.name,qb,func457.k⟩
 f35:=⟨Tryz.f387.name,qb,func387.k⟩
 f40:=⟨Tryz.f459.name,qb,func459.k⟩
 t0:=aaJ
 a0:=aaK
 z0:=aaL
 v0:=aaM
 t3:=qA
 a3:=aaA
 z3:=aaB
 v3:=qR
 t4:=aaC
 a4:=aaD
 z4:=aaE
 v4:=aaF
 t5:=underlying5
 a5:=isAgg5
 z5:=sizeOf5
 v5:=zeroValue5
 t9:=underlying9
 a9:=isAgg9
 z9:=sizeOf9
 v9:=zeroValue9
 t22:=qG
 a22:=isAgg22
 z22:=aaP
 v22:=aaQ
 t23:=qG
 a23:=isAgg22
 z23:=aaP
 v23:=aaQ
 t25:=qA
 a25:=aaA
 z25:=aaB
 v25:=qR
 t32:=aa7
 a32:=isAgg367
 z32:=sizeOf367
 v32:=zeroValue367
 t35:=aa8
 a35:=isAgg509
 z35:=sizeOf509
 v35:=zeroValue509
 t36:=aa9
 a36:=isAgg510
 z36:=sizeOf510
 v36:=zeroValue510
 t41:=aba
 a41:=isAgg115
 z41:=sizeOf115
 v41:=zeroValue115
 t44:=abb
 a44:=isAgg425
 z44:=sizeOf425
 v44:=zeroValue425
 t46:=underlying39
 a46:=isAgg39
 z46:=sizeOf39
 v46:=zeroValue39
 t53:=abc
 a53:=isAgg524
 z53:=sizeOf524
 v53:=zeroValue524
 t57:=abd
 a57:=isAgg528
 z57:=sizeOf528
 v57:=zeroValue528
 t63:=abe
 a63:=isAgg535
 z63:=sizeOf535
 v63:=zeroValue535
 t64:=abf
 a64:=isAgg536
 z64:=sizeOf536
 v64:=zeroValue536}
def Tryz.AJ:Go.Shelf.Ren:=⟨λ|5=>205|7=>296|n=>n,λ|23=>238|25=>3|3=>70|4=>4|20=>20|n=>n,λ|n=>n⟩
theorem Tryz.EE:Go.Proofs.SlLaysW.n5 qe Tryz.AJ:={
 mixed:=qa
 f5:=⟨Tryz.f205.name,qb,func205.k⟩
 f7:=func296.k
 t4:=aaC
 a4:=aaD
 z4:=aaE
 v4:=aaF
 t20:=underlying20
 a20:=isAgg20
 z20:=sizeOf20
 v20:=zeroValue20
 t23:=qU
 a23:=isAgg238
 z23:=sizeOf238
 v23:=zeroValue238}
def Tryz.AK:Go.Shelf.Ren:=⟨λ|5=>199|7=>296|n=>n,λ|23=>232|25=>155|3=>157|4=>4|20=>20|n=>n,λ|n=>n⟩
theorem Tryz.H3:Go.Proofs.SlLaysW.n5 qe Tryz.AK:={
 mixed:=qa
 f5:=⟨Tryz.f199.name,qb,func199.k⟩
 f7:=func296.k
 t4:=aaC
 a4:=aaD
 z4:=aaE
 v4:=aaF
 t20:=underlying20
 a20:=isAgg20
 z20:=sizeOf20
 v20:=zeroValue20
 t23:=qO
 a23:=isAgg232
 z23:=sizeOf232
 v23:=zeroValue232}
end Go.Proofs
end
namespace Go.Vc
open Go.Proofs
open Go.WideElems (Fit rd rg pl)
namespace Tb
theorem Dp{P:qq}{k:qi}(hk:P.underlying k=S (.int .i64)){abv:Type}{encV:abv->Q}{w:J}{m:X}{M:Y (O × abv)}(h:jI (Value.int .i64) encV w m M)(hwf:∀x∈M,(Lit.int .i64 x.1).wf=Z)(hsz:M.length<=maxLen):
  ∃D0:DataW Unit,w.ownsMap P k (λ_=>S (.nil,[])) m M.length D0/\(intKeys D0).Perm (M.map (·.1))/\Maps.size D0=M.length:=by
 obtain⟨es,c,hb,hmap,hborn,hlt⟩:=h.ex;have hlen:es.toList.length=M.length:=by have:=qz List.length hmap;simpa using this
 have hkeys:es.toList.map (·.key)=M.map (λp=>Value.int .i64 p.1):=by have:=qz (P8 (·.1)) hmap;rw[Nl,Nl]at this;exact this
 have hread:∀x∈es.toList,∃a:O,x.key= .int .i64 a/\(Lit.int .i64 a).wf=true:=λx hx=>by have:x.key∈es.toList.map (·.key):=L2.2 ⟨x,hx,U⟩;rw[hkeys]at this;obtain⟨p,hp,e⟩:=L2.1 this;exact⟨p.1,e.symm,hwf p hp⟩
 have hrd:∀x∈es.toList,∀a:O,x.key= .int .i64 a->(Lit.int .i64 a).wf=Z->rd (H:=Unit) P k (λ_=>S (.nil,[])) x=S (.int .i64 a,.nil):=λx hx a e hw=>by
  have hko:keyOf P k x.key=S (.int .i64 a):=by unfold keyOf mapKey;rw[hk,e];simp[hw]
  unfold rd;rw[hko];rfl
 refine⟨.map ((es.toList.map (rg P k λ_=>S (.nil,[]))).foldr DataW.insert []),⟨es,c,hb,⟨?_,⟨hlt,hborn,?_⟩,λx hx=>?_⟩,?_,U⟩,?_,?_⟩
 .have:es.size=M.length:=by simpa using hlen
  rw[this];exact hsz
 .rw[hkeys]
  have:M.map (λp=>Value.int .i64 p.1)=(M.map (·.1)).map (Value.int .i64):=by rw[Nl];rfl
  rw[this];exact List.Pairwise.map _ (λa b hab e=>hab (by cases e;rfl)) h.nodup
 .obtain ⟨a,e,hw⟩:=hread x hx
  exact⟨_,hrd x hx a e hw⟩
 .have:es.size=M.length:=by simpa using hlen
  omega
 .show (((es.toList.map (rg P k λ_=>S (.nil,[]))).foldr DataW.insert []).map λp=>_root_.Go.intOf p.1).Perm _
  refine((Go.WideShapes.sorted_perm _).map _).trans ?_;rw[Nl];have:es.toList.map ((λp:Lit × DataW Unit=>_root_.Go.intOf p.1)∘rg P k λ_=>S (.nil,[]))=M.map (·.1):=by
   have e1:es.toList.map ((λp:Lit × DataW Unit=>_root_.Go.intOf p.1)∘rg P k λ_=>S (.nil,[]))=es.toList.map (λx=>match x.key with| .int _ a=>a|_=>0):=by
    refine List.map_congr_left λx hx=>?_;obtain⟨a,e,hw⟩:=hread x hx;show _root_.Go.intOf (rg P k _ x).1=_;unfold rg;rw[hrd x hx a e hw,e];rfl
   rw[e1];have e2:=qz (P8 λv:Q=>match v with| .int _ a=>a|_=>(0:O)) hkeys;rw[Nl,Nl]at e2;exact e2
  rw[this]
 .show ((es.toList.map (rg P k λ_=>S (.nil,[]))).foldr DataW.insert []).length=_
  rw[(Go.WideShapes.sorted_perm _).length_eq,L3];exact hlen
theorem sM{B:X}{w0 w w':J}{R:Y aH}{t:qi}{v:Q}{xs:Y O}(h:Ow B w0 w R)(hb:RowKit.Below w.heap.size w w')(hr:w'.ownsRow w.heap.size t 1 v xs.length (xs.map (Value.int .i64))):
  ∃s:Sl,v= s.v/\Ow B w0 w' (af aq s xs::R):=by
 have hu:gg No w w':=⟨hb.os,hb.tape,hb.output,hb.size,λk hk _=>hb.block k hk⟩
 have hfl:xs.flatMap aq.enc=xs.map (Value.int .i64):=by
  clear hr;induction xs with
  |nil=>rfl
  |cons x xs ih=>rw[List.flatMap_cons,ih];rfl
 rcases hr.2 with⟨rfl,hz⟩|⟨g,cap,cur,rfl,hbase,hgb,r1,r2,r3,r4⟩
 .have:xs= []:=List.eq_nil_of_length_eq_zero hz
  subst this;exact⟨z0,U,(h.same hu).cZ⟩
 .refine ⟨⟨S g.p,xs.length,cap⟩,U,h.new (A':=af aq ⟨S g.p,xs.length,cap⟩ xs) (G':=λk=>k=g) hu ⟨λa ha=>?_,U,?_⟩ λk e=>?_⟩
  .cases ha;rfl
  .refine .mk g 0 cur.toList U ⟨t,hgb⟩ r1 ?_ ?_
   .show 0+cap*1<=cur.toList.length
    rw[Array.length_toList];omega
   .rw[hfl,List.drop_zero];exact r4.symm
  .subst e
   exact⟨hbase,(Array.getElem?_eq_some_iff.1 hgb).1⟩
end Tb
end Go.Vc
namespace Go.Vc
open Go.Proofs
namespace Tb
section
variable{B:X}{w0 w:J}{R L:Y aH}{b:X}{m:dV}
def Is(p:Pg):Q:= .agg #[.z p.1,.z p.2]
def ig:dT (qh (O × X)):=⟨2,λo=>[.z ((o.map (·.1)).getD 0),.map (o.map (·.2))],λ_=>rfl,λx v h=>by simp only[LD,MB,qI]at h;rcases h with rfl|rfl<;>rfl,qb⟩
def aK:dT (O × Pg):=⟨3,λo=>[.z o.1,.z o.2.1,.z o.2.2],λ_=>rfl,λx v h=>by simp only[LD,MB,qI]at h;rcases h with rfl|rfl|rfl<;>rfl,qb⟩
abbrev DA(m:X)(M:fA):aH:=kl (Value.int .i64) Is m M
def gi(tb:X->qh O)(mb:X->X):Y (qh (O × X)):=(LA 64).map λi=>(tb i).map λn=>(n,mb i)
def cM(tb:X->qh O)(mb:X->X)(M:X->fA)(i:X):aH:=if(tb i).isSome=Z then DA (mb i) (M i)else dh I
def bC(b:X)(m:dV):aH:=sB λx:(X->X)×(X->fA)=>cj (dh (eZ m/\∀i,(x.2 i).Perm (cE m.pg i))::aa b ((gi m.tb x.1).flatMap ig.enc)::(LA 64).map (cM m.tb x.1 x.2))
theorem _root_.Go.Vc.Ow.Hl(h:Ow B w0 w (bC b m::R)):∃(mb:X->X)(M:X->fA),eZ m/\(∀i,(M i).Perm (cE m.pg i))/\Ow B w0 w (aa b ((gi m.tb mb).flatMap ig.enc)::((LA 64).map (cM m.tb mb M)++R)):=by obtain⟨⟨mb,M⟩,h⟩:=h.ex;obtain⟨⟨h1,h2⟩,h⟩:=Ow.pure h.star;exact⟨mb,M,h1,h2,h⟩
theorem _root_.Go.Vc.Ow.fo{mb:X->X}{M:X->fA}(h1:eZ m)(h2:∀i,(M i).Perm (cE m.pg i))(h:Ow B w0 w (aa b ((gi m.tb mb).flatMap ig.enc)::((LA 64).map (cM m.tb mb M)++R))):Ow B w0 w (bC b m::R):=
 Ow.fk (mb,M) (Ow.bW (Ow.cT ⟨h1,h2⟩ h))
theorem fw{f:X->aH}{i:X}(hi:i<64)(A:aH):(A::((LA 64).map f++R))[i+1]?=S (f i):=by rw[LG,List.getElem?_append_left (by simp;exact hi),LV,ME hi];rfl
theorem mX{f g:X->aH}{A:aH}{i:X}(hi:i<64)(h:∀j,j<64->g j=if j=i then A else f j)(A0:aH):(A0::((LA 64).map f++R)).set (i+1) A=A0::((LA 64).map g++R):=by
 rw[LM,List.set_append_left _ _ (by simp;exact hi)];congr 2;apply L5;intro j;rw[Mb,LV,LV];by_cases hj:j<64
 .rw[ME hj]
  by_cases e:i=j
  .subst e;rw[qd U,qd (by simp;exact hi)];simp only[Mx];rw[h i hi,qd U]
  .rw[F e];simp only[Mx];rw[h j hj,F λe2=>e e2.symm]
 .rw[L0 (show(LA 64).length<=j by simp;omega),F om];rfl
theorem tJ{tb:X->qh O}{mb:X->X}{i:X}(hi:i<64):(gi tb mb)[i]?=S ((tb i).map λn=>(n,mb i)):=by unfold gi;rw[LV,ME hi];rfl
theorem p9{tb:X->qh O}{mb:X->X}:(gi tb mb).length=64:=by unfold gi;simp
theorem Hr{tb:X->qh O}{mb:X->X}{i:X}(hi:i<64)(v:qh O)(r:X):(gi tb mb).set i (v.map λn=>(n,r))=gi (nM tb i v) (λj=>if j=i then r else mb j):=by
 apply L5;intro j;rw[Mb];by_cases hj:j<64
 .rw[tJ hj,tJ hj]
  unfold nM;by_cases e:i=j
  .subst e;rw[qd U,qd (by rw[p9];exact hi),qd U,qd U]
  .rw[F e,F λe2=>e e2.symm,F λe2=>e e2.symm]
 .rw[L0 (show(gi _ _).length<=j by rw[p9];omega),L0 (show(gi _ _).length<=j by rw[p9];omega),F om]
theorem yd{tb:X->qh O}{mb:X->X}{i:X}(hi:i<64):((gi tb mb).flatMap ig.enc)[i*2]?=S (.z ((tb i).getD 0)):=by have:=mA ig (gi tb mb) i 0 _ (tJ hi) qb;rw[show i*ig.z+0=i*2 from U]at this;rw[this];cases tb i<;>rfl
theorem ye{tb:X->qh O}{mb:X->X}{i:X}(hi:i<64):((gi tb mb).flatMap ig.enc)[i*2+1]?=S (.map ((tb i).map λ_=>mb i)):=by have:=mA ig (gi tb mb) i 1 _ (tJ hi) qb;rw[show i*ig.z+1=i*2+1 from U]at this;rw[this];cases tb i<;>rfl
theorem eZ.zm{m:dV}(h:eZ m){i:X}(hi:m.tb i=N):cE m.pg i= []:=by unfold cE;rw[NA];intro x hx e;have:=(h.sD x hx).2.2;simp only[qH]at e;rw[e,hi]at this;cases this
end
end Tb
end Go.Vc
namespace Go.Vc
open Go.Proofs Go.Shelf
namespace Tb
section
variable{B:X}{w0 w:J}{R L:Y aH}{b:X}{m:dV}
theorem zN(n:X):AnyZI.SortsIn qe Tryz.sS Fence.wide n:=
 ⟨λvn off cap ss abt hH hblk hsz=>callsIn_wide.2 (AnyM.slices_Sort_int Tryz.HW vn off cap ss abt hH hblk hsz),
  λp cap abt=>callsIn_wide.2 (AnyM.slices_Sort_int_none Tryz.HW p cap abt)⟩
theorem mD{abv:Type}{encV:abv->Q}{mb:X}{M:Y (O × abv)}{K:Sl->Pw}(h:Ow B w0 w L)(i:X)(hi:L[i]?=S (kl (Value.int .i64) encV mb M))(hwf:∀x∈M,(Lit.int .i64 x.1).wf=Z)(hsz:M.length<=1000000)
  (hK:∀(s:Sl)(ks:Y O)(w':J),ks.Perm (M.map (·.1))->ks.Pairwise (λx y=>V (x<=y)=Z)->Ow B w0 w' (af aq s ks::L)->K s w'):
  Q0 (S mb) (λr5 w6=>QZ r5 K w6) w:=by
 have hM:jI (Value.int .i64) encV w mb M:=(h.take i hi).head λ_ h=>h.2;have hmax:(1000000:X)<=maxLen:=qb
 obtain⟨D0,hown,hperm,hsize⟩:=Dp (P:=qe) (k:=3) qA hM hwf (LY hsz hmax);have hbl:=hown.lt;unfold Q0;refine jx func333 U ?_;have cK:∀mb abt,CallsIn Fence.wide 5 qe 333 #[.map mb] abt λe w'=>e= .returned (.func (.func 390) #[] #[.q abt.heap.size])/\w'=abt.alloc (.cells #[.map mb] 238):=λmb abt=>AnyZI.keys_in Tryz.Cb Fence.wide 5 trivial U mb abt;refine(callsIn_wide (n:=5)).1 ((cK _ _).mono ?_);rintro e w' ⟨rfl,rfl⟩;refine⟨_,U,?_⟩;unfold QZ;refine jx func332 U ?_;have hseq:SeqGives Fence.wide 2 qe 390 #[.q w.heap.size] encZ (λss=>ss.Perm (intKeys D0)) (Maps.size D0) (w.alloc (.cells #[.map (S mb)] 238)):=
  AnyZI.keys_gives (ρ:=Tryz.rD) { Tryz.Cb with} Fence.wide _ trivial U om w.heap.size mb M.length D0 _ qc qc (by obtain⟨es,clock,hb,Ft,hs,hD⟩:=hown;exact⟨es,clock,(RowKit.Below.heap_alloc _ _ mb hbl).trans hb,Ft,hs,hD⟩)
 have cS:=AnyZI.sorted_in Tryz.Cu Fence.wide 5 trivial trivial trivial trivial U om (zN _) (enters_of func389 qa U) 390 #[.q w.heap.size] trivial (enters_of func390 qa U) _ _ (by rw[hsize];exact LY hsz hmax) (by rw[hsize];omega) _ hseq;change CallsIn _ _ qe 332 _ _ _ at cS;refine(callsIn_wide (n:=5)).1 (cS.mono ?_);rintro e w' ⟨v,ss,rfl,hS,hrow,hnil,hb⟩;have h1:Ow B w0 (w.alloc (.cells #[.map (S mb)] 238)) L:=h.same (ej _ _);have hlen:(ss.mergeSort λx y=>V (x<=y)).length=ss.length:=List.length_mergeSort _;rw[<-hlen]at hrow;obtain⟨s,rfl,h2⟩:=sM h1 hb hrow;exact⟨s,U,hK s _ w' (((List.mergeSort_perm _ _).trans hS).trans hperm) (List.pairwise_mergeSort (λa b c h1 h2=>by simp at *;omega) (λa b=>by simp;omega) _) h2⟩
theorem Gh{P:fA}(h:kn P){ks:Y O}(hp:ks.Perm (P.map (·.1)))(hs:ks.Pairwise (λx y=>V (x<=y)=Z)):ks=P.map (·.1):=by refine List.Perm.eq_of_pairwise (le:=λx y=>x<=y) (λa b _ _ h1 h2=>by omega) (hs.imp λh=>by simpa using h) ?_ hp;rw[List.pairwise_map];exact h.imp λh=>by omega
theorem nJ:∀(P:fA)(a c:O),kn P->(∀x∈P,a<=x.1/\x.1<c)->(P.length:O)<=max 0 (c-a)
 | [],a,c,_,_=>Int.le_max_left _ _
 |x::P,a,c,h,hb=>by
  have h':=List.pairwise_cons.1 h;have h1:=hb x List.mem_cons_self;have:=nJ P (x.1+1) c h'.2 λy hy=>⟨by have:=h'.1 y hy;omega,(hb y (List.mem_cons_of_mem _ hy)).2⟩
  simp only[LL];omega
theorem jb{s:Sl}{ys:fA}{y:O × Pg}{c:X}{L:Y aH}{k:Sl->Pw}[abw:cu s L (O × Pg) aK ys][abq:fh (af aK s ys) L R](h:Ow B w0 w (aa c [.z y.1,.z y.2.1,.z y.2.2]::L))(hbig:ys.length<=1000000000)
  (hk:∀s' w',s'.len=ys.length+1->Ow B w0 w' (af aK s' (ys++ [y])::R)->k s' w'):
  ∃s' w',aM qe [81,81] 81 s.v (.slice (S c.p) 1 1) w s' w'/\k s' w':=
 Ow.eL (E:=aK) (y:=y) underlying81 (show qe.info? 204=S qX from by kernel_rfl) (zv:=(qX.zero).get qa) qa qa qa qb h (by
  have e:qX.bytes=24:=qa
  rw[e];omega) hk
theorem nz{n:O}{mb:X}{M aby:fA}{K:Sl->Pw}(h:Ow B w0 w L)(i:X)(hi:L[i]?=S (DA mb M))(hp:M.Perm aby)(hS:kn aby)(hb:∀x∈aby,0<=x.1/\x.1<4096)(hK:∀s w',Ow B w0 w' (af aK s aby::L)->K s w'):Qn n (S mb) K w:=by
 apply Vq;have hl:=nJ aby 0 4096 hS hb;refine h.a λd w1 h=>?_;refine h.l2 U ?_;refine mD h (i+1) (by simpa using hi) (λx hx=>?_) (by rw[hp.length_eq];omega) λs ks w hks hso h=>?_
 .have:=hb x (hp.mem_iff.1 hx)
  have e1:qf.min= -9223372036854775808:=qb
  have e2:qf.max=9223372036854775807:=qb
  simp only[Lit.wf,e1,e2,Bool.and_eq_true,qB];omega
 have hkeys:=Gh hS (hks.trans (hp.map _)) hso;subst hkeys;have hlen:=h.aL s;rw[L3]at hlen;intro l9 hl9;have loop:∀(j k:X)(out:Sl)(w:J),k+j=aby.length->Ow B w0 w (af aK out (aby.take k)::af aq s (aby.map (·.1))::aa d [.z n,.map (S mb)]::L)->l9 out (k:O) w:=by
  intro j;induction j with
  |zero=>
   intro k out w hk h;apply hl9;refine aw om ?_;rw[Lz om]at h;exact hK out w h.uN.uN
  |succ j ih=>
   intro k out w hk h;apply hl9;refine az om ?_;have hx:aby[k]?=S aby[k]:=gE om;have hkx:(aby.map (·.1))[k]?=S aby[k].1:=by rw[LV,hx];rfl
   refine h.cz (s:=s) (i:=(k:O)) (j:=k) U hkx λa ha h0 hc=>⟨_,h0 _ U,_,h.aE U,aby[k].2.1,aby[k].2.2,?_⟩
   have hl2:de M aby[k].1=S aby[k].2:=by rw[nB hp hS];exact hS.look (Mq _)
   refine⟨(h.sL qU (aX .i64 qA) (i+3) (by simpa using hi) hl2).2,?_⟩;refine h.a λd3 w3 h=>?_;refine jb (s:=out) (ys:=aby.take k) (y:=aby[k]) h (by rw[LX];omega) λs' w hs' h=>?_;rw[wI k om];refine ih (k+1) s' w om ?_;rw[LJ,hx];exact h
 exact loop aby.length 0 z0 w om (Ow.cZ h)
theorem Ej{mb:X}{M:fA}{K:qh X->Pw}(h:Ow B w0 w L)(i:X)(hi:L[i]?=S (DA mb M))(hK:∀m' w',Ow B w0 w' (DA m' M::L)->K (S m') w'):QI (S mb) K w:=by
 have hM:jI (Value.int .i64) Is w mb M:=(h.take i hi).head λ_ h=>h.2;obtain⟨es,c,hb,h2⟩:=hM.ex;unfold QI;refine jx func205 U ?_;refine(AnyW.maps_Clone Tryz.EE mb es c w hb).mono ?_;rintro e w' ⟨rfl,rfl⟩;refine⟨_,U,hK _ _ (h.new (A':=DA w.heap.size M) (G':=λk=>k=w.heap.size) (ej _ _) ⟨U,⟨⟨es,c,heap_alloc_new _ _,h2⟩,hM.nodup⟩⟩ λk e=>⟨om,by rw[e];simp⟩)⟩
theorem CD{K:qh X->Pw}(hK:K N w):QI N K w:=by unfold QI;refine jx func205 U ?_;refine(AnyW.maps_Clone_nil Tryz.EE w).mono ?_;rintro e w' ⟨rfl,rfl⟩;exact⟨_,U,hK⟩
end
end Tb
end Go.Vc
namespace Go.Vc
open Go.Proofs
namespace Tb
section
variable{B:X}{w0 w:J}{R L:Y aH}{b:X}{m:dV}
theorem wrap_u64(z:X):qv.wrap (z:O)=((z%2^64:X):O):=by
 have e1:(2:O)^64=18446744073709551616:=qb
 have e2:(2:X)^64=18446744073709551616:=qb
 simp only[IntKind.wrap,IntKind.bits,IntKind.signed,e1,e2,Bool.false_and,LK,qy];omega
theorem xA(n:X)(hn:n<=64):qv.wrap (ic .u64 1 (n:O)-1)=((2^n-1:X):O):=by
 have e2:(2:X)^64=18446744073709551616:=qb
 have hp:0<2^n:=MD n;unfold ic;rw[Lw,show qv.bits=64 from U,Ms hn,Int.one_mul,show((2:O)^n)=((2^n:X):O)from by simp,wrap_u64];by_cases e:n=64
 .subst e
  rw[e2];rfl
 .have hlt:2^n<2^64:=Nat.pow_lt_pow_right om om
  rw[L7 hlt,show(((2^n:X):O)-1)=((2^n-1:X):O)from by omega,wrap_u64,L7 om]
theorem pk(z:X):BitVec.ofInt qv.bits (z:O)=BitVec.ofNat 64 z:=by apply BitVec.eq_of_toNat_eq;simp[IntKind.bits,BitVec.toNat_ofInt]
theorem xf(v n:X)(hv:v<2^64)(hn:n<=64):di .u64 (v:O) ((2^n-1:X):O)=((v%2^n:X):O):=by
 have hp:0<2^n:=MD n;have hle:2^n<=2^64:=Nat.pow_le_pow_right om hn;unfold di;rw[pk,pk];have h1:(BitVec.ofNat 64 v &&& BitVec.ofNat 64 (2^n-1)).toNat=v%2^n:=by rw[BitVec.toNat_and,BitVec.toNat_ofNat,BitVec.toNat_ofNat,L7 hv,L7 om,Nat.and_two_pow_sub_one_eq_mod]
 show qv.wrap (((BitVec.ofNat 64 v &&& BitVec.ofNat 64 (2^n-1)).toNat:X):O)=_;rw[h1,wrap_u64,L7 (NX (Nat.mod_le _ _) hv)]
theorem lh(x k:X)(hk:k<=64):kd .u64 (x:O) (k:O)=((x / 2^k:X):O):=by unfold kd;rw[Lw,show qv.bits=64 from U,Ms hk];rw[show((2:O)^k)=((2^k:X):O)from by simp];rw[Int.fdiv_eq_ediv_of_nonneg _ (Int.natCast_nonneg _)];simp
theorem Ij{P:qq}{T kt el:qi}{K:Type}[qP K]{enc:K->Q}(hu:P.underlying T=S (.map kt el))(hk:jM P kt enc){z:Q}(hz:∀w,(qK el).run P w= .ok z w){w:J}{k:K}:
  sC P T (.map N) (enc k) z G w/\yv P T (.map N) (enc k) z w:=by
 have h3:=np (abv:=Unit) (encV:=λ_=> .nilIface) (L:=[]) hk (es:= #[]) U (k:=k) U w;constructor
 .unfold sC Instr.lookup
  simp only[Sem.run_bind,aU hu,Result.andThen_ok,Sem.run_pure,hk.check,h3,hz,qC]
 .unfold yv Instr.lookup
  simp only[Sem.run_bind,aU hu,Result.andThen_ok,Sem.run_pure,hk.check,h3,hz,LK,qy]
theorem fz{n:X}{K:O->Pw}(hn:n<=64)(h:K ((2^n-1:X):O) w):Qp (n:O) K w:=by apply Vm;rw[xA n hn];exact⟨om,h⟩
theorem il{a n:X}{K:W->Pw}(ha:a+n<=64)(h:K Z w):R5 (a:O) (n:O) K w:=by apply Vo;refine az om (az om (az om ?_));rw[wr om om,qu om];exact h
theorem ik{v a n:X}{K:O->O->Pw}(hv:v<2^64)(hn:a+n<=64)(h:Ow B w0 w L)(hK:∀w',Ow B w0 w' L->K ((v / 2^a%2^n:X):O) 0 w'):Q4 (v:O) (a:O) (n:O) K w:=by
 apply Vn;refine il hn ?_;refine bc U ?_;repeat refine h.dr λw h=>?_
 refine⟨om,a2 (fz om ?_)⟩;rw[lh v a om,xf _ n (NX (Nat.div_le_self _ _) hv) om];exact hK _ h
theorem rP{n:O}{K:W->Pw}(hK:K (V (0<=n/\n<4096)) w):Q2 n K w:=by
 apply XS;refine bo (λe=>?_) (λe=>?_)
 .rw[show V (0<=n/\n<4096)=V (n<4096)from decide_eq_decide.2 om]at hK;exact hK
 .rw[qm om]at hK;exact hK
theorem oH{n:O}{K:W->Pw}(hK:K (V (0<=n/\n<64)) w):Q1 n K w:=by
 apply XQ;refine bo (λe=>?_) (λe=>?_)
 .rw[show V (0<=n/\n<64)=V (n<64)from decide_eq_decide.2 om]at hK;exact hK
 .rw[qm om]at hK;exact hK
theorem zG{n:O}{K:W->Pw}(hK:K (V (0<=n/\n<=7)) w):Ux n K w:=by
 apply XT;refine bo (λe=>?_) (λe=>?_)
 .rw[show V (0<=n/\n<=7)=V (n<=7)from decide_eq_decide.2 om]at hK;exact hK
 .rw[qm om]at hK;exact hK
theorem iJ{tb:X->qh O}{mb:X->X}{i:X}(hi:i<64)(j:X)(h:Ow B w0 w L)(hL:L[j]?=S (aa b ((gi tb mb).flatMap ig.enc))):w.cell? (⟨b,i*2,N⟩:qg)=S (.z ((tb i).getD 0))/\w.cell? ((⟨b,i*2,N⟩:qg).add 1)=S (.map ((tb i).map λ_=>mb i)):=
 ⟨h.gr j hL (yd hi),h.ld j hL (ye hi)⟩
theorem Ev(b i:X):(b.p:qg).add (i*2)=⟨b,i*2,N⟩:=by rw[aI,LF]
theorem xG{n:O}{mb:X->X}{K:qh qg->W->Pw}(hn:0<=n/\n<4096)(j:X)(h:Ow B w0 w L)(hL:L[j]?=S (aa b ((gi m.tb mb).flatMap ig.enc)))(hK:∀w',Ow B w0 w' L->K (S ⟨b,n.toNat / 64*2,N⟩) (m.tb (n.toNat / 64)).isSome w'):Q3 b.o n K w:=by
 apply XU;obtain⟨k,rfl⟩:=LB hn.1;rw[wrap_u64,L7 om];refine ik (a:=6) (n:=6) om om h λw h=>?_;rw[Lw]at hK;have e:k / 2^6%2^6=k / 64:=by
  have:(2:X)^6=64:=qb
  rw[this];omega
 rw[e];refine h.dr λw h=>?_;refine⟨_,U,om,om,_,U,om,om,?_⟩;rw[Lw,Ev];refine⟨_,(iJ om j h hL).2,?_⟩;have:=hK w h;cases ht:m.tb (k / 64)with
 |none=>rw[ht]at this;exact this
 |some v=>rw[ht]at this;exact this
theorem Gu:∀w,(qK 70).run qe w= .ok (Is (0,0)) w:=λw=>zeroValue70 w
theorem Cd{k:O}{mb:X->X}{M:X->fA}(ho:eZ m)(hM:∀i,(M i).Perm (cE m.pg i))(hk:0<=k/\k<4096)(j:X)(h:Ow B w0 w L)(hL:L[j]?=S (cM m.tb mb M (k.toNat / 64))):
  sC qe 238 (.map ((m.tb (k.toNat / 64)).map λ_=>mb (k.toNat / 64))) (.z k) (.agg #[.z ((look m.pg k).getD (0,0)).1,.z ((look m.pg k).getD (0,0)).2]) (look m.pg k).isSome w:=by
 have hlook:look (cE m.pg (k.toNat / 64)) k=look m.pg k:=by
  unfold cE;rw[zg ho.kg];cases e:look m.pg k with
  |none=>rfl
  |some v=>rw[Option.filter_some,qd qc]
 have hget:de (M (k.toNat / 64)) k=look m.pg k:=by rw[nB (hM _) (ho.kg.filter _)];exact hlook
 cases ht:m.tb (k.toNat / 64)with
 |none=>
  have hno:look m.pg k=none:=by
   cases e:look m.pg k with
   |none=>rfl
   |some v=>have:=(ho.Lg e).2.2;rw[ht]at this;cases this
  rw[hno];exact(Ij qU (aX .i64 qA) Gu).1
 |some v=>
  unfold cM at hL;rw[qd (by rw[ht];rfl)]at hL;cases e:look m.pg k with
  |none=>exact(h.uv qU (aX .i64 qA) Gu j hL (by rw[hget,e])).1
  |some p=>exact(h.sL qU (aX .i64 qA) j hL (by rw[hget,e];rfl)).1
theorem CO{k:O}{K:O->O->W->Pw}(h:Ow B w0 w (bC b m::R))(hK:∀w',Ow B w0 w' (bC b m::R)->K ((look m.pg k).getD (0,0)).1 ((look m.pg k).getD (0,0)).2 (look m.pg k).isSome w'):Uy b.o k K w:=by
 apply XV;obtain⟨mb,M,ho,hM,h⟩:=h.Hl;refine h.a λd w1 h=>?_;refine rP ?_;by_cases hk:0<=k/\k<4096
 .rw[qu hk]
  refine bc U ?_;have hq:k.toNat / 64<64:=om
  refine xG (mb:=mb) (m:=m) hk 1 h U λw h=>?_;refine⟨_,U,_,(iJ hq 1 h U).2,⟨_,_,_,Cd ho hM hk (k.toNat / 64+2) h (by rw[LG];exact fw hq _),?_⟩⟩;refine h.a λd2 w2 h=>?_;refine h.aA U U λw h=>?_;refine h.aR U ?_;have h:=h.cq;refine h.aA U U λw h=>?_;refine h.aR U ?_;exact hK w (Ow.fo ho hM h.drop.drop)
 .rw[qm hk]
  refine bh U ?_;refine h.aA U U λw h=>?_;refine h.aR U ?_;rw[ho.out hk]at hK;exact hK w (Ow.fo ho hM h.drop)
end
end Tb
end Go.Vc
namespace Go.Vc
open Go.Proofs Go.Shelf
namespace Tb
section
variable{B:X}{w0 w:J}{R L:Y aH}{b:X}{m:dV}
theorem xL{tb:X->qh O}{mb:X->X}{i:X}(hi:i<64)(v:qh O)(r:X):putAt ((gi tb mb).flatMap ig.enc) (i*2) [.z (v.getD 0),.map (v.map λ_=>r)]=(gi (nM tb i v) (λj=>if j=i then r else mb j)).flatMap ig.enc:=by have e:=mB ig (gi tb mb) i (v.map λn=>(n,r)) (by rw[p9];exact hi);rw[Hr hi]at e;rw[e];cases v<;>rfl
theorem pz{tb:X->qh O}{mb:X->X}:((gi tb mb).flatMap ig.enc).length=128:=by rw[aN,p9];rfl
theorem Cp{tb:X->qh O}{mb:X->X}{M:X->fA}{i:X}(hi:i<64)(hs:(tb i).isSome=Z)(M1:fA)(A0:aH):(A0::((LA 64).map (cM tb mb M)++R)).set (i+1) (DA (mb i) M1)=A0::((LA 64).map (cM tb mb (λj=>if j=i then M1 else M j))++R):=
 mX hi (λj hj=>by
  unfold cM;by_cases e:j=i
  .subst e;rw[qd hs,qd U];show DA (mb j) (if j=j then M1 else M j)=_;rw[qd U]
  .simp only[F e]) A0
theorem FI{M:X->fA}(ho:eZ m)(hM:∀i,(M i).Perm (cE m.pg i))(k:O)(p:Pg):∀j,(if j=k.toNat / 64 then iW (M (k.toNat / 64)) k p else M j).Perm (cE (lP m.pg k p) j):=λj=>by
 rw[Hp ho.kg];by_cases e:j=k.toNat / 64
 .rw[qd e,qd e.symm,e];exact CW (hM _) (ho.kg.filter _) k p
 .rw[F e,F λh=>e h.symm];exact hM j
theorem FH{M:X->fA}(ho:eZ m)(hM:∀i,(M i).Perm (cE m.pg i))(k:O):∀j,(if j=k.toNat / 64 then ko (M (k.toNat / 64)) k else M j).Perm (cE (mr m.pg k) j):=λj=>by
 by_cases e:j=k.toNat / 64
 .rw[qd e,e,Cw];exact vP (hM _) (ho.kg.filter _) k
 .rw[F e,BO λh=>e h.symm];exact hM j
theorem l0{K:qh qg->Pw}(h:Ow B w0 w R)(hK:∀b w',Ow B w0 w' (bC b iM::R)->K b.o w'):Px K w:=by
 apply XK;refine h.al λw1 h=>hK _ w1 ?_;generalize w.heap.size=d at h|-;refine Ow.fo (mb:=λ_=>0) (M:=λ_=>[]) eZ.new (λi=>List.Perm.refl _) ?_;have e:(LA 64).map (cM iM.tb (λ_=>0) λ_=>[])=Ly 64 (dh I):=rfl;rw[e];have pures:∀(n:X)(A:aH)(R:Y aH),Ow B w0 w1 (A::R)->Ow B w0 w1 (A::(Ly n (dh I)++R)):=λn=>by
  induction n with
  |zero=>intro A R h;exact h
  |succ n ih=>
   intro A R h;have h2:Ow B w0 w1 (dh I::A::(Ly n (dh I)++R)):=Ow.cT trivial (ih A R h);exact h2.perm (List.Perm.swap _ _ _)
 exact pures 64 _ R h
theorem El{i:O}{K:O->W->Pw}(h:Ow B w0 w (bC b m::R))(hK:K ((m.at i).getD 0) (m.at i).isSome w):UH b.o i K w:=by
 apply XX;obtain⟨mb,M,ho,hM,h⟩:=h.Hl;unfold dV.at at hK;intro k3 hk3;refine oH ?_;by_cases hi:0<=i/\i<64
 .rw[qu hi]
  rw[F om]at hK;have hq:i.toNat<64:=om
  refine bc U ⟨_,U,hi.1,hi.2,?_⟩;rw[Ev];refine⟨_,(iJ hq 0 h U).2,?_⟩;cases e:m.tb i.toNat with
  |none=>rw[e]at hK;exact hk3 _ _ (bh U hK)
  |some n=>
   rw[e]at hK;refine hk3 _ _ (bc U ⟨_,U,hi.1,hi.2,?_⟩);rw[Ev];refine⟨_,(iJ hq 0 h U).1,?_⟩;rw[e];exact hK
 .rw[qm hi]
  refine bh U (hk3 _ _ (bh U ?_));by_cases h0:i<0
  .rw[qd h0]at hK;exact hK
  .rw[F h0]at hK
   cases e:m.tb i.toNat with
   |none=>rw[e]at hK;exact hK
   |some n=>have:=ho.eC i.toNat (by rw[e];rfl);omega
theorem En{k:O}{p:Pg}{K:O->Pw}(h:Ow B w0 w (bC b m::R))(hK:∀w',Ow B w0 w' (bC b (m.pJ k p).2::R)->K (m.pJ k p).1 w'):RE b.o k p.1 p.2 K w:=by
 apply XO;obtain⟨mb,M,ho,hM,h⟩:=h.Hl;unfold dV.pJ at hK;refine h.a λd w1 h=>?_;intro k6 hk6;have bad:¬(0<=k/\k<4096/\0<=p.1/\0<=p.2/\p.2<=7)->k6 Z w1:=λe=>by rw[qd e]at hK;exact hk6 _ _ (bh U (hK w1 (Ow.fo ho hM h.drop)))
 refine rP ?_;by_cases hk:0<=k/\k<4096
 case neg=>rw[qm hk];exact bh U (bad λhh=>hk ⟨hh.1,hh.2.1⟩)
 rw[qu hk];refine bc U (h.l1 U ?_);refine bo (λe=>bad λhh=>by omega) (λe1=>?_);refine⟨_,h.aE U,zG ?_⟩;by_cases hr:0<=p.2/\p.2<=7
 case neg=>rw[qm hr];exact bad λhh=>hr hh.2.2.2
 rw[qu hr];rw[F (λhh=>hh ⟨hk.1,hk.2,om,hr.1,hr.2⟩)]at hK;have hq:k.toNat / 64<64:=om
 refine hk6 _ _ (bc U ?_);refine xG (mb:=mb) (m:=m) hk 1 h U λw h=>?_;cases ht:m.tb (k.toNat / 64)with
 |none=>
  rw[qd ht]at hK;exact bh U (hK w (Ow.fo ho hM h.drop))
 |some v=>
  have hs:(m.tb (k.toNat / 64)).isSome=true:=by rw[ht];rfl
  rw[F (by rw[ht];simp)]at hK;refine bc U ⟨_,U,_,(iJ hq 1 h U).2,?_⟩;refine⟨_,_,_,Cd ho hM hk (k.toNat / 64+2) h (by rw[LG];exact fw hq _),?_⟩;refine h.a λd2 w2 h=>?_;refine h.aA U U λw h=>?_;cases hl:(look m.pg k).isSome with
  |true=>
   rw[qd hl]at hK;exact bh U (hK w (Ow.fo ho hM h.drop.drop))
  |false=>
   rw[F (by rw[hl];simp)]at hK;refine bc U ?_;refine h.dr λw h=>?_;refine⟨_,U,_,(iJ hq 2 h U).2,h.aR U (Go.Vc.a2 ?_)⟩;rw[ht];refine h.jL (v:=p) (M:=M (k.toNat / 64)) (m:=mb (k.toNat / 64)) (enc:=Value.int .i64) (encV:=Is) qU (aX .i64 qA) (k.toNat / 64+3) ?_ λw h=>?_
   .rw[LG,LG,fw hq];unfold cM;rw[qd hs]
   .rw[LM,LM,Cp hq hs]at h
    refine hK w (Ow.fo (ho.ins hk hs p) (FI ho hM k p) h.drop.drop)
theorem od{k:O}{K:O->O->O->Pw}(h:Ow B w0 w (bC b m::R))(hK:∀w',Ow B w0 w' (bC b (m.cg k).2.2::R)->K (m.cg k).1.1 (m.cg k).1.2 (m.cg k).2.1 w'):QT b.o k K w:=by
 apply XP;unfold dV.cg at hK;refine h.a λd w1 h=>?_;refine rP ?_;by_cases hk:0<=k/\k<4096
 case neg=>
  rw[qm hk];rw[qd hk]at hK;refine bh U ?_;refine h.aA U U λw h=>?_;refine h.aR U ?_;exact hK w h.drop
 rw[qu hk];rw[F (λhh=>hh hk)]at hK;have hq:k.toNat / 64<64:=om
 refine bc U ?_;refine CO (h.cq:Ow B w0 w1 (bC b m::aa d _::R)) λw h=>?_;refine h.a λd2 w2 h=>?_;refine h.aA U U λw h=>?_;cases hl:look m.pg k with
 |none=>
  rw[hl]at hK;refine bh U ?_;refine h.aA U U λw h=>?_;refine h.aR U ?_;exact hK w h.sub
 |some p=>
  rw[hl]at hK;refine bc U ?_;have h:Ow B w0 w (aa d2 [.z p.1,.z p.2]::bC b m::aa d [.z 0,.z 0]::R):=by rw[hl]at h;exact h
  have h:Ow B w0 w (bC b m::aa d2 [.z p.1,.z p.2]::aa d [.z 0,.z 0]::R):=h.cq;obtain⟨mb,M,ho,hM,h⟩:=h.Hl;obtain⟨_,_,hs⟩:=ho.Lg hl;have h2:Ow B w0 w (aa d2 [.z p.1,.z p.2]::aa d [.z 0,.z 0]::aa b ((gi m.tb mb).flatMap ig.enc)::((LA 64).map (cM m.tb mb M)++R)):=by
   refine h.perm ?_;have p1:=(Ml (a:=aa d2 [.z p.1,.z p.2]) (l₁:=aa b ((gi m.tb mb).flatMap ig.enc)::(LA 64).map (cM m.tb mb M)) (l₂:=aa d [.z 0,.z 0]::R))
   have p2:=(Ml (a:=aa d [.z 0,.z 0]) (l₁:=aa b ((gi m.tb mb).flatMap ig.enc)::(LA 64).map (cM m.tb mb M)) (l₂:=R))
   have:=p1.trans (p2.cons _);simpa using this
  refine xG (mb:=mb) (m:=m) hk 2 h2 U λw h=>?_;refine⟨_,U,_,(iJ hq 2 h U).2,?_⟩;obtain⟨v,ht⟩:=Option.isSome_iff_exists.1 hs;rw[ht];refine h.G1 (k:=k) (M:=M (k.toNat / 64)) (m:=mb (k.toNat / 64)) (enc:=Value.int .i64) (encV:=Is) qU (aX .i64 qA) (k.toNat / 64+3) ?_ λw h=>?_
  .rw[LG,LG,fw hq];unfold cM;rw[qd hs]
  .rw[LM,LM,Cp hq hs]at h
   refine h.aR U ?_;have h:=h.cq;refine h.aA U U λw h=>?_;refine h.aR U ?_;exact hK w (Ow.fo (m:=⟨m.tb,mr m.pg k⟩) ⟨ho.kg.filter _,λx hx=>ho.sD x (LP.1 hx).1,ho.eC⟩ (FH ho hM k) h.drop.drop)
theorem keys_nil{K:Sl->Pw}(h:Ow B w0 w L)(hK:∀(s:Sl)(w':J),Ow B w0 w' (af aq s []::L)->K s w'):
  Q0 N (λr5 w6=>QZ r5 K w6) w:=by
 unfold Q0;refine jx func333 U ?_;have cK:∀mb abt,CallsIn Fence.wide 5 qe 333 #[.map mb] abt λe w'=>e= .returned (.func (.func 390) #[] #[.q abt.heap.size])/\w'=abt.alloc (.cells #[.map mb] 238):=λmb abt=>AnyZI.keys_in Tryz.Cb Fence.wide 5 trivial U mb abt;refine(callsIn_wide (n:=5)).1 ((cK _ _).mono ?_);rintro e w' ⟨rfl,rfl⟩;refine⟨_,U,?_⟩;unfold QZ;refine jx func332 U ?_;have hseq:SeqGives Fence.wide 2 qe 390 #[.q w.heap.size] encZ (λss:Y O=>ss= []) 0 (w.alloc (.cells #[.map N] 238)):=
  AnyZI.keys_gives_nil (ρ:=Tryz.rD) { Tryz.Cb with} Fence.wide _ trivial U w.heap.size _ qc qc
 have cS:=AnyZI.sorted_in Tryz.Cu Fence.wide 5 trivial trivial trivial trivial U om (zN _) (enters_of func389 qa U) 390 #[.q w.heap.size] trivial (enters_of func390 qa U) _ 0 (Nat.zero_le _) om _ hseq;change CallsIn _ _ qe 332 _ _ _ at cS;refine(callsIn_wide (n:=5)).1 (cS.mono ?_);rintro e w' ⟨v,ss,rfl,rfl,hrow,hnil,hb⟩;have h1:Ow B w0 (w.alloc (.cells #[.map N] 238)) L:=h.same (ej _ _);rw[show(([]:Y O).mergeSort λx y=>V (x<=y))= []from by simp]at hrow;obtain⟨s,rfl,h2⟩:=sM h1 hb hrow;exact⟨s,U,hK s w' h2⟩
theorem Fe{n:O}{K:Sl->Pw}(h:Ow B w0 w L)(hK:∀s w',Ow B w0 w' (af aK s []::L)->K s w'):Qn n N K w:=by apply Vq;refine h.a λd w1 h=>?_;refine⟨_,h.aE U,keys_nil h λs w h=>?_⟩;have hlen:=h.aL s;intro l9 hl9;apply hl9;refine aw (by rw[hlen];decide) ?_;exact hK _ w (Ow.cZ h.drop.drop)
theorem za{n:O}{mb:X->X}{M:X->fA}{q:X}{K:Sl->Pw}(ho:eZ m)(hM:∀i,(M i).Perm (cE m.pg i))(j:X)(h:Ow B w0 w L)(hL:L[j]?=S (cM m.tb mb M q))(hK:∀s w',Ow B w0 w' (af aK s (cE m.pg q)::L)->K s w'):
  Qn n ((m.tb q).map λ_=>mb q) K w:=by
 cases ht:m.tb q with
 |none=>
  rw[ho.zm ht]at hK;exact Fe h hK
 |some v=>
  unfold cM at hL;rw[qd (by rw[ht];rfl)]at hL;refine nz h j hL (hM q) (ho.kg.filter _) (λx hx=>?_) hK;have:=ho.sD x (LP.1 hx).1;exact⟨this.1,this.2.1⟩
theorem pO:∀{L:Y aH}{i:X}{a:aH},L[i]?=S a->(a::L.eraseIdx i).Perm L
 |x::L,0,a,h=>by simp at h;subst h;exact List.Perm.refl _
 |x::L,i+1,a,h=>(List.Perm.swap x a _).trans ((pO (L:=L) (i:=i) (by simpa using h)).cons x)
theorem pG{abo A:aH}{i:X}(h:Ow B w0 w (abo::L))(hi:L[i]?=S A):Ow B w0 w (L.set i abo):=by have h1:Ow B w0 w (A::abo::L.eraseIdx i):=h.perm (((pO hi).symm.cons abo).trans (List.Perm.swap _ _ _));exact h1.drop.put (cp hi)
theorem rZ{t:O}{c n:O}{p:qh X}{K:W->Pw}{d:X}(j:X)(h:Ow B w0 w L)(hL:L[j]?=S (aa d [.z t]))(hK:∀w',Ow B w0 w' L->K (!p.isNone&&n==t) w'):Vb n p d.p K w:=by
 apply XR;refine h.a λg w1 h=>?_;refine h.l2 U ?_;cases p with
 |none=>exact bc U (hK w1 h.drop)
 |some q=>exact bh U ⟨_,h.aF U,_,h.gr (j+1) (by simpa using hL) U,hK w1 h.drop⟩
theorem vq{t:O}{mb:X->X}{K:W->Pw}{d:X}(j j2:X)(h:Ow B w0 w L)(hL:L[j]?=S (aa d [.z t]))(hL2:L[j2]?=S (aa b ((gi m.tb mb).flatMap ig.enc)))
  (hK:∀w',Ow B w0 w' L->K ((LA 64).any λi=>m.tb i==S t) w'):Uw ⟨eU b.o 0 64 2,64-0,64-0⟩ (.func (.func 359) #[] #[.q d]) K w:=by
 apply VK;apply VU;have ha:eU (S (b.p:qg)) 0 64 2=S b.p:=by rw[gF U qb]
 rw[ha];intro l3 hl3;have loop:∀(k i:X)(w:J),i+k=64->(∀x,x<i->(m.tb x==S t)=G)->Ow B w0 w L->l3 (i:O) w:=by
  intro k;induction k with
  |zero=>
   intro i w hik hno h;apply hl3;refine aw (by show ¬(i:O)<64;omega) ?_;have e:((LA 64).any λi=>m.tb i==S t)=false:=by rw[List.any_eq_false];intro x hx;rw[hno x (by have:=Nf.1 hx;omega)];decide
   have:=hK w h;rw[e]at this;exact this
  |succ k ih=>
   intro i w hik hno h;apply hl3;refine az (by show(i:O)<64;omega) ?_;refine⟨_,U,om,by show(i:O)<64;omega,?_⟩;rw[Lw,Ev];have hc:=iJ (by omega:i<64) j2 h hL2;refine⟨_,hc.1,_,hc.2,bq (rZ (c:=t) j h hL λw h=>?_)⟩;have e2:(!((m.tb i).map λ_=>mb i).isNone&&((m.tb i).getD 0)==t)=(m.tb i==S t):=by cases m.tb i<;>simp
   rw[e2];cases e:(m.tb i==S t)with
   |true=>
    refine bh U ?_;have e3:((LA 64).any λi=>m.tb i==S t)=true:=Na.2 ⟨i,Nf.2 om,e⟩;have:=hK w h;rw[e3]at this;show K (V ((i:O)>=0)) w;rw[qu (show(i:O)>=0 by omega)];exact this
   |false=>
    refine bc U ?_;rw[wI i om];refine ih (i+1) w om (λx hx=>?_) h;by_cases e4:x=i
    .rw[e4];exact e
    .exact hno x om
 exact loop 64 0 w om (λx hx=>by omega) h
theorem Au{i n:O}{K:O->Pw}(h:Ow B w0 w (bC b m::R))(hK:∀w',Ow B w0 w' (bC b (m.iQ i n).2::R)->K (m.iQ i n).1 w'):TW b.o i n K w:=by
 apply XN;obtain⟨mb,M,ho,hM,h⟩:=h.Hl;have hok:=ho.table i n;unfold dV.iQ at hK hok;refine h.a λd w1 h=>?_;intro k5 hk5;have bad:¬(0<=i/\i<64/\0<=n)->k5 Z w1:=λe=>by rw[qd e]at hK;exact hk5 _ _ (bh U (hK w1 (Ow.fo ho hM h.drop)))
 refine oH ?_;by_cases hi:0<=i/\i<64
 case neg=>rw[qm hi];exact bh U (bad λhh=>hi ⟨hh.1,hh.2.1⟩)
 rw[qu hi];refine bc U (h.l1 U ?_);by_cases hn:n<0
 .rw[qu hn];exact bad λhh=>by omega
 rw[qm hn];rw[F (λhh=>hh ⟨hi.1,hi.2,om⟩)]at hK hok;have hq:i.toNat<64:=om
 refine hk5 _ _ (bc U ?_);intro k8 hk8;have full:∀w,((m.tb i.toNat).isSome=Z\/((LA 64).any λj=>m.tb j==S n)=Z)->Ow B w0 w (aa d [.z n]::aa b ((gi m.tb mb).flatMap ig.enc)::((LA 64).map (cM m.tb mb M)++R))->k8 Z w:=λw e h=>by rw[qd e]at hK;exact hk8 _ _ (bh U (hK w (Ow.fo ho hM h.drop)))
 refine⟨_,U,hi.1,hi.2,?_⟩;rw[Ev];refine⟨_,(iJ hq 1 h U).2,?_⟩;cases ht:m.tb i.toNat with
 |some v=>exact bh U (full w1 (.inl (by rw[ht];rfl)) h)
 |none=>
  refine bc U ⟨_,U,?_⟩;refine vq (m:=m) (mb:=mb) 0 1 h U U λw h=>?_;cases ha:((LA 64).any λj=>m.tb j==S n)with
  |true=>exact full w (.inr ha) h
  |false=>
   rw[F (by rw[ht,ha];simp)]at hK hok;refine hk8 _ _ (bc U ?_);refine h.dr λw h=>?_;refine⟨_,h.aF U,_,U,Go.Vc.a2 (h.BX (Value.int .i64) Is λw2 h=>?_)⟩;generalize w.heap.size=g at h|-;refine⟨hi.1,hi.2,Go.Vc.a2 ?_⟩;rw[Ev];refine Ow.Eh (o:=i.toNat*2) h 2 U (by apply OQ;rw[pz];show i.toNat*2+2<=128;omega) U λw h=>?_;have h2:Ow B w0 w (kl (Value.int .i64) Is g []::aa d [.z n]::aa b (putAt ((gi m.tb mb).flatMap ig.enc) (i.toNat*2) [.z n,.map (S g)])::((LA 64).map (cM m.tb mb M)++R)):=h;have e1:=xL (tb:=m.tb) (mb:=mb) hq (S n) g;have e1:putAt ((gi m.tb mb).flatMap ig.enc) (i.toNat*2) [.z n,.map (S g)]=_:=e1;rw[e1]at h2;have h3:Ow B w0 w (DA g []::aa b ((gi (nM m.tb i.toNat (S n)) λj=>if j=i.toNat then g else mb j).flatMap ig.enc)::((LA 64).map (cM m.tb mb M)++R)):=h2.uN;have ht0:cM m.tb mb M i.toNat=dh I:=by unfold cM;rw[F (by rw[ht];simp)]
   have h4:=pG (i:=i.toNat+1) h3 (fw hq _);rw[mX (g:=cM (nM m.tb i.toNat (S n)) (λj=>if j=i.toNat then g else mb j) (λj=>if j=i.toNat then []else M j)) hq (λj hj=>?_)]at h4
   .refine hK w (Ow.fo hok (λj=>?_) h4)
    by_cases e:j=i.toNat
    .rw[e];simp only[qC]
     show([]:fA).Perm (cE m.pg i.toNat);rw[ho.zm ht]
    .simp only[F e];exact hM j
   .by_cases e:j=i.toNat
    .rw[e]
     unfold cM nM;simp
    .unfold cM nM
     simp only[F e]
theorem CI{i:O}{K:Sl->O->Pw}(h:Ow B w0 w (bC b m::R))(hK:∀s w',Ow B w0 w' (af aK s (m.bw i).1::bC b (m.bw i).2.2::R)->K s (m.bw i).2.1 w'):UI b.o i K w:=by
 apply XY;obtain⟨mb,M,ho,hM,h⟩:=h.Hl;have hok:=ho.drop i;unfold dV.bw at hK hok;refine oH ?_;by_cases hi:0<=i/\i<64
 case neg=>
  rw[qm hi];rw[qd hi]at hK;exact bh U (hK _ w (Ow.cZ (Ow.fo ho hM h)))
 rw[qu hi];rw[F (λhh=>hh hi)]at hK hok;have hq:i.toNat<64:=om
 refine bc U ⟨_,U,hi.1,hi.2,?_⟩;rw[Ev];refine⟨_,(iJ hq 0 h U).2,?_⟩;cases ht:m.tb i.toNat with
 |none=>
  rw[qd ht]at hK;exact bh U (hK _ w (Ow.cZ (Ow.fo ho hM h)))
 |some v=>
  rw[F (by rw[ht];simp)]at hK hok;refine bc U ⟨_,U,hi.1,hi.2,?_⟩;rw[Ev];refine⟨_,(iJ hq 0 h U).1,_,(iJ hq 0 h U).2,za ho hM (i.toNat+1) h (fw hq _) λs w h=>?_⟩;refine⟨_,U,hi.1,hi.2,?_⟩;rw[Ev];refine Ow.Eh (o:=i.toNat*2) h 1 U (by apply OQ;rw[pz];show i.toNat*2+2<=128;omega) U λw h=>?_;have h2:Ow B w0 w (af aK s (cE m.pg i.toNat)::aa b (putAt ((gi m.tb mb).flatMap ig.enc) (i.toNat*2) [.z 0,.map N])::((LA 64).map (cM m.tb mb M)++R)):=h;have e1:=xL (tb:=m.tb) (mb:=mb) hq N 0;have e1:putAt ((gi m.tb mb).flatMap ig.enc) (i.toNat*2) [.z 0,.map N]=_:=e1;rw[e1]at h2;have h3:=pG (abo:=dh I) (i:=i.toNat+2) (Ow.cT trivial h2) (by rw[LG];exact fw hq _);rw[LM,mX (g:=cM (nM m.tb i.toNat N) (λj=>if j=i.toNat then 0 else mb j) (λj=>if j=i.toNat then []else M j)) hq (λj hj=>?_)]at h3
  .have h4:Ow B w0 w (aa b ((gi (nM m.tb i.toNat N) λj=>if j=i.toNat then 0 else mb j).flatMap ig.enc)::((LA 64).map (cM (nM m.tb i.toNat N) (λj=>if j=i.toNat then 0 else mb j) (λj=>if j=i.toNat then []else M j))++af aK s (cE m.pg i.toNat)::R)):=by refine h3.perm ?_;have:=(Ml (a:=af aK s (cE m.pg i.toNat)) (l₁:=aa b ((gi (nM m.tb i.toNat N) λj=>if j=i.toNat then 0 else mb j).flatMap ig.enc)::(LA 64).map (cM (nM m.tb i.toNat N) (λj=>if j=i.toNat then 0 else mb j) (λj=>if j=i.toNat then []else M j))) (l₂:=R)).symm;simpa using this
   have h5:Ow B w0 w (bC b ⟨nM m.tb i.toNat N,m.pg.filter λx=>x.1.toNat / 64 !=i.toNat⟩::af aK s (cE m.pg i.toNat)::R):=Ow.fo (m:=⟨nM m.tb i.toNat N,m.pg.filter λx=>x.1.toNat / 64 !=i.toNat⟩) hok (λj=>?_) h4
   .exact hK s w h5.cq
   .by_cases e:j=i.toNat
    .rw[e];simp only[qC]
     show([]:fA).Perm (cE (m.pg.filter λx=>x.1.toNat / 64 !=i.toNat) i.toNat);have:cE (m.pg.filter λx=>x.1.toNat / 64 !=i.toNat) i.toNat= []:=by unfold cE;rw[List.filter_filter,NA];intro x _;simp
     rw[this]
    .simp only[F e]
     show(M j).Perm (cE (m.pg.filter λx=>x.1.toNat / 64 !=i.toNat) j);rw[Gi e];exact hM j
  .by_cases e:j=i.toNat
   .rw[e]
    unfold cM nM;simp
   .unfold cM nM
    simp only[F e]
theorem EA{s x:Sl}{xs ys:fA}{k:Sl->Pw}(h:Ow B w0 w (af aK s xs::L))(hx:jN aK.z w x (ys.flatMap aK.enc))(hxl:x.len=ys.length)(hbig:xs.length+ys.length<=1000000)(hk:∀s' w',s'.len=xs.length+ys.length->Ow B w0 w' (af aK s' (xs++ys)::L)->k s' w'):
  ∃s' w',aM qe [81,81] 81 s.v x.v w s' w'/\k s' w':=
 Ow.app (s:=s) (xs:=xs) (ys:=ys) underlying81 (show qe.info? 204=S qX from by kernel_rfl) (zv:=(qX.zero).get qa) qa qa qa qb h 0 U hx hxl (by
  have e:qX.bytes=24:=qa
  rw[e];omega) λs' w' hl h=>hk s' w' hl h
theorem kN{K:Sl->Pw}(h:Ow B w0 w (bC b m::R))(hK:∀s w',Ow B w0 w' (af aK s m.pg::bC b m::R)->K s w'):Rp b.o K w:=by
 apply XM;obtain⟨mb,M,ho,hM,h⟩:=h.Hl;have hall:=Gj ho;have hlen:=nJ m.pg 0 4096 ho.kg λx hx=>⟨(ho.sD x hx).1,(ho.sD x hx).2.1⟩
 refine⟨_,U,⟨(gi m.tb mb).flatMap ig.enc⟩,pz,λi hi=>?_,?_⟩
 .have hb:=h.vn 0 U
  rw[aI,hb.cell,LF];simp
 intro l5 hl5;have loop:∀(k t:X)(out:Sl)(w:J),t+k=64->Ow B w0 w (af aK out ((LA t).flatMap (cE m.pg))::aa b ((gi m.tb mb).flatMap ig.enc)::((LA 64).map (cM m.tb mb M)++R))->l5 out (t:O) w:=by
  intro k;induction k with
  |zero=>
   intro t out w ht h;obtain rfl:t=64:=om
   apply hl5;refine aw om ?_;rw[hall]at h;refine hK out w ?_;have h4:Ow B w0 w (aa b ((gi m.tb mb).flatMap ig.enc)::((LA 64).map (cM m.tb mb M)++af aK out m.pg::R)):=by refine h.perm ?_;have:=(Ml (a:=af aK out m.pg) (l₁:=aa b ((gi m.tb mb).flatMap ig.enc)::(LA 64).map (cM m.tb mb M)) (l₂:=R)).symm;simpa using this
   have h5:Ow B w0 w (bC b m::af aK out m.pg::R):=Ow.fo ho hM h4;exact h5.cq
  |succ k ih=>
   intro t out w ht h;apply hl5;refine az om ⟨om,om,?_⟩;have htq:t<64:=om
   refine⟨(m.tb t).getD 0,?_,(m.tb t).map λ_=>mb t,?_,?_⟩
   .rw[Lw,NB]
    simpa using yd (tb:=m.tb) (mb:=mb) htq
   .rw[Lw]
    simpa using ye (tb:=m.tb) (mb:=mb) htq
   .refine h.a λd w2 h=>?_;refine h.aA U U λw h=>?_
    refine⟨_,h.aF U,h.l2 U (za ho hM (t+3) h (by rw[LG,LG];exact fw htq _) λs w h=>?_)⟩;have hs:=h.sR 0 U;have hsl:=h.len 0 U;have h2:Ow B w0 w (af aK out ((LA t).flatMap (cE m.pg))::aa b ((gi m.tb mb).flatMap ig.enc)::((LA 64).map (cM m.tb mb M)++R)):=h.drop.drop;have hpre:((LA t).flatMap (cE m.pg)).length+(cE m.pg t).length<=1000000:=by
     have e:(LA (t+1)).flatMap (cE m.pg)=(LA t).flatMap (cE m.pg)++cE m.pg t:=by rw[N1,Me];simp
     have hsub:((LA (t+1)).flatMap (cE m.pg)).length<=((LA 64).flatMap (cE m.pg)).length:=by
      have e64:LA 64=LA (t+1)++(LA (64-(t+1))).map (λx=>t+1+x):=by rw[<-List.range_add];congr 1;omega
      rw[e64,Me,LC];omega
     rw[e,hall,LC]at hsub;omega
    refine EA h2 hs hsl hpre λs' w hs' h=>?_;rw[wI t om];refine ih (t+1) s' w om ?_;have e:(LA (t+1)).flatMap (cE m.pg)=(LA t).flatMap (cE m.pg)++cE m.pg t:=by rw[N1,Me];simp
    rw[e];exact h
 exact loop 64 0 z0 w om (Ow.cZ h)
theorem rE{w:J}{a:qg}{x:O × Pg}{f:O->O->O->Prop}(g:∀c v,(aK.enc x)[c]?=S v->w.cell? (a.add c)=S v)(hf:f x.1 x.2.1 x.2.2):ax w a 0 [.o,.o,.o] f:=
 ⟨_,g 0 _ U,_,g 1 _ U,_,g 2 _ U,hf⟩
theorem eo{s:Sl}{ys:Y O}{y:O}{c:X}{L:Y aH}{k:Sl->Pw}[abw:cu s L O aq ys][abq:fh (af aq s ys) L R](h:Ow B w0 w (aa c [.z y]::L))(hbig:ys.length<=1000000000)
  (hk:∀s' w',s'.len=ys.length+1->Ow B w0 w' (af aq s' (ys++ [y])::R)->k s' w'):
  ∃s' w',aM qe [22,22] 22 s.v (.slice (S c.p) 1 1) w s' w'/\k s' w':=
 Ow.eL (E:=aq) (y:=y) qG (show qe.info? 3=S qF from by kernel_rfl) (zv:= .z 0) qa qa U qb h (by
  have e:qF.bytes=8:=qa
  rw[e];omega) hk
def cy(P:fA)(f:O):Y O:=(P.filter λx=>x.2.1==f).map (·.1)
theorem yq{f:O}{K:Sl->Pw}(h:Ow B w0 w (bC b m::R))(hK:∀s w',Ow B w0 w' (af aq s (cy m.pg f)::bC b m::R)->K s w'):UG b.o f K w:=by
 apply XW;have ho:eZ m:=by obtain⟨_,_,ho,_,_⟩:=h.Hl;exact ho
 have hlen:=nJ m.pg 0 4096 ho.kg λx hx=>⟨(ho.sD x hx).1,(ho.sD x hx).2.1⟩
 refine kN h λs w h=>?_;have hl:=h.aL s;intro l5 hl5;have loop:∀(k t:X)(out:Sl)(w:J),t+k=m.pg.length->Ow B w0 w (af aq out (cy (m.pg.take t) f)::af aK s m.pg::bC b m::R)->l5 out (t:O) w:=by
  intro k;induction k with
  |zero=>
   intro t out w ht h;apply hl5;refine aw om ?_;rw[Lz om]at h;exact hK out w h.uN
  |succ k ih=>
   intro t out w ht h;apply hl5;refine az om ?_;have hx:m.pg[t]?=S m.pg[t]:=gE om;refine h.cz (s:=s) (i:=(t:O)) (j:=t) U hx λa ha h0 hc=>?_;refine rE hc ?_;refine h.a λd w2 h=>?_;refine h.aA U U λw h=>?_;refine h.l2 U ?_;have e:cy (m.pg.take (t+1)) f=cy (m.pg.take t) f++(if m.pg[t].2.1=f then [m.pg[t].1]else []):=by
    unfold cy;rw[LJ,hx,Nj,Mi,LU];congr 1;by_cases e:m.pg[t].2.1=f
    .rw[qd e,Mc,qd (by simpa using e)];rfl
    .rw[F e,Mc,F (by simpa using e)];rfl
   rw[wI t om];refine dE (λe2=>?_) (λe2=>?_)
   .rw[qd e2]at e
    refine h.l1 U ?_;refine h.a λd3 w3 h=>?_;refine eo (s:=out) (ys:=cy (m.pg.take t) f) (y:=m.pg[t].1) h (by unfold cy;rw[L3];have:=L6 (λx:O × Pg=>x.2.1==f) (m.pg.take t);rw[LX]at this;omega) λs' w hs' h=>?_;refine ih (t+1) s' w om ?_;rw[e];exact h.uN
   .rw[F e2,LQ]at e
    refine ih (t+1) out w om ?_;rw[e];exact h.drop
 exact loop m.pg.length 0 z0 w om (Ow.cZ h)
def bg(s:Sl):Q:= s.v
def iP:dT (O × O):=⟨2,λo=>[.z o.1,.z o.2],λ_=>rfl,λx v h=>by simp only[LD,MB,qI]at h;rcases h with rfl|rfl<;>rfl,qb⟩
abbrev JL:=Y (O × O)
structure iR(m:dV)(T:JL)(P:fA):Prop where
 ok:eZ m
 pg:P.Perm m.pg
 nd:(T.map (·.1)).Nodup
 tb:∀i n,(i,n)∈T↔m.at i=S n
def dv(b:X)(m:dV):aH:=sB λx:(Sl × Sl)× JL × fA=>cj [dh (iR m x.2.1 x.2.2),aa b [bg x.1.1,bg x.1.2],af iP x.1.1 x.2.1,af aK x.1.2 x.2.2]
theorem zr:∀(n:X)(l:Y O),l.Nodup->(∀x∈l,0<=x/\x<(n:O))->l.length<=n
 |0,l,_,h=>by
  cases l with
  |nil=>simp
  |cons a l=>have:=h a qc;omega
 |n+1,l,hn,h=>by
  have h1:=zr n (l.filter λx=>x !=(n:O)) (hn.sublist NS) λx hx=>by
   have h2:=LP.1 hx;have h3:=h x h2.1;have h4:x≠(n:O):=by simpa using h2.2
   omega
  have h2:l.length<=(l.filter λx=>x !=(n:O)).length+1:=by
   clear h1 h;induction l with
   |nil=>simp
   |cons a l ih=>
    rw[Mj]at hn;by_cases e:a=(n:O)
    .have:l.filter (λx=>x !=(n:O))=l:=by
      rw[Mv];intro x hx;have:x≠(n:O):=λe2=>hn.1 (by rw[e,<-e2];exact hx);simpa using this
     rw[List.filter_cons_of_neg (by simp[e]),this,LL];exact Nat.le_refl _
    .rw[List.filter_cons_of_pos (by simpa using e),LL,LL]
     have:=ih hn.2;omega
  omega
end
section
variable{B:X}{w0 w:J}{R L:Y aH}{b:X}{m:dV}{T:JL}{P:fA}
theorem eZ.AY(h:eZ m):m.pg.length<=4096:=by
 have:=nJ m.pg 0 4096 h.kg λx hx=>⟨(h.sD x hx).1,(h.sD x hx).2.1⟩
 omega
theorem I9{k:O}(h0:0<=k)(h1:k<4096):qf.wrap (k.tdiv 64)=((k.toNat / 64:X):O):=by obtain⟨n,rfl⟩:=LB h0;have:(n:O).tdiv 64=((n / 64:X):O):=rfl;rw[this,wr om om,Lw]
theorem eZ.EC(h:eZ m){i n:O}(e:m.at i=S n):0<=i/\i<64/\m.tb i.toNat=S n:=by
 unfold dV.at at e;split at e
 .cases e
 .have:=h.eC i.toNat (by rw[e];rfl)
  exact⟨om,om,e⟩
theorem eZ.I4{i n:O}(h0:0<=i)(e:m.tb i.toNat=S n):m.at i=S n:=by unfold dV.at;rw[F om];exact e
theorem iR.IF(h:iR m T P):T.length<=64:=by
 have:=zr 64 (T.map (·.1)) h.nd λx hx=>by obtain⟨⟨i,n⟩,hy,e⟩:=L2.1 hx;have:=h.ok.EC ((h.tb i n).1 hy);have e:i=x:=e;omega
 simpa using this
theorem iR.G9(h:iR m T P):P.length<=4096:=by rw[h.pg.length_eq];exact h.ok.AY
theorem iR.Lm(h:iR m T P):(P.map (·.1)).Nodup:=(h.pg.map _).nodup_iff.2 h.ok.kg.nodup
theorem iR.look(h:iR m T P){k:O}{v:Pg}(hm:(k,v)∈P):look m.pg k=S v:=h.ok.kg.look (h.pg.mem_iff.1 hm)
theorem _root_.Go.Vc.Ow.Gz(h:Ow B w0 w (dv b m::R)):∃sT sP T P,iR m T P/\Ow B w0 w (aa b [bg sT,bg sP]::af iP sT T::af aK sP P::R):=by obtain⟨⟨⟨sT,sP⟩,T,P⟩,h⟩:=h.ex;obtain⟨h1,h⟩:=Ow.pure h.star;exact⟨sT,sP,T,P,h1,h⟩
theorem _root_.Go.Vc.Ow.gY{sT sP:Sl}(h1:iR m T P)(h:Ow B w0 w (aa b [bg sT,bg sP]::af iP sT T::af aK sP P::R)):Ow B w0 w (dv b m::R):=
 Ow.fk ((sT,sP),T,P) (Ow.bW (Ow.cT h1 h))
theorem iR.new:iR iM [] []:=⟨eZ.new,List.Perm.refl _,qc,λi n=>⟨λh=>by simp at h,λh=>by have:=eZ.new.EC h;simp[iM]at this⟩⟩
theorem rS{i:O}{K:O->W->Pw}(h:Ow B w0 w (dv b m::R))(hK:K ((m.at i).getD 0) (m.at i).isSome w):QW b.o i K w:=by
 apply Z3;obtain⟨sT,sP,T,P,hr,h⟩:=h.Gz;have hl:=h.aL sT;have htl:=hr.IF;intro l3 hl3;have loop:∀(j k:X),k+j=T.length->(∀x∈T.take k,x.1≠i)->l3 (k:O) w:=by
  intro j;induction j with
  |zero=>
   intro k hk hno;apply hl3;refine⟨_,U,sT,h.aF U,aw om ?_⟩;have e:m.at i=none:=by
    cases e:m.at i with
    |none=>rfl
    |some n=>exact qj U (hno (i,n) (by rw[Lz om];exact(hr.tb i n).2 e))
   rw[e]at hK;exact hK
  |succ j ih=>
   intro k hk hno;apply hl3;have hx:T[k]?=S T[k]:=gE om;refine⟨_,U,sT,h.aF U,az om ⟨_,U,sT,h.aF U,h.cz (s:=sT) (i:=(k:O)) (j:=k) U hx λa ha h0 hc=>⟨_,h0 _ U,?_⟩⟩⟩
   refine dE (λe=>?_) (λe=>?_)
   .refine ⟨_,U,sT,h.aF U,?_⟩
    refine h.cz (s:=sT) (i:=(k:O)) (j:=k) U hx λa ha h0 hc=>⟨_,hc 1 _ U,?_⟩
    have e2:m.at i=S T[k].2:=(hr.tb i _).1 (by rw[<-e];exact Mq _);rw[e2]at hK;exact hK
   .rw[wI k om]
    refine ih (k+1) om λx hx2=>?_;rw[LJ,hx,Nj,Mm,Mk]at hx2;rcases hx2 with h1|h1
    .exact hno x h1
    .rw[h1];exact e
 exact loop T.length 0 om (λx hx=>by simp at hx)
theorem yC{s:Sl}{ys:JL}{y:O × O}{c:X}{L:Y aH}{k:Sl->Pw}[abw:cu s L (O × O) iP ys][abq:fh (af iP s ys) L R](h:Ow B w0 w (aa c [.z y.1,.z y.2]::L))(hbig:ys.length<=1000000000)
  (hk:∀s' w',s'.len=ys.length+1->Ow B w0 w' (af iP s' (ys++ [y])::R)->k s' w'):
  ∃s' w',aM qe [127,127] 127 s.v (.slice (S c.p) 1 1) w s' w'/\k s' w':=
 Ow.eL (E:=iP) (y:=y) underlying127 (show qe.info? 410=S aaR from by kernel_rfl) (zv:=(aaR.zero).get qa) qa qa qa qb h (by
  have e:aaR.bytes=16:=qa
  rw[e];omega) hk
theorem HE{i j:O}{v:qh O}(hi:0<=i):(⟨nM m.tb i.toNat v,m.pg⟩:dV).at j=if j=i then v else m.at j:=by
 unfold dV.at nM;by_cases hj:j<0
 .rw[qd hj,F om,qd hj]
 .rw[F hj]
  by_cases e:j=i
  .rw[qd e,e];simp
  .simp only
   rw[F om,F e,F hj]
theorem zw{i n:O}{K:O->Pw}(h:Ow B w0 w (dv b m::R))(hK:∀w',Ow B w0 w' (dv b (m.iQ i n).2::R)->K (m.iQ i n).1 w'):Tw b.o i n K w:=by
 apply ZX;obtain⟨sT,sP,T,P,hr,h⟩:=h.Gz;have hl:=h.aL sT;have htl:=hr.IF;have hok:=hr.ok.table i n;unfold dV.iQ at hK hok;intro k4 hk4;have bad:¬(0<=i/\i<64/\0<=n)->k4 Z w:=λe=>by rw[qd e]at hK;exact hk4 _ _ (bh U (hK w (Ow.gY hr h)))
 refine bo (λe=>bad λhh=>by omega) (λe1=>?_);refine bo (λe=>bad λhh=>by omega) (λe2=>?_);by_cases e3:n<0
 .rw[qu e3];exact bad λhh=>by omega
 rw[qm e3];have hi:0<=i/\i<64:=om
 rw[F (λhh=>hh ⟨hi.1,hi.2,om⟩)]at hK hok;refine hk4 _ _ (bc U ?_);have full:∀(K2:W->Pw),(∀t w',(bif t then K 140 w' else qk)->K2 t w')->((m.tb i.toNat).isSome=Z\/((LA 64).any λj=>m.tb j==S n)=Z)->K2 Z w:=λK2 h2 e=>by rw[qd e]at hK;exact h2 Z w (bh U (hK w (Ow.gY hr h)))
 intro l7 hl7;have loop:∀(j k:X),k+j=T.length->(∀x∈T.take k,x.1≠i/\x.2≠n)->l7 (k:O) w:=by
  intro j;induction j with
  |zero=>
   intro k hk hno;rw[Lz om]at hno;apply hl7;refine⟨_,U,sT,h.aF U,aw om ?_⟩;have hfree:m.tb i.toNat=none:=by
    cases e:m.tb i.toNat with
    |none=>rfl
    |some v=>exact qj U (hno (i,v) ((hr.tb i v).2 (eZ.I4 hi.1 e))).1
   have hany:¬((LA 64).any λj=>m.tb j==S n)=true:=λe=>by
    obtain⟨j,_,e⟩:=Na.1 e;have e:m.tb j=S n:=by simpa using e
    exact qj U (hno ((j:O),n) ((hr.tb _ n).2 (eZ.I4 om (by rw[Lw];exact e)))).2
   rw[F (by rw[hfree];simpa using hany)]at hK hok;refine⟨_,U,sT,h.aF U,h.a λd w2 h=>?_⟩;refine yC (s:=sT) (ys:=T) (y:=(i,n)) h om λs' w hs' h=>?_;refine⟨_,U,?_⟩;have h:=h.cq;refine h.jH U U λw h=>?_;refine hK w (Ow.gY (sT:=s') (sP:=sP) (T:=T++ [(i,n)]) (P:=P) ⟨hok,hr.pg,?_,λj x=>?_⟩ h)
   .rw[LU,List.nodup_append]
    refine⟨hr.nd,qc,λx hx y hy e=>?_⟩;simp only[L1,List.map_nil,Mk]at hy;obtain⟨z,hz,e2⟩:=L2.1 hx;exact(hno z hz).1 (by rw[e2,e,hy])
   .rw[Mm,Mk,HE hi.1]
    by_cases e:j=i
    .rw[qd e]
     constructor
     .rintro (h1|h1)
      .exact qj e (hno _ h1).1
      .cases h1;rfl
     .intro h1;cases h1;exact .inr (by rw[e])
    .rw[F e,hr.tb]
     exact⟨λh1=>h1.resolve_right λh2=>e (by cases h2;rfl),.inl⟩
  |succ j ih=>
   intro k hk hno;apply hl7;have hx:T[k]?=S T[k]:=gE om;have hmem:T[k]∈T:=Mq _;refine⟨_,U,sT,h.aF U,az om ?_⟩;intro k12 hk12;have fl:((m.tb i.toNat).isSome=Z\/((LA 64).any λj=>m.tb j==S n)=Z)->k12 Z w:=λe=>by refine hk12 _ _ (bh U ?_);rw[qd e]at hK;exact hK w (Ow.gY hr h)
   refine⟨_,U,sT,h.aF U,h.cz (s:=sT) (i:=(k:O)) (j:=k) U hx λa ha h0 hc=>⟨_,h0 _ U,?_⟩⟩
   have hat:=hr.ok.EC ((hr.tb T[k].1 T[k].2).1 hmem);refine dE (λe=>fl (.inl (by rw[<-e,hat.2.2];rfl))) (λe=>?_);refine⟨_,U,sT,h.aF U,h.cz (s:=sT) (i:=(k:O)) (j:=k) U hx λa ha h0 hc=>⟨_,hc 1 _ U,?_⟩⟩
   by_cases e5:T[k].2=n
   .rw[show(T[k].2==n)=Z from by simpa using e5]
    exact fl (.inr (Na.2 ⟨T[k].1.toNat,Nf.2 om,by rw[hat.2.2,e5];simp⟩))
   .rw[show(T[k].2==n)=G from by simpa using e5]
    refine hk12 _ _ (bc U ?_);rw[wI k om];refine ih (k+1) om λx hx2=>?_;rw[LJ,hx,Nj,Mm,Mk]at hx2;rcases hx2 with h1|h1
    .exact hno x h1
    .rw[h1];exact⟨e,e5⟩
 exact loop T.length 0 om (λx hx=>by simp at hx)
theorem Co{n:O}{sT sP:Sl}{K:O->Pw}(hr:iR m T P)(h:Ow B w0 w (aa b [bg sT,bg sP]::af iP sT T::af aK sP P::R))(hK0:look m.pg n=N->K (-1) w)(hK1:∀(k:X)(v:Pg),P[k]?=S (n,v)->look m.pg n=S v->K (k:O) w):RI b.o n K w:=by
 apply Z5;have hl:=h.aL sP;have hpl:=hr.G9;intro l3 hl3;have loop:∀(j k:X),k+j=P.length->(∀x∈P.take k,x.1≠n)->l3 (k:O) w:=by
  intro j;induction j with
  |zero=>
   intro k hk hno;rw[Lz om]at hno;apply hl3;refine⟨_,U,sP,h.aE U,aw om (hK0 (dt.2 λx hx=>hno x (hr.pg.mem_iff.2 hx)))⟩
  |succ j ih=>
   intro k hk hno;apply hl3;have hx:P[k]?=S P[k]:=gE om;refine⟨_,U,sP,h.aE U,az om ⟨_,U,sP,h.aE U,h.cz (s:=sP) (i:=(k:O)) (j:=k) U hx λa ha h0 hc=>⟨_,h0 _ U,?_⟩⟩⟩
   refine dE (λe=>?_) (λe=>?_)
   .refine hK1 k P[k].2 (by rw[hx,<-e]) ?_
    exact hr.look (by rw[<-e];exact Mq _)
   .rw[wI k om]
    refine ih (k+1) om λx hx2=>?_;rw[LJ,hx,Nj,Mm,Mk]at hx2;rcases hx2 with h1|h1
    .exact hno x h1
    .rw[h1];exact e
 exact loop P.length 0 om (λx hx=>by simp at hx)
theorem Ku{w:J}{a:qg}{x:O × Pg}{f:O->O->Prop}(g:∀c v,(aK.enc x)[c]?=S v->w.cell? (a.add c)=S v)(hf:f x.2.1 x.2.2):ax w (a.add 1) 0 [.o,.o] f:=by
 have g4:w.cell? ((a.add 1).add 1)=S (.z x.2.2):=by
  have:=g 2 _ (rfl:(aK.enc x)[2]?=S (.z x.2.2));have e:(a.add 1).add 1=a.add 2:=by unfold Addr.add;simp
  rw[e];exact this
 have g3:w.cell? ((a.add 1).add 0)=S (.z x.2.1):=g 1 _ U;exact⟨_,g3,_,g4,hf⟩
theorem BZ:∀{P:fA}{k:X}{n:O}{u v:Pg},(P.map (·.1)).Nodup->P[k]?=S (n,u)->iW P n v=P.set k (n,v)/\ko P n=P.eraseIdx k
 | [],k,n,u,v,_,h=>by simp at h
 |x::P,0,n,u,v,_,h=>by simp at h;subst h;simp[iW,ko]
 |x::P,k+1,n,u,v,hn,h=>by
  rw[L1,Mj]at hn;have h:P[k]?=S (n,u):=by simpa using h
  have hne:x.1≠n:=λe=>hn.1 (L2.2 ⟨_,List.mem_of_getElem? h,by rw[e]⟩);obtain⟨h1,h2⟩:=BZ (v:=v) hn.2 h;unfold iW ko;rw[F hne,F hne,h1,h2];exact⟨U,U⟩
theorem E6{P:fA}(h:kn P){n:O}(v:Pg)(hl:look P n=N):((n,v)::P).Perm (lP P n v):=by
 have hs:=nw h n v;refine(List.perm_ext_iff_of_nodup ?_ (eX hs.nodup)).2 λx=>?_
 .refine Mj.2 ⟨λhm=>dt.1 hl _ hm U,eX h.nodup⟩
 .rw[LD,iX h]
  exact⟨λe=>e.elim .inl λhx=> .inr ⟨hx,dt.1 hl x hx⟩,λe=>e.elim .inl λhx=> .inr hx.1⟩
theorem DI{k:O}{p:Pg}{K:O->Pw}(h:Ow B w0 w (dv b m::R))(hK:∀w',Ow B w0 w' (dv b (m.pJ k p).2::R)->K (m.pJ k p).1 w'):Tx b.o k p.1 p.2 K w:=by
 apply ZY;have hok:eZ m:=by obtain⟨_,_,_,_,hr,_⟩:=h.Gz;exact hr.ok
 unfold dV.pJ at hK;refine h.a λd w1 h=>?_;intro k6 hk6;have bad:¬(0<=k/\k<4096/\0<=p.1/\0<=p.2/\p.2<=7)->k6 Z w1:=λe=>by rw[qd e]at hK;exact hk6 _ _ (bh U (hK w1 h.drop))
 refine bo (λe=>bad λhh=>by omega) (λe1=>?_);refine bo (λe=>bad λhh=>by omega) (λe2=>?_);refine h.l1 U ?_;refine bo (λe=>bad λhh=>by omega) (λe3=>?_);refine h.l2 U ?_;refine bo (λe=>bad λhh=>by omega) (λe4=>?_);refine h.l2 U ?_;by_cases e5:p.2>7
 .rw[qu e5];exact bad λhh=>by omega
 rw[qm e5];have hk:0<=k/\k<4096:=om
 rw[F (λhh=>hh ⟨hk.1,hk.2,om,om,om⟩)]at hK;refine hk6 _ _ (bc U ⟨qb,?_⟩);rw[I9 hk.1 hk.2];have h:Ow B w0 w1 (dv b m::aa d [.z p.1,.z p.2]::R):=h.cq;refine rS h ?_;have eat:m.at ((k.toNat / 64:X):O)=m.tb (k.toNat / 64):=by unfold dV.at;rw[F om,Lw]
 rw[eat];cases ht:m.tb (k.toNat / 64)with
 |none=>rw[qd ht]at hK;exact bh U (hK w1 h.uN)
 |some v=>
  have hs:(m.tb (k.toNat / 64)).isSome=true:=by rw[ht];rfl
  rw[F (by rw[ht];simp)]at hK;refine bc U ?_;obtain⟨sT,sP,T,P,hr,h⟩:=h.Gz;have hl:=h.aL sP;have hpl:=hr.G9;refine Co hr h (λe=>?_) (λj v hj e=>?_)
  .rw[F (by rw[e];simp)]at hK
   refine aw qb ?_;refine h.dr λw h=>?_;refine⟨_,U,sP,h.aE U,h.aR U (Go.Vc.a2 (h.a λd2 w2 h=>?_))⟩;refine Go.Vc.a2 ?_;refine jb (s:=sP) (ys:=P) (y:=(k,p)) h om λs' w hs' h=>?_;refine⟨_,U,Go.Vc.a2 (h.fK U U λw h=>?_)⟩;refine hK w ?_;have h2:Ow B w0 w (aa b [bg sT,s'.v]::af iP sT T::af aK s' (P++ [(k,p)])::aa d [.z p.1,.z p.2]::R):=h.sub;have h3:Ow B w0 w (dv b { m with pg:=lP m.pg k p}::aa d [.z p.1,.z p.2]::R):=Ow.gY (m:={ m with pg:=lP m.pg k p}) (sT:=sT) (sP:=s') ⟨hok.ins hk hs p,?_,hr.nd,λi n=>hr.tb i n⟩ h2
   .exact h3.uN
   .exact (List.perm_append_singleton _ _).trans ((hr.pg.cons _).trans (E6 hok.kg p e))
  .rw[qd (by rw[e];rfl)]at hK
   refine az om ?_;have h:Ow B w0 w1 (dv b m::aa d _::R):=Ow.gY hr h;exact hK w1 h.uN
theorem jR{k:O}{K:O->O->O->Pw}(h:Ow B w0 w (dv b m::R))(hK:∀w',Ow B w0 w' (dv b (m.cg k).2.2::R)->K (m.cg k).1.1 (m.cg k).1.2 (m.cg k).2.1 w'):Qj b.o k K w:=by
 apply ZZ;have hok:eZ m:=by obtain⟨_,_,_,_,hr,_⟩:=h.Gz;exact hr.ok
 have hok2:=hok.lL k;unfold dV.cg at hK hok2;refine h.a λd w1 h=>?_;intro k4 hk4;have bad:¬(0<=k/\k<4096)->k4 Z w1:=λe=>by
  rw[qd e]at hK;refine hk4 _ _ (bh U ?_);refine h.aA U U λw h=>?_;refine h.aR U ?_;exact hK w h.drop
 refine bo (λe=>bad λhh=>by omega) (λe1=>?_);by_cases e2:k>4095
 .rw[qu e2];exact bad λhh=>by omega
 rw[qm e2];rw[F (λhh=>hh ⟨om,om⟩)]at hK hok2;refine hk4 _ _ (bc U ?_);have h:Ow B w0 w1 (dv b m::aa d [.z 0,.z 0]::R):=h.cq;obtain⟨sT,sP,T,P,hr,h⟩:=h.Gz;have hl:=h.aL sP;have hpl:=hr.G9;refine Co hr h (λe=>?_) (λj v hj e=>?_)
 .rw[e]at hK
  refine h.a λd2 w2 h=>?_;refine az qb ?_;have h:=h.drop;refine h.aA U U λw h=>?_;refine h.aR U ?_;have h:Ow B w0 w (dv b m::aa d _::R):=Ow.gY hr h;exact hK w h.uN
 .rw[e]at hK hok2
  have hlt:=(List.getElem?_eq_some_iff.1 hj).1;refine h.a λd2 w2 h=>?_;refine aw om ⟨_,U,sP,h.aE U,?_⟩;refine h.cz (s:=sP) (i:=(j:O)) (j:=j) U hj λa ha h0 hc=>Ku (x:=(k,v)) hc ?_;have h:Ow B w0 w2 (af aK ⟨S d2.p,0,0⟩ []::_):=Ow.empty h;refine h.a λd3 w3 h=>?_;refine h.aA U U λw h=>?_;intro l23 hl23;have loop:∀(q i:X)(rest:Sl)(w:J),i+q=P.length->Ow B w0 w (af aK rest ((P.take i).eraseIdx j)::aa d3 [.z v.1,.z v.2]::aa b [bg sT,bg sP]::af iP sT T::af aK sP P::aa d [.z 0,.z 0]::R)->l23 rest (i:O) w:=by
   intro q;induction q with
   |zero=>
    intro i rest w hi h;apply hl23;rw[Lz om]at h;refine⟨_,U,sP,h.aE U,aw om ⟨_,U,h.fK U U λw h=>?_⟩⟩;refine h.aR U ?_;refine h.aA U U λw h=>?_;refine h.aR U ?_;have h2:Ow B w0 w (aa b [bg sT,rest.v]::af iP sT T::af aK rest (P.eraseIdx j)::R):=h.sub;refine hK w (Ow.gY (m:={ m with pg:=mr m.pg k}) (sT:=sT) (sP:=rest) ⟨hok2,?_,hr.nd,λi n=>hr.tb i n⟩ h2);have:=vP hr.pg hok.kg k;rw[(BZ (v:=v) hr.Lm hj).2]at this;exact this
   |succ q ih=>
    intro i rest w hi h;apply hl23;have hx:P[i]?=S P[i]:=gE om;have et:P.take (i+1)=P.take i++ [P[i]]:=by rw[LJ,hx];rfl
    have ei:qf.wrap ((i:O)+1)=((i+1:X):O):=by rw[wr om om];omega
    refine⟨_,U,sP,h.aE U,az om ?_⟩;rw[ei];refine oU (λe5=>?_) (λe5=>?_)
    .refine ⟨_,U,sP,h.aE U,?_⟩
     refine h.cz (s:=sP) (i:=(i:O)) (j:=i) U hx λa ha h0 hc=>rE hc ?_;refine h.a λd4 w4 h=>?_;have hln:((P.take i).eraseIdx j).length<=4096:=by have:=List.length_eraseIdx_le (P.take i) j;rw[LX]at this;omega
     refine jb (s:=rest) (ys:=(P.take i).eraseIdx j) (y:=P[i]) h om λs' w hs' h=>?_;refine ih (i+1) s' w om ?_;have e6:(P.take (i+1)).eraseIdx j=(P.take i).eraseIdx j++ [P[i]]:=by
      rw[et];by_cases e7:j<i
      .rw[List.eraseIdx_append_of_lt_length (by rw[LX];omega)]
      .rw[Ot (by rw[LC,LX];simp;omega),Ot (by rw[LX];omega)]
     rw[e6];exact h
    .refine ih (i+1) rest w om ?_
     have e8:i=j:=om
     have e6:(P.take (i+1)).eraseIdx j=(P.take i).eraseIdx j:=by rw[et,<-e8,List.eraseIdx_append_of_length_le (by rw[LX];omega),LX,Ms om,Nat.sub_self,Ot (show(P.take i).length<=i by rw[LX];omega)];simp
     rw[e6];exact h
  exact loop P.length 0 ⟨S d2.p,0,0⟩ w om h.cq
theorem mK{K:Sl->Pw}(h:Ow B w0 w (dv b m::R))(hK:∀s w',Ow B w0 w' (af aK s m.pg::dv b m::R)->K s w'):Qr b.o K w:=by
 apply ZW;obtain⟨sT,sP,T,P,hr,h⟩:=h.Gz;have hl:=h.aL sP;have hpl:=hr.G9;have hpe:=hr.pg.length_eq;refine h.a λd w1 h=>?_;have h:Ow B w0 w1 (af aK ⟨S d.p,0,0⟩ []::_):=Ow.empty h;intro l3 hl3;have hle:∀n:X,(m.pg.filter λx=>V (x.1<(n:O))).length<=m.pg.length:=λn=>L6 _ _;have loop:∀(j n:X)(out:Sl)(w:J),n+j=4096->Ow B w0 w (af aK out (m.pg.filter λx=>V (x.1<(n:O)))::aa b [bg sT,bg sP]::af iP sT T::af aK sP P::R)->l3 out (n:O) w:=by
  intro j;induction j with
  |zero=>
   intro n out w hn h;apply hl3;intro k7 hk7;rw[qm (show ¬(n:O)<4096 by omega)];refine bc U (hk7 _ _ (bc U ?_));have e:(m.pg.filter λx=>V (x.1<(n:O)))=m.pg:=Mv.2 λx hx=>by have:=hr.ok.sD x hx;simp;omega
   rw[e]at h;have h5:Ow B w0 w (dv b m::af aK out m.pg::R):=Ow.gY hr (h.sub:Ow B w0 w (aa b [bg sT,bg sP]::af iP sT T::af aK sP P::af aK out m.pg::R));exact hK out w h5.cq
  |succ j ih=>
   intro n out w hn h;apply hl3;intro k7 hk7;have hlo:=h.aL out;rw[qu (show(n:O)<4096 by omega)];refine bh U ⟨_,U,sP,h.aE U,?_⟩;by_cases hall:(m.pg.filter λx=>V (x.1<(n:O))).length=m.pg.length
   .rw[qm om]
    refine hk7 _ _ (bc U ?_);have e:(m.pg.filter λx=>V (x.1<(n:O)))=m.pg:=List.Sublist.eq_of_length NS hall;rw[e]at h;have h5:Ow B w0 w (dv b m::af aK out m.pg::R):=Ow.gY hr (h.sub:Ow B w0 w (aa b [bg sT,bg sP]::af iP sT T::af aK sP P::af aK out m.pg::R));exact hK out w h5.cq
   .have hlt:=hle n
    rw[qu om];refine hk7 _ _ (bh U ?_);intro l10 hl10;have hsm:∀k:X,((P.take k).filter λx=>x.1==(n:O)).length<=P.length:=λk=>by have:=L6 (λx:O × Pg=>x.1==(n:O)) (P.take k);rw[LX]at this;omega
    have loop2:∀(j k:X)(out:Sl)(w:J),k+j=P.length->Ow B w0 w (af aK out ((m.pg.filter λx=>V (x.1<(n:O)))++((P.take k).filter λx=>x.1==(n:O)))::aa b [bg sT,bg sP]::af iP sT T::af aK sP P::R)->l10 out (k:O) w:=by
     intro j;induction j with
     |zero=>
      intro k out w hk h;apply hl10;refine⟨_,U,sP,h.aE U,aw om ?_⟩;rw[wI n om];refine ih (n+1) out w om ?_;rw[Lz om]at h;have e1:(P.filter λx=>x.1==(n:O))=m.pg.filter λx=>x.1==(n:O):=by
       have hp:(P.filter λx=>x.1==(n:O)).Perm (m.pg.filter λx=>x.1==(n:O)):=hr.pg.filter _;cases hl:look m.pg (n:O)with
       |none=>
        have e2:(m.pg.filter λx=>x.1==(n:O))= []:=NA.2 λx hx=>by have:=dt.1 hl x hx;simpa using this
        rw[e2]at hp|-;exact hp.eq_nil
       |some v=>
        have e2:(m.pg.filter λx=>x.1==(n:O))= [((n:O),v)]:=p7 (hr.ok.kg.filter _) (by simp[kn]) λx=>by
         rw[LP,Mk];constructor
         .rintro ⟨h1,h2⟩
          exact hr.ok.kg.inj h1 (gv hl) (by simpa using h2)
         .intro h1;rw[h1];exact⟨gv hl,qc⟩
        rw[e2]at hp|-;exact hp.eq_singleton
      have e2:(m.pg.filter λx=>V (x.1<((n+1:X):O)))=(m.pg.filter λx=>V (x.1<(n:O)))++(m.pg.filter λx=>x.1==(n:O)):=by
       refine p7 (hr.ok.kg.filter _) (List.pairwise_append.2 ⟨hr.ok.kg.filter _,hr.ok.kg.filter _,λx hx y hy=>?_⟩) λx=>?_
       .obtain ⟨_,h1⟩:=LP.1 hx
        obtain⟨_,h2⟩:=LP.1 hy;simp only[qB]at h1;simp only[qH]at h2;omega
       .rw[Mm,LP,LP,LP]
        simp only[qB,qH];constructor
        .rintro ⟨h1,h2⟩
         by_cases e:x.1=(n:O)
         .exact .inr ⟨h1,e⟩
         .exact .inl ⟨h1,om⟩
        .rintro (h1|h1)
         .exact ⟨h1.1,om⟩
         .exact ⟨h1.1,om⟩
      rw[e2,<-e1];exact h
     |succ j ih2=>
      intro k out w hk h;apply hl10;have hx:P[k]?=S P[k]:=gE om;have et:P.take (k+1)=P.take k++ [P[k]]:=by rw[LJ,hx];rfl
      have ek:qf.wrap ((k:O)+1)=((k+1:X):O):=by rw[wr om om];omega
      refine⟨_,U,sP,h.aE U,az om ⟨_,U,sP,h.aE U,?_⟩⟩;rw[ek];refine h.cz (s:=sP) (i:=(k:O)) (j:=k) U hx λa ha h0 hc=>⟨_,h0 _ U,?_⟩
      refine dE (λe=>?_) (λe=>?_)
      .refine ⟨_,U,sP,h.aE U,?_⟩
       refine h.cz (s:=sP) (i:=(k:O)) (j:=k) U hx λa ha h0 hc=>rE hc ?_;refine h.a λd4 w4 h=>?_;have hb:=hsm k;refine jb (s:=out) (ys:=(m.pg.filter λx=>V (x.1<(n:O)))++((P.take k).filter λx=>x.1==(n:O))) (y:=P[k]) h (by rw[LC];omega) λs' w hs' h=>?_;refine ih2 (k+1) s' w om ?_;rw[et,Mi,Mc,qd (by simpa using e),M8,<-List.append_assoc];exact h
      .refine ih2 (k+1) out w om ?_
       rw[et,Mi,Mc,F (by simpa using e),M8,LQ];exact h
    refine loop2 P.length 0 out w om ?_;rw[MU,M8,LQ];exact h
 refine loop 4096 0 ⟨S d.p,0,0⟩ w1 om ?_;have e:(m.pg.filter λx=>V (x.1<((0:X):O)))= []:=NA.2 λx hx=>by have:=hr.ok.sD x hx;simp;omega
 rw[e];exact h
theorem xN{f:O}{K:Sl->Pw}(h:Ow B w0 w (dv b m::R))(hK:∀s w',Ow B w0 w' (af aq s (cy m.pg f)::dv b m::R)->K s w'):T4 b.o f K w:=by
 apply Z0;have ho:eZ m:=by obtain⟨_,_,_,_,hr,_⟩:=h.Gz;exact hr.ok
 have hlen:=ho.AY;refine mK h λs w h=>?_;have hl:=h.aL s;refine h.a λd w2 h=>?_;have h:Ow B w0 w2 (af aq ⟨S d.p,0,0⟩ []::_):=Ow.empty h;intro l5 hl5;have loop:∀(k t:X)(out:Sl)(w:J),t+k=m.pg.length->Ow B w0 w (af aq out (cy (m.pg.take t) f)::af aK s m.pg::dv b m::R)->l5 out (t:O) w:=by
  intro k;induction k with
  |zero=>
   intro t out w ht h;apply hl5;refine aw om ?_;rw[Lz om]at h;exact hK out w h.uN
  |succ k ih=>
   intro t out w ht h;apply hl5;refine az om ?_;have hx:m.pg[t]?=S m.pg[t]:=gE om;have e:cy (m.pg.take (t+1)) f=cy (m.pg.take t) f++(if m.pg[t].2.1=f then [m.pg[t].1]else []):=by
    unfold cy;rw[LJ,hx,Nj,Mi,LU];congr 1;by_cases e:m.pg[t].2.1=f
    .rw[qd e,Mc,qd (by simpa using e)];rfl
    .rw[F e,Mc,F (by simpa using e)];rfl
   rw[wI t om];refine h.cz (s:=s) (i:=(t:O)) (j:=t) U hx λa ha h0 hc=>⟨_,hc 1 _ U,?_⟩
   refine dE (λe2=>?_) (λe2=>?_)
   .rw[qd e2]at e
    refine h.cz (s:=s) (i:=(t:O)) (j:=t) U hx λa ha h0 hc=>⟨_,h0 _ U,?_⟩
    refine h.a λd3 w3 h=>?_;refine eo (s:=out) (ys:=cy (m.pg.take t) f) (y:=m.pg[t].1) h (by unfold cy;rw[L3];have:=L6 (λx:O × Pg=>x.2.1==f) (m.pg.take t);rw[LX]at this;omega) λs' w hs' h=>?_;refine ih (t+1) s' w om ?_;rw[e];exact h
   .rw[F e2,LQ]at e
    refine ih (t+1) out w om ?_;rw[e];exact h
 exact loop m.pg.length 0 ⟨S d.p,0,0⟩ w2 om h
theorem Jr{w:J}{a:qg}{x:O × O}{f:O->O->Prop}(g:∀c v,(iP.enc x)[c]?=S v->w.cell? (a.add c)=S v)(hf:f x.1 x.2):ax w a 0 [.o,.o] f:=
 ⟨_,g 0 _ U,_,g 1 _ U,hf⟩
theorem Bl{i:O}{K:Sl->O->Pw}(h:Ow B w0 w (dv b m::R))(hK:∀s w',Ow B w0 w' (af aK s (m.bw i).1::dv b (m.bw i).2.2::R)->K s (m.bw i).2.1 w'):T5 b.o i K w:=by
 apply Z4;have ho:eZ m:=by obtain⟨_,_,_,_,hr,_⟩:=h.Gz;exact hr.ok
 have hok:=ho.drop i;have hkl:=ho.AY;unfold dV.bw at hK hok;intro k3 hk3;have bad:¬(0<=i/\i<64)->k3 Z w:=λe=>by rw[qd e]at hK;exact hk3 _ _ (bh U (hK _ w (Ow.cZ h)))
 refine bo (λe=>bad λhh=>by omega) (λe1=>?_);by_cases e2:i>63
 .rw[qu e2];exact bad λhh=>by omega
 rw[qm e2];rw[F (λhh=>hh ⟨om,om⟩)]at hK hok;refine hk3 _ _ (bc U ?_);refine rS h ?_;have eat:m.at i=m.tb i.toNat:=by unfold dV.at;rw[F om]
 rw[eat];cases ht:m.tb i.toNat with
 |none=>
  rw[qd ht]at hK;exact bh U (hK _ w (Ow.cZ h))
 |some v0=>
  rw[F (by rw[ht];simp)]at hK hok;refine bc U ?_;refine mK h λs9 w h=>?_;have hl9:=h.aL s9;refine h.a λd1 w2 h=>?_;have h:Ow B w0 w2 (af aK ⟨S d1.p,0,0⟩ []::_):=Ow.empty h;refine h.a λd2 w3 h=>?_;have h:Ow B w0 w3 (af aK ⟨S d2.p,0,0⟩ []::_):=Ow.empty h;refine h.a λd3 w4 h=>?_;have h:Ow B w0 w4 (af iP ⟨S d3.p,0,0⟩ []::_):=Ow.empty h;have h:Ow B w0 w4 (dv b m::af iP ⟨S d3.p,0,0⟩ []::af aK ⟨S d2.p,0,0⟩ []::af aK ⟨S d1.p,0,0⟩ []::af aK s9 m.pg::R):=h.sub;obtain⟨sT,sP,T,P,hr,h⟩:=h.Gz;have hlT:=h.aL sT;have htl:=hr.IF;intro l14 hl14;have loop:∀(j q:X)(out rest:Sl)(w:J),q+j=m.pg.length->Ow B w0 w (af aK out (cE (m.pg.take q) i.toNat)::af aK rest ((m.pg.take q).filter λx=>x.1.toNat / 64 !=i.toNat)::af aK s9 m.pg::aa b [bg sT,bg sP]::af iP sT T::af iP ⟨S d3.p,0,0⟩ []::af aK sP P::R)->l14 out rest (q:O) w:=by
   intro j;induction j with
   |zero=>
    intro q out rest w hq h;apply hl14;refine aw om ?_;rw[Lz om]at h;intro l35 hl35;have loop2:∀(j k:X)(cB:Sl)(w:J),k+j=T.length->Ow B w0 w (af iP cB ((T.take k).filter λx=>x.1 !=i)::af aK out (cE m.pg i.toNat)::af aK rest (m.pg.filter λx=>x.1.toNat / 64 !=i.toNat)::aa b [bg sT,bg sP]::af iP sT T::af aK sP P::R)->l35 cB (k:O) w:=by
     intro j;induction j with
     |zero=>
      intro k cB w hk h;apply hl35;rw[Lz om]at h;refine⟨_,U,sT,h.aF U,aw om ⟨_,U,h.fK U U λw h=>?_⟩⟩;refine⟨_,U,h.jH U U λw h=>?_⟩;have h2:Ow B w0 w (aa b [cB.v,rest.v]::af iP cB (T.filter λx=>x.1 !=i)::af aK rest (m.pg.filter λx=>x.1.toNat / 64 !=i.toNat)::af aK out (cE m.pg i.toNat)::R):=h.sub;have h3:Ow B w0 w (dv b ⟨nM m.tb i.toNat N,m.pg.filter λx=>x.1.toNat / 64 !=i.toNat⟩::af aK out (cE m.pg i.toNat)::R):=Ow.gY (m:=⟨nM m.tb i.toNat N,m.pg.filter λx=>x.1.toNat / 64 !=i.toNat⟩) (sT:=cB) (sP:=rest) ⟨hok,List.Perm.refl _,hr.nd.sublist (List.filter_sublist.map _),λj n=>?_⟩ h2
      .exact hK out w h3.cq
      .have e9:=HE (m:=m) (j:=j) (v:=N) (show 0<=i by omega)
       have e10:(⟨nM m.tb i.toNat N,m.pg.filter λx=>x.1.toNat / 64 !=i.toNat⟩:dV).at j=(⟨nM m.tb i.toNat N,m.pg⟩:dV).at j:=rfl;rw[e10,e9,LP,hr.tb];by_cases e:j=i
       .rw[qd e];simp[e]
       .rw[F e];simp[e]
     |succ j ih2=>
      intro k cB w hk h;apply hl35;have hx:T[k]?=S T[k]:=gE om;have et:T.take (k+1)=T.take k++ [T[k]]:=by rw[LJ,hx];rfl
      have ek:qf.wrap ((k:O)+1)=((k+1:X):O):=by rw[wr om om];omega
      refine⟨_,U,sT,h.aF U,az om ⟨_,U,sT,h.aF U,?_⟩⟩;rw[ek];refine h.cz (s:=sT) (i:=(k:O)) (j:=k) U hx λa ha h0 hc=>⟨_,h0 _ U,?_⟩
      refine oU (λe=>?_) (λe=>?_)
      .refine ⟨_,U,sT,h.aF U,?_⟩
       refine h.cz (s:=sT) (i:=(k:O)) (j:=k) U hx λa ha h0 hc=>Jr hc ?_;refine h.a λd4 w4 h=>?_;refine yC (s:=cB) (ys:=(T.take k).filter λx=>x.1 !=i) (y:=T[k]) h (by have:=L6 (λx:O × O=>x.1 !=i) (T.take k);rw[LX]at this;omega) λs' w hs' h=>?_;refine ih2 (k+1) s' w om ?_;rw[et,Mi,Mc,qd (by simpa using e),M8];exact h
      .refine ih2 (k+1) cB w om ?_
       rw[et,Mi,Mc,F (by simpa using e),M8,LQ];exact h
    refine loop2 T.length 0 ⟨S d3.p,0,0⟩ w om ?_;rw[MU,M8];exact h.sub
   |succ j ihj=>
    intro q out rest w hq h;apply hl14;refine az om ?_;have hx:m.pg[q]?=S m.pg[q]:=gE om;have hb:=ho.sD m.pg[q] (Mq _);have et:m.pg.take (q+1)=m.pg.take q++ [m.pg[q]]:=by rw[LJ,hx];rfl
    refine h.cz (s:=s9) (i:=(q:O)) (j:=q) U hx λa ha h0 hc=>⟨_,h0 _ U,qb,?_⟩
    rw[I9 hb.1 hb.2.1,show qf.wrap ((q:O)+1)=((q+1:X):O)from by rw[wr om om];omega];refine dE (λe=>?_) (λe=>?_)
    .refine h.cz (s:=s9) (i:=(q:O)) (j:=q) U hx λa ha h0 hc=>rE hc ?_
     refine h.a λd w2 h=>?_;refine jb (s:=out) (ys:=cE (m.pg.take q) i.toNat) (y:=m.pg[q]) h (by have:=L6 (λx:O × Pg=>x.1.toNat / 64==i.toNat) (m.pg.take q);rw[LX]at this;unfold cE;omega) λs' w hs' h=>?_;refine ihj (q+1) s' rest w om ?_;have e4:cE (m.pg.take (q+1)) i.toNat=cE (m.pg.take q) i.toNat++ [m.pg[q]]:=by rw[et];unfold cE;rw[Mi,Mc,qd (by simp;omega)];rfl
     have e5:((m.pg.take (q+1)).filter λx=>x.1.toNat / 64 !=i.toNat)=(m.pg.take q).filter λx=>x.1.toNat / 64 !=i.toNat:=by rw[et,Mi,Mc,F (by simp;omega)];simp
     rw[e4,e5];exact h
    .refine h.cz (s:=s9) (i:=(q:O)) (j:=q) U hx λa ha h0 hc=>rE hc ?_
     refine h.a λd w2 h=>?_;refine jb (s:=rest) (ys:=(m.pg.take q).filter λx=>x.1.toNat / 64 !=i.toNat) (y:=m.pg[q]) h (by have:=L6 (λx:O × Pg=>x.1.toNat / 64 !=i.toNat) (m.pg.take q);rw[LX]at this;omega) λs' w hs' h=>?_;refine ihj (q+1) out s' w om ?_;have e4:cE (m.pg.take (q+1)) i.toNat=cE (m.pg.take q) i.toNat:=by rw[et];unfold cE;rw[Mi,Mc,F (by simp;omega)];simp
     have e5:((m.pg.take (q+1)).filter λx=>x.1.toNat / 64 !=i.toNat)=((m.pg.take q).filter λx=>x.1.toNat / 64 !=i.toNat)++ [m.pg[q]]:=by rw[et,Mi,Mc,qd (by simp;omega)];rfl
     rw[e4,e5];exact h.sub
  refine loop m.pg.length 0 ⟨S d1.p,0,0⟩ ⟨S d2.p,0,0⟩ w4 om ?_;rw[MU,M8,show cE ([]:fA) i.toNat= []from U];exact h.sub
def nL(tb:X->qh O)(t:X):X->qh O:=λj=>if j<t then tb j else N
theorem zS{tb:X->qh O}{t:X}:nM (nL tb t) t (tb t)=nL tb (t+1):=by
 funext j;unfold nM nL;by_cases e:j=t
 .rw[qd e,qd om,e]
 .rw[F e]
  by_cases e2:j<t
  .rw[qd e2,qd om]
  .rw[F e2,F om]
theorem CG{K:qh qg->Pw}(h:Ow B w0 w (bC b m::R))(hK:∀b' w',Ow B w0 w' (bC b' m::bC b m::R)->K b'.o w'):SQ b.o K w:=by
 apply XL;obtain⟨mb,M,ho,hM,h⟩:=h.Hl;refine h.a λd w1 h=>?_;refine⟨_,U,⟨(gi m.tb mb).flatMap ig.enc⟩,pz,λi hi=>?_,?_⟩
 .have hb:=h.vn 1 U
  rw[aI,hb.cell,LF];simp
 have h:Ow B w0 w1 (aa d ((gi (nL m.tb 0) λ_=>0).flatMap ig.enc)::((LA 64).map (cM (nL m.tb 0) (λ_=>0) M)++(aa b ((gi m.tb mb).flatMap ig.enc)::((LA 64).map (cM m.tb mb M)++R)))):=by
  have e:(LA 64).map (cM (nL m.tb 0) (λ_=>0) M)=Ly 64 (dh I):=rfl;rw[e];have pures:∀(n:X)(A:aH)(R:Y aH),Ow B w0 w1 (A::R)->Ow B w0 w1 (A::(Ly n (dh I)++R)):=λn=>by
   induction n with
   |zero=>intro A R h;exact h
   |succ n ih=>
    intro A R h;have h2:Ow B w0 w1 (dh I::A::(Ly n (dh I)++R)):=Ow.cT trivial (ih A R h);exact h2.perm (List.Perm.swap _ _ _)
  exact pures 64 _ _ h
 intro l6 hl6;have loop:∀(k t:X)(mb2:X->X)(w:J),t+k=64->Ow B w0 w (aa d ((gi (nL m.tb t) mb2).flatMap ig.enc)::((LA 64).map (cM (nL m.tb t) mb2 M)++(aa b ((gi m.tb mb).flatMap ig.enc)::((LA 64).map (cM m.tb mb M)++R))))->l6 (t:O) w:=by
  intro k;induction k with
  |zero=>
   intro t mb2 w ht h;obtain rfl:t=64:=om
   apply hl6;refine aw om ?_;have e:nL m.tb 64=m.tb:=by
    funext j;unfold nL;by_cases e:j<64
    .rw[qd e]
    .rw[F e]
     cases e2:m.tb j with
     |none=>rfl
     |some v=>have:=ho.eC j (by rw[e2];rfl);omega
   rw[e]at h;have p1:List.Perm (aa d ((gi m.tb mb2).flatMap ig.enc)::((LA 64).map (cM m.tb mb2 M)++(aa b ((gi m.tb mb).flatMap ig.enc)::((LA 64).map (cM m.tb mb M)++R)))) (aa b ((gi m.tb mb).flatMap ig.enc)::((LA 64).map (cM m.tb mb M)++(aa d ((gi m.tb mb2).flatMap ig.enc)::((LA 64).map (cM m.tb mb2 M)++R)))):=
    List.perm_append_comm_assoc (aa d ((gi m.tb mb2).flatMap ig.enc)::(LA 64).map (cM m.tb mb2 M)) (aa b ((gi m.tb mb).flatMap ig.enc)::(LA 64).map (cM m.tb mb M)) R
   have h2:Ow B w0 w (bC b m::(aa d ((gi m.tb mb2).flatMap ig.enc)::((LA 64).map (cM m.tb mb2 M)++R))):=Ow.fo ho hM (h.perm p1);have h3:Ow B w0 w (aa d ((gi m.tb mb2).flatMap ig.enc)::((LA 64).map (cM m.tb mb2 M)++(bC b m::R))):=by refine h2.perm ?_;exact(Ml (a:=bC b m) (l₁:=aa d ((gi m.tb mb2).flatMap ig.enc)::(LA 64).map (cM m.tb mb2 M)) (l₂:=R)).symm
   exact hK d w (Ow.fo ho hM h3)
  |succ k ih=>
   intro t mb2 w ht h;apply hl6;have htq:t<64:=om
   refine az om ⟨om,om,(m.tb t).getD 0,?_,(m.tb t).map λ_=>mb t,?_,?_⟩
   .rw[Lw,NB]
    simpa using yd (tb:=m.tb) (mb:=mb) htq
   .rw[Lw]
    simpa using ye (tb:=m.tb) (mb:=mb) htq
   refine h.a λg w2 h=>?_;refine h.aA U U λw h=>?_;refine h.dr λw h=>?_;refine⟨_,h.aE U,_,U,_,h.aF U,Go.Vc.a2 ?_⟩;have et:qf.wrap ((t:O)+1)=((t+1:X):O):=by rw[wr om om];omega
   have ht0:nL m.tb t t=none:=by unfold nL;rw[F om]
   have hpure:cM (nL m.tb t) mb2 M t=dh I:=by unfold cM;rw[F (by rw[ht0];simp)]
   have hble:Nat.ble (t*2+2) ((gi (nL m.tb t) mb2).flatMap ig.enc).length=true:=by apply OQ;rw[pz];omega
   have tabsEq:∀(r:X)(A:aH),A=cM (nL m.tb (t+1)) (λj=>if j=t then r else mb2 j) M t->∀j,j<64->cM (nL m.tb (t+1)) (λj=>if j=t then r else mb2 j) M j=if j=t then A else cM (nL m.tb t) mb2 M j:=λr A hA j hj=>by
    by_cases e:j=t
    .rw[qd e,hA,e]
    .rw[F e]
     have e1:nL m.tb (t+1) j=nL m.tb t j:=by
      unfold nL;by_cases e2:j<t
      .rw[qd e2,qd om]
      .rw[F e2,F om]
     unfold cM;rw[e1];simp only[F e]
   cases htb:m.tb t with
   |none=>
    refine CD ?_;refine⟨h.aF (by rw[htb];rfl),om,om,Go.Vc.a2 ?_⟩;rw[Lw,Ev];refine Ow.Eh (o:=t*2) h 1 U hble U λw h=>?_;have e1:=xL (tb:=nL m.tb t) (mb:=mb2) htq N 0;have e1:putAt ((gi (nL m.tb t) mb2).flatMap ig.enc) (t*2) [.z 0,.map N]=_:=e1;have h2:Ow B w0 w (aa d (putAt ((gi (nL m.tb t) mb2).flatMap ig.enc) (t*2) [.z 0,.map N])::((LA 64).map (cM (nL m.tb t) mb2 M)++(aa b ((gi m.tb mb).flatMap ig.enc)::((LA 64).map (cM m.tb mb M)++R)))):=h.drop;rw[e1,<-htb,zS]at h2;rw[et];refine ih (t+1) (λj=>if j=t then 0 else mb2 j) w om ?_;have h3:=pG (abo:=dh I) (i:=t+1) (Ow.cT trivial h2) (fw htq _);rw[mX (g:=cM (nL m.tb (t+1)) (λj=>if j=t then 0 else mb2 j) M) htq (tabsEq 0 _ (by unfold cM nL;rw[F (by rw[qd om,htb];simp)]))]at h3;exact h3
   |some v=>
    have hidx:(aa g [.z ((m.tb t).getD 0),.map ((m.tb t).map λ_=>mb t)]::aa d ((gi (nL m.tb t) mb2).flatMap ig.enc)::((LA 64).map (cM (nL m.tb t) mb2 M)++(aa b ((gi m.tb mb).flatMap ig.enc)::((LA 64).map (cM m.tb mb M)++R))))[t+67]?=S (DA (mb t) (M t)):=by rw[LG,LG,List.getElem?_append_right qc,L3,List.length_range,show t+65-64=t+1 from by omega,fw htq];unfold cM;rw[qd (by rw[htb];rfl)]
    refine Ej (mb:=mb t) (M:=M t) h (t+67) hidx λm' w h=>?_;refine⟨h.aF (by rw[htb];rfl),om,om,Go.Vc.a2 ?_⟩;rw[Lw,Ev];refine Ow.Eh (o:=t*2) h 2 U hble U λw h=>?_;have e1:=xL (tb:=nL m.tb t) (mb:=mb2) htq (S v) m';have h2:Ow B w0 w (DA m' (M t)::aa g _::aa d (putAt ((gi (nL m.tb t) mb2).flatMap ig.enc) (t*2) [.z ((S v).getD 0),.map (S m')])::((LA 64).map (cM (nL m.tb t) mb2 M)++(aa b ((gi m.tb mb).flatMap ig.enc)::((LA 64).map (cM m.tb mb M)++R)))):=h;have h2:=h2.uN;have e1:putAt ((gi (nL m.tb t) mb2).flatMap ig.enc) (t*2) [.z ((S v).getD 0),.map (S m')]=_:=e1;rw[e1,<-htb,zS]at h2;rw[et];refine ih (t+1) (λj=>if j=t then m' else mb2 j) w om ?_;have h3:=pG (abo:=DA m' (M t)) (i:=t+1) h2 (fw htq _);rw[mX (g:=cM (nL m.tb (t+1)) (λj=>if j=t then m' else mb2 j) M) htq (tabsEq m' _ (by unfold cM nL;rw[qd (by rw[qd om,htb];rfl)];show DA m' (M t)=DA (if t=t then m' else mb2 t) (M t);rw[qd U]))]at h3;exact h3
 exact loop 64 0 (λ_=>0) w1 om h
end
end Tb
end Go.Vc
