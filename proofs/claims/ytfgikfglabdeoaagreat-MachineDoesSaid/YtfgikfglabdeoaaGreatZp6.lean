/- What the row rests on: the declarations that it needs, out of my texts (part 6). -/
import Derived.Test.YtfgikfglabdeoaaGreatZp5
import Derived.Ground.GgzProg
import Derived.Ground.SlgmProg
import Derived.Ground.SlmcProg
import Derived.Ground.SlsfProg
import Derived.Shelf.SlIterI.Nil
import Derived.Shelf.SlMaps.Clone
import Derived.Shelf.SlSortCmp.NoneTotal
import Derived.Shelf.SortM.Plain
import Derived.Shelf.SortM.SortNone
open Bool renaming false->qd,true->G
open Decidable renaming decide->qe
open Go renaming Addr->qf,Program->qo,TypeId->qi,Value->V,World->W,zeroValue->qK
open Go.IntKind renaming i64->qj,u64->qA
open Go.Proofs.Tryz renaming isAgg0->akj,isAgg3->aj9,isAgg4->akc,prog->qh,sizeOf0->akk,sizeOf22->akr,sizeOf3->aka,sizeOf4->akd,t204->qZ,t3->qI,t410->akt,underlying0->aki,underlying115->akP,underlying124->aj8,underlying22->qJ,underlying232->qR,underlying238->qX,underlying3->qC,underlying367->akM,underlying4->akb,underlying425->akQ,underlying442->akV,underlying509->akN,underlying510->akO,underlying524->akR,underlying528->akS,underlying535->akT,underlying536->akU,zeroValue0->akl,zeroValue22->aks,zeroValue3->qU,zeroValue4->ake
open Option renaming none->Q,some->X
open _root_ renaming Bool->I,DecidableEq->qS,False->qm,Int->U,List->J,Nat->S,Option->qg,True->qu,absurd->qk,beq_iff_eq->qN,congrArg->qz,decide_eq_false->ql,decide_eq_true->qp,decide_eq_true_eq->qF,if_false->qB,if_neg->Y,if_pos->Z,if_true->qE,or_false->qG,rfl->O
open Go.Proofs.Tryz
open Bool renaming false_eq_true->SX
open Int renaming eq_ofNat_of_zero_le->SI,toNat_natCast->SD
open List renaming any_eq_true->TY,append_nil->SL,eraseIdx_of_length_le->VJ,ext_getElem?->Td,filter_append->Tm,filter_cons->Tk,filter_eq_nil_iff->Us,filter_eq_self->TF,filter_nil->Uk,filter_sublist->Vb,flatMap_append->Tp,getElem?_cons_succ->SR,getElem?_eq_none->SZ,getElem?_eq_some_iff->Sz,getElem?_map->S2,getElem?_range->TT,getElem?_set->To,getElem_mem->Tq,length_append->SG,length_cons->SJ,length_filter_le->S3,length_map->S9,length_take->SN,map->Xv,map_append->S0,map_cons->S7,map_map->Ux,mem_append->Tv,mem_cons->SH,mem_filter->SV,mem_map->Tj,mem_range->T6,mem_singleton->Tf,nodup_cons->Tx,not_mem_nil->TE,perm_middle->Tw,range->SF,range_succ->UG,replicate->SB,set_cons_succ->S1,take_add_one->SO,take_of_length_le->SE,take_zero->TZ
open Nat renaming add_zero->UD,ble_eq_true_of_le->Wc,le_trans->SY,lt_of_le_of_lt->Vh,min_eq_left->TL,mod_eq_of_lt->Tn,two_pow_pos->TW,zero_add->SS
open Option renaming map_some->TM,toList_some->Ur
set_option maxRecDepth 100000
set_option maxHeartbeats 4000000
set_option linter.all false
section
open Go.Shelf
namespace Go.Proofs
def Tryz.zt:Go.Shelf.Ren:=⟨λ|6=>328|15=>386|14=>385|28=>429|29=>322|20=>421|21=>422|22=>423|23=>424|24=>425|25=>426|26=>427|27=>428|46=>439|47=>440|48=>441|49=>442|50=>443|57=>454|n=>n,λ|22=>124|24=>155|25=>388|3=>3|39=>367|0=>0|53=>425|55=>39|4=>4|46=>510|45=>509|50=>115|5=>5|9=>9|66=>524|70=>528|76=>535|77=>536|n=>n,λ|n=>n⟩
theorem Tryz.AO:Go.Proofs.SlLaysF0.n6 qh Tryz.zt:={
 mixed:=qa
 f6:=⟨Tryz.f328.name,qb,func328.k⟩
 f14:=⟨Tryz.f385.name,qb,func385.k⟩
 f15:=func386.k
 f20:=⟨Tryz.f421.name,qb,func421.k⟩
 f21:=⟨Tryz.f422.name,qb,func422.k⟩
 f22:=⟨Tryz.f423.name,qb,func423.k⟩
 f23:=⟨Tryz.f424.name,qb,func424.k⟩
 f24:=⟨Tryz.f425.name,qb,func425.k⟩
 f25:=⟨Tryz.f426.name,qb,func426.k⟩
 f26:=⟨Tryz.f427.name,qb,func427.k⟩
 f27:=⟨Tryz.f428.name,qb,func428.k⟩
 f28:=func429.k
 f29:=func322.k
 f46:=⟨Tryz.f439.name,qb,func439.k⟩
 f47:=func440.k
 f48:=func441.k
 f49:=⟨Tryz.f442.name,qb,func442.k⟩
 f50:=⟨Tryz.f443.name,qb,func443.k⟩
 f57:=⟨Tryz.f454.name,qb,func454.k⟩
 t0:=aki
 a0:=akj
 z0:=akk
 v0:=akl
 t3:=qC
 a3:=aj9
 z3:=aka
 v3:=qU
 t4:=akb
 a4:=akc
 z4:=akd
 v4:=ake
 t5:=underlying5
 a5:=isAgg5
 z5:=sizeOf5
 v5:=zeroValue5
 t9:=underlying9
 a9:=isAgg9
 z9:=sizeOf9
 v9:=zeroValue9
 t22:=aj8
 a22:=isAgg124
 z22:=sizeOf124
 v22:=zeroValue124
 t25:=underlying388
 a25:=isAgg388
 z25:=sizeOf388
 v25:=zeroValue388
 t39:=akM
 a39:=isAgg367
 z39:=sizeOf367
 v39:=zeroValue367
 t45:=akN
 a45:=isAgg509
 z45:=sizeOf509
 v45:=zeroValue509
 t46:=akO
 a46:=isAgg510
 z46:=sizeOf510
 v46:=zeroValue510
 t50:=akP
 a50:=isAgg115
 z50:=sizeOf115
 v50:=zeroValue115
 t53:=akQ
 a53:=isAgg425
 z53:=sizeOf425
 v53:=zeroValue425
 t55:=underlying39
 a55:=isAgg39
 z55:=sizeOf39
 v55:=zeroValue39
 t66:=akR
 a66:=isAgg524
 z66:=sizeOf524
 v66:=zeroValue524
 t70:=akS
 a70:=isAgg528
 z70:=sizeOf528
 v70:=zeroValue528
 t76:=akT
 a76:=isAgg535
 z76:=sizeOf535
 v76:=zeroValue535
 t77:=akU
 a77:=isAgg536
 z77:=sizeOf536
 v77:=zeroValue536}
def Tryz.uH:Go.Shelf.Ren:=⟨λ|7=>333|10=>390|n=>n,λ|23=>238|26=>3|3=>70|28=>442|0=>0|27=>441|33=>47|4=>4|n=>n,λ|n=>n⟩
theorem Tryz.GA:Go.Proofs.SlLaysZI.n7 qh Tryz.uH:={
 mixed:=qa
 f7:=⟨Tryz.f333.name,qb,func333.k⟩
 f10:=⟨Tryz.f390.name,qb,func390.k⟩
 t0:=aki
 a0:=akj
 z0:=akk
 v0:=akl
 t4:=akb
 a4:=akc
 z4:=akd
 v4:=ake
 t23:=qX
 a23:=isAgg238
 z23:=sizeOf238
 v23:=zeroValue238
 t26:=qC
 a26:=aj9
 z26:=aka
 v26:=qU
 t27:=underlying441
 a27:=isAgg441
 z27:=sizeOf441
 v27:=zeroValue441
 t28:=akV
 a28:=isAgg442
 z28:=sizeOf442
 v28:=zeroValue442
 t33:=underlying47
 a33:=isAgg47
 z33:=sizeOf47
 v33:=zeroValue47}
def Tryz.vL:Go.Shelf.Ren:=⟨λ|6=>332|8=>388|9=>389|11=>430|13=>386|12=>431|23=>429|24=>322|14=>444|15=>445|16=>446|17=>447|18=>448|19=>449|20=>450|21=>451|22=>452|25=>455|26=>440|27=>441|28=>456|29=>457|30=>387|31=>459|n=>n,λ|26=>3|28=>442|24=>22|0=>0|3=>3|37=>367|48=>425|50=>39|4=>4|40=>510|39=>509|45=>115|5=>5|9=>9|51=>524|55=>528|57=>535|58=>536|33=>47|n=>n,λ|n=>n⟩
theorem Tryz.GX:Go.Proofs.SlLaysZI.n6 qh Tryz.vL:={
 mixed:=qa
 f6:=⟨Tryz.f332.name,qb,func332.k⟩
 f8:=⟨Tryz.f388.name,qb,func388.k⟩
 f11:=⟨Tryz.f430.name,qb,func430.k⟩
 t0:=aki
 a0:=akj
 z0:=akk
 v0:=akl
 t24:=qJ
 a24:=isAgg22
 z24:=akr
 v24:=aks
 t26:=qC
 a26:=aj9
 z26:=aka
 v26:=qU
 t28:=akV
 a28:=isAgg442
 z28:=sizeOf442
 v28:=zeroValue442
 i26:=by kernel_rfl}
def Tryz.IQ:Go.Shelf.Ren:=⟨λ|5=>389|8=>386|7=>431|19=>429|20=>322|10=>444|11=>445|12=>446|13=>447|14=>448|15=>449|16=>450|17=>451|18=>452|30=>455|31=>440|32=>441|33=>456|34=>457|35=>387|40=>459|n=>n,λ|23=>22|25=>3|3=>3|32=>367|22=>22|0=>0|44=>425|46=>39|4=>4|36=>510|35=>509|41=>115|5=>5|9=>9|53=>524|57=>528|63=>535|64=>536|n=>n,λ|n=>n⟩
theorem Tryz.NO:Go.Proofs.SlLaysM.n5 qh Tryz.IQ:={
 mixed:=qa
 f5:=⟨Tryz.f389.name,qb,func389.k⟩
 f7:=⟨Tryz.f431.name,qb,func431.k⟩
 f8:=func386.k
 f10:=⟨Tryz.f444.name,qb,func444.k⟩
 f11:=⟨Tryz.f445.name,qb,func445.k⟩
 f12:=⟨Tryz.f446.name,qb,func446.k⟩
 f13:=⟨Tryz.f447.name,qb,func447.k⟩
 f14:=⟨Tryz.f448.name,qb,func448.k⟩
 f15:=⟨Tryz.f449.name,qb,func449.k⟩
 f16:=⟨Tryz.f450.name,qb,func450.k⟩
 f17:=⟨Tryz.f451.name,qb,func451.k⟩
 f18:=⟨Tryz.f452.name,qb,func452.k⟩
 f19:=func429.k
 f20:=func322.k
 f30:=⟨Tryz.f455.name,qb,func455.k⟩
 f31:=func440.k
 f32:=func441.k
 f33:=⟨Tryz.f456.name,qb,func456.k⟩
 f34:=⟨Tryz.f457.name,qb,func457.k⟩
 f35:=⟨Tryz.f387.name,qb,func387.k⟩
 f40:=⟨Tryz.f459.name,qb,func459.k⟩
 t0:=aki
 a0:=akj
 z0:=akk
 v0:=akl
 t3:=qC
 a3:=aj9
 z3:=aka
 v3:=qU
 t4:=akb
 a4:=akc
 z4:=akd
 v4:=ake
 t5:=underlying5
 a5:=isAgg5
 z5:=sizeOf5
 v5:=zeroValue5
 t9:=underlying9
 a9:=isAgg9
 z9:=sizeOf9
 v9:=zeroValue9
 t22:=qJ
 a22:=isAgg22
 z22:=akr
 v22:=aks
 t23:=qJ
 a23:=isAgg22
 z23:=akr
 v23:=aks
 t25:=qC
 a25:=aj9
 z25:=aka
 v25:=qU
 t32:=akM
 a32:=isAgg367
 z32:=sizeOf367
 v32:=zeroValue367
 t35:=akN
 a35:=isAgg509
 z35:=sizeOf509
 v35:=zeroValue509
 t36:=akO
 a36:=isAgg510
 z36:=sizeOf510
 v36:=zeroValue510
 t41:=akP
 a41:=isAgg115
 z41:=sizeOf115
 v41:=zeroValue115
 t44:=akQ
 a44:=isAgg425
 z44:=sizeOf425
 v44:=zeroValue425
 t46:=underlying39
 a46:=isAgg39
 z46:=sizeOf39
 v46:=zeroValue39
 t53:=akR
 a53:=isAgg524
 z53:=sizeOf524
 v53:=zeroValue524
 t57:=akS
 a57:=isAgg528
 z57:=sizeOf528
 v57:=zeroValue528
 t63:=akT
 a63:=isAgg535
 z63:=sizeOf535
 v63:=zeroValue535
 t64:=akU
 a64:=isAgg536
 z64:=sizeOf536
 v64:=zeroValue536}
def Tryz.EP:Go.Shelf.Ren:=⟨λ|5=>205|7=>296|n=>n,λ|23=>238|25=>3|3=>70|4=>4|20=>20|n=>n,λ|n=>n⟩
theorem Tryz.JP:Go.Proofs.SlLaysW.n5 qh Tryz.EP:={
 mixed:=qa
 f5:=⟨Tryz.f205.name,qb,func205.k⟩
 f7:=func296.k
 t4:=akb
 a4:=akc
 z4:=akd
 v4:=ake
 t20:=underlying20
 a20:=isAgg20
 z20:=sizeOf20
 v20:=zeroValue20
 t23:=qX
 a23:=isAgg238
 z23:=sizeOf238
 v23:=zeroValue238}
def Tryz.ER:Go.Shelf.Ren:=⟨λ|5=>199|7=>296|n=>n,λ|23=>232|25=>155|3=>157|4=>4|20=>20|n=>n,λ|n=>n⟩
theorem Tryz.NX:Go.Proofs.SlLaysW.n5 qh Tryz.ER:={
 mixed:=qa
 f5:=⟨Tryz.f199.name,qb,func199.k⟩
 f7:=func296.k
 t4:=akb
 a4:=akc
 z4:=akd
 v4:=ake
 t20:=underlying20
 a20:=isAgg20
 z20:=sizeOf20
 v20:=zeroValue20
 t23:=qR
 a23:=isAgg232
 z23:=sizeOf232
 v23:=zeroValue232}
end Go.Proofs
end
namespace Go.Vc
open Go.Proofs
open Go.WideElems (Fit rd rg pl)
namespace Tb
theorem H2{P:qo}{k:qi}(hk:P.underlying k=X (.int .i64)){alb:Type}{encV:alb->V}{w:W}{m:S}{M:J (U × alb)}(h:lJ (Value.int .i64) encV w m M)(hwf:∀x∈M,(Lit.int .i64 x.1).wf=G)(hsz:M.length<=maxLen):
  ∃D0:DataW Unit,w.ownsMap P k (λ_=>X (.nil,[])) m M.length D0/\(intKeys D0).Perm (M.map (·.1))/\Maps.size D0=M.length:=by
 obtain⟨es,c,hb,hmap,hborn,hlt⟩:=h.ex;have hlen:es.toList.length=M.length:=by have:=qz List.length hmap;simpa using this
 have hkeys:es.toList.map (·.key)=M.map (λp=>Value.int .i64 p.1):=by have:=qz (Xv (·.1)) hmap;rw[Ux,Ux]at this;exact this
 have hread:∀x∈es.toList,∃a:U,x.key= .int .i64 a/\(Lit.int .i64 a).wf=true:=λx hx=>by have:x.key∈es.toList.map (·.key):=Tj.2 ⟨x,hx,O⟩;rw[hkeys]at this;obtain⟨p,hp,e⟩:=Tj.1 this;exact⟨p.1,e.symm,hwf p hp⟩
 have hrd:∀x∈es.toList,∀a:U,x.key= .int .i64 a->(Lit.int .i64 a).wf=G->rd (H:=Unit) P k (λ_=>X (.nil,[])) x=X (.int .i64 a,.nil):=λx hx a e hw=>by
  have hko:keyOf P k x.key=X (.int .i64 a):=by unfold keyOf mapKey;rw[hk,e];simp[hw]
  unfold rd;rw[hko];rfl
 refine⟨.map ((es.toList.map (rg P k λ_=>X (.nil,[]))).foldr DataW.insert []),⟨es,c,hb,⟨?_,⟨hlt,hborn,?_⟩,λx hx=>?_⟩,?_,O⟩,?_,?_⟩
 .have:es.size=M.length:=by simpa using hlen
  rw[this];exact hsz
 .rw[hkeys]
  have:M.map (λp=>Value.int .i64 p.1)=(M.map (·.1)).map (Value.int .i64):=by rw[Ux];rfl
  rw[this];exact List.Pairwise.map _ (λa b hab e=>hab (by cases e;rfl)) h.nodup
 .obtain ⟨a,e,hw⟩:=hread x hx
  exact⟨_,hrd x hx a e hw⟩
 .have:es.size=M.length:=by simpa using hlen
  omega
 .show (((es.toList.map (rg P k λ_=>X (.nil,[]))).foldr DataW.insert []).map λp=>_root_.Go.intOf p.1).Perm _
  refine((Go.WideShapes.sorted_perm _).map _).trans ?_;rw[Ux];have:es.toList.map ((λp:Lit × DataW Unit=>_root_.Go.intOf p.1)∘rg P k λ_=>X (.nil,[]))=M.map (·.1):=by
   have e1:es.toList.map ((λp:Lit × DataW Unit=>_root_.Go.intOf p.1)∘rg P k λ_=>X (.nil,[]))=es.toList.map (λx=>match x.key with| .int _ a=>a|_=>0):=by
    refine List.map_congr_left λx hx=>?_;obtain⟨a,e,hw⟩:=hread x hx;show _root_.Go.intOf (rg P k _ x).1=_;unfold rg;rw[hrd x hx a e hw,e];rfl
   rw[e1];have e2:=qz (Xv λv:V=>match v with| .int _ a=>a|_=>(0:U)) hkeys;rw[Ux,Ux]at e2;exact e2
  rw[this]
 .show ((es.toList.map (rg P k λ_=>X (.nil,[]))).foldr DataW.insert []).length=_
  rw[(Go.WideShapes.sorted_perm _).length_eq,S9];exact hlen
theorem vC{B:S}{w0 w w':W}{R:J aG}{t:qi}{v:V}{xs:J U}(h:Ow B w0 w R)(hb:RowKit.Below w.heap.size w w')(hr:w'.ownsRow w.heap.size t 1 v xs.length (xs.map (Value.int .i64))):
  ∃s:Sl,v= s.v/\Ow B w0 w' (ag ax s xs::R):=by
 have hu:iA No w w':=⟨hb.os,hb.tape,hb.output,hb.size,λk hk _=>hb.block k hk⟩
 have hfl:xs.flatMap ax.enc=xs.map (Value.int .i64):=by
  clear hr;induction xs with
  |nil=>rfl
  |cons x xs ih=>rw[List.flatMap_cons,ih];rfl
 rcases hr.2 with⟨rfl,hz⟩|⟨g,cap,cur,rfl,hbase,hgb,r1,r2,r3,r4⟩
 .have:xs= []:=List.eq_nil_of_length_eq_zero hz
  subst this;exact⟨z0,O,(h.same hu).cB⟩
 .refine ⟨⟨X g.p,xs.length,cap⟩,O,h.new (A':=ag ax ⟨X g.p,xs.length,cap⟩ xs) (G':=λk=>k=g) hu ⟨λa ha=>?_,O,?_⟩ λk e=>?_⟩
  .cases ha;rfl
  .refine .mk g 0 cur.toList O ⟨t,hgb⟩ r1 ?_ ?_
   .show 0+cap*1<=cur.toList.length
    rw[Array.length_toList];omega
   .rw[hfl,List.drop_zero];exact r4.symm
  .subst e
   exact⟨hbase,(Array.getElem?_eq_some_iff.1 hgb).1⟩
end Tb
end Go.Vc
namespace Go.Vc
open Go.Proofs
namespace Tb
section
variable{B:S}{w0 w:W}{R L:J aG}{b:S}{m:dS}
def OB(p:Pg):V:= .agg #[.z p.1,.z p.2]
def jy:dX (qg (U × S)):=⟨2,λo=>[.z ((o.map (·.1)).getD 0),.map (o.map (·.2))],λ_=>rfl,λx v h=>by simp only[SH,TE,qG]at h;rcases h with rfl|rfl<;>rfl,qb⟩
def aP:dX (U × Pg):=⟨3,λo=>[.z o.1,.z o.2.1,.z o.2.2],λ_=>rfl,λx v h=>by simp only[SH,TE,qG]at h;rcases h with rfl|rfl|rfl<;>rfl,qb⟩
abbrev Ig(m:S)(M:gh):aG:=mw (Value.int .i64) OB m M
def iy(tb:S->qg U)(mb:S->S):J (qg (U × S)):=(SF 64).map λi=>(tb i).map λn=>(n,mb i)
def dA(tb:S->qg U)(mb:S->S)(M:S->gh)(i:S):aG:=if(tb i).isSome=G then Ig (mb i) (M i)else dw qu
def bP(b:S)(m:dS):aG:=oA λx:(S->S)×(S->gh)=>aQ (dw (fV m/\∀i,(x.2 i).Perm (dt m.pg i))::ae b ((iy m.tb x.1).flatMap jy.enc)::(SF 64).map (dA m.tb x.1 x.2))
theorem _root_.Go.Vc.Ow.M8(h:Ow B w0 w (bP b m::R)):∃(mb:S->S)(M:S->gh),fV m/\(∀i,(M i).Perm (dt m.pg i))/\Ow B w0 w (ae b ((iy m.tb mb).flatMap jy.enc)::((SF 64).map (dA m.tb mb M)++R)):=by obtain⟨⟨mb,M⟩,h⟩:=h.ex;obtain⟨⟨h1,h2⟩,h⟩:=Ow.pure h.star;exact⟨mb,M,h1,h2,h⟩
theorem _root_.Go.Vc.Ow.gq{mb:S->S}{M:S->gh}(h1:fV m)(h2:∀i,(M i).Perm (dt m.pg i))(h:Ow B w0 w (ae b ((iy m.tb mb).flatMap jy.enc)::((SF 64).map (dA m.tb mb M)++R))):Ow B w0 w (bP b m::R):=
 Ow.eu (mb,M) (Ow.aR (Ow.cI ⟨h1,h2⟩ h))
theorem gw{f:S->aG}{i:S}(hi:i<64)(A:aG):(A::((SF 64).map f++R))[i+1]?=X (f i):=by rw[SR,List.getElem?_append_left (by simp;exact hi),S2,TT hi];rfl
theorem pJ{f g:S->aG}{A:aG}{i:S}(hi:i<64)(h:∀j,j<64->g j=if j=i then A else f j)(A0:aG):(A0::((SF 64).map f++R)).set (i+1) A=A0::((SF 64).map g++R):=by
 rw[S1,List.set_append_left _ _ (by simp;exact hi)];congr 2;apply Td;intro j;rw[To,S2,S2];by_cases hj:j<64
 .rw[TT hj]
  by_cases e:i=j
  .subst e;rw[Z O,Z (by simp;exact hi)];simp only[TM];rw[h i hi,Z O]
  .rw[Y e];simp only[TM];rw[h j hj,Y λe2=>e e2.symm]
 .rw[SZ (show(SF 64).length<=j by simp;omega),Y om];rfl
theorem wN{tb:S->qg U}{mb:S->S}{i:S}(hi:i<64):(iy tb mb)[i]?=X ((tb i).map λn=>(n,mb i)):=by unfold iy;rw[S2,TT hi];rfl
theorem ue{tb:S->qg U}{mb:S->S}:(iy tb mb).length=64:=by unfold iy;simp
theorem Nf{tb:S->qg U}{mb:S->S}{i:S}(hi:i<64)(v:qg U)(r:S):(iy tb mb).set i (v.map λn=>(n,r))=iy (ry tb i v) (λj=>if j=i then r else mb j):=by
 apply Td;intro j;rw[To];by_cases hj:j<64
 .rw[wN hj,wN hj]
  unfold ry;by_cases e:i=j
  .subst e;rw[Z O,Z (by rw[ue];exact hi),Z O,Z O]
  .rw[Y e,Y λe2=>e e2.symm,Y λe2=>e e2.symm]
 .rw[SZ (show(iy _ _).length<=j by rw[ue];omega),SZ (show(iy _ _).length<=j by rw[ue];omega),Y om]
theorem Ch{tb:S->qg U}{mb:S->S}{i:S}(hi:i<64):((iy tb mb).flatMap jy.enc)[i*2]?=X (.z ((tb i).getD 0)):=by have:=oX jy (iy tb mb) i 0 _ (wN hi) qb;rw[show i*jy.z+0=i*2 from O]at this;rw[this];cases tb i<;>rfl
theorem Ci{tb:S->qg U}{mb:S->S}{i:S}(hi:i<64):((iy tb mb).flatMap jy.enc)[i*2+1]?=X (.map ((tb i).map λ_=>mb i)):=by have:=oX jy (iy tb mb) i 1 _ (wN hi) qb;rw[show i*jy.z+1=i*2+1 from O]at this;rw[this];cases tb i<;>rfl
theorem fV.Dy{m:dS}(h:fV m){i:S}(hi:m.tb i=Q):dt m.pg i= []:=by unfold dt;rw[Us];intro x hx e;have:=(h.vp x hx).2.2;simp only[qN]at e;rw[e,hi]at this;cases this
end
end Tb
end Go.Vc
namespace Go.Vc
open Go.Proofs Go.Shelf
namespace Tb
section
variable{B:S}{w0 w:W}{R L:J aG}{b:S}{m:dS}
theorem DZ(n:S):AnyZI.SortsIn qh Tryz.vL Fence.wide n:=
 ⟨λyX off cap ss ak9 hH hblk hsz=>callsIn_wide.2 (AnyM.slices_Sort_int Tryz.NO yX off cap ss ak9 hH hblk hsz),
  λp cap ak9=>callsIn_wide.2 (AnyM.slices_Sort_int_none Tryz.NO p cap ak9)⟩
theorem oZ{alb:Type}{encV:alb->V}{mb:S}{M:J (U × alb)}{K:Sl->Pw}(h:Ow B w0 w L)(i:S)(hi:L[i]?=X (mw (Value.int .i64) encV mb M))(hwf:∀x∈M,(Lit.int .i64 x.1).wf=G)(hsz:M.length<=1000000)
  (hK:∀(s:Sl)(ks:J U)(w':W),ks.Perm (M.map (·.1))->ks.Pairwise (λx y=>qe (x<=y)=G)->Ow B w0 w' (ag ax s ks::L)->K s w'):
  W4 (X mb) (λr5 w6=>WZ r5 K w6) w:=by
 have hM:lJ (Value.int .i64) encV w mb M:=(h.take i hi).head λ_ h=>h.2;have hmax:(1000000:S)<=maxLen:=qb
 obtain⟨D0,hown,hperm,hsize⟩:=H2 (P:=qh) (k:=3) qC hM hwf (SY hsz hmax);have hbl:=hown.lt;unfold W4;refine lk func333 O ?_;have cK:∀mb ak9,CallsIn Fence.wide 5 qh 333 #[.map mb] ak9 λe w'=>e= .returned (.func (.func 390) #[] #[.q ak9.heap.size])/\w'=ak9.alloc (.cells #[.map mb] 238):=λmb ak9=>AnyZI.keys_in Tryz.GA Fence.wide 5 trivial O mb ak9;refine(callsIn_wide (n:=5)).1 ((cK _ _).mono ?_);rintro e w' ⟨rfl,rfl⟩;refine⟨_,O,?_⟩;unfold WZ;refine lk func332 O ?_;have hseq:SeqGives Fence.wide 2 qh 390 #[.q w.heap.size] encZ (λss=>ss.Perm (intKeys D0)) (Maps.size D0) (w.alloc (.cells #[.map (X mb)] 238)):=
  AnyZI.keys_gives (ρ:=Tryz.uH) { Tryz.GA with} Fence.wide _ trivial O om w.heap.size mb M.length D0 _ qc qc (by obtain⟨es,clock,hb,Ft,hs,hD⟩:=hown;exact⟨es,clock,(RowKit.Below.heap_alloc _ _ mb hbl).trans hb,Ft,hs,hD⟩)
 have cS:=AnyZI.sorted_in Tryz.GX Fence.wide 5 trivial trivial trivial trivial O om (DZ _) (enters_of func389 qa O) 390 #[.q w.heap.size] trivial (enters_of func390 qa O) _ _ (by rw[hsize];exact SY hsz hmax) (by rw[hsize];omega) _ hseq;change CallsIn _ _ qh 332 _ _ _ at cS;refine(callsIn_wide (n:=5)).1 (cS.mono ?_);rintro e w' ⟨v,ss,rfl,hS,hrow,hnil,hb⟩;have h1:Ow B w0 (w.alloc (.cells #[.map (X mb)] 238)) L:=h.same (ff _ _);have hlen:(ss.mergeSort λx y=>qe (x<=y)).length=ss.length:=List.length_mergeSort _;rw[<-hlen]at hrow;obtain⟨s,rfl,h2⟩:=vC h1 hb hrow;exact⟨s,O,hK s _ w' (((List.mergeSort_perm _ _).trans hS).trans hperm) (List.pairwise_mergeSort (λa b c h1 h2=>by simp at *;omega) (λa b=>by simp;omega) _) h2⟩
theorem LG{P:gh}(h:mz P){ks:J U}(hp:ks.Perm (P.map (·.1)))(hs:ks.Pairwise (λx y=>qe (x<=y)=G)):ks=P.map (·.1):=by refine List.Perm.eq_of_pairwise (le:=λx y=>x<=y) (λa b _ _ h1 h2=>by omega) (hs.imp λh=>by simpa using h) ?_ hp;rw[List.pairwise_map];exact h.imp λh=>by omega
theorem rr:∀(P:gh)(a c:U),mz P->(∀x∈P,a<=x.1/\x.1<c)->(P.length:U)<=max 0 (c-a)
 | [],a,c,_,_=>Int.le_max_left _ _
 |x::P,a,c,h,hb=>by
  have h':=List.pairwise_cons.1 h;have h1:=hb x List.mem_cons_self;have:=rr P (x.1+1) c h'.2 λy hy=>⟨by have:=h'.1 y hy;omega,(hb y (List.mem_cons_of_mem _ hy)).2⟩
  simp only[SJ];omega
theorem kv{s:Sl}{ys:gh}{y:U × Pg}{c:S}{L:J aG}{k:Sl->Pw}[ale:bG s L (U × Pg) aP ys][ak8:eL (ag aP s ys) L R](h:Ow B w0 w (ae c [.z y.1,.z y.2.1,.z y.2.2]::L))(hbig:ys.length<=1000000000)
  (hk:∀s' w',s'.len=ys.length+1->Ow B w0 w' (ag aP s' (ys++ [y])::R)->k s' w'):
  ∃s' w',dO qh [81,81] 81 s.v (.slice (X c.p) 1 1) w s' w'/\k s' w':=
 Ow.eZ (E:=aP) (y:=y) underlying81 (show qh.info? 204=X qZ from by kernel_rfl) (zv:=(qZ.zero).get qa) qa qa qa qb h (by
  have e:qZ.bytes=24:=qa
  rw[e];omega) hk
theorem pZ{n:U}{mb:S}{M alf:gh}{K:Sl->Pw}(h:Ow B w0 w L)(i:S)(hi:L[i]?=X (Ig mb M))(hp:M.Perm alf)(hS:mz alf)(hb:∀x∈alf,0<=x.1/\x.1<4096)(hK:∀s w',Ow B w0 w' (ag aP s alf::L)->K s w'):WM n (X mb) K w:=by
 apply adB;have hl:=rr alf 0 4096 hS hb;refine h.a λd w1 h=>?_;refine h.l2 O ?_;refine oZ h (i+1) (by simpa using hi) (λx hx=>?_) (by rw[hp.length_eq];omega) λs ks w hks hso h=>?_
 .have:=hb x (hp.mem_iff.1 hx)
  have e1:qj.min= -9223372036854775808:=qb
  have e2:qj.max=9223372036854775807:=qb
  simp only[Lit.wf,e1,e2,Bool.and_eq_true,qF];omega
 have hkeys:=LG hS (hks.trans (hp.map _)) hso;subst hkeys;have hlen:=h.aF s;rw[S9]at hlen;intro l9 hl9;have loop:∀(j k:S)(out:Sl)(w:W),k+j=alf.length->Ow B w0 w (ag aP out (alf.take k)::ag ax s (alf.map (·.1))::ae d [.z n,.map (X mb)]::L)->l9 out (k:U) w:=by
  intro j;induction j with
  |zero=>
   intro k out w hk h;apply hl9;refine av om ?_;rw[SE om]at h;exact hK out w h.vI.vI
  |succ j ih=>
   intro k out w hk h;apply hl9;refine az om ?_;have hx:alf[k]?=X alf[k]:=gE om;have hkx:(alf.map (·.1))[k]?=X alf[k].1:=by rw[S2,hx];rfl
   refine h.cd (s:=s) (i:=(k:U)) (j:=k) O hkx λa ha h0 hc=>⟨_,h0 _ O,_,h.aA O,alf[k].2.1,alf[k].2.2,?_⟩
   have hl2:dQ M alf[k].1=X alf[k].2:=by rw[p9 hp hS];exact hS.look (Tq _)
   refine⟨(h.vB qX (bp .i64 qC) (i+3) (by simpa using hi) hl2).2,?_⟩;refine h.a λd3 w3 h=>?_;refine kv (s:=out) (ys:=alf.take k) (y:=alf[k]) h (by rw[SN];omega) λs' w hs' h=>?_;rw[wI k om];refine ih (k+1) s' w om ?_;rw[SO,hx];exact h
 exact loop alf.length 0 z0 w om (Ow.cB h)
theorem Jk{mb:S}{M:gh}{K:qg S->Pw}(h:Ow B w0 w L)(i:S)(hi:L[i]?=X (Ig mb M))(hK:∀m' w',Ow B w0 w' (Ig m' M::L)->K (X m') w'):WG (X mb) K w:=by
 have hM:lJ (Value.int .i64) OB w mb M:=(h.take i hi).head λ_ h=>h.2;obtain⟨es,c,hb,h2⟩:=hM.ex;unfold WG;refine lk func205 O ?_;refine(AnyW.maps_Clone Tryz.JP mb es c w hb).mono ?_;rintro e w' ⟨rfl,rfl⟩;refine⟨_,O,hK _ _ (h.new (A':=Ig w.heap.size M) (G':=λk=>k=w.heap.size) (ff _ _) ⟨O,⟨⟨es,c,heap_alloc_new _ _,h2⟩,hM.nodup⟩⟩ λk e=>⟨om,by rw[e];simp⟩)⟩
theorem Ha{K:qg S->Pw}(hK:K Q w):WG Q K w:=by unfold WG;refine lk func205 O ?_;refine(AnyW.maps_Clone_nil Tryz.JP w).mono ?_;rintro e w' ⟨rfl,rfl⟩;exact⟨_,O,hK⟩
end
end Tb
end Go.Vc
namespace Go.Vc
open Go.Proofs
namespace Tb
section
variable{B:S}{w0 w:W}{R L:J aG}{b:S}{m:dS}
theorem wrap_u64(z:S):qA.wrap (z:U)=((z%2^64:S):U):=by
 have e1:(2:U)^64=18446744073709551616:=qb
 have e2:(2:S)^64=18446744073709551616:=qb
 simp only[IntKind.wrap,IntKind.bits,IntKind.signed,e1,e2,Bool.false_and,SX,qB];omega
theorem BF(n:S)(hn:n<=64):qA.wrap (mS .u64 1 (n:U)-1)=((2^n-1:S):U):=by
 have e2:(2:S)^64=18446744073709551616:=qb
 have hp:0<2^n:=TW n;unfold mS;rw[SD,show qA.bits=64 from O,TL hn,Int.one_mul,show((2:U)^n)=((2^n:S):U)from by simp,wrap_u64];by_cases e:n=64
 .subst e
  rw[e2];rfl
 .have hlt:2^n<2^64:=Nat.pow_lt_pow_right om om
  rw[Tn hlt,show(((2^n:S):U)-1)=((2^n-1:S):U)from by omega,wrap_u64,Tn om]
theorem s8(z:S):BitVec.ofInt qA.bits (z:U)=BitVec.ofNat 64 z:=by apply BitVec.eq_of_toNat_eq;simp[IntKind.bits,BitVec.toNat_ofInt]
theorem Bb(v n:S)(hv:v<2^64)(hn:n<=64):fE .u64 (v:U) ((2^n-1:S):U)=((v%2^n:S):U):=by
 have hp:0<2^n:=TW n;have hle:2^n<=2^64:=Nat.pow_le_pow_right om hn;unfold fE;rw[s8,s8];have h1:(BitVec.ofNat 64 v &&& BitVec.ofNat 64 (2^n-1)).toNat=v%2^n:=by rw[BitVec.toNat_and,BitVec.toNat_ofNat,BitVec.toNat_ofNat,Tn hv,Tn om,Nat.and_two_pow_sub_one_eq_mod]
 show qA.wrap (((BitVec.ofNat 64 v &&& BitVec.ofNat 64 (2^n-1)).toNat:S):U)=_;rw[h1,wrap_u64,Tn (Vh (Nat.mod_le _ _) hv)]
theorem nF(x k:S)(hk:k<=64):Ca .u64 (x:U) (k:U)=((x / 2^k:S):U):=by unfold Ca;rw[SD,show qA.bits=64 from O,TL hk];rw[show((2:U)^k)=((2^k:S):U)from by simp];rw[Int.fdiv_eq_ediv_of_nonneg _ (Int.natCast_nonneg _)];simp
theorem Oj{P:qo}{T kt el:qi}{K:Type}[qS K]{enc:K->V}(hu:P.underlying T=X (.map kt el))(hk:lN P kt enc){z:V}(hz:∀w,(qK el).run P w= .ok z w){w:W}{k:K}:
  Ev P T (.map Q) (enc k) z qd w/\F9 P T (.map Q) (enc k) z w:=by
 have h3:=pU (alb:=Unit) (encV:=λ_=> .nilIface) (L:=[]) hk (es:= #[]) O (k:=k) O w;constructor
 .unfold Ev Instr.lookup
  simp only[Sem.run_bind,bf hu,Result.andThen_ok,Sem.run_pure,hk.check,h3,hz,qE]
 .unfold F9 Instr.lookup
  simp only[Sem.run_bind,bf hu,Result.andThen_ok,Sem.run_pure,hk.check,h3,hz,SX,qB]
theorem gz{n:S}{K:U->Pw}(hn:n<=64)(h:K ((2^n-1:S):U) w):X9 (n:U) K w:=by apply adx;rw[BF n hn];exact⟨om,h⟩
theorem jA{a n:S}{K:I->Pw}(ha:a+n<=64)(h:K G w):Yd (a:U) (n:U) K w:=by apply adz;refine az om (az om (az om ?_));rw[wr om om,qp om];exact h
theorem jz{v a n:S}{K:U->U->Pw}(hv:v<2^64)(hn:a+n<=64)(h:Ow B w0 w L)(hK:∀w',Ow B w0 w' L->K ((v / 2^a%2^n:S):U) 0 w'):Yc (v:U) (a:U) (n:U) K w:=by
 apply ady;refine jA hn ?_;refine aV O ?_;repeat refine h.dr λw h=>?_
 refine⟨om,a2 (gz om ?_)⟩;rw[nF v a om,Bb _ n (Vh (Nat.div_le_self _ _) hv) om];exact hK _ h
theorem uU{n:U}{K:I->Pw}(hK:K (qe (0<=n/\n<4096)) w):acI n K w:=by
 apply aeK;refine bh (λe=>?_) (λe=>?_)
 .rw[show qe (0<=n/\n<4096)=qe (n<4096)from decide_eq_decide.2 om]at hK;exact hK
 .rw[ql om]at hK;exact hK
theorem sx{n:U}{K:I->Pw}(hK:K (qe (0<=n/\n<64)) w):acF n K w:=by
 apply aeI;refine bh (λe=>?_) (λe=>?_)
 .rw[show qe (0<=n/\n<64)=qe (n<64)from decide_eq_decide.2 om]at hK;exact hK
 .rw[ql om]at hK;exact hK
theorem DP{n:U}{K:I->Pw}(hK:K (qe (0<=n/\n<=7)) w):acJ n K w:=by
 apply aeL;refine bh (λe=>?_) (λe=>?_)
 .rw[show qe (0<=n/\n<=7)=qe (n<=7)from decide_eq_decide.2 om]at hK;exact hK
 .rw[ql om]at hK;exact hK
theorem jV{tb:S->qg U}{mb:S->S}{i:S}(hi:i<64)(j:S)(h:Ow B w0 w L)(hL:L[j]?=X (ae b ((iy tb mb).flatMap jy.enc))):w.cell? (⟨b,i*2,Q⟩:qf)=X (.z ((tb i).getD 0))/\w.cell? ((⟨b,i*2,Q⟩:qf).add 1)=X (.map ((tb i).map λ_=>mb i)):=
 ⟨h.iJ j hL (Ch hi),h.ld j hL (Ci hi)⟩
theorem Jy(b i:S):(b.p:qf).add (i*2)=⟨b,i*2,Q⟩:=by rw[aL,SS]
theorem ny{n:U}{mb:S->S}{K:qg qf->I->Pw}(hn:0<=n/\n<4096)(j:S)(h:Ow B w0 w L)(hL:L[j]?=X (ae b ((iy m.tb mb).flatMap jy.enc)))(hK:∀w',Ow B w0 w' L->K (X ⟨b,n.toNat / 64*2,Q⟩) (m.tb (n.toNat / 64)).isSome w'):acK b.o n K w:=by
 apply aeM;obtain⟨k,rfl⟩:=SI hn.1;rw[wrap_u64,Tn om];refine jz (a:=6) (n:=6) om om h λw h=>?_;rw[SD]at hK;have e:k / 2^6%2^6=k / 64:=by
  have:(2:S)^6=64:=qb
  rw[this];omega
 rw[e];refine h.dr λw h=>?_;refine⟨_,O,om,om,_,O,om,om,?_⟩;rw[SD,Jy];refine⟨_,(jV om j h hL).2,?_⟩;have:=hK w h;cases ht:m.tb (k / 64)with
 |none=>rw[ht]at this;exact this
 |some v=>rw[ht]at this;exact this
theorem LV:∀w,(qK 70).run qh w= .ok (OB (0,0)) w:=λw=>zeroValue70 w
theorem GC{k:U}{mb:S->S}{M:S->gh}(ho:fV m)(hM:∀i,(M i).Perm (dt m.pg i))(hk:0<=k/\k<4096)(j:S)(h:Ow B w0 w L)(hL:L[j]?=X (dA m.tb mb M (k.toNat / 64))):
  Ev qh 238 (.map ((m.tb (k.toNat / 64)).map λ_=>mb (k.toNat / 64))) (.z k) (.agg #[.z ((look m.pg k).getD (0,0)).1,.z ((look m.pg k).getD (0,0)).2]) (look m.pg k).isSome w:=by
 have hlook:look (dt m.pg (k.toNat / 64)) k=look m.pg k:=by
  unfold dt;rw[Dq ho.mo];cases e:look m.pg k with
  |none=>rfl
  |some v=>rw[Option.filter_some,Z qc]
 have hget:dQ (M (k.toNat / 64)) k=look m.pg k:=by rw[p9 (hM _) (ho.mo.filter _)];exact hlook
 cases ht:m.tb (k.toNat / 64)with
 |none=>
  have hno:look m.pg k=none:=by
   cases e:look m.pg k with
   |none=>rfl
   |some v=>have:=(ho.Sd e).2.2;rw[ht]at this;cases this
  rw[hno];exact(Oj qX (bp .i64 qC) LV).1
 |some v=>
  unfold dA at hL;rw[Z (by rw[ht];rfl)]at hL;cases e:look m.pg k with
  |none=>exact(h.xJ qX (bp .i64 qC) LV j hL (by rw[hget,e])).1
  |some p=>exact(h.vB qX (bp .i64 qC) j hL (by rw[hget,e];rfl)).1
theorem Hn{k:U}{K:U->U->I->Pw}(h:Ow B w0 w (bP b m::R))(hK:∀w',Ow B w0 w' (bP b m::R)->K ((look m.pg k).getD (0,0)).1 ((look m.pg k).getD (0,0)).2 (look m.pg k).isSome w'):acL b.o k K w:=by
 apply aeN;obtain⟨mb,M,ho,hM,h⟩:=h.M8;refine h.a λd w1 h=>?_;refine uU ?_;by_cases hk:0<=k/\k<4096
 .rw[qp hk]
  refine aV O ?_;have hq:k.toNat / 64<64:=om
  refine ny (mb:=mb) (m:=m) hk 1 h O λw h=>?_;refine⟨_,O,_,(jV hq 1 h O).2,⟨_,_,_,GC ho hM hk (k.toNat / 64+2) h (by rw[SR];exact gw hq _),?_⟩⟩;refine h.a λd2 w2 h=>?_;refine h.aB O O λw h=>?_;refine h.aM O ?_;have h:=h.cC;refine h.aB O O λw h=>?_;refine h.aM O ?_;exact hK w (Ow.gq ho hM h.drop.drop)
 .rw[ql hk]
  refine aW O ?_;refine h.aB O O λw h=>?_;refine h.aM O ?_;rw[ho.out hk]at hK;exact hK w (Ow.gq ho hM h.drop)
end
end Tb
end Go.Vc
namespace Go.Vc
open Go.Proofs Go.Shelf
namespace Tb
section
variable{B:S}{w0 w:W}{R L:J aG}{b:S}{m:dS}
theorem BU{tb:S->qg U}{mb:S->S}{i:S}(hi:i<64)(v:qg U)(r:S):putAt ((iy tb mb).flatMap jy.enc) (i*2) [.z (v.getD 0),.map (v.map λ_=>r)]=(iy (ry tb i v) (λj=>if j=i then r else mb j)).flatMap jy.enc:=by have e:=oY jy (iy tb mb) i (v.map λn=>(n,r)) (by rw[ue];exact hi);rw[Nf hi]at e;rw[e];cases v<;>rfl
theorem tp{tb:S->qg U}{mb:S->S}:((iy tb mb).flatMap jy.enc).length=128:=by rw[aO,ue];rfl
theorem GN{tb:S->qg U}{mb:S->S}{M:S->gh}{i:S}(hi:i<64)(hs:(tb i).isSome=G)(M1:gh)(A0:aG):(A0::((SF 64).map (dA tb mb M)++R)).set (i+1) (Ig (mb i) M1)=A0::((SF 64).map (dA tb mb (λj=>if j=i then M1 else M j))++R):=
 pJ hi (λj hj=>by
  unfold dA;by_cases e:j=i
  .subst e;rw[Z hs,Z O];show Ig (mb j) (if j=j then M1 else M j)=_;rw[Z O]
  .simp only[Y e]) A0
theorem K1{M:S->gh}(ho:fV m)(hM:∀i,(M i).Perm (dt m.pg i))(k:U)(p:Pg):∀j,(if j=k.toNat / 64 then ko (M (k.toNat / 64)) k p else M j).Perm (dt (kU m.pg k p) j):=λj=>by
 rw[Nc ho.mo];by_cases e:j=k.toNat / 64
 .rw[Z e,Z e.symm,e];exact Hv (hM _) (ho.mo.filter _) k p
 .rw[Y e,Y λh=>e h.symm];exact hM j
theorem K0{M:S->gh}(ho:fV m)(hM:∀i,(M i).Perm (dt m.pg i))(k:U):∀j,(if j=k.toNat / 64 then mA (M (k.toNat / 64)) k else M j).Perm (dt (od m.pg k) j):=λj=>by
 by_cases e:j=k.toNat / 64
 .rw[Z e,e,G1];exact zJ (hM _) (ho.mo.filter _) k
 .rw[Y e,F3 λh=>e h.symm];exact hM j
theorem jF{K:qg qf->Pw}(h:Ow B w0 w R)(hK:∀b w',Ow B w0 w' (bP b js::R)->K b.o w'):YD K w:=by
 apply aeC;refine h.al λw1 h=>hK _ w1 ?_;generalize w.heap.size=d at h|-;refine Ow.gq (mb:=λ_=>0) (M:=λ_=>[]) fV.new (λi=>List.Perm.refl _) ?_;have e:(SF 64).map (dA js.tb (λ_=>0) λ_=>[])=SB 64 (dw qu):=rfl;rw[e];have pures:∀(n:S)(A:aG)(R:J aG),Ow B w0 w1 (A::R)->Ow B w0 w1 (A::(SB n (dw qu)++R)):=λn=>by
  induction n with
  |zero=>intro A R h;exact h
  |succ n ih=>
   intro A R h;have h2:Ow B w0 w1 (dw qu::A::(SB n (dw qu)++R)):=Ow.cI trivial (ih A R h);exact h2.perm (List.Perm.swap _ _ _)
 exact pures 64 _ R h
theorem Jn{i:U}{K:U->I->Pw}(h:Ow B w0 w (bP b m::R))(hK:K ((m.at i).getD 0) (m.at i).isSome w):ade b.o i K w:=by
 apply aeP;obtain⟨mb,M,ho,hM,h⟩:=h.M8;unfold dS.at at hK;intro k3 hk3;refine sx ?_;by_cases hi:0<=i/\i<64
 .rw[qp hi]
  rw[Y om]at hK;have hq:i.toNat<64:=om
  refine aV O ⟨_,O,hi.1,hi.2,?_⟩;rw[Jy];refine⟨_,(jV hq 0 h O).2,?_⟩;cases e:m.tb i.toNat with
  |none=>rw[e]at hK;exact hk3 _ _ (aW O hK)
  |some n=>
   rw[e]at hK;refine hk3 _ _ (aV O ⟨_,O,hi.1,hi.2,?_⟩);rw[Jy];refine⟨_,(jV hq 0 h O).1,?_⟩;rw[e];exact hK
 .rw[ql hi]
  refine aW O (hk3 _ _ (aW O ?_));by_cases h0:i<0
  .rw[Z h0]at hK;exact hK
  .rw[Y h0]at hK
   cases e:m.tb i.toNat with
   |none=>rw[e]at hK;exact hK
   |some n=>have:=ho.fu i.toNat (by rw[e];rfl);omega
theorem Jp{k:U}{p:Pg}{K:U->Pw}(h:Ow B w0 w (bP b m::R))(hK:∀w',Ow B w0 w' (bP b (m.ph k p).2::R)->K (m.ph k p).1 w'):X2 b.o k p.1 p.2 K w:=by
 apply aeG;obtain⟨mb,M,ho,hM,h⟩:=h.M8;unfold dS.ph at hK;refine h.a λd w1 h=>?_;intro k6 hk6;have bad:¬(0<=k/\k<4096/\0<=p.1/\0<=p.2/\p.2<=7)->k6 G w1:=λe=>by rw[Z e]at hK;exact hk6 _ _ (aW O (hK w1 (Ow.gq ho hM h.drop)))
 refine uU ?_;by_cases hk:0<=k/\k<4096
 case neg=>rw[ql hk];exact aW O (bad λhh=>hk ⟨hh.1,hh.2.1⟩)
 rw[qp hk];refine aV O (h.l1 O ?_);refine bh (λe=>bad λhh=>by omega) (λe1=>?_);refine⟨_,h.aA O,DP ?_⟩;by_cases hr:0<=p.2/\p.2<=7
 case neg=>rw[ql hr];exact bad λhh=>hr hh.2.2.2
 rw[qp hr];rw[Y (λhh=>hh ⟨hk.1,hk.2,om,hr.1,hr.2⟩)]at hK;have hq:k.toNat / 64<64:=om
 refine hk6 _ _ (aV O ?_);refine ny (mb:=mb) (m:=m) hk 1 h O λw h=>?_;cases ht:m.tb (k.toNat / 64)with
 |none=>
  rw[Z ht]at hK;exact aW O (hK w (Ow.gq ho hM h.drop))
 |some v=>
  have hs:(m.tb (k.toNat / 64)).isSome=true:=by rw[ht];rfl
  rw[Y (by rw[ht];simp)]at hK;refine aV O ⟨_,O,_,(jV hq 1 h O).2,?_⟩;refine⟨_,_,_,GC ho hM hk (k.toNat / 64+2) h (by rw[SR];exact gw hq _),?_⟩;refine h.a λd2 w2 h=>?_;refine h.aB O O λw h=>?_;cases hl:(look m.pg k).isSome with
  |true=>
   rw[Z hl]at hK;exact aW O (hK w (Ow.gq ho hM h.drop.drop))
  |false=>
   rw[Y (by rw[hl];simp)]at hK;refine aV O ?_;refine h.dr λw h=>?_;refine⟨_,O,_,(jV hq 2 h O).2,h.aM O (Go.Vc.a2 ?_)⟩;rw[ht];refine h.lM (v:=p) (M:=M (k.toNat / 64)) (m:=mb (k.toNat / 64)) (enc:=Value.int .i64) (encV:=OB) qX (bp .i64 qC) (k.toNat / 64+3) ?_ λw h=>?_
   .rw[SR,SR,gw hq];unfold dA;rw[Z hs]
   .rw[S1,S1,GN hq hs]at h
    refine hK w (Ow.gq (ho.ins hk hs p) (K1 ho hM k p) h.drop.drop)
theorem rR{k:U}{K:U->U->U->Pw}(h:Ow B w0 w (bP b m::R))(hK:∀w',Ow B w0 w' (bP b (m.cJ k).2.2::R)->K (m.cJ k).1.1 (m.cJ k).1.2 (m.cJ k).2.1 w'):abr b.o k K w:=by
 apply aeH;unfold dS.cJ at hK;refine h.a λd w1 h=>?_;refine uU ?_;by_cases hk:0<=k/\k<4096
 case neg=>
  rw[ql hk];rw[Z hk]at hK;refine aW O ?_;refine h.aB O O λw h=>?_;refine h.aM O ?_;exact hK w h.drop
 rw[qp hk];rw[Y (λhh=>hh hk)]at hK;have hq:k.toNat / 64<64:=om
 refine aV O ?_;refine Hn (h.cC:Ow B w0 w1 (bP b m::ae d _::R)) λw h=>?_;refine h.a λd2 w2 h=>?_;refine h.aB O O λw h=>?_;cases hl:look m.pg k with
 |none=>
  rw[hl]at hK;refine aW O ?_;refine h.aB O O λw h=>?_;refine h.aM O ?_;exact hK w h.sub
 |some p=>
  rw[hl]at hK;refine aV O ?_;have h:Ow B w0 w (ae d2 [.z p.1,.z p.2]::bP b m::ae d [.z 0,.z 0]::R):=by rw[hl]at h;exact h
  have h:Ow B w0 w (bP b m::ae d2 [.z p.1,.z p.2]::ae d [.z 0,.z 0]::R):=h.cC;obtain⟨mb,M,ho,hM,h⟩:=h.M8;obtain⟨_,_,hs⟩:=ho.Sd hl;have h2:Ow B w0 w (ae d2 [.z p.1,.z p.2]::ae d [.z 0,.z 0]::ae b ((iy m.tb mb).flatMap jy.enc)::((SF 64).map (dA m.tb mb M)++R)):=by
   refine h.perm ?_;have p1:=(Tw (a:=ae d2 [.z p.1,.z p.2]) (l₁:=ae b ((iy m.tb mb).flatMap jy.enc)::(SF 64).map (dA m.tb mb M)) (l₂:=ae d [.z 0,.z 0]::R))
   have p2:=(Tw (a:=ae d [.z 0,.z 0]) (l₁:=ae b ((iy m.tb mb).flatMap jy.enc)::(SF 64).map (dA m.tb mb M)) (l₂:=R))
   have:=p1.trans (p2.cons _);simpa using this
  refine ny (mb:=mb) (m:=m) hk 2 h2 O λw h=>?_;refine⟨_,O,_,(jV hq 2 h O).2,?_⟩;obtain⟨v,ht⟩:=Option.isSome_iff_exists.1 hs;rw[ht];refine h.MK (k:=k) (M:=M (k.toNat / 64)) (m:=mb (k.toNat / 64)) (enc:=Value.int .i64) (encV:=OB) qX (bp .i64 qC) (k.toNat / 64+3) ?_ λw h=>?_
  .rw[SR,SR,gw hq];unfold dA;rw[Z hs]
  .rw[S1,S1,GN hq hs]at h
   refine h.aM O ?_;have h:=h.cC;refine h.aB O O λw h=>?_;refine h.aM O ?_;exact hK w (Ow.gq (m:=⟨m.tb,od m.pg k⟩) ⟨ho.mo.filter _,λx hx=>ho.vp x (SV.1 hx).1,ho.fu⟩ (K0 ho hM k) h.drop.drop)
theorem keys_nil{K:Sl->Pw}(h:Ow B w0 w L)(hK:∀(s:Sl)(w':W),Ow B w0 w' (ag ax s []::L)->K s w'):
  W4 Q (λr5 w6=>WZ r5 K w6) w:=by
 unfold W4;refine lk func333 O ?_;have cK:∀mb ak9,CallsIn Fence.wide 5 qh 333 #[.map mb] ak9 λe w'=>e= .returned (.func (.func 390) #[] #[.q ak9.heap.size])/\w'=ak9.alloc (.cells #[.map mb] 238):=λmb ak9=>AnyZI.keys_in Tryz.GA Fence.wide 5 trivial O mb ak9;refine(callsIn_wide (n:=5)).1 ((cK _ _).mono ?_);rintro e w' ⟨rfl,rfl⟩;refine⟨_,O,?_⟩;unfold WZ;refine lk func332 O ?_;have hseq:SeqGives Fence.wide 2 qh 390 #[.q w.heap.size] encZ (λss:J U=>ss= []) 0 (w.alloc (.cells #[.map Q] 238)):=
  AnyZI.keys_gives_nil (ρ:=Tryz.uH) { Tryz.GA with} Fence.wide _ trivial O w.heap.size _ qc qc
 have cS:=AnyZI.sorted_in Tryz.GX Fence.wide 5 trivial trivial trivial trivial O om (DZ _) (enters_of func389 qa O) 390 #[.q w.heap.size] trivial (enters_of func390 qa O) _ 0 (Nat.zero_le _) om _ hseq;change CallsIn _ _ qh 332 _ _ _ at cS;refine(callsIn_wide (n:=5)).1 (cS.mono ?_);rintro e w' ⟨v,ss,rfl,rfl,hrow,hnil,hb⟩;have h1:Ow B w0 (w.alloc (.cells #[.map Q] 238)) L:=h.same (ff _ _);rw[show(([]:J U).mergeSort λx y=>qe (x<=y))= []from by simp]at hrow;obtain⟨s,rfl,h2⟩:=vC h1 hb hrow;exact⟨s,O,hK s w' h2⟩
theorem Kv{n:U}{K:Sl->Pw}(h:Ow B w0 w L)(hK:∀s w',Ow B w0 w' (ag aP s []::L)->K s w'):WM n Q K w:=by apply adB;refine h.a λd w1 h=>?_;refine⟨_,h.aA O,keys_nil h λs w h=>?_⟩;have hlen:=h.aF s;intro l9 hl9;apply hl9;refine av (by rw[hlen];decide) ?_;exact hK _ w (Ow.cB h.drop.drop)
theorem Dh{n:U}{mb:S->S}{M:S->gh}{q:S}{K:Sl->Pw}(ho:fV m)(hM:∀i,(M i).Perm (dt m.pg i))(j:S)(h:Ow B w0 w L)(hL:L[j]?=X (dA m.tb mb M q))(hK:∀s w',Ow B w0 w' (ag aP s (dt m.pg q)::L)->K s w'):
  WM n ((m.tb q).map λ_=>mb q) K w:=by
 cases ht:m.tb q with
 |none=>
  rw[ho.Dy ht]at hK;exact Kv h hK
 |some v=>
  unfold dA at hL;rw[Z (by rw[ht];rfl)]at hL;refine pZ h j hL (hM q) (ho.mo.filter _) (λx hx=>?_) hK;have:=ho.vp x (SV.1 hx).1;exact⟨this.1,this.2.1⟩
theorem tJ:∀{L:J aG}{i:S}{a:aG},L[i]?=X a->(a::L.eraseIdx i).Perm L
 |x::L,0,a,h=>by simp at h;subst h;exact List.Perm.refl _
 |x::L,i+1,a,h=>(List.Perm.swap x a _).trans ((tJ (L:=L) (i:=i) (by simpa using h)).cons x)
theorem tA{ak7 A:aG}{i:S}(h:Ow B w0 w (ak7::L))(hi:L[i]?=X A):Ow B w0 w (L.set i ak7):=by have h1:Ow B w0 w (A::ak7::L.eraseIdx i):=h.perm (((tJ hi).symm.cons ak7).trans (List.Perm.swap _ _ _));exact h1.drop.put (cT hi)
theorem u6{t:U}{c n:U}{p:qg S}{K:I->Pw}{d:S}(j:S)(h:Ow B w0 w L)(hL:L[j]?=X (ae d [.z t]))(hK:∀w',Ow B w0 w' L->K (!p.isNone&&n==t) w'):acG n p d.p K w:=by
 apply aeJ;refine h.a λg w1 h=>?_;refine h.l2 O ?_;cases p with
 |none=>exact aV O (hK w1 h.drop)
 |some q=>exact aW O ⟨_,h.aE O,_,h.iJ (j+1) (by simpa using hL) O,hK w1 h.drop⟩
theorem y4{t:U}{mb:S->S}{K:I->Pw}{d:S}(j j2:S)(h:Ow B w0 w L)(hL:L[j]?=X (ae d [.z t]))(hL2:L[j2]?=X (ae b ((iy m.tb mb).flatMap jy.enc)))
  (hK:∀w',Ow B w0 w' L->K ((SF 64).any λi=>m.tb i==X t) w'):acH ⟨mn b.o 0 64 2,64-0,64-0⟩ (.func (.func 359) #[] #[.q d]) K w:=by
 apply afH;apply afU;have ha:mn (X (b.p:qf)) 0 64 2=X b.p:=by rw[iU O qb]
 rw[ha];intro l3 hl3;have loop:∀(k i:S)(w:W),i+k=64->(∀x,x<i->(m.tb x==X t)=qd)->Ow B w0 w L->l3 (i:U) w:=by
  intro k;induction k with
  |zero=>
   intro i w hik hno h;apply hl3;refine av (by show ¬(i:U)<64;omega) ?_;have e:((SF 64).any λi=>m.tb i==X t)=false:=by rw[List.any_eq_false];intro x hx;rw[hno x (by have:=T6.1 hx;omega)];decide
   have:=hK w h;rw[e]at this;exact this
  |succ k ih=>
   intro i w hik hno h;apply hl3;refine az (by show(i:U)<64;omega) ?_;refine⟨_,O,om,by show(i:U)<64;omega,?_⟩;rw[SD,Jy];have hc:=jV (by omega:i<64) j2 h hL2;refine⟨_,hc.1,_,hc.2,aY (u6 (c:=t) j h hL λw h=>?_)⟩;have e2:(!((m.tb i).map λ_=>mb i).isNone&&((m.tb i).getD 0)==t)=(m.tb i==X t):=by cases m.tb i<;>simp
   rw[e2];cases e:(m.tb i==X t)with
   |true=>
    refine aW O ?_;have e3:((SF 64).any λi=>m.tb i==X t)=true:=TY.2 ⟨i,T6.2 om,e⟩;have:=hK w h;rw[e3]at this;show K (qe ((i:U)>=0)) w;rw[qp (show(i:U)>=0 by omega)];exact this
   |false=>
    refine aV O ?_;rw[wI i om];refine ih (i+1) w om (λx hx=>?_) h;by_cases e4:x=i
    .rw[e4];exact e
    .exact hno x om
 exact loop 64 0 w om (λx hx=>by omega) h
theorem EA{i n:U}{K:U->Pw}(h:Ow B w0 w (bP b m::R))(hK:∀w',Ow B w0 w' (bP b (m.iX i n).2::R)->K (m.iX i n).1 w'):abq b.o i n K w:=by
 apply aeF;obtain⟨mb,M,ho,hM,h⟩:=h.M8;have hok:=ho.table i n;unfold dS.iX at hK hok;refine h.a λd w1 h=>?_;intro k5 hk5;have bad:¬(0<=i/\i<64/\0<=n)->k5 G w1:=λe=>by rw[Z e]at hK;exact hk5 _ _ (aW O (hK w1 (Ow.gq ho hM h.drop)))
 refine sx ?_;by_cases hi:0<=i/\i<64
 case neg=>rw[ql hi];exact aW O (bad λhh=>hi ⟨hh.1,hh.2.1⟩)
 rw[qp hi];refine aV O (h.l1 O ?_);by_cases hn:n<0
 .rw[qp hn];exact bad λhh=>by omega
 rw[ql hn];rw[Y (λhh=>hh ⟨hi.1,hi.2,om⟩)]at hK hok;have hq:i.toNat<64:=om
 refine hk5 _ _ (aV O ?_);intro k8 hk8;have full:∀w,((m.tb i.toNat).isSome=G\/((SF 64).any λj=>m.tb j==X n)=G)->Ow B w0 w (ae d [.z n]::ae b ((iy m.tb mb).flatMap jy.enc)::((SF 64).map (dA m.tb mb M)++R))->k8 G w:=λw e h=>by rw[Z e]at hK;exact hk8 _ _ (aW O (hK w (Ow.gq ho hM h.drop)))
 refine⟨_,O,hi.1,hi.2,?_⟩;rw[Jy];refine⟨_,(jV hq 1 h O).2,?_⟩;cases ht:m.tb i.toNat with
 |some v=>exact aW O (full w1 (.inl (by rw[ht];rfl)) h)
 |none=>
  refine aV O ⟨_,O,?_⟩;refine y4 (m:=m) (mb:=mb) 0 1 h O O λw h=>?_;cases ha:((SF 64).any λj=>m.tb j==X n)with
  |true=>exact full w (.inr ha) h
  |false=>
   rw[Y (by rw[ht,ha];simp)]at hK hok;refine hk8 _ _ (aV O ?_);refine h.dr λw h=>?_;refine⟨_,h.aE O,_,O,Go.Vc.a2 (h.Gb (Value.int .i64) OB λw2 h=>?_)⟩;generalize w.heap.size=g at h|-;refine⟨hi.1,hi.2,Go.Vc.a2 ?_⟩;rw[Jy];refine Ow.Ji (o:=i.toNat*2) h 2 O (by apply Wc;rw[tp];show i.toNat*2+2<=128;omega) O λw h=>?_;have h2:Ow B w0 w (mw (Value.int .i64) OB g []::ae d [.z n]::ae b (putAt ((iy m.tb mb).flatMap jy.enc) (i.toNat*2) [.z n,.map (X g)])::((SF 64).map (dA m.tb mb M)++R)):=h;have e1:=BU (tb:=m.tb) (mb:=mb) hq (X n) g;have e1:putAt ((iy m.tb mb).flatMap jy.enc) (i.toNat*2) [.z n,.map (X g)]=_:=e1;rw[e1]at h2;have h3:Ow B w0 w (Ig g []::ae b ((iy (ry m.tb i.toNat (X n)) λj=>if j=i.toNat then g else mb j).flatMap jy.enc)::((SF 64).map (dA m.tb mb M)++R)):=h2.vI;have ht0:dA m.tb mb M i.toNat=dw qu:=by unfold dA;rw[Y (by rw[ht];simp)]
   have h4:=tA (i:=i.toNat+1) h3 (gw hq _);rw[pJ (g:=dA (ry m.tb i.toNat (X n)) (λj=>if j=i.toNat then g else mb j) (λj=>if j=i.toNat then []else M j)) hq (λj hj=>?_)]at h4
   .refine hK w (Ow.gq hok (λj=>?_) h4)
    by_cases e:j=i.toNat
    .rw[e];simp only[qE]
     show([]:gh).Perm (dt m.pg i.toNat);rw[ho.Dy ht]
    .simp only[Y e];exact hM j
   .by_cases e:j=i.toNat
    .rw[e]
     unfold dA ry;simp
    .unfold dA ry
     simp only[Y e]
theorem Hg{i:U}{K:Sl->U->Pw}(h:Ow B w0 w (bP b m::R))(hK:∀s w',Ow B w0 w' (ag aP s (m.bE i).1::bP b (m.bE i).2.2::R)->K s (m.bE i).2.1 w'):adf b.o i K w:=by
 apply aeQ;obtain⟨mb,M,ho,hM,h⟩:=h.M8;have hok:=ho.drop i;unfold dS.bE at hK hok;refine sx ?_;by_cases hi:0<=i/\i<64
 case neg=>
  rw[ql hi];rw[Z hi]at hK;exact aW O (hK _ w (Ow.cB (Ow.gq ho hM h)))
 rw[qp hi];rw[Y (λhh=>hh hi)]at hK hok;have hq:i.toNat<64:=om
 refine aV O ⟨_,O,hi.1,hi.2,?_⟩;rw[Jy];refine⟨_,(jV hq 0 h O).2,?_⟩;cases ht:m.tb i.toNat with
 |none=>
  rw[Z ht]at hK;exact aW O (hK _ w (Ow.cB (Ow.gq ho hM h)))
 |some v=>
  rw[Y (by rw[ht];simp)]at hK hok;refine aV O ⟨_,O,hi.1,hi.2,?_⟩;rw[Jy];refine⟨_,(jV hq 0 h O).1,_,(jV hq 0 h O).2,Dh ho hM (i.toNat+1) h (gw hq _) λs w h=>?_⟩;refine⟨_,O,hi.1,hi.2,?_⟩;rw[Jy];refine Ow.Ji (o:=i.toNat*2) h 1 O (by apply Wc;rw[tp];show i.toNat*2+2<=128;omega) O λw h=>?_;have h2:Ow B w0 w (ag aP s (dt m.pg i.toNat)::ae b (putAt ((iy m.tb mb).flatMap jy.enc) (i.toNat*2) [.z 0,.map Q])::((SF 64).map (dA m.tb mb M)++R)):=h;have e1:=BU (tb:=m.tb) (mb:=mb) hq Q 0;have e1:putAt ((iy m.tb mb).flatMap jy.enc) (i.toNat*2) [.z 0,.map Q]=_:=e1;rw[e1]at h2;have h3:=tA (ak7:=dw qu) (i:=i.toNat+2) (Ow.cI trivial h2) (by rw[SR];exact gw hq _);rw[S1,pJ (g:=dA (ry m.tb i.toNat Q) (λj=>if j=i.toNat then 0 else mb j) (λj=>if j=i.toNat then []else M j)) hq (λj hj=>?_)]at h3
  .have h4:Ow B w0 w (ae b ((iy (ry m.tb i.toNat Q) λj=>if j=i.toNat then 0 else mb j).flatMap jy.enc)::((SF 64).map (dA (ry m.tb i.toNat Q) (λj=>if j=i.toNat then 0 else mb j) (λj=>if j=i.toNat then []else M j))++ag aP s (dt m.pg i.toNat)::R)):=by refine h3.perm ?_;have:=(Tw (a:=ag aP s (dt m.pg i.toNat)) (l₁:=ae b ((iy (ry m.tb i.toNat Q) λj=>if j=i.toNat then 0 else mb j).flatMap jy.enc)::(SF 64).map (dA (ry m.tb i.toNat Q) (λj=>if j=i.toNat then 0 else mb j) (λj=>if j=i.toNat then []else M j))) (l₂:=R)).symm;simpa using this
   have h5:Ow B w0 w (bP b ⟨ry m.tb i.toNat Q,m.pg.filter λx=>x.1.toNat / 64 !=i.toNat⟩::ag aP s (dt m.pg i.toNat)::R):=Ow.gq (m:=⟨ry m.tb i.toNat Q,m.pg.filter λx=>x.1.toNat / 64 !=i.toNat⟩) hok (λj=>?_) h4
   .exact hK s w h5.cC
   .by_cases e:j=i.toNat
    .rw[e];simp only[qE]
     show([]:gh).Perm (dt (m.pg.filter λx=>x.1.toNat / 64 !=i.toNat) i.toNat);have:dt (m.pg.filter λx=>x.1.toNat / 64 !=i.toNat) i.toNat= []:=by unfold dt;rw[List.filter_filter,Us];intro x _;simp
     rw[this]
    .simp only[Y e]
     show(M j).Perm (dt (m.pg.filter λx=>x.1.toNat / 64 !=i.toNat) j);rw[LH e];exact hM j
  .by_cases e:j=i.toNat
   .rw[e]
    unfold dA ry;simp
   .unfold dA ry
    simp only[Y e]
theorem JF{s x:Sl}{xs ys:gh}{k:Sl->Pw}(h:Ow B w0 w (ag aP s xs::L))(hx:lP aP.z w x (ys.flatMap aP.enc))(hxl:x.len=ys.length)(hbig:xs.length+ys.length<=1000000)(hk:∀s' w',s'.len=xs.length+ys.length->Ow B w0 w' (ag aP s' (xs++ys)::L)->k s' w'):
  ∃s' w',dO qh [81,81] 81 s.v x.v w s' w'/\k s' w':=
 Ow.app (s:=s) (xs:=xs) (ys:=ys) underlying81 (show qh.info? 204=X qZ from by kernel_rfl) (zv:=(qZ.zero).get qa) qa qa qa qb h 0 O hx hxl (by
  have e:qZ.bytes=24:=qa
  rw[e];omega) λs' w' hl h=>hk s' w' hl h
theorem kJ{K:Sl->Pw}(h:Ow B w0 w (bP b m::R))(hK:∀s w',Ow B w0 w' (ag aP s m.pg::bP b m::R)->K s w'):ZZ b.o K w:=by
 apply aeE;obtain⟨mb,M,ho,hM,h⟩:=h.M8;have hall:=LI ho;have hlen:=rr m.pg 0 4096 ho.mo λx hx=>⟨(ho.vp x hx).1,(ho.vp x hx).2.1⟩
 refine⟨_,O,⟨(iy m.tb mb).flatMap jy.enc⟩,tp,λi hi=>?_,?_⟩
 .have hb:=h.yX 0 O
  rw[aL,hb.cell,SS];simp
 intro l5 hl5;have loop:∀(k t:S)(out:Sl)(w:W),t+k=64->Ow B w0 w (ag aP out ((SF t).flatMap (dt m.pg))::ae b ((iy m.tb mb).flatMap jy.enc)::((SF 64).map (dA m.tb mb M)++R))->l5 out (t:U) w:=by
  intro k;induction k with
  |zero=>
   intro t out w ht h;obtain rfl:t=64:=om
   apply hl5;refine av om ?_;rw[hall]at h;refine hK out w ?_;have h4:Ow B w0 w (ae b ((iy m.tb mb).flatMap jy.enc)::((SF 64).map (dA m.tb mb M)++ag aP out m.pg::R)):=by refine h.perm ?_;have:=(Tw (a:=ag aP out m.pg) (l₁:=ae b ((iy m.tb mb).flatMap jy.enc)::(SF 64).map (dA m.tb mb M)) (l₂:=R)).symm;simpa using this
   have h5:Ow B w0 w (bP b m::ag aP out m.pg::R):=Ow.gq ho hM h4;exact h5.cC
  |succ k ih=>
   intro t out w ht h;apply hl5;refine az om ⟨om,om,?_⟩;have htq:t<64:=om
   refine⟨(m.tb t).getD 0,?_,(m.tb t).map λ_=>mb t,?_,?_⟩
   .rw[SD,UD]
    simpa using Ch (tb:=m.tb) (mb:=mb) htq
   .rw[SD]
    simpa using Ci (tb:=m.tb) (mb:=mb) htq
   .refine h.a λd w2 h=>?_;refine h.aB O O λw h=>?_
    refine⟨_,h.aE O,h.l2 O (Dh ho hM (t+3) h (by rw[SR,SR];exact gw htq _) λs w h=>?_)⟩;have hs:=h.tX 0 O;have hsl:=h.len 0 O;have h2:Ow B w0 w (ag aP out ((SF t).flatMap (dt m.pg))::ae b ((iy m.tb mb).flatMap jy.enc)::((SF 64).map (dA m.tb mb M)++R)):=h.drop.drop;have hpre:((SF t).flatMap (dt m.pg)).length+(dt m.pg t).length<=1000000:=by
     have e:(SF (t+1)).flatMap (dt m.pg)=(SF t).flatMap (dt m.pg)++dt m.pg t:=by rw[UG,Tp];simp
     have hsub:((SF (t+1)).flatMap (dt m.pg)).length<=((SF 64).flatMap (dt m.pg)).length:=by
      have e64:SF 64=SF (t+1)++(SF (64-(t+1))).map (λx=>t+1+x):=by rw[<-List.range_add];congr 1;omega
      rw[e64,Tp,SG];omega
     rw[e,hall,SG]at hsub;omega
    refine JF h2 hs hsl hpre λs' w hs' h=>?_;rw[wI t om];refine ih (t+1) s' w om ?_;have e:(SF (t+1)).flatMap (dt m.pg)=(SF t).flatMap (dt m.pg)++dt m.pg t:=by rw[UG,Tp];simp
    rw[e];exact h
 exact loop 64 0 z0 w om (Ow.cB h)
theorem pa{w:W}{a:qf}{x:U × Pg}{f:U->U->U->Prop}(g:∀c v,(aP.enc x)[c]?=X v->w.cell? (a.add c)=X v)(hf:f x.1 x.2.1 x.2.2):hI w a 0 [.o,.o,.o] f:=
 ⟨_,g 0 _ O,_,g 1 _ O,_,g 2 _ O,hf⟩
theorem eS{s:Sl}{ys:J U}{y:U}{c:S}{L:J aG}{k:Sl->Pw}[ale:bG s L U ax ys][ak8:eL (ag ax s ys) L R](h:Ow B w0 w (ae c [.z y]::L))(hbig:ys.length<=1000000000)
  (hk:∀s' w',s'.len=ys.length+1->Ow B w0 w' (ag ax s' (ys++ [y])::R)->k s' w'):
  ∃s' w',dO qh [22,22] 22 s.v (.slice (X c.p) 1 1) w s' w'/\k s' w':=
 Ow.eZ (E:=ax) (y:=y) qJ (show qh.info? 3=X qI from by kernel_rfl) (zv:= .z 0) qa qa O qb h (by
  have e:qI.bytes=8:=qa
  rw[e];omega) hk
def di(P:gh)(f:U):J U:=(P.filter λx=>x.2.1==f).map (·.1)
theorem Cy{f:U}{K:Sl->Pw}(h:Ow B w0 w (bP b m::R))(hK:∀s w',Ow B w0 w' (ag ax s (di m.pg f)::bP b m::R)->K s w'):adb b.o f K w:=by
 apply aeO;have ho:fV m:=by obtain⟨_,_,ho,_,_⟩:=h.M8;exact ho
 have hlen:=rr m.pg 0 4096 ho.mo λx hx=>⟨(ho.vp x hx).1,(ho.vp x hx).2.1⟩
 refine kJ h λs w h=>?_;have hl:=h.aF s;intro l5 hl5;have loop:∀(k t:S)(out:Sl)(w:W),t+k=m.pg.length->Ow B w0 w (ag ax out (di (m.pg.take t) f)::ag aP s m.pg::bP b m::R)->l5 out (t:U) w:=by
  intro k;induction k with
  |zero=>
   intro t out w ht h;apply hl5;refine av om ?_;rw[SE om]at h;exact hK out w h.vI
  |succ k ih=>
   intro t out w ht h;apply hl5;refine az om ?_;have hx:m.pg[t]?=X m.pg[t]:=gE om;refine h.cd (s:=s) (i:=(t:U)) (j:=t) O hx λa ha h0 hc=>?_;refine pa hc ?_;refine h.a λd w2 h=>?_;refine h.aB O O λw h=>?_;refine h.l2 O ?_;have e:di (m.pg.take (t+1)) f=di (m.pg.take t) f++(if m.pg[t].2.1=f then [m.pg[t].1]else []):=by
    unfold di;rw[SO,hx,Ur,Tm,S0];congr 1;by_cases e:m.pg[t].2.1=f
    .rw[Z e,Tk,Z (by simpa using e)];rfl
    .rw[Y e,Tk,Y (by simpa using e)];rfl
   rw[wI t om];refine dW (λe2=>?_) (λe2=>?_)
   .rw[Z e2]at e
    refine h.l1 O ?_;refine h.a λd3 w3 h=>?_;refine eS (s:=out) (ys:=di (m.pg.take t) f) (y:=m.pg[t].1) h (by unfold di;rw[S9];have:=S3 (λx:U × Pg=>x.2.1==f) (m.pg.take t);rw[SN]at this;omega) λs' w hs' h=>?_;refine ih (t+1) s' w om ?_;rw[e];exact h.vI
   .rw[Y e2,SL]at e
    refine ih (t+1) out w om ?_;rw[e];exact h.drop
 exact loop m.pg.length 0 z0 w om (Ow.cB h)
def bz(s:Sl):V:= s.v
def kf:dX (U × U):=⟨2,λo=>[.z o.1,.z o.2],λ_=>rfl,λx v h=>by simp only[SH,TE,qG]at h;rcases h with rfl|rfl<;>rfl,qb⟩
abbrev P4:=J (U × U)
structure kh(m:dS)(T:P4)(P:gh):Prop where
 ok:fV m
 pg:P.Perm m.pg
 nd:(T.map (·.1)).Nodup
 tb:∀i n,(i,n)∈T↔m.at i=X n
def db(b:S)(m:dS):aG:=oA λx:(Sl × Sl)× P4 × gh=>aQ [dw (kh m x.2.1 x.2.2),ae b [bz x.1.1,bz x.1.2],ag kf x.1.1 x.2.1,ag aP x.1.2 x.2.2]
theorem DE:∀(n:S)(l:J U),l.Nodup->(∀x∈l,0<=x/\x<(n:U))->l.length<=n
 |0,l,_,h=>by
  cases l with
  |nil=>simp
  |cons a l=>have:=h a qc;omega
 |n+1,l,hn,h=>by
  have h1:=DE n (l.filter λx=>x !=(n:U)) (hn.sublist Vb) λx hx=>by
   have h2:=SV.1 hx;have h3:=h x h2.1;have h4:x≠(n:U):=by simpa using h2.2
   omega
  have h2:l.length<=(l.filter λx=>x !=(n:U)).length+1:=by
   clear h1 h;induction l with
   |nil=>simp
   |cons a l ih=>
    rw[Tx]at hn;by_cases e:a=(n:U)
    .have:l.filter (λx=>x !=(n:U))=l:=by
      rw[TF];intro x hx;have:x≠(n:U):=λe2=>hn.1 (by rw[e,<-e2];exact hx);simpa using this
     rw[List.filter_cons_of_neg (by simp[e]),this,SJ];exact Nat.le_refl _
    .rw[List.filter_cons_of_pos (by simpa using e),SJ,SJ]
     have:=ih hn.2;omega
  omega
end
section
variable{B:S}{w0 w:W}{R L:J aG}{b:S}{m:dS}{T:P4}{P:gh}
theorem fV.E5(h:fV m):m.pg.length<=4096:=by
 have:=rr m.pg 0 4096 h.mo λx hx=>⟨(h.vp x hx).1,(h.vp x hx).2.1⟩
 omega
theorem Pn{k:U}(h0:0<=k)(h1:k<4096):qj.wrap (k.tdiv 64)=((k.toNat / 64:S):U):=by obtain⟨n,rfl⟩:=SI h0;have:(n:U).tdiv 64=((n / 64:S):U):=rfl;rw[this,wr om om,SD]
theorem fV.JI(h:fV m){i n:U}(e:m.at i=X n):0<=i/\i<64/\m.tb i.toNat=X n:=by
 unfold dS.at at e;split at e
 .cases e
 .have:=h.fu i.toNat (by rw[e];rfl)
  exact⟨om,om,e⟩
theorem fV.Pf{i n:U}(h0:0<=i)(e:m.tb i.toNat=X n):m.at i=X n:=by unfold dS.at;rw[Y om];exact e
theorem kh.OP(h:kh m T P):T.length<=64:=by
 have:=DE 64 (T.map (·.1)) h.nd λx hx=>by obtain⟨⟨i,n⟩,hy,e⟩:=Tj.1 hx;have:=h.ok.JI ((h.tb i n).1 hy);have e:i=x:=e;omega
 simpa using this
theorem kh.MR(h:kh m T P):P.length<=4096:=by rw[h.pg.length_eq];exact h.ok.E5
theorem kh.Sq(h:kh m T P):(P.map (·.1)).Nodup:=(h.pg.map _).nodup_iff.2 h.ok.mo.nodup
theorem kh.look(h:kh m T P){k:U}{v:Pg}(hm:(k,v)∈P):look m.pg k=X v:=h.ok.mo.look (h.pg.mem_iff.1 hm)
theorem _root_.Go.Vc.Ow.Lr(h:Ow B w0 w (db b m::R)):∃sT sP T P,kh m T P/\Ow B w0 w (ae b [bz sT,bz sP]::ag kf sT T::ag aP sP P::R):=by obtain⟨⟨⟨sT,sP⟩,T,P⟩,h⟩:=h.ex;obtain⟨h1,h⟩:=Ow.pure h.star;exact⟨sT,sP,T,P,h1,h⟩
theorem _root_.Go.Vc.Ow.ig{sT sP:Sl}(h1:kh m T P)(h:Ow B w0 w (ae b [bz sT,bz sP]::ag kf sT T::ag aP sP P::R)):Ow B w0 w (db b m::R):=
 Ow.eu ((sT,sP),T,P) (Ow.aR (Ow.cI h1 h))
theorem kh.new:kh js [] []:=⟨fV.new,List.Perm.refl _,qc,λi n=>⟨λh=>by simp at h,λh=>by have:=fV.new.JI h;simp[js]at this⟩⟩
theorem uW{i:U}{K:U->I->Pw}(h:Ow B w0 w (db b m::R))(hK:K ((m.at i).getD 0) (m.at i).isSome w):abG b.o i K w:=by
 apply ajd;obtain⟨sT,sP,T,P,hr,h⟩:=h.Lr;have hl:=h.aF sT;have htl:=hr.OP;intro l3 hl3;have loop:∀(j k:S),k+j=T.length->(∀x∈T.take k,x.1≠i)->l3 (k:U) w:=by
  intro j;induction j with
  |zero=>
   intro k hk hno;apply hl3;refine⟨_,O,sT,h.aE O,av om ?_⟩;have e:m.at i=none:=by
    cases e:m.at i with
    |none=>rfl
    |some n=>exact qk O (hno (i,n) (by rw[SE om];exact(hr.tb i n).2 e))
   rw[e]at hK;exact hK
  |succ j ih=>
   intro k hk hno;apply hl3;have hx:T[k]?=X T[k]:=gE om;refine⟨_,O,sT,h.aE O,az om ⟨_,O,sT,h.aE O,h.cd (s:=sT) (i:=(k:U)) (j:=k) O hx λa ha h0 hc=>⟨_,h0 _ O,?_⟩⟩⟩
   refine dW (λe=>?_) (λe=>?_)
   .refine ⟨_,O,sT,h.aE O,?_⟩
    refine h.cd (s:=sT) (i:=(k:U)) (j:=k) O hx λa ha h0 hc=>⟨_,hc 1 _ O,?_⟩
    have e2:m.at i=X T[k].2:=(hr.tb i _).1 (by rw[<-e];exact Tq _);rw[e2]at hK;exact hK
   .rw[wI k om]
    refine ih (k+1) om λx hx2=>?_;rw[SO,hx,Ur,Tv,Tf]at hx2;rcases hx2 with h1|h1
    .exact hno x h1
    .rw[h1];exact e
 exact loop T.length 0 om (λx hx=>by simp at hx)
theorem CI{s:Sl}{ys:P4}{y:U × U}{c:S}{L:J aG}{k:Sl->Pw}[ale:bG s L (U × U) kf ys][ak8:eL (ag kf s ys) L R](h:Ow B w0 w (ae c [.z y.1,.z y.2]::L))(hbig:ys.length<=1000000000)
  (hk:∀s' w',s'.len=ys.length+1->Ow B w0 w' (ag kf s' (ys++ [y])::R)->k s' w'):
  ∃s' w',dO qh [127,127] 127 s.v (.slice (X c.p) 1 1) w s' w'/\k s' w':=
 Ow.eZ (E:=kf) (y:=y) underlying127 (show qh.info? 410=X akt from by kernel_rfl) (zv:=(akt.zero).get qa) qa qa qa qb h (by
  have e:akt.bytes=16:=qa
  rw[e];omega) hk
theorem Nr{i j:U}{v:qg U}(hi:0<=i):(⟨ry m.tb i.toNat v,m.pg⟩:dS).at j=if j=i then v else m.at j:=by
 unfold dS.at ry;by_cases hj:j<0
 .rw[Z hj,Y om,Z hj]
 .rw[Y hj]
  by_cases e:j=i
  .rw[Z e,e];simp
  .simp only
   rw[Y om,Y e,Y hj]
theorem DI{i n:U}{K:U->Pw}(h:Ow B w0 w (db b m::R))(hK:∀w',Ow B w0 w' (db b (m.iX i n).2::R)->K (m.iX i n).1 w'):aal b.o i n K w:=by
 apply ai9;obtain⟨sT,sP,T,P,hr,h⟩:=h.Lr;have hl:=h.aF sT;have htl:=hr.OP;have hok:=hr.ok.table i n;unfold dS.iX at hK hok;intro k4 hk4;have bad:¬(0<=i/\i<64/\0<=n)->k4 G w:=λe=>by rw[Z e]at hK;exact hk4 _ _ (aW O (hK w (Ow.ig hr h)))
 refine bh (λe=>bad λhh=>by omega) (λe1=>?_);refine bh (λe=>bad λhh=>by omega) (λe2=>?_);by_cases e3:n<0
 .rw[qp e3];exact bad λhh=>by omega
 rw[ql e3];have hi:0<=i/\i<64:=om
 rw[Y (λhh=>hh ⟨hi.1,hi.2,om⟩)]at hK hok;refine hk4 _ _ (aV O ?_);have full:∀(K2:I->Pw),(∀t w',(bif t then K 140 w' else qm)->K2 t w')->((m.tb i.toNat).isSome=G\/((SF 64).any λj=>m.tb j==X n)=G)->K2 G w:=λK2 h2 e=>by rw[Z e]at hK;exact h2 G w (aW O (hK w (Ow.ig hr h)))
 intro l7 hl7;have loop:∀(j k:S),k+j=T.length->(∀x∈T.take k,x.1≠i/\x.2≠n)->l7 (k:U) w:=by
  intro j;induction j with
  |zero=>
   intro k hk hno;rw[SE om]at hno;apply hl7;refine⟨_,O,sT,h.aE O,av om ?_⟩;have hfree:m.tb i.toNat=none:=by
    cases e:m.tb i.toNat with
    |none=>rfl
    |some v=>exact qk O (hno (i,v) ((hr.tb i v).2 (fV.Pf hi.1 e))).1
   have hany:¬((SF 64).any λj=>m.tb j==X n)=true:=λe=>by
    obtain⟨j,_,e⟩:=TY.1 e;have e:m.tb j=X n:=by simpa using e
    exact qk O (hno ((j:U),n) ((hr.tb _ n).2 (fV.Pf om (by rw[SD];exact e)))).2
   rw[Y (by rw[hfree];simpa using hany)]at hK hok;refine⟨_,O,sT,h.aE O,h.a λd w2 h=>?_⟩;refine CI (s:=sT) (ys:=T) (y:=(i,n)) h om λs' w hs' h=>?_;refine⟨_,O,?_⟩;have h:=h.cC;refine h.jD O O λw h=>?_;refine hK w (Ow.ig (sT:=s') (sP:=sP) (T:=T++ [(i,n)]) (P:=P) ⟨hok,hr.pg,?_,λj x=>?_⟩ h)
   .rw[S0,List.nodup_append]
    refine⟨hr.nd,qc,λx hx y hy e=>?_⟩;simp only[S7,List.map_nil,Tf]at hy;obtain⟨z,hz,e2⟩:=Tj.1 hx;exact(hno z hz).1 (by rw[e2,e,hy])
   .rw[Tv,Tf,Nr hi.1]
    by_cases e:j=i
    .rw[Z e]
     constructor
     .rintro (h1|h1)
      .exact qk e (hno _ h1).1
      .cases h1;rfl
     .intro h1;cases h1;exact .inr (by rw[e])
    .rw[Y e,hr.tb]
     exact⟨λh1=>h1.resolve_right λh2=>e (by cases h2;rfl),.inl⟩
  |succ j ih=>
   intro k hk hno;apply hl7;have hx:T[k]?=X T[k]:=gE om;have hmem:T[k]∈T:=Tq _;refine⟨_,O,sT,h.aE O,az om ?_⟩;intro k12 hk12;have fl:((m.tb i.toNat).isSome=G\/((SF 64).any λj=>m.tb j==X n)=G)->k12 G w:=λe=>by refine hk12 _ _ (aW O ?_);rw[Z e]at hK;exact hK w (Ow.ig hr h)
   refine⟨_,O,sT,h.aE O,h.cd (s:=sT) (i:=(k:U)) (j:=k) O hx λa ha h0 hc=>⟨_,h0 _ O,?_⟩⟩
   have hat:=hr.ok.JI ((hr.tb T[k].1 T[k].2).1 hmem);refine dW (λe=>fl (.inl (by rw[<-e,hat.2.2];rfl))) (λe=>?_);refine⟨_,O,sT,h.aE O,h.cd (s:=sT) (i:=(k:U)) (j:=k) O hx λa ha h0 hc=>⟨_,hc 1 _ O,?_⟩⟩
   by_cases e5:T[k].2=n
   .rw[show(T[k].2==n)=G from by simpa using e5]
    exact fl (.inr (TY.2 ⟨T[k].1.toNat,T6.2 om,by rw[hat.2.2,e5];simp⟩))
   .rw[show(T[k].2==n)=qd from by simpa using e5]
    refine hk12 _ _ (aV O ?_);rw[wI k om];refine ih (k+1) om λx hx2=>?_;rw[SO,hx,Ur,Tv,Tf]at hx2;rcases hx2 with h1|h1
    .exact hno x h1
    .rw[h1];exact⟨e,e5⟩
 exact loop T.length 0 om (λx hx=>by simp at hx)
theorem BR{n:U}{sT sP:Sl}{K:U->Pw}(hr:kh m T P)(h:Ow B w0 w (ae b [bz sT,bz sP]::ag kf sT T::ag aP sP P::R))(hK0:look m.pg n=Q->K (-1) w)(hK1:∀(k:S)(v:Pg),P[k]?=X (n,v)->look m.pg n=X v->K (k:U) w):abN b.o n K w:=by
 apply ajf;have hl:=h.aF sP;have hpl:=hr.MR;intro l3 hl3;have loop:∀(j k:S),k+j=P.length->(∀x∈P.take k,x.1≠n)->l3 (k:U) w:=by
  intro j;induction j with
  |zero=>
   intro k hk hno;rw[SE om]at hno;apply hl3;refine⟨_,O,sP,h.aA O,av om (hK0 (dE.2 λx hx=>hno x (hr.pg.mem_iff.2 hx)))⟩
  |succ j ih=>
   intro k hk hno;apply hl3;have hx:P[k]?=X P[k]:=gE om;refine⟨_,O,sP,h.aA O,az om ⟨_,O,sP,h.aA O,h.cd (s:=sP) (i:=(k:U)) (j:=k) O hx λa ha h0 hc=>⟨_,h0 _ O,?_⟩⟩⟩
   refine dW (λe=>?_) (λe=>?_)
   .refine hK1 k P[k].2 (by rw[hx,<-e]) ?_
    exact hr.look (by rw[<-e];exact Tq _)
   .rw[wI k om]
    refine ih (k+1) om λx hx2=>?_;rw[SO,hx,Ur,Tv,Tf]at hx2;rcases hx2 with h1|h1
    .exact hno x h1
    .rw[h1];exact e
 exact loop P.length 0 om (λx hx=>by simp at hx)
theorem PD{w:W}{a:qf}{x:U × Pg}{f:U->U->Prop}(g:∀c v,(aP.enc x)[c]?=X v->w.cell? (a.add c)=X v)(hf:f x.2.1 x.2.2):hI w (a.add 1) 0 [.o,.o] f:=by
 have g4:w.cell? ((a.add 1).add 1)=X (.z x.2.2):=by
  have:=g 2 _ (rfl:(aP.enc x)[2]?=X (.z x.2.2));have e:(a.add 1).add 1=a.add 2:=by unfold Addr.add;simp
  rw[e];exact this
 have g3:w.cell? ((a.add 1).add 0)=X (.z x.2.1):=g 1 _ O;exact⟨_,g3,_,g4,hf⟩
theorem Gg:∀{P:gh}{k:S}{n:U}{u v:Pg},(P.map (·.1)).Nodup->P[k]?=X (n,u)->ko P n v=P.set k (n,v)/\mA P n=P.eraseIdx k
 | [],k,n,u,v,_,h=>by simp at h
 |x::P,0,n,u,v,_,h=>by simp at h;subst h;simp[ko,mA]
 |x::P,k+1,n,u,v,hn,h=>by
  rw[S7,Tx]at hn;have h:P[k]?=X (n,u):=by simpa using h
  have hne:x.1≠n:=λe=>hn.1 (Tj.2 ⟨_,List.mem_of_getElem? h,by rw[e]⟩);obtain⟨h1,h2⟩:=Gg (v:=v) hn.2 h;unfold ko mA;rw[Y hne,Y hne,h1,h2];exact⟨O,O⟩
theorem Km{P:gh}(h:mz P){n:U}(v:Pg)(hl:look P n=Q):((n,v)::P).Perm (kU P n v):=by
 have hs:=pX h n v;refine(List.perm_ext_iff_of_nodup ?_ (fX hs.nodup)).2 λx=>?_
 .refine Tx.2 ⟨λhm=>dE.1 hl _ hm O,fX h.nodup⟩
 .rw[SH,kp h]
  exact⟨λe=>e.elim .inl λhx=> .inr ⟨hx,dE.1 hl x hx⟩,λe=>e.elim .inl λhx=> .inr hx.1⟩
theorem FJ{n:U}{K:U->U->I->Pw}(h:Ow B w0 w (db b m::R))(hK:∀w',Ow B w0 w' (db b m::R)->K ((look m.pg n).getD (0,0)).1 ((look m.pg n).getD (0,0)).2 (look m.pg n).isSome w'):X4 b.o n K w:=by
 apply ajg;refine h.a λd w1 h=>?_;have h:Ow B w0 w1 (db b m::ae d [.z 0,.z 0]::R):=h.cC;obtain⟨sT,sP,T,P,hr,h⟩:=h.Lr;have hl:=h.aF sP;refine BR hr h (λe=>?_) (λk v hk e=>?_)
 .rw[e]at hK
  refine az qb ?_;refine h.aB O O λw h=>?_;refine h.aM O ?_;have h:Ow B w0 w (db b m::ae d _::R):=Ow.ig hr h;exact hK w h.vI
 .rw[e]at hK
  have hlt:=(Sz.1 hk).1;refine av om ⟨_,O,sP,h.aA O,?_⟩;refine h.cd (s:=sP) (i:=(k:U)) (j:=k) O hk λa ha h0 hc=>PD (x:=(n,v)) hc ?_;refine h.aB O O λw h=>?_;refine h.aM O ?_;have h:Ow B w0 w (db b m::ae d _::R):=Ow.ig hr h;exact hK w h.vI
theorem Is{k:U}{p:Pg}{K:U->Pw}(h:Ow B w0 w (db b m::R))(hK:∀w',Ow B w0 w' (db b (m.ph k p).2::R)->K (m.ph k p).1 w'):aam b.o k p.1 p.2 K w:=by
 apply aja;have hok:fV m:=by obtain⟨_,_,_,_,hr,_⟩:=h.Lr;exact hr.ok
 unfold dS.ph at hK;refine h.a λd w1 h=>?_;intro k6 hk6;have bad:¬(0<=k/\k<4096/\0<=p.1/\0<=p.2/\p.2<=7)->k6 G w1:=λe=>by rw[Z e]at hK;exact hk6 _ _ (aW O (hK w1 h.drop))
 refine bh (λe=>bad λhh=>by omega) (λe1=>?_);refine bh (λe=>bad λhh=>by omega) (λe2=>?_);refine h.l1 O ?_;refine bh (λe=>bad λhh=>by omega) (λe3=>?_);refine h.l2 O ?_;refine bh (λe=>bad λhh=>by omega) (λe4=>?_);refine h.l2 O ?_;by_cases e5:p.2>7
 .rw[qp e5];exact bad λhh=>by omega
 rw[ql e5];have hk:0<=k/\k<4096:=om
 rw[Y (λhh=>hh ⟨hk.1,hk.2,om,om,om⟩)]at hK;refine hk6 _ _ (aV O ⟨qb,?_⟩);rw[Pn hk.1 hk.2];have h:Ow B w0 w1 (db b m::ae d [.z p.1,.z p.2]::R):=h.cC;refine uW h ?_;have eat:m.at ((k.toNat / 64:S):U)=m.tb (k.toNat / 64):=by unfold dS.at;rw[Y om,SD]
 rw[eat];cases ht:m.tb (k.toNat / 64)with
 |none=>rw[Z ht]at hK;exact aW O (hK w1 h.vI)
 |some v=>
  have hs:(m.tb (k.toNat / 64)).isSome=true:=by rw[ht];rfl
  rw[Y (by rw[ht];simp)]at hK;refine aV O ?_;obtain⟨sT,sP,T,P,hr,h⟩:=h.Lr;have hl:=h.aF sP;have hpl:=hr.MR;refine BR hr h (λe=>?_) (λj v hj e=>?_)
  .rw[Y (by rw[e];simp)]at hK
   refine av qb ?_;refine h.dr λw h=>?_;refine⟨_,O,sP,h.aA O,h.aM O (Go.Vc.a2 (h.a λd2 w2 h=>?_))⟩;refine Go.Vc.a2 ?_;refine kv (s:=sP) (ys:=P) (y:=(k,p)) h om λs' w hs' h=>?_;refine⟨_,O,Go.Vc.a2 (h.fD O O λw h=>?_)⟩;refine hK w ?_;have h2:Ow B w0 w (ae b [bz sT,s'.v]::ag kf sT T::ag aP s' (P++ [(k,p)])::ae d [.z p.1,.z p.2]::R):=h.sub;have h3:Ow B w0 w (db b { m with pg:=kU m.pg k p}::ae d [.z p.1,.z p.2]::R):=Ow.ig (m:={ m with pg:=kU m.pg k p}) (sT:=sT) (sP:=s') ⟨hok.ins hk hs p,?_,hr.nd,λi n=>hr.tb i n⟩ h2
   .exact h3.vI
   .exact (List.perm_append_singleton _ _).trans ((hr.pg.cons _).trans (Km hok.mo p e))
  .rw[Z (by rw[e];rfl)]at hK
   refine az om ?_;have h:Ow B w0 w1 (db b m::ae d _::R):=Ow.ig hr h;exact hK w1 h.vI
theorem lV{k:U}{K:U->U->U->Pw}(h:Ow B w0 w (db b m::R))(hK:∀w',Ow B w0 w' (db b (m.cJ k).2.2::R)->K (m.cJ k).1.1 (m.cJ k).1.2 (m.cJ k).2.1 w'):aan b.o k K w:=by
 apply ajb;have hok:fV m:=by obtain⟨_,_,_,_,hr,_⟩:=h.Lr;exact hr.ok
 have hok2:=hok.mU k;unfold dS.cJ at hK hok2;refine h.a λd w1 h=>?_;intro k4 hk4;have bad:¬(0<=k/\k<4096)->k4 G w1:=λe=>by
  rw[Z e]at hK;refine hk4 _ _ (aW O ?_);refine h.aB O O λw h=>?_;refine h.aM O ?_;exact hK w h.drop
 refine bh (λe=>bad λhh=>by omega) (λe1=>?_);by_cases e2:k>4095
 .rw[qp e2];exact bad λhh=>by omega
 rw[ql e2];rw[Y (λhh=>hh ⟨om,om⟩)]at hK hok2;refine hk4 _ _ (aV O ?_);have h:Ow B w0 w1 (db b m::ae d [.z 0,.z 0]::R):=h.cC;obtain⟨sT,sP,T,P,hr,h⟩:=h.Lr;have hl:=h.aF sP;have hpl:=hr.MR;refine BR hr h (λe=>?_) (λj v hj e=>?_)
 .rw[e]at hK
  refine h.a λd2 w2 h=>?_;refine az qb ?_;have h:=h.drop;refine h.aB O O λw h=>?_;refine h.aM O ?_;have h:Ow B w0 w (db b m::ae d _::R):=Ow.ig hr h;exact hK w h.vI
 .rw[e]at hK hok2
  have hlt:=(Sz.1 hj).1;refine h.a λd2 w2 h=>?_;refine av om ⟨_,O,sP,h.aA O,?_⟩;refine h.cd (s:=sP) (i:=(j:U)) (j:=j) O hj λa ha h0 hc=>PD (x:=(k,v)) hc ?_;have h:Ow B w0 w2 (ag aP ⟨X d2.p,0,0⟩ []::_):=Ow.empty h;refine h.a λd3 w3 h=>?_;refine h.aB O O λw h=>?_;intro l23 hl23;have loop:∀(q i:S)(rest:Sl)(w:W),i+q=P.length->Ow B w0 w (ag aP rest ((P.take i).eraseIdx j)::ae d3 [.z v.1,.z v.2]::ae b [bz sT,bz sP]::ag kf sT T::ag aP sP P::ae d [.z 0,.z 0]::R)->l23 rest (i:U) w:=by
   intro q;induction q with
   |zero=>
    intro i rest w hi h;apply hl23;rw[SE om]at h;refine⟨_,O,sP,h.aA O,av om ⟨_,O,h.fD O O λw h=>?_⟩⟩;refine h.aM O ?_;refine h.aB O O λw h=>?_;refine h.aM O ?_;have h2:Ow B w0 w (ae b [bz sT,rest.v]::ag kf sT T::ag aP rest (P.eraseIdx j)::R):=h.sub;refine hK w (Ow.ig (m:={ m with pg:=od m.pg k}) (sT:=sT) (sP:=rest) ⟨hok2,?_,hr.nd,λi n=>hr.tb i n⟩ h2);have:=zJ hr.pg hok.mo k;rw[(Gg (v:=v) hr.Sq hj).2]at this;exact this
   |succ q ih=>
    intro i rest w hi h;apply hl23;have hx:P[i]?=X P[i]:=gE om;have et:P.take (i+1)=P.take i++ [P[i]]:=by rw[SO,hx];rfl
    have ei:qj.wrap ((i:U)+1)=((i+1:S):U):=by rw[wr om om];omega
    refine⟨_,O,sP,h.aA O,az om ?_⟩;rw[ei];refine pR (λe5=>?_) (λe5=>?_)
    .refine ⟨_,O,sP,h.aA O,?_⟩
     refine h.cd (s:=sP) (i:=(i:U)) (j:=i) O hx λa ha h0 hc=>pa hc ?_;refine h.a λd4 w4 h=>?_;have hln:((P.take i).eraseIdx j).length<=4096:=by have:=List.length_eraseIdx_le (P.take i) j;rw[SN]at this;omega
     refine kv (s:=rest) (ys:=(P.take i).eraseIdx j) (y:=P[i]) h om λs' w hs' h=>?_;refine ih (i+1) s' w om ?_;have e6:(P.take (i+1)).eraseIdx j=(P.take i).eraseIdx j++ [P[i]]:=by
      rw[et];by_cases e7:j<i
      .rw[List.eraseIdx_append_of_lt_length (by rw[SN];omega)]
      .rw[VJ (by rw[SG,SN];simp;omega),VJ (by rw[SN];omega)]
     rw[e6];exact h
    .refine ih (i+1) rest w om ?_
     have e8:i=j:=om
     have e6:(P.take (i+1)).eraseIdx j=(P.take i).eraseIdx j:=by rw[et,<-e8,List.eraseIdx_append_of_length_le (by rw[SN];omega),SN,TL om,Nat.sub_self,VJ (show(P.take i).length<=i by rw[SN];omega)];simp
     rw[e6];exact h
  exact loop P.length 0 ⟨X d2.p,0,0⟩ w om h.cC
theorem pw{K:Sl->Pw}(h:Ow B w0 w (db b m::R))(hK:∀s w',Ow B w0 w' (ag aP s m.pg::db b m::R)->K s w'):VP b.o K w:=by
 apply ai8;obtain⟨sT,sP,T,P,hr,h⟩:=h.Lr;have hl:=h.aF sP;have hpl:=hr.MR;have hpe:=hr.pg.length_eq;refine h.a λd w1 h=>?_;have h:Ow B w0 w1 (ag aP ⟨X d.p,0,0⟩ []::_):=Ow.empty h;intro l3 hl3;have hle:∀n:S,(m.pg.filter λx=>qe (x.1<(n:U))).length<=m.pg.length:=λn=>S3 _ _;have loop:∀(j n:S)(out:Sl)(w:W),n+j=4096->Ow B w0 w (ag aP out (m.pg.filter λx=>qe (x.1<(n:U)))::ae b [bz sT,bz sP]::ag kf sT T::ag aP sP P::R)->l3 out (n:U) w:=by
  intro j;induction j with
  |zero=>
   intro n out w hn h;apply hl3;intro k7 hk7;rw[ql (show ¬(n:U)<4096 by omega)];refine aV O (hk7 _ _ (aV O ?_));have e:(m.pg.filter λx=>qe (x.1<(n:U)))=m.pg:=TF.2 λx hx=>by have:=hr.ok.vp x hx;simp;omega
   rw[e]at h;have h5:Ow B w0 w (db b m::ag aP out m.pg::R):=Ow.ig hr (h.sub:Ow B w0 w (ae b [bz sT,bz sP]::ag kf sT T::ag aP sP P::ag aP out m.pg::R));exact hK out w h5.cC
  |succ j ih=>
   intro n out w hn h;apply hl3;intro k7 hk7;have hlo:=h.aF out;rw[qp (show(n:U)<4096 by omega)];refine aW O ⟨_,O,sP,h.aA O,?_⟩;by_cases hall:(m.pg.filter λx=>qe (x.1<(n:U))).length=m.pg.length
   .rw[ql om]
    refine hk7 _ _ (aV O ?_);have e:(m.pg.filter λx=>qe (x.1<(n:U)))=m.pg:=List.Sublist.eq_of_length Vb hall;rw[e]at h;have h5:Ow B w0 w (db b m::ag aP out m.pg::R):=Ow.ig hr (h.sub:Ow B w0 w (ae b [bz sT,bz sP]::ag kf sT T::ag aP sP P::ag aP out m.pg::R));exact hK out w h5.cC
   .have hlt:=hle n
    rw[qp om];refine hk7 _ _ (aW O ?_);intro l10 hl10;have hsm:∀k:S,((P.take k).filter λx=>x.1==(n:U)).length<=P.length:=λk=>by have:=S3 (λx:U × Pg=>x.1==(n:U)) (P.take k);rw[SN]at this;omega
    have loop2:∀(j k:S)(out:Sl)(w:W),k+j=P.length->Ow B w0 w (ag aP out ((m.pg.filter λx=>qe (x.1<(n:U)))++((P.take k).filter λx=>x.1==(n:U)))::ae b [bz sT,bz sP]::ag kf sT T::ag aP sP P::R)->l10 out (k:U) w:=by
     intro j;induction j with
     |zero=>
      intro k out w hk h;apply hl10;refine⟨_,O,sP,h.aA O,av om ?_⟩;rw[wI n om];refine ih (n+1) out w om ?_;rw[SE om]at h;have e1:(P.filter λx=>x.1==(n:U))=m.pg.filter λx=>x.1==(n:U):=by
       have hp:(P.filter λx=>x.1==(n:U)).Perm (m.pg.filter λx=>x.1==(n:U)):=hr.pg.filter _;cases hl:look m.pg (n:U)with
       |none=>
        have e2:(m.pg.filter λx=>x.1==(n:U))= []:=Us.2 λx hx=>by have:=dE.1 hl x hx;simpa using this
        rw[e2]at hp|-;exact hp.eq_nil
       |some v=>
        have e2:(m.pg.filter λx=>x.1==(n:U))= [((n:U),v)]:=ua (hr.ok.mo.filter _) (by simp[mz]) λx=>by
         rw[SV,Tf];constructor
         .rintro ⟨h1,h2⟩
          exact hr.ok.mo.inj h1 (iL hl) (by simpa using h2)
         .intro h1;rw[h1];exact⟨iL hl,qc⟩
        rw[e2]at hp|-;exact hp.eq_singleton
      have e2:(m.pg.filter λx=>qe (x.1<((n+1:S):U)))=(m.pg.filter λx=>qe (x.1<(n:U)))++(m.pg.filter λx=>x.1==(n:U)):=by
       refine ua (hr.ok.mo.filter _) (List.pairwise_append.2 ⟨hr.ok.mo.filter _,hr.ok.mo.filter _,λx hx y hy=>?_⟩) λx=>?_
       .obtain ⟨_,h1⟩:=SV.1 hx
        obtain⟨_,h2⟩:=SV.1 hy;simp only[qF]at h1;simp only[qN]at h2;omega
       .rw[Tv,SV,SV,SV]
        simp only[qF,qN];constructor
        .rintro ⟨h1,h2⟩
         by_cases e:x.1=(n:U)
         .exact .inr ⟨h1,e⟩
         .exact .inl ⟨h1,om⟩
        .rintro (h1|h1)
         .exact ⟨h1.1,om⟩
         .exact ⟨h1.1,om⟩
      rw[e2,<-e1];exact h
     |succ j ih2=>
      intro k out w hk h;apply hl10;have hx:P[k]?=X P[k]:=gE om;have et:P.take (k+1)=P.take k++ [P[k]]:=by rw[SO,hx];rfl
      have ek:qj.wrap ((k:U)+1)=((k+1:S):U):=by rw[wr om om];omega
      refine⟨_,O,sP,h.aA O,az om ⟨_,O,sP,h.aA O,?_⟩⟩;rw[ek];refine h.cd (s:=sP) (i:=(k:U)) (j:=k) O hx λa ha h0 hc=>⟨_,h0 _ O,?_⟩
      refine dW (λe=>?_) (λe=>?_)
      .refine ⟨_,O,sP,h.aA O,?_⟩
       refine h.cd (s:=sP) (i:=(k:U)) (j:=k) O hx λa ha h0 hc=>pa hc ?_;refine h.a λd4 w4 h=>?_;have hb:=hsm k;refine kv (s:=out) (ys:=(m.pg.filter λx=>qe (x.1<(n:U)))++((P.take k).filter λx=>x.1==(n:U))) (y:=P[k]) h (by rw[SG];omega) λs' w hs' h=>?_;refine ih2 (k+1) s' w om ?_;rw[et,Tm,Tk,Z (by simpa using e),Uk,<-List.append_assoc];exact h
      .refine ih2 (k+1) out w om ?_
       rw[et,Tm,Tk,Y (by simpa using e),Uk,SL];exact h
    refine loop2 P.length 0 out w om ?_;rw[TZ,Uk,SL];exact h
 refine loop 4096 0 ⟨X d.p,0,0⟩ w1 om ?_;have e:(m.pg.filter λx=>qe (x.1<((0:S):U)))= []:=Us.2 λx hx=>by have:=hr.ok.vp x hx;simp;omega
 rw[e];exact h
theorem BW{f:U}{K:Sl->Pw}(h:Ow B w0 w (db b m::R))(hK:∀s w',Ow B w0 w' (ag ax s (di m.pg f)::db b m::R)->K s w'):abF b.o f K w:=by
 apply ajc;have ho:fV m:=by obtain⟨_,_,_,_,hr,_⟩:=h.Lr;exact hr.ok
 have hlen:=ho.E5;refine pw h λs w h=>?_;have hl:=h.aF s;refine h.a λd w2 h=>?_;have h:Ow B w0 w2 (ag ax ⟨X d.p,0,0⟩ []::_):=Ow.empty h;intro l5 hl5;have loop:∀(k t:S)(out:Sl)(w:W),t+k=m.pg.length->Ow B w0 w (ag ax out (di (m.pg.take t) f)::ag aP s m.pg::db b m::R)->l5 out (t:U) w:=by
  intro k;induction k with
  |zero=>
   intro t out w ht h;apply hl5;refine av om ?_;rw[SE om]at h;exact hK out w h.vI
  |succ k ih=>
   intro t out w ht h;apply hl5;refine az om ?_;have hx:m.pg[t]?=X m.pg[t]:=gE om;have e:di (m.pg.take (t+1)) f=di (m.pg.take t) f++(if m.pg[t].2.1=f then [m.pg[t].1]else []):=by
    unfold di;rw[SO,hx,Ur,Tm,S0];congr 1;by_cases e:m.pg[t].2.1=f
    .rw[Z e,Tk,Z (by simpa using e)];rfl
    .rw[Y e,Tk,Y (by simpa using e)];rfl
   rw[wI t om];refine h.cd (s:=s) (i:=(t:U)) (j:=t) O hx λa ha h0 hc=>⟨_,hc 1 _ O,?_⟩
   refine dW (λe2=>?_) (λe2=>?_)
   .rw[Z e2]at e
    refine h.cd (s:=s) (i:=(t:U)) (j:=t) O hx λa ha h0 hc=>⟨_,h0 _ O,?_⟩
    refine h.a λd3 w3 h=>?_;refine eS (s:=out) (ys:=di (m.pg.take t) f) (y:=m.pg[t].1) h (by unfold di;rw[S9];have:=S3 (λx:U × Pg=>x.2.1==f) (m.pg.take t);rw[SN]at this;omega) λs' w hs' h=>?_;refine ih (t+1) s' w om ?_;rw[e];exact h
   .rw[Y e2,SL]at e
    refine ih (t+1) out w om ?_;rw[e];exact h
 exact loop m.pg.length 0 ⟨X d.p,0,0⟩ w2 om h
theorem PF{w:W}{a:qf}{x:U × U}{f:U->U->Prop}(g:∀c v,(kf.enc x)[c]?=X v->w.cell? (a.add c)=X v)(hf:f x.1 x.2):hI w a 0 [.o,.o] f:=
 ⟨_,g 0 _ O,_,g 1 _ O,hf⟩
theorem Fs{i:U}{K:Sl->U->Pw}(h:Ow B w0 w (db b m::R))(hK:∀s w',Ow B w0 w' (ag aP s (m.bE i).1::db b (m.bE i).2.2::R)->K s (m.bE i).2.1 w'):abH b.o i K w:=by
 apply aje;have ho:fV m:=by obtain⟨_,_,_,_,hr,_⟩:=h.Lr;exact hr.ok
 have hok:=ho.drop i;have hkl:=ho.E5;unfold dS.bE at hK hok;intro k3 hk3;have bad:¬(0<=i/\i<64)->k3 G w:=λe=>by rw[Z e]at hK;exact hk3 _ _ (aW O (hK _ w (Ow.cB h)))
 refine bh (λe=>bad λhh=>by omega) (λe1=>?_);by_cases e2:i>63
 .rw[qp e2];exact bad λhh=>by omega
 rw[ql e2];rw[Y (λhh=>hh ⟨om,om⟩)]at hK hok;refine hk3 _ _ (aV O ?_);refine uW h ?_;have eat:m.at i=m.tb i.toNat:=by unfold dS.at;rw[Y om]
 rw[eat];cases ht:m.tb i.toNat with
 |none=>
  rw[Z ht]at hK;exact aW O (hK _ w (Ow.cB h))
 |some v0=>
  rw[Y (by rw[ht];simp)]at hK hok;refine aV O ?_;refine pw h λs9 w h=>?_;have hl9:=h.aF s9;refine h.a λd1 w2 h=>?_;have h:Ow B w0 w2 (ag aP ⟨X d1.p,0,0⟩ []::_):=Ow.empty h;refine h.a λd2 w3 h=>?_;have h:Ow B w0 w3 (ag aP ⟨X d2.p,0,0⟩ []::_):=Ow.empty h;refine h.a λd3 w4 h=>?_;have h:Ow B w0 w4 (ag kf ⟨X d3.p,0,0⟩ []::_):=Ow.empty h;have h:Ow B w0 w4 (db b m::ag kf ⟨X d3.p,0,0⟩ []::ag aP ⟨X d2.p,0,0⟩ []::ag aP ⟨X d1.p,0,0⟩ []::ag aP s9 m.pg::R):=h.sub;obtain⟨sT,sP,T,P,hr,h⟩:=h.Lr;have hlT:=h.aF sT;have htl:=hr.OP;intro l14 hl14;have loop:∀(j q:S)(out rest:Sl)(w:W),q+j=m.pg.length->Ow B w0 w (ag aP out (dt (m.pg.take q) i.toNat)::ag aP rest ((m.pg.take q).filter λx=>x.1.toNat / 64 !=i.toNat)::ag aP s9 m.pg::ae b [bz sT,bz sP]::ag kf sT T::ag kf ⟨X d3.p,0,0⟩ []::ag aP sP P::R)->l14 out rest (q:U) w:=by
   intro j;induction j with
   |zero=>
    intro q out rest w hq h;apply hl14;refine av om ?_;rw[SE om]at h;intro l35 hl35;have loop2:∀(j k:S)(cP:Sl)(w:W),k+j=T.length->Ow B w0 w (ag kf cP ((T.take k).filter λx=>x.1 !=i)::ag aP out (dt m.pg i.toNat)::ag aP rest (m.pg.filter λx=>x.1.toNat / 64 !=i.toNat)::ae b [bz sT,bz sP]::ag kf sT T::ag aP sP P::R)->l35 cP (k:U) w:=by
     intro j;induction j with
     |zero=>
      intro k cP w hk h;apply hl35;rw[SE om]at h;refine⟨_,O,sT,h.aE O,av om ⟨_,O,h.fD O O λw h=>?_⟩⟩;refine⟨_,O,h.jD O O λw h=>?_⟩;have h2:Ow B w0 w (ae b [cP.v,rest.v]::ag kf cP (T.filter λx=>x.1 !=i)::ag aP rest (m.pg.filter λx=>x.1.toNat / 64 !=i.toNat)::ag aP out (dt m.pg i.toNat)::R):=h.sub;have h3:Ow B w0 w (db b ⟨ry m.tb i.toNat Q,m.pg.filter λx=>x.1.toNat / 64 !=i.toNat⟩::ag aP out (dt m.pg i.toNat)::R):=Ow.ig (m:=⟨ry m.tb i.toNat Q,m.pg.filter λx=>x.1.toNat / 64 !=i.toNat⟩) (sT:=cP) (sP:=rest) ⟨hok,List.Perm.refl _,hr.nd.sublist (List.filter_sublist.map _),λj n=>?_⟩ h2
      .exact hK out w h3.cC
      .have e9:=Nr (m:=m) (j:=j) (v:=Q) (show 0<=i by omega)
       have e10:(⟨ry m.tb i.toNat Q,m.pg.filter λx=>x.1.toNat / 64 !=i.toNat⟩:dS).at j=(⟨ry m.tb i.toNat Q,m.pg⟩:dS).at j:=rfl;rw[e10,e9,SV,hr.tb];by_cases e:j=i
       .rw[Z e];simp[e]
       .rw[Y e];simp[e]
     |succ j ih2=>
      intro k cP w hk h;apply hl35;have hx:T[k]?=X T[k]:=gE om;have et:T.take (k+1)=T.take k++ [T[k]]:=by rw[SO,hx];rfl
      have ek:qj.wrap ((k:U)+1)=((k+1:S):U):=by rw[wr om om];omega
      refine⟨_,O,sT,h.aE O,az om ⟨_,O,sT,h.aE O,?_⟩⟩;rw[ek];refine h.cd (s:=sT) (i:=(k:U)) (j:=k) O hx λa ha h0 hc=>⟨_,h0 _ O,?_⟩
      refine pR (λe=>?_) (λe=>?_)
      .refine ⟨_,O,sT,h.aE O,?_⟩
       refine h.cd (s:=sT) (i:=(k:U)) (j:=k) O hx λa ha h0 hc=>PF hc ?_;refine h.a λd4 w4 h=>?_;refine CI (s:=cP) (ys:=(T.take k).filter λx=>x.1 !=i) (y:=T[k]) h (by have:=S3 (λx:U × U=>x.1 !=i) (T.take k);rw[SN]at this;omega) λs' w hs' h=>?_;refine ih2 (k+1) s' w om ?_;rw[et,Tm,Tk,Z (by simpa using e),Uk];exact h
      .refine ih2 (k+1) cP w om ?_
       rw[et,Tm,Tk,Y (by simpa using e),Uk,SL];exact h
    refine loop2 T.length 0 ⟨X d3.p,0,0⟩ w om ?_;rw[TZ,Uk];exact h.sub
   |succ j ihj=>
    intro q out rest w hq h;apply hl14;refine az om ?_;have hx:m.pg[q]?=X m.pg[q]:=gE om;have hb:=ho.vp m.pg[q] (Tq _);have et:m.pg.take (q+1)=m.pg.take q++ [m.pg[q]]:=by rw[SO,hx];rfl
    refine h.cd (s:=s9) (i:=(q:U)) (j:=q) O hx λa ha h0 hc=>⟨_,h0 _ O,qb,?_⟩
    rw[Pn hb.1 hb.2.1,show qj.wrap ((q:U)+1)=((q+1:S):U)from by rw[wr om om];omega];refine dW (λe=>?_) (λe=>?_)
    .refine h.cd (s:=s9) (i:=(q:U)) (j:=q) O hx λa ha h0 hc=>pa hc ?_
     refine h.a λd w2 h=>?_;refine kv (s:=out) (ys:=dt (m.pg.take q) i.toNat) (y:=m.pg[q]) h (by have:=S3 (λx:U × Pg=>x.1.toNat / 64==i.toNat) (m.pg.take q);rw[SN]at this;unfold dt;omega) λs' w hs' h=>?_;refine ihj (q+1) s' rest w om ?_;have e4:dt (m.pg.take (q+1)) i.toNat=dt (m.pg.take q) i.toNat++ [m.pg[q]]:=by rw[et];unfold dt;rw[Tm,Tk,Z (by simp;omega)];rfl
     have e5:((m.pg.take (q+1)).filter λx=>x.1.toNat / 64 !=i.toNat)=(m.pg.take q).filter λx=>x.1.toNat / 64 !=i.toNat:=by rw[et,Tm,Tk,Y (by simp;omega)];simp
     rw[e4,e5];exact h
    .refine h.cd (s:=s9) (i:=(q:U)) (j:=q) O hx λa ha h0 hc=>pa hc ?_
     refine h.a λd w2 h=>?_;refine kv (s:=rest) (ys:=(m.pg.take q).filter λx=>x.1.toNat / 64 !=i.toNat) (y:=m.pg[q]) h (by have:=S3 (λx:U × Pg=>x.1.toNat / 64 !=i.toNat) (m.pg.take q);rw[SN]at this;omega) λs' w hs' h=>?_;refine ihj (q+1) out s' w om ?_;have e4:dt (m.pg.take (q+1)) i.toNat=dt (m.pg.take q) i.toNat:=by rw[et];unfold dt;rw[Tm,Tk,Y (by simp;omega)];simp
     have e5:((m.pg.take (q+1)).filter λx=>x.1.toNat / 64 !=i.toNat)=((m.pg.take q).filter λx=>x.1.toNat / 64 !=i.toNat)++ [m.pg[q]]:=by rw[et,Tm,Tk,Z (by simp;omega)];rfl
     rw[e4,e5];exact h.sub
  refine loop m.pg.length 0 ⟨X d1.p,0,0⟩ ⟨X d2.p,0,0⟩ w4 om ?_;rw[TZ,Uk,show dt ([]:gh) i.toNat= []from O];exact h.sub
def rv(tb:S->qg U)(t:S):S->qg U:=λj=>if j<t then tb j else Q
theorem D5{tb:S->qg U}{t:S}:ry (rv tb t) t (tb t)=rv tb (t+1):=by
 funext j;unfold ry rv;by_cases e:j=t
 .rw[Z e,Z om,e]
 .rw[Y e]
  by_cases e2:j<t
  .rw[Z e2,Z om]
  .rw[Y e2,Y om]
theorem Hd{K:qg qf->Pw}(h:Ow B w0 w (bP b m::R))(hK:∀b' w',Ow B w0 w' (bP b' m::bP b m::R)->K b'.o w'):Xs b.o K w:=by
 apply aeD;obtain⟨mb,M,ho,hM,h⟩:=h.M8;refine h.a λd w1 h=>?_;refine⟨_,O,⟨(iy m.tb mb).flatMap jy.enc⟩,tp,λi hi=>?_,?_⟩
 .have hb:=h.yX 1 O
  rw[aL,hb.cell,SS];simp
 have h:Ow B w0 w1 (ae d ((iy (rv m.tb 0) λ_=>0).flatMap jy.enc)::((SF 64).map (dA (rv m.tb 0) (λ_=>0) M)++(ae b ((iy m.tb mb).flatMap jy.enc)::((SF 64).map (dA m.tb mb M)++R)))):=by
  have e:(SF 64).map (dA (rv m.tb 0) (λ_=>0) M)=SB 64 (dw qu):=rfl;rw[e];have pures:∀(n:S)(A:aG)(R:J aG),Ow B w0 w1 (A::R)->Ow B w0 w1 (A::(SB n (dw qu)++R)):=λn=>by
   induction n with
   |zero=>intro A R h;exact h
   |succ n ih=>
    intro A R h;have h2:Ow B w0 w1 (dw qu::A::(SB n (dw qu)++R)):=Ow.cI trivial (ih A R h);exact h2.perm (List.Perm.swap _ _ _)
  exact pures 64 _ _ h
 intro l6 hl6;have loop:∀(k t:S)(mb2:S->S)(w:W),t+k=64->Ow B w0 w (ae d ((iy (rv m.tb t) mb2).flatMap jy.enc)::((SF 64).map (dA (rv m.tb t) mb2 M)++(ae b ((iy m.tb mb).flatMap jy.enc)::((SF 64).map (dA m.tb mb M)++R))))->l6 (t:U) w:=by
  intro k;induction k with
  |zero=>
   intro t mb2 w ht h;obtain rfl:t=64:=om
   apply hl6;refine av om ?_;have e:rv m.tb 64=m.tb:=by
    funext j;unfold rv;by_cases e:j<64
    .rw[Z e]
    .rw[Y e]
     cases e2:m.tb j with
     |none=>rfl
     |some v=>have:=ho.fu j (by rw[e2];rfl);omega
   rw[e]at h;have p1:List.Perm (ae d ((iy m.tb mb2).flatMap jy.enc)::((SF 64).map (dA m.tb mb2 M)++(ae b ((iy m.tb mb).flatMap jy.enc)::((SF 64).map (dA m.tb mb M)++R)))) (ae b ((iy m.tb mb).flatMap jy.enc)::((SF 64).map (dA m.tb mb M)++(ae d ((iy m.tb mb2).flatMap jy.enc)::((SF 64).map (dA m.tb mb2 M)++R)))):=
    List.perm_append_comm_assoc (ae d ((iy m.tb mb2).flatMap jy.enc)::(SF 64).map (dA m.tb mb2 M)) (ae b ((iy m.tb mb).flatMap jy.enc)::(SF 64).map (dA m.tb mb M)) R
   have h2:Ow B w0 w (bP b m::(ae d ((iy m.tb mb2).flatMap jy.enc)::((SF 64).map (dA m.tb mb2 M)++R))):=Ow.gq ho hM (h.perm p1);have h3:Ow B w0 w (ae d ((iy m.tb mb2).flatMap jy.enc)::((SF 64).map (dA m.tb mb2 M)++(bP b m::R))):=by refine h2.perm ?_;exact(Tw (a:=bP b m) (l₁:=ae d ((iy m.tb mb2).flatMap jy.enc)::(SF 64).map (dA m.tb mb2 M)) (l₂:=R)).symm
   exact hK d w (Ow.gq ho hM h3)
  |succ k ih=>
   intro t mb2 w ht h;apply hl6;have htq:t<64:=om
   refine az om ⟨om,om,(m.tb t).getD 0,?_,(m.tb t).map λ_=>mb t,?_,?_⟩
   .rw[SD,UD]
    simpa using Ch (tb:=m.tb) (mb:=mb) htq
   .rw[SD]
    simpa using Ci (tb:=m.tb) (mb:=mb) htq
   refine h.a λg w2 h=>?_;refine h.aB O O λw h=>?_;refine h.dr λw h=>?_;refine⟨_,h.aA O,_,O,_,h.aE O,Go.Vc.a2 ?_⟩;have et:qj.wrap ((t:U)+1)=((t+1:S):U):=by rw[wr om om];omega
   have ht0:rv m.tb t t=none:=by unfold rv;rw[Y om]
   have hpure:dA (rv m.tb t) mb2 M t=dw qu:=by unfold dA;rw[Y (by rw[ht0];simp)]
   have hble:Nat.ble (t*2+2) ((iy (rv m.tb t) mb2).flatMap jy.enc).length=true:=by apply Wc;rw[tp];omega
   have tabsEq:∀(r:S)(A:aG),A=dA (rv m.tb (t+1)) (λj=>if j=t then r else mb2 j) M t->∀j,j<64->dA (rv m.tb (t+1)) (λj=>if j=t then r else mb2 j) M j=if j=t then A else dA (rv m.tb t) mb2 M j:=λr A hA j hj=>by
    by_cases e:j=t
    .rw[Z e,hA,e]
    .rw[Y e]
     have e1:rv m.tb (t+1) j=rv m.tb t j:=by
      unfold rv;by_cases e2:j<t
      .rw[Z e2,Z om]
      .rw[Y e2,Y om]
     unfold dA;rw[e1];simp only[Y e]
   cases htb:m.tb t with
   |none=>
    refine Ha ?_;refine⟨h.aE (by rw[htb];rfl),om,om,Go.Vc.a2 ?_⟩;rw[SD,Jy];refine Ow.Ji (o:=t*2) h 1 O hble O λw h=>?_;have e1:=BU (tb:=rv m.tb t) (mb:=mb2) htq Q 0;have e1:putAt ((iy (rv m.tb t) mb2).flatMap jy.enc) (t*2) [.z 0,.map Q]=_:=e1;have h2:Ow B w0 w (ae d (putAt ((iy (rv m.tb t) mb2).flatMap jy.enc) (t*2) [.z 0,.map Q])::((SF 64).map (dA (rv m.tb t) mb2 M)++(ae b ((iy m.tb mb).flatMap jy.enc)::((SF 64).map (dA m.tb mb M)++R)))):=h.drop;rw[e1,<-htb,D5]at h2;rw[et];refine ih (t+1) (λj=>if j=t then 0 else mb2 j) w om ?_;have h3:=tA (ak7:=dw qu) (i:=t+1) (Ow.cI trivial h2) (gw htq _);rw[pJ (g:=dA (rv m.tb (t+1)) (λj=>if j=t then 0 else mb2 j) M) htq (tabsEq 0 _ (by unfold dA rv;rw[Y (by rw[Z om,htb];simp)]))]at h3;exact h3
   |some v=>
    have hidx:(ae g [.z ((m.tb t).getD 0),.map ((m.tb t).map λ_=>mb t)]::ae d ((iy (rv m.tb t) mb2).flatMap jy.enc)::((SF 64).map (dA (rv m.tb t) mb2 M)++(ae b ((iy m.tb mb).flatMap jy.enc)::((SF 64).map (dA m.tb mb M)++R))))[t+67]?=X (Ig (mb t) (M t)):=by rw[SR,SR,List.getElem?_append_right qc,S9,List.length_range,show t+65-64=t+1 from by omega,gw htq];unfold dA;rw[Z (by rw[htb];rfl)]
    refine Jk (mb:=mb t) (M:=M t) h (t+67) hidx λm' w h=>?_;refine⟨h.aE (by rw[htb];rfl),om,om,Go.Vc.a2 ?_⟩;rw[SD,Jy];refine Ow.Ji (o:=t*2) h 2 O hble O λw h=>?_;have e1:=BU (tb:=rv m.tb t) (mb:=mb2) htq (X v) m';have h2:Ow B w0 w (Ig m' (M t)::ae g _::ae d (putAt ((iy (rv m.tb t) mb2).flatMap jy.enc) (t*2) [.z ((X v).getD 0),.map (X m')])::((SF 64).map (dA (rv m.tb t) mb2 M)++(ae b ((iy m.tb mb).flatMap jy.enc)::((SF 64).map (dA m.tb mb M)++R)))):=h;have h2:=h2.vI;have e1:putAt ((iy (rv m.tb t) mb2).flatMap jy.enc) (t*2) [.z ((X v).getD 0),.map (X m')]=_:=e1;rw[e1,<-htb,D5]at h2;rw[et];refine ih (t+1) (λj=>if j=t then m' else mb2 j) w om ?_;have h3:=tA (ak7:=Ig m' (M t)) (i:=t+1) h2 (gw htq _);rw[pJ (g:=dA (rv m.tb (t+1)) (λj=>if j=t then m' else mb2 j) M) htq (tabsEq m' _ (by unfold dA rv;rw[Z (by rw[Z om,htb];rfl)];show Ig m' (M t)=Ig (if t=t then m' else mb2 t) (M t);rw[Z O]))]at h3;exact h3
 exact loop 64 0 (λ_=>0) w1 om h
end
end Tb
end Go.Vc
