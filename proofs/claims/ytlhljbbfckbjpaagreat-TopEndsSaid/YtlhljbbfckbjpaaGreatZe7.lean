/- What the row rests on: the declarations that it needs, out of my texts (part 7). -/
import Derived.Test.YtlhljbbfckbjpaaGreatZe6
import Derived.Ground.GgzProg
import Derived.Ground.SlgmProg
import Derived.Ground.SlsfProg
import Derived.Shelf.SlIterI.Nil
import Derived.Shelf.SlSortCmp.NoneTotal
import Derived.Shelf.SortM.Plain
import Derived.Shelf.SortM.SortNone
set_option linter.unusedVariables false
set_option linter.unusedSimpArgs false
set_option linter.unusedSectionVars false
section
namespace Go.Proofs
open Go.Shelf
def Tryz.uj:Go.Shelf.Ren:=⟨fun|6=>154|15=>205|14=>204|28=>251|29=>168|20=>243|21=>244|22=>245|23=>246|24=>247|25=>248|26=>249|27=>250|46=>278|47=>279|48=>280|49=>281|50=>282|57=>290|n=>n,fun|22=>236|24=>204|25=>241|3=>3|39=>245|0=>0|53=>283|55=>33|4=>4|46=>370|45=>369|50=>45|5=>5|9=>9|66=>403|70=>407|76=>416|77=>417|n=>n,fun|n=>n⟩
theorem Tryz.vj:Go.Proofs.SlLaysF0.n6 Tryz.prog Tryz.uj:={
 mixed:=by kernel_rfl
 f6:=⟨Tryz.f154.name,by decide,Tryz.func154.trans (congrArg some (by kernel_rfl))⟩
 f14:=⟨Tryz.f204.name,by decide,Tryz.func204.trans (congrArg some (by kernel_rfl))⟩
 f15:=Tryz.func205.trans (congrArg some (by kernel_rfl))
 f20:=⟨Tryz.f243.name,by decide,Tryz.func243.trans (congrArg some (by kernel_rfl))⟩
 f21:=⟨Tryz.f244.name,by decide,Tryz.func244.trans (congrArg some (by kernel_rfl))⟩
 f22:=⟨Tryz.f245.name,by decide,Tryz.func245.trans (congrArg some (by kernel_rfl))⟩
 f23:=⟨Tryz.f246.name,by decide,Tryz.func246.trans (congrArg some (by kernel_rfl))⟩
 f24:=⟨Tryz.f247.name,by decide,Tryz.func247.trans (congrArg some (by kernel_rfl))⟩
 f25:=⟨Tryz.f248.name,by decide,Tryz.func248.trans (congrArg some (by kernel_rfl))⟩
 f26:=⟨Tryz.f249.name,by decide,Tryz.func249.trans (congrArg some (by kernel_rfl))⟩
 f27:=⟨Tryz.f250.name,by decide,Tryz.func250.trans (congrArg some (by kernel_rfl))⟩
 f28:=Tryz.func251.trans (congrArg some (by kernel_rfl))
 f29:=Tryz.func168.trans (congrArg some (by kernel_rfl))
 f46:=⟨Tryz.f278.name,by decide,Tryz.func278.trans (congrArg some (by kernel_rfl))⟩
 f47:=Tryz.func279.trans (congrArg some (by kernel_rfl))
 f48:=Tryz.func280.trans (congrArg some (by kernel_rfl))
 f49:=⟨Tryz.f281.name,by decide,Tryz.func281.trans (congrArg some (by kernel_rfl))⟩
 f50:=⟨Tryz.f282.name,by decide,Tryz.func282.trans (congrArg some (by kernel_rfl))⟩
 f57:=⟨Tryz.f290.name,by decide,Tryz.func290.trans (congrArg some (by kernel_rfl))⟩
 t0:=Tryz.underlying0
 a0:=Tryz.isAgg0
 z0:=Tryz.sizeOf0
 v0:=Tryz.zeroValue0
 t3:=Tryz.underlying3
 a3:=Tryz.isAgg3
 z3:=Tryz.sizeOf3
 v3:=Tryz.zeroValue3
 t4:=Tryz.underlying4
 a4:=Tryz.isAgg4
 z4:=Tryz.sizeOf4
 v4:=Tryz.zeroValue4
 t5:=Tryz.underlying5
 a5:=Tryz.isAgg5
 z5:=Tryz.sizeOf5
 v5:=Tryz.zeroValue5
 t9:=Tryz.underlying9
 a9:=Tryz.isAgg9
 z9:=Tryz.sizeOf9
 v9:=Tryz.zeroValue9
 t22:=Tryz.underlying236
 a22:=Tryz.isAgg236
 z22:=Tryz.sizeOf236
 v22:=Tryz.zeroValue236
 t25:=Tryz.underlying241
 a25:=Tryz.isAgg241
 z25:=Tryz.sizeOf241
 v25:=Tryz.zeroValue241
 t39:=Tryz.underlying245
 a39:=Tryz.isAgg245
 z39:=Tryz.sizeOf245
 v39:=Tryz.zeroValue245
 t45:=Tryz.underlying369
 a45:=Tryz.isAgg369
 z45:=Tryz.sizeOf369
 v45:=Tryz.zeroValue369
 t46:=Tryz.underlying370
 a46:=Tryz.isAgg370
 z46:=Tryz.sizeOf370
 v46:=Tryz.zeroValue370
 t50:=Tryz.underlying45
 a50:=Tryz.isAgg45
 z50:=Tryz.sizeOf45
 v50:=Tryz.zeroValue45
 t53:=Tryz.underlying283
 a53:=Tryz.isAgg283
 z53:=Tryz.sizeOf283
 v53:=Tryz.zeroValue283
 t55:=Tryz.underlying33
 a55:=Tryz.isAgg33
 z55:=Tryz.sizeOf33
 v55:=Tryz.zeroValue33
 t66:=Tryz.underlying403
 a66:=Tryz.isAgg403
 z66:=Tryz.sizeOf403
 v66:=Tryz.zeroValue403
 t70:=Tryz.underlying407
 a70:=Tryz.isAgg407
 z70:=Tryz.sizeOf407
 v70:=Tryz.zeroValue407
 t76:=Tryz.underlying416
 a76:=Tryz.isAgg416
 z76:=Tryz.sizeOf416
 v76:=Tryz.zeroValue416
 t77:=Tryz.underlying417
 a77:=Tryz.isAgg417
 z77:=Tryz.sizeOf417
 v77:=Tryz.zeroValue417}
def Tryz.oV:Go.Shelf.Ren:=⟨fun|7=>210|10=>256|n=>n,fun|23=>191|26=>3|3=>38|28=>341|0=>0|27=>340|33=>68|4=>4|n=>n,fun|n=>n⟩
theorem Tryz.AR:Go.Proofs.SlLaysZI.n7 Tryz.prog Tryz.oV:={
 mixed:=by kernel_rfl
 f7:=⟨Tryz.f210.name,by decide,Tryz.func210.trans (congrArg some (by kernel_rfl))⟩
 f10:=⟨Tryz.f256.name,by decide,Tryz.func256.trans (congrArg some (by kernel_rfl))⟩
 t0:=Tryz.underlying0
 a0:=Tryz.isAgg0
 z0:=Tryz.sizeOf0
 v0:=Tryz.zeroValue0
 t4:=Tryz.underlying4
 a4:=Tryz.isAgg4
 z4:=Tryz.sizeOf4
 v4:=Tryz.zeroValue4
 t23:=Tryz.underlying191
 a23:=Tryz.isAgg191
 z23:=Tryz.sizeOf191
 v23:=Tryz.zeroValue191
 t26:=Tryz.underlying3
 a26:=Tryz.isAgg3
 z26:=Tryz.sizeOf3
 v26:=Tryz.zeroValue3
 t27:=Tryz.underlying340
 a27:=Tryz.isAgg340
 z27:=Tryz.sizeOf340
 v27:=Tryz.zeroValue340
 t28:=Tryz.underlying341
 a28:=Tryz.isAgg341
 z28:=Tryz.sizeOf341
 v28:=Tryz.zeroValue341
 t33:=Tryz.underlying68
 a33:=Tryz.isAgg68
 z33:=Tryz.sizeOf68
 v33:=Tryz.zeroValue68}
def Tryz.ri:Go.Shelf.Ren:=⟨fun|6=>209|8=>254|9=>255|11=>283|13=>205|12=>284|23=>251|24=>168|14=>291|15=>292|16=>293|17=>294|18=>295|19=>296|20=>297|21=>298|22=>299|25=>301|26=>279|27=>280|28=>302|29=>303|30=>206|31=>305|n=>n,fun|26=>3|28=>341|24=>22|0=>0|3=>3|37=>245|48=>283|50=>33|4=>4|40=>370|39=>369|45=>45|5=>5|9=>9|51=>403|55=>407|57=>416|58=>417|33=>68|n=>n,fun|n=>n⟩
theorem Tryz.Bg:Go.Proofs.SlLaysZI.n6 Tryz.prog Tryz.ri:={
 mixed:=by kernel_rfl
 f6:=⟨Tryz.f209.name,by decide,Tryz.func209.trans (congrArg some (by kernel_rfl))⟩
 f8:=⟨Tryz.f254.name,by decide,Tryz.func254.trans (congrArg some (by kernel_rfl))⟩
 f11:=⟨Tryz.f283.name,by decide,Tryz.func283.trans (congrArg some (by kernel_rfl))⟩
 t0:=Tryz.underlying0
 a0:=Tryz.isAgg0
 z0:=Tryz.sizeOf0
 v0:=Tryz.zeroValue0
 t24:=Tryz.underlying22
 a24:=Tryz.isAgg22
 z24:=Tryz.sizeOf22
 v24:=Tryz.zeroValue22
 t26:=Tryz.underlying3
 a26:=Tryz.isAgg3
 z26:=Tryz.sizeOf3
 v26:=Tryz.zeroValue3
 t28:=Tryz.underlying341
 a28:=Tryz.isAgg341
 z28:=Tryz.sizeOf341
 v28:=Tryz.zeroValue341
 i26:=by kernel_rfl}
def Tryz.CW:Go.Shelf.Ren:=⟨fun|5=>255|8=>205|7=>284|19=>251|20=>168|10=>291|11=>292|12=>293|13=>294|14=>295|15=>296|16=>297|17=>298|18=>299|30=>301|31=>279|32=>280|33=>302|34=>303|35=>206|40=>305|n=>n,fun|23=>22|25=>3|3=>3|32=>245|22=>22|0=>0|44=>283|46=>33|4=>4|36=>370|35=>369|41=>45|5=>5|9=>9|53=>403|57=>407|63=>416|64=>417|n=>n,fun|n=>n⟩
theorem Tryz.Hc:Go.Proofs.SlLaysM.n5 Tryz.prog Tryz.CW:={
 mixed:=by kernel_rfl
 f5:=⟨Tryz.f255.name,by decide,Tryz.func255.trans (congrArg some (by kernel_rfl))⟩
 f7:=⟨Tryz.f284.name,by decide,Tryz.func284.trans (congrArg some (by kernel_rfl))⟩
 f8:=Tryz.func205.trans (congrArg some (by kernel_rfl))
 f10:=⟨Tryz.f291.name,by decide,Tryz.func291.trans (congrArg some (by kernel_rfl))⟩
 f11:=⟨Tryz.f292.name,by decide,Tryz.func292.trans (congrArg some (by kernel_rfl))⟩
 f12:=⟨Tryz.f293.name,by decide,Tryz.func293.trans (congrArg some (by kernel_rfl))⟩
 f13:=⟨Tryz.f294.name,by decide,Tryz.func294.trans (congrArg some (by kernel_rfl))⟩
 f14:=⟨Tryz.f295.name,by decide,Tryz.func295.trans (congrArg some (by kernel_rfl))⟩
 f15:=⟨Tryz.f296.name,by decide,Tryz.func296.trans (congrArg some (by kernel_rfl))⟩
 f16:=⟨Tryz.f297.name,by decide,Tryz.func297.trans (congrArg some (by kernel_rfl))⟩
 f17:=⟨Tryz.f298.name,by decide,Tryz.func298.trans (congrArg some (by kernel_rfl))⟩
 f18:=⟨Tryz.f299.name,by decide,Tryz.func299.trans (congrArg some (by kernel_rfl))⟩
 f19:=Tryz.func251.trans (congrArg some (by kernel_rfl))
 f20:=Tryz.func168.trans (congrArg some (by kernel_rfl))
 f30:=⟨Tryz.f301.name,by decide,Tryz.func301.trans (congrArg some (by kernel_rfl))⟩
 f31:=Tryz.func279.trans (congrArg some (by kernel_rfl))
 f32:=Tryz.func280.trans (congrArg some (by kernel_rfl))
 f33:=⟨Tryz.f302.name,by decide,Tryz.func302.trans (congrArg some (by kernel_rfl))⟩
 f34:=⟨Tryz.f303.name,by decide,Tryz.func303.trans (congrArg some (by kernel_rfl))⟩
 f35:=⟨Tryz.f206.name,by decide,Tryz.func206.trans (congrArg some (by kernel_rfl))⟩
 f40:=⟨Tryz.f305.name,by decide,Tryz.func305.trans (congrArg some (by kernel_rfl))⟩
 t0:=Tryz.underlying0
 a0:=Tryz.isAgg0
 z0:=Tryz.sizeOf0
 v0:=Tryz.zeroValue0
 t3:=Tryz.underlying3
 a3:=Tryz.isAgg3
 z3:=Tryz.sizeOf3
 v3:=Tryz.zeroValue3
 t4:=Tryz.underlying4
 a4:=Tryz.isAgg4
 z4:=Tryz.sizeOf4
 v4:=Tryz.zeroValue4
 t5:=Tryz.underlying5
 a5:=Tryz.isAgg5
 z5:=Tryz.sizeOf5
 v5:=Tryz.zeroValue5
 t9:=Tryz.underlying9
 a9:=Tryz.isAgg9
 z9:=Tryz.sizeOf9
 v9:=Tryz.zeroValue9
 t22:=Tryz.underlying22
 a22:=Tryz.isAgg22
 z22:=Tryz.sizeOf22
 v22:=Tryz.zeroValue22
 t23:=Tryz.underlying22
 a23:=Tryz.isAgg22
 z23:=Tryz.sizeOf22
 v23:=Tryz.zeroValue22
 t25:=Tryz.underlying3
 a25:=Tryz.isAgg3
 z25:=Tryz.sizeOf3
 v25:=Tryz.zeroValue3
 t32:=Tryz.underlying245
 a32:=Tryz.isAgg245
 z32:=Tryz.sizeOf245
 v32:=Tryz.zeroValue245
 t35:=Tryz.underlying369
 a35:=Tryz.isAgg369
 z35:=Tryz.sizeOf369
 v35:=Tryz.zeroValue369
 t36:=Tryz.underlying370
 a36:=Tryz.isAgg370
 z36:=Tryz.sizeOf370
 v36:=Tryz.zeroValue370
 t41:=Tryz.underlying45
 a41:=Tryz.isAgg45
 z41:=Tryz.sizeOf45
 v41:=Tryz.zeroValue45
 t44:=Tryz.underlying283
 a44:=Tryz.isAgg283
 z44:=Tryz.sizeOf283
 v44:=Tryz.zeroValue283
 t46:=Tryz.underlying33
 a46:=Tryz.isAgg33
 z46:=Tryz.sizeOf33
 v46:=Tryz.zeroValue33
 t53:=Tryz.underlying403
 a53:=Tryz.isAgg403
 z53:=Tryz.sizeOf403
 v53:=Tryz.zeroValue403
 t57:=Tryz.underlying407
 a57:=Tryz.isAgg407
 z57:=Tryz.sizeOf407
 v57:=Tryz.zeroValue407
 t63:=Tryz.underlying416
 a63:=Tryz.isAgg416
 z63:=Tryz.sizeOf416
 v63:=Tryz.zeroValue416
 t64:=Tryz.underlying417
 a64:=Tryz.isAgg417
 z64:=Tryz.sizeOf417
 v64:=Tryz.zeroValue417}
end Go.Proofs
end
section
set_option maxRecDepth 8000
namespace Go.Proofs.YtlhljbbfckbjpaaGreat.Tb
open Go Go.Vc Go.Proofs
open Go.WideElems (Fit rd rg pl)
theorem Cu {P:Program} {k:TypeId} (hk:P.underlying k=some (.int .i64)) {V:Type} {encV:V->Value} {w:World} {m:Nat} {M:List (Int × V)} (h:je (Value.int .i64) encV w m M) (hwf:∀x∈M,(Lit.int .i64 x.1).wf=true) (hsz:M.length≤maxLen):
  ∃D0:DataW Unit,w.ownsMap P k (fun _=>some (.nil,[])) m M.length D0/\(intKeys D0).Perm (M.map (·.1))/\Maps.size D0=M.length:=by
 obtain ⟨es,c,hb,hmap,hborn,hlt⟩:=h.ex;have hlen:es.toList.length=M.length:=by have:=congrArg List.length hmap;simpa using this
 have hkeys:es.toList.map (·.key)=M.map (fun p=>Value.int .i64 p.1):=by
  have:=congrArg (List.map (·.1)) hmap;rw[List.map_map,List.map_map] at this;exact this
 have hread:∀x∈es.toList,∃a:Int,x.key= .int .i64 a/\(Lit.int .i64 a).wf=true:=fun x hx=>by
  have:x.key∈es.toList.map (·.key):=List.mem_map.2 ⟨x,hx,rfl⟩;rw[hkeys] at this;obtain ⟨p,hp,e⟩:=List.mem_map.1 this;exact ⟨p.1,e.symm,hwf p hp⟩
 have hrd:∀x∈es.toList,∀a:Int,x.key= .int .i64 a->(Lit.int .i64 a).wf=true->rd (H:=Unit) P k (fun _=>some (.nil,[])) x=some (.int .i64 a, .nil):=fun x hx a e hw=>by
  have hko:keyOf P k x.key=some (.int .i64 a):=by
   unfold keyOf mapKey;rw[hk,e];simp[hw]
  unfold rd;rw[hko];rfl
 refine ⟨.map ((es.toList.map (rg P k fun _=>some (.nil,[]))).foldr DataW.insert []),⟨es,c,hb,⟨?_,⟨hlt,hborn, ?_⟩,fun x hx=>?_⟩, ?_,rfl⟩, ?_, ?_⟩
 ·have:es.size=M.length:=by simpa using hlen
  rw[this];exact hsz
 ·rw[hkeys]
  have:M.map (fun p=>Value.int .i64 p.1)=(M.map (·.1)).map (Value.int .i64):=by rw[List.map_map];rfl
  rw[this];exact List.Pairwise.map _ (fun a b hab e=>hab (by cases e;rfl)) h.nodup
 ·obtain ⟨a,e,hw⟩:=hread x hx
  exact ⟨_,hrd x hx a e hw⟩
 ·have:es.size=M.length:=by simpa using hlen
  omega
 ·show (((es.toList.map (rg P k fun _=>some (.nil,[]))).foldr DataW.insert []).map fun p=>_root_.Go.intOf p.1).Perm _
  refine ((Go.WideShapes.sorted_perm _).map _).trans ?_;rw[List.map_map]
  have:es.toList.map ((fun p:Lit × DataW Unit=>_root_.Go.intOf p.1)∘rg P k fun _=>some (.nil,[]))=M.map (·.1):=by
   have e1:es.toList.map ((fun p:Lit × DataW Unit=>_root_.Go.intOf p.1)∘rg P k fun _=>some (.nil,[]))=es.toList.map (fun x=>match x.key with| .int _ a=>a|_=>0):=by
    refine List.map_congr_left fun x hx=>?_
    obtain ⟨a,e,hw⟩:=hread x hx;show _root_.Go.intOf (rg P k _ x).1=_;unfold rg;rw[hrd x hx a e hw,e];rfl
   rw[e1];have e2:=congrArg (List.map fun v:Value=>match v with| .int _ a=>a|_=>(0:Int)) hkeys;rw[List.map_map,List.map_map] at e2;exact e2
  rw[this]
 ·show ((es.toList.map (rg P k fun _=>some (.nil,[]))).foldr DataW.insert []).length=_
  rw[(Go.WideShapes.sorted_perm _).length_eq,List.length_map];exact hlen
theorem re {B:Nat} {w0 w w':World} {R:List aA} {t:TypeId} {v:Value} {xs:List Int} (h:Ow B w0 w R) (hb:RowKit.Below w.heap.size w w') (hr:w'.ownsRow w.heap.size t 1 v xs.length (xs.map (Value.int .i64))):
  ∃s:Sl,v= .slice s.a s.len s.cap/\Ow B w0 w' (ah aG s xs::R):=by
 have hu:fN No w w':=⟨hb.os,hb.tape,hb.output,hb.size,fun k hk _=>hb.block k hk⟩
 have hfl:xs.flatMap aG.enc=xs.map (Value.int .i64):=by
  clear hr
  induction xs with
  |nil=>rfl
  |cons x xs ih=>rw[List.flatMap_cons,ih];rfl
 rcases hr.2 with ⟨rfl,hz⟩|⟨g,cap,cur,rfl,hbase,hgb,r1,r2,r3,r4⟩
 ·have:xs= []:=List.eq_nil_of_length_eq_zero hz
  subst this;exact ⟨⟨none,0,0⟩,rfl,(h.same hu).dK⟩
 ·refine ⟨⟨some ⟨g,0,none⟩,xs.length,cap⟩,rfl,h.new (A':=ah aG ⟨some ⟨g,0,none⟩,xs.length,cap⟩ xs) (G':=fun k=>k=g) hu ⟨fun a ha=>?_,rfl, ?_⟩ fun k e=>?_⟩
  ·cases ha;rfl
  ·refine .mk g 0 cur.toList rfl ⟨t,hgb⟩ r1 ?_ ?_
   ·show 0+cap*1≤cur.toList.length
    rw[Array.length_toList];omega
   ·rw[hfl,List.drop_zero];exact r4.symm
  ·subst e
   exact ⟨hbase,(Array.getElem?_eq_some_iff.1 hgb).1⟩
end Go.Proofs.YtlhljbbfckbjpaaGreat.Tb
end
section
set_option maxRecDepth 8000
namespace Go.Proofs.YtlhljbbfckbjpaaGreat.Tb
open Go Go.Vc Go.Proofs
def H6 (p:Pg):Value:= .agg #[.z p.1, .z p.2]
def mI:cQ (Option (Int × Nat)):=⟨2,fun o=>[.z ((o.map (·.1)).getD 0), .map (o.map (·.2))],fun _=>rfl,fun x v h=>by
 simp only[List.mem_cons,List.not_mem_nil,or_false] at h;rcases h with rfl|rfl<;>rfl,by decide⟩
def de:cQ (Int × Pg):=⟨3,fun o=>[.z o.1, .z o.2.1, .z o.2.2],fun _=>rfl,fun x v h=>by
 simp only[List.mem_cons,List.not_mem_nil,or_false] at h;rcases h with rfl|rfl|rfl<;>rfl,by decide⟩
abbrev IE (m:Nat) (M:fq):aA:=dI (Value.int .i64) H6 m M
def kG (tb:Nat->Option Int) (mb:Nat->Nat):List (Option (Int × Nat)):=(List.range 64).map fun i=>(tb i).map fun n=>(n,mb i)
def fi (tb:Nat->Option Int) (mb:Nat->Nat) (M:Nat->fq) (i:Nat):aA:=if (tb i).isSome=true then IE (mb i) (M i) else dX True
def bf (b:Nat) (m:dv):aA:=pV fun x:(Nat->Nat)×(Nat->fq)=>bh (dX (fO m/\∀i,(x.2 i).Perm (cJ m.pg i))::aa b ((kG m.tb x.1).flatMap mI.enc)::(List.range 64).map (fi m.tb x.1 x.2))
section
variable {B:Nat} {w0 w:World} {R L:List aA} {b:Nat} {m:dv}
theorem _root_.Go.Vc.Ow.Hd (h:Ow B w0 w (bf b m::R)):∃(mb:Nat->Nat) (M:Nat->fq),fO m/\(∀i,(M i).Perm (cJ m.pg i))/\Ow B w0 w (aa b ((kG m.tb mb).flatMap mI.enc)::((List.range 64).map (fi m.tb mb M)++R)):=by
 obtain ⟨⟨mb,M⟩,h⟩:=h.ex;obtain ⟨⟨h1,h2⟩,h⟩:=Ow.pure h.star;exact ⟨mb,M,h1,h2,h⟩
theorem _root_.Go.Vc.Ow.fF {mb:Nat->Nat} {M:Nat->fq} (h1:fO m) (h2:∀i,(M i).Perm (cJ m.pg i)) (h:Ow B w0 w (aa b ((kG m.tb mb).flatMap mI.enc)::((List.range 64).map (fi m.tb mb M)++R))):Ow B w0 w (bf b m::R):=
 Ow.eP (mb,M) (Ow.aY (Ow.dN ⟨h1,h2⟩ h))
theorem gO {f:Nat->aA} {i:Nat} (hi:i<64) (A:aA):(A::((List.range 64).map f++R))[i+1]?=some (f i):=by
 rw[List.getElem?_cons_succ,List.getElem?_append_left (by simp;exact hi),List.getElem?_map,List.getElem?_range hi];rfl
theorem tt {f g:Nat->aA} {A:aA} {i:Nat} (hi:i<64) (h:∀j,j<64->g j=if j=i then A else f j) (A0:aA):(A0::((List.range 64).map f++R)).set (i+1) A=A0::((List.range 64).map g++R):=by
 rw[List.set_cons_succ,List.set_append_left _ _ (by simp;exact hi)];congr 2;apply List.ext_getElem?;intro j;rw[List.getElem?_set,List.getElem?_map,List.getElem?_map];by_cases hj:j<64
 ·rw[List.getElem?_range hj]
  by_cases e:i=j
  ·subst e;rw[if_pos rfl,if_pos (by simp;exact hi)];simp only[Option.map_some];rw[h i hi,if_pos rfl]
  ·rw[if_neg e];simp only[Option.map_some];rw[h j hj,if_neg fun e2=>e e2.symm]
 ·rw[List.getElem?_eq_none (show (List.range 64).length≤j by simp;omega),if_neg om];rfl
theorem rX {tb:Nat->Option Int} {mb:Nat->Nat} {i:Nat} (hi:i<64):(kG tb mb)[i]?=some ((tb i).map fun n=>(n,mb i)):=by
 unfold kG;rw[List.getElem?_map,List.getElem?_range hi];rfl
theorem oB {tb:Nat->Option Int} {mb:Nat->Nat}:(kG tb mb).length=64:=by unfold kG;simp
theorem GL {tb:Nat->Option Int} {mb:Nat->Nat} {i:Nat} (hi:i<64) (v:Option Int) (r:Nat):(kG tb mb).set i (v.map fun n=>(n,r))=kG (rq tb i v) (fun j=>if j=i then r else mb j):=by
 apply List.ext_getElem?;intro j;rw[List.getElem?_set];by_cases hj:j<64
 ·rw[rX hj,rX hj]
  unfold rq;by_cases e:i=j
  ·subst e;rw[if_pos rfl,if_pos (by rw[oB];exact hi),if_pos rfl,if_pos rfl]
  ·rw[if_neg e,if_neg fun e2=>e e2.symm,if_neg fun e2=>e e2.symm]
 ·rw[List.getElem?_eq_none (show (kG _ _).length≤j by rw[oB];omega),List.getElem?_eq_none (show (kG _ _).length≤j by rw[oB];omega),if_neg om]
theorem Bk {tb:Nat->Option Int} {mb:Nat->Nat} {i:Nat} (hi:i<64):((kG tb mb).flatMap mI.enc)[i*2]?=some (.z ((tb i).getD 0)):=by
 have:=lA mI (kG tb mb) i 0 _ (rX hi) (by decide);rw[show i*mI.z+0=i*2 from rfl] at this;rw[this];cases tb i<;>rfl
theorem Bl {tb:Nat->Option Int} {mb:Nat->Nat} {i:Nat} (hi:i<64):((kG tb mb).flatMap mI.enc)[i*2+1]?=some (.map ((tb i).map fun _=>mb i)):=by
 have:=lA mI (kG tb mb) i 1 _ (rX hi) (by decide);rw[show i*mI.z+1=i*2+1 from rfl] at this;rw[this];cases tb i<;>rfl
end
theorem fO.yh {m:dv} (h:fO m) {i:Nat} (hi:m.tb i=none):cJ m.pg i= []:=by
 unfold cJ;rw[List.filter_eq_nil_iff];intro x hx e;have:=(h.kA x hx).2.2;simp only[beq_iff_eq] at e;rw[e,hi] at this;cases this
end Go.Proofs.YtlhljbbfckbjpaaGreat.Tb
end
section
set_option maxRecDepth 8000
namespace Go.Proofs.YtlhljbbfckbjpaaGreat.Tb
open Go Go.Vc Go.Proofs Go.Shelf
theorem yG (n:Nat):AnyZI.SortsIn Tryz.prog Tryz.ri Fence.wide n:=
 ⟨fun ud off cap ss W hH hblk hsz=>callsIn_wide.2 (AnyM.slices_Sort_int Tryz.Hc ud off cap ss W hH hblk hsz),
  fun p cap W=>callsIn_wide.2 (AnyM.slices_Sort_int_none Tryz.Hc p cap W)⟩
section
variable {B:Nat} {w0 w:World} {R L:List aA} {b:Nat} {m:dv}
set_option maxHeartbeats 1000000 in
theorem lC {V:Type} {encV:V->Value} {mb:Nat} {M:List (Int × V)} {K:Sl->Pw} (h:Ow B w0 w L) (i:Nat) (hi:L[i]?=some (dI (Value.int .i64) encV mb M)) (hwf:∀x∈M,(Lit.int .i64 x.1).wf=true) (hsz:M.length≤1000000)
  (hK:∀(s:Sl) (ks:List Int) (w':World),ks.Perm (M.map (·.1))->ks.Pairwise (fun x y=>decide (x≤y)=true)->Ow B w0 w' (ah aG s ks::L)->K s w'):
  C.qR (some mb) (fun r5 w6=>C.qdj r5 K w6) w:=by
 have hM:je (Value.int .i64) encV w mb M:=(h.take i hi).head fun _ h=>h.2
 have hmax:(1000000:Nat)≤maxLen:=by decide
 obtain ⟨D0,hown,hperm,hsize⟩:=Cu (P:=Tryz.prog) (k:=3) Tryz.underlying3 hM hwf (Nat.le_trans hsz hmax);have hbl:=hown.lt;unfold C.qR;refine kh Tryz.func210 rfl ?_;have cK:∀mb W,CallsIn Fence.wide 5 Tryz.prog 210 #[.map mb] W fun e w'=>e= .returned (.func (.func 256) #[] #[.pointer (some ⟨W.heap.size,0,none⟩)])/\w'=W.alloc (.cells #[.map mb] 191):=fun mb W=>AnyZI.keys_in Tryz.AR Fence.wide 5 trivial rfl mb W
 refine (callsIn_wide (n:=5)).1 ((cK _ _).mono ?_);rintro e w' ⟨rfl,rfl⟩;refine ⟨_,rfl, ?_⟩;unfold C.qdj;refine kh Tryz.func209 rfl ?_
 have hseq:SeqGives Fence.wide 2 Tryz.prog 256 #[.pointer (some ⟨w.heap.size,0,none⟩)] encZ (fun ss=>ss.Perm (intKeys D0)) (Maps.size D0) (w.alloc (.cells #[.map (some mb)] 191)):=
  AnyZI.keys_gives (ρ:=Tryz.oV) { Tryz.AR with} Fence.wide _ trivial rfl om w.heap.size mb M.length D0 _ (by simp) (by simp) (by
   obtain ⟨es,clock,hb,Ft,hs,hD⟩:=hown;exact ⟨es,clock,(RowKit.Below.heap_alloc _ _ mb hbl).trans hb,Ft,hs,hD⟩)
 have cS:=AnyZI.sorted_in Tryz.Bg Fence.wide 5 trivial trivial trivial trivial rfl om (yG _) (enters_of Tryz.func255 (by kernel_rfl) rfl) 256 #[.pointer (some ⟨w.heap.size,0,none⟩)] trivial (enters_of Tryz.func256 (by kernel_rfl) rfl) _ _ (by rw[hsize];exact Nat.le_trans hsz hmax) (by rw[hsize];omega) _ hseq;change CallsIn _ _ Tryz.prog 209 _ _ _ at cS;refine (callsIn_wide (n:=5)).1 (cS.mono ?_);rintro e w' ⟨v,ss,rfl,hS,hrow,hnil,hb⟩;have h1:Ow B w0 (w.alloc (.cells #[.map (some mb)] 191)) L:=h.same (eJ _ _);have hlen:(ss.mergeSort fun x y=>decide (x≤y)).length=ss.length:=List.length_mergeSort _;rw[←hlen] at hrow;obtain ⟨s,rfl,h2⟩:=re h1 hb hrow;refine ⟨s,rfl,hK s _ w' (((List.mergeSort_perm _ _).trans hS).trans hperm) ?_ h2⟩;exact List.pairwise_mergeSort (fun a b c h1 h2=>by simp at *;omega) (fun a b=>by simp;omega) _
theorem Fg {P:fq} (h:jU P) {ks:List Int} (hp:ks.Perm (P.map (·.1))) (hs:ks.Pairwise (fun x y=>decide (x≤y)=true)):ks=P.map (·.1):=by
 refine List.Perm.eq_of_pairwise (le:=fun x y=>x≤y) (fun a b _ _ h1 h2=>by omega) (hs.imp fun h=>by simpa using h) ?_ hp;rw[List.pairwise_map];exact h.imp fun h=>by omega
theorem oz:∀(P:fq) (a c:Int),jU P->(∀x∈P,a≤x.1/\x.1<c)->(P.length:Int)≤max 0 (c-a)
 | [],a,c,_,_=>Int.le_max_left _ _
 |x::P,a,c,h,hb=>by
  have h':=List.pairwise_cons.1 h;have h1:=hb x List.mem_cons_self;have:=oz P (x.1+1) c h'.2 fun y hy=>⟨by have:=h'.1 y hy;omega,(hb y (List.mem_cons_of_mem _ hy)).2⟩
  simp only[List.length_cons];omega
theorem BR {s:Sl} {ys:fq} {y:Int × Pg} {c:Nat} {L:List aA} {k:Sl->Pw} [I:bT s L (Int × Pg) de ys] [J:dG (ah de s ys) L R] (h:Ow B w0 w (aa c [.z y.1, .z y.2.1, .z y.2.2]::L)) (hbig:ys.length≤1000000000)
  (hk:∀s' w',s'.len=ys.length+1->Ow B w0 w' (ah de s' (ys++ [y])::R)->k s' w'):
  ∃s' w',bo Tryz.prog [216,216] 216 (.slice s.a s.len s.cap) (.slice (some (Addr.mk c 0 none)) 1 1) w s' w'/\k s' w':=
 Ow.fy (E:=de) (y:=y) Tryz.underlying216 (show Tryz.prog.info? 220=some Tryz.t220 from by kernel_rfl) (zv:=(Tryz.t220.zero).get (by kernel_rfl)) (by kernel_rfl) (by kernel_rfl) (by kernel_rfl) (by decide) h (by
  have e:Tryz.t220.bytes=24:=by kernel_rfl
  rw[e];omega) hk
theorem mg {n:Int} {mb:Nat} {M Q:fq} {K:Sl->Pw} (h:Ow B w0 w L) (i:Nat) (hi:L[i]?=some (IE mb M)) (hp:M.Perm Q) (hS:jU Q) (hb:∀x∈Q,0≤x.1/\x.1<4096) (hK:∀s w',Ow B w0 w' (ah de s Q::L)->K s w'):C.qP n (some mb) K w:=by
 apply S.qP0;have hl:=oz Q 0 4096 hS hb;refine h.a fun d w1 h=>?_;refine ⟨_,h.ao rfl, ?_⟩;refine lC h (i+1) (by simpa using hi) (fun x hx=>?_) (by rw[hp.length_eq];omega) fun s ks w hks hso h=>?_
 ·have:=hb x (hp.mem_iff.1 hx)
  have e1:IntKind.i64.min= -9223372036854775808:=by decide
  have e2:IntKind.i64.max=9223372036854775807:=by decide
  simp only[Lit.wf,e1,e2,Bool.and_eq_true,decide_eq_true_eq];omega
 have hkeys:=Fg hS (hks.trans (hp.map _)) hso;subst hkeys;have hlen:=h.br s;rw[List.length_map] at hlen;intro l9 hl9
 have loop:∀(j k:Nat) (out:Sl) (w:World),k+j=Q.length->Ow B w0 w (ah de out (Q.take k)::ah aG s (Q.map (·.1))::aa d [.z n, .map (some mb)]::L)->l9 out (k:Int) w:=by
  intro j
  induction j with
  |zero=>
   intro k out w hk h;apply hl9;refine aE om ?_;rw[List.take_of_length_le om] at h;exact hK out w h.yy.yy
  |succ j ih=>
   intro k out w hk h;apply hl9;refine aR om ?_;have hx:Q[k]?=some Q[k]:=gE om;have hkx:(Q.map (·.1))[k]?=some Q[k].1:=by rw[List.getElem?_map,hx];rfl
   refine h.dZ (s:=s) (i:=(k:Int)) (j:=k) rfl hkx fun a ha h0 hc=>⟨_,h0 _ rfl,_,h.ao rfl,Q[k].2.1,Q[k].2.2, ?_⟩
   have hl2:cF M Q[k].1=some Q[k].2:=by rw[mh hp hS];exact hS.look (List.getElem_mem _)
   refine ⟨(h.mF Tryz.underlying191 (aF .i64 Tryz.underlying3) (i+3) (by simpa using hi) hl2).2, ?_⟩;refine h.a fun d3 w3 h=>?_;refine BR (s:=out) (ys:=Q.take k) (y:=Q[k]) h (by rw[List.length_take];omega) fun s' w hs' h=>?_
   rw[wI k om];refine ih (k+1) s' w om ?_;rw[List.take_add_one,hx];exact h
 exact loop Q.length 0 ⟨none,0,0⟩ w om (Ow.dK h)
end
end Go.Proofs.YtlhljbbfckbjpaaGreat.Tb
end
section
set_option maxRecDepth 8000
namespace Go.Proofs.YtlhljbbfckbjpaaGreat.Tb
open Go Go.Vc Go.Proofs
theorem wrap_u64 (z:Nat):IntKind.u64.wrap (z:Int)=((z%2^64:Nat):Int):=by
 have e1:(2:Int)^64=18446744073709551616:=by decide
 have e2:(2:Nat)^64=18446744073709551616:=by decide
 simp only[IntKind.wrap,IntKind.bits,IntKind.signed,e1,e2,Bool.false_and,Bool.false_eq_true,if_false];omega
theorem wg (n:Nat) (hn:n≤64):IntKind.u64.wrap (gy .u64 1 (n:Int)-1)=((2^n-1:Nat):Int):=by
 have e2:(2:Nat)^64=18446744073709551616:=by decide
 have hp:0<2^n:=Nat.two_pow_pos n;unfold gy;rw[Int.toNat_natCast,show IntKind.u64.bits=64 from rfl,Nat.min_eq_left hn,Int.one_mul,show ((2:Int)^n)=((2^n:Nat):Int) from by simp,wrap_u64];by_cases e:n=64
 ·subst e
  rw[e2];rfl
 ·have hlt:2^n<2^64:=Nat.pow_lt_pow_right om om
  rw[Nat.mod_eq_of_lt hlt,show (((2^n:Nat):Int)-1)=((2^n-1:Nat):Int) from by omega,wrap_u64,Nat.mod_eq_of_lt om]
theorem nO (z:Nat):BitVec.ofInt IntKind.u64.bits (z:Int)=BitVec.ofNat 64 z:=by
 apply BitVec.eq_of_toNat_eq;simp[IntKind.bits,BitVec.toNat_ofInt]
theorem vF (v n:Nat) (hv:v<2^64) (hn:n≤64):dw .u64 (v:Int) ((2^n-1:Nat):Int)=((v%2^n:Nat):Int):=by
 have hp:0<2^n:=Nat.two_pow_pos n;have hle:2^n≤2^64:=Nat.pow_le_pow_right om hn;unfold dw;rw[nO,nO]
 have h1:(BitVec.ofNat 64 v &&& BitVec.ofNat 64 (2^n-1)).toNat=v%2^n:=by
  rw[BitVec.toNat_and,BitVec.toNat_ofNat,BitVec.toNat_ofNat,Nat.mod_eq_of_lt hv,Nat.mod_eq_of_lt om,Nat.and_two_pow_sub_one_eq_mod]
 show IntKind.u64.wrap (((BitVec.ofNat 64 v &&& BitVec.ofNat 64 (2^n-1)).toNat:Nat):Int)=_;rw[h1,wrap_u64,Nat.mod_eq_of_lt (Nat.lt_of_le_of_lt (Nat.mod_le _ _) hv)]
theorem ko (x k:Nat) (hk:k≤64):jl .u64 (x:Int) (k:Int)=((x / 2^k:Nat):Int):=by
 unfold jl;rw[Int.toNat_natCast,show IntKind.u64.bits=64 from rfl,Nat.min_eq_left hk];rw[show ((2:Int)^k)=((2^k:Nat):Int) from by simp];rw[Int.fdiv_eq_ediv_of_nonneg _ (Int.natCast_nonneg _)];simp
theorem HA {P:Program} {T kt el:TypeId} {K:Type} [DecidableEq K] {enc:K->Value} (hu:P.underlying T=some (.map kt el)) (hk:iU P kt enc) {z:Value} (hz:∀w,(zeroValue el).run P w= .ok z w) {w:World} {k:K}:
  oM P T (.map none) (enc k) z false w/\wW P T (.map none) (enc k) z w:=by
 have h3:=ma (V:=Unit) (encV:=fun _=> .nilIface) (L:=[]) hk (es:= #[]) rfl (k:=k) rfl w;constructor
 ·unfold oM Instr.lookup
  simp only[Sem.run_bind,aN hu,Result.andThen_ok,Sem.run_pure,hk.check,h3,hz,if_true]
 ·unfold wW Instr.lookup
  simp only[Sem.run_bind,aN hu,Result.andThen_ok,Sem.run_pure,hk.check,h3,hz,Bool.false_eq_true,if_false]
section
variable {B:Nat} {w0 w:World} {R L:List aA} {b:Nat} {m:dv}
theorem fa {n:Nat} {K:Int->Pw} (hn:n≤64) (h:K ((2^n-1:Nat):Int) w):C.qcB (n:Int) K w:=by
 apply S.qcB0;rw[wg n hn];exact ⟨om,h⟩
theorem gA {a n:Nat} {K:Bool->Pw} (ha:a+n≤64) (h:K true w):C.qcq (a:Int) (n:Int) K w:=by
 apply S.qcq0;refine aR om (aR om (aR om ?_));rw[wr om om,decide_eq_true om];exact h
theorem gz {v a n:Nat} {K:Int->Int->Pw} (hv:v<2^64) (hn:a+n≤64) (h:Ow B w0 w L) (hK:∀w',Ow B w0 w' L->K ((v / 2^a%2^n:Nat):Int) 0 w'):C.qcg (v:Int) (a:Int) (n:Int) K w:=by
 apply S.qcg0;refine gA hn ?_;refine bD rfl ?_
 (repeat (first|(refine h.al fun w h=>?_)|(refine h.dr fun w h=>?_)|(refine h.aL rfl ?_)|(refine h.aV rfl ?_)|(refine ⟨_,h.aq rfl, ?_⟩)|(refine ⟨_,h.ao rfl, ?_⟩)|(refine h.hd rfl ?_)|(refine ⟨h.aq rfl, ?_⟩)|(refine ⟨h.ao rfl, ?_⟩)|(refine h.ax rfl rfl fun w h=>?_)|(refine eC ?_)|(refine _root_.Go.Vc.a2 ?_)|(refine h.dy rfl rfl fun w h=>?_)|(refine h.cC rfl rfl fun w h=>?_)))
 refine ⟨om,a2 ?_⟩;refine fa om ?_;rw[ko v a om,vF _ n (Nat.lt_of_le_of_lt (Nat.div_le_self _ _) hv) om];exact hK _ h
theorem px {n:Int} {K:Bool->Pw} (hK:K (decide (0≤n/\n<4096)) w):C.qcC n K w:=by
 apply S.qcC0;refine dD (fun e=>?_) (fun e=>?_)
 ·rw[show decide (0≤n/\n<4096)=decide (n<4096) from decide_eq_decide.2 om] at hK;exact hK
 ·rw[decide_eq_false om] at hK;exact hK
theorem nq {n:Int} {K:Bool->Pw} (hK:K (decide (0≤n/\n<64)) w):C.qcp n K w:=by
 apply S.qcp0;refine dD (fun e=>?_) (fun e=>?_)
 ·rw[show decide (0≤n/\n<64)=decide (n<64) from decide_eq_decide.2 om] at hK;exact hK
 ·rw[decide_eq_false om] at hK;exact hK
theorem yx {n:Int} {K:Bool->Pw} (hK:K (decide (0≤n/\n≤7)) w):C.qcR n K w:=by
 apply S.qcR0;refine dD (fun e=>?_) (fun e=>?_)
 ·rw[show decide (0≤n/\n≤7)=decide (n≤7) from decide_eq_decide.2 om] at hK;exact hK
 ·rw[decide_eq_false om] at hK;exact hK
theorem gS {tb:Nat->Option Int} {mb:Nat->Nat} {i:Nat} (hi:i<64) (j:Nat) (h:Ow B w0 w L) (hL:L[j]?=some (aa b ((kG tb mb).flatMap mI.enc))):w.cell? (⟨b,i*2,none⟩:Addr)=some (.z ((tb i).getD 0))/\w.cell? ((⟨b,i*2,none⟩:Addr).add 1)=some (.map ((tb i).map fun _=>mb i)):=
 ⟨h.jS j hL (Bk hi),h.ld j hL (Bl hi)⟩
theorem FR (b i:Nat):(⟨b,0,none⟩:Addr).add (i*2)=⟨b,i*2,none⟩:=by rw[aI,Nat.zero_add]
theorem kg {n:Int} {mb:Nat->Nat} {K:Option Addr->Bool->Pw} (hn:0≤n/\n<4096) (j:Nat) (h:Ow B w0 w L) (hL:L[j]?=some (aa b ((kG m.tb mb).flatMap mI.enc))) (hK:∀w',Ow B w0 w' L->K (some ⟨b,n.toNat / 64*2,none⟩) (m.tb (n.toNat / 64)).isSome w'):C.qbi (some ⟨b,0,none⟩) n K w:=by
 apply S.qbi0;obtain ⟨k,rfl⟩:=Int.eq_ofNat_of_zero_le hn.1;rw[wrap_u64,Nat.mod_eq_of_lt om];refine gz (a:=6) (n:=6) om om h fun w h=>?_
 rw[Int.toNat_natCast] at hK
 have e:k / 2^6%2^6=k / 64:=by
  have:(2:Nat)^6=64:=by decide
  rw[this];omega
 rw[e];refine h.dr fun w h=>?_
 refine ⟨_,rfl,om,om,_,rfl,om,om, ?_⟩;rw[Int.toNat_natCast,FR];refine ⟨_,(gS om j h hL).2, ?_⟩;have:=hK w h;cases ht:m.tb (k / 64) with
 |none=>rw[ht] at this;exact this
 |some v=>rw[ht] at this;exact this
theorem FB:∀w,(zeroValue 38).run Tryz.prog w= .ok (H6 (0,0)) w:=fun w=>Tryz.zeroValue38 w
theorem AT {k:Int} {mb:Nat->Nat} {M:Nat->fq} (ho:fO m) (hM:∀i,(M i).Perm (cJ m.pg i)) (hk:0≤k/\k<4096) (j:Nat) (h:Ow B w0 w L) (hL:L[j]?=some (fi m.tb mb M (k.toNat / 64))):
  oM Tryz.prog 191 (.map ((m.tb (k.toNat / 64)).map fun _=>mb (k.toNat / 64))) (.z k) (.agg #[.z ((look m.pg k).getD (0,0)).1, .z ((look m.pg k).getD (0,0)).2]) (look m.pg k).isSome w:=by
 have hlook:look (cJ m.pg (k.toNat / 64)) k=look m.pg k:=by
  unfold cJ;rw[ya ho.rj];cases e:look m.pg k with
  |none=>rfl
  |some v=>rw[Option.filter_some,if_pos (by simp)]
 have hget:cF (M (k.toNat / 64)) k=look m.pg k:=by rw[mh (hM _) (ho.rj.filter _)];exact hlook
 cases ht:m.tb (k.toNat / 64) with
 |none=>
  have hno:look m.pg k=none:=by
   cases e:look m.pg k with
   |none=>rfl
   |some v=>have:=(ho.JG e).2.2;rw[ht] at this;cases this
  rw[hno];exact (HA Tryz.underlying191 (aF .i64 Tryz.underlying3) FB).1
 |some v=>
  unfold fi at hL;rw[if_pos (by rw[ht];rfl)] at hL;cases e:look m.pg k with
  |none=>exact (h.nh Tryz.underlying191 (aF .i64 Tryz.underlying3) FB j hL (by rw[hget,e])).1
  |some p=>exact (h.mF Tryz.underlying191 (aF .i64 Tryz.underlying3) j hL (by rw[hget,e];rfl)).1
theorem BJ {k:Int} {K:Int->Int->Bool->Pw} (h:Ow B w0 w (bf b m::R)) (hK:∀w',Ow B w0 w' (bf b m::R)->K ((look m.pg k).getD (0,0)).1 ((look m.pg k).getD (0,0)).2 (look m.pg k).isSome w'):C.qbP (some ⟨b,0,none⟩) k K w:=by
 apply S.qbP0;obtain ⟨mb,M,ho,hM,h⟩:=h.Hd;refine h.a fun d w1 h=>?_;refine px ?_;by_cases hk:0≤k/\k<4096
 ·rw[decide_eq_true hk]
  refine bD rfl ?_;have hq:k.toNat / 64<64:=by omega
  refine kg (mb:=mb) (m:=m) hk 1 h rfl fun w h=>?_
  refine ⟨_,rfl,_,(gS hq 1 h rfl).2, ?_⟩;refine ⟨_,_,_,AT ho hM hk (k.toNat / 64+2) h (by rw[List.getElem?_cons_succ];exact gO hq _), ?_⟩;refine h.a fun d2 w2 h=>?_;refine h.ax rfl rfl fun w h=>?_
  refine h.aL rfl ?_;have h:=h.dz;refine h.ax rfl rfl fun w h=>?_
  refine h.aL rfl ?_;exact hK w (Ow.fF ho hM h.drop.drop)
 ·rw[decide_eq_false hk]
  refine bN rfl ?_;refine h.ax rfl rfl fun w h=>?_
  refine h.aL rfl ?_;rw[ho.out hk] at hK;exact hK w (Ow.fF ho hM h.drop)
end
end Go.Proofs.YtlhljbbfckbjpaaGreat.Tb
end
section
set_option maxRecDepth 8000
namespace Go.Proofs.YtlhljbbfckbjpaaGreat.Tb
open Go Go.Vc Go.Proofs Go.Shelf
theorem EW {tb:Nat->Option Int} {mb:Nat->Nat} {i:Nat} (hi:i<64) (v:Option Int) (r:Nat):putAt ((kG tb mb).flatMap mI.enc) (i*2) [.z (v.getD 0), .map (v.map fun _=>r)]=(kG (rq tb i v) (fun j=>if j=i then r else mb j)).flatMap mI.enc:=by
 have e:=lB mI (kG tb mb) i (v.map fun n=>(n,r)) (by rw[oB];exact hi);rw[GL hi] at e;rw[e];cases v<;>rfl
theorem vV {tb:Nat->Option Int} {mb:Nat->Nat}:((kG tb mb).flatMap mI.enc).length=128:=by rw[aK,oB];rfl
section
variable {B:Nat} {w0 w:World} {R L:List aA} {b:Nat} {m:dv}
theorem A9 {tb:Nat->Option Int} {mb:Nat->Nat} {M:Nat->fq} {i:Nat} (hi:i<64) (hs:(tb i).isSome=true) (M1:fq) (A0:aA):(A0::((List.range 64).map (fi tb mb M)++R)).set (i+1) (IE (mb i) M1)=A0::((List.range 64).map (fi tb mb (fun j=>if j=i then M1 else M j))++R):=
 tt hi (fun j hj=>by
  unfold fi;by_cases e:j=i
  ·subst e;rw[if_pos hs,if_pos rfl];show IE (mb j) (if j=j then M1 else M j)=_;rw[if_pos rfl]
  ·simp only[if_neg e]) A0
theorem EP {M:Nat->fq} (ho:fO m) (hM:∀i,(M i).Perm (cJ m.pg i)) (k:Int) (p:Pg):∀j,(if j=k.toNat / 64 then iQ (M (k.toNat / 64)) k p else M j).Perm (cJ (jB m.pg k p) j):=fun j=>by
 rw[GJ ho.rj];by_cases e:j=k.toNat / 64
 ·rw[if_pos e,if_pos e.symm,e];exact BX (hM _) (ho.rj.filter _) k p
 ·rw[if_neg e,if_neg fun h=>e h.symm];exact hM j
theorem EO {M:Nat->fq} (ho:fO m) (hM:∀i,(M i).Perm (cJ m.pg i)) (k:Int):∀j,(if j=k.toNat / 64 then kL (M (k.toNat / 64)) k else M j).Perm (cJ (ll m.pg k) j):=fun j=>by
 by_cases e:j=k.toNat / 64
 ·rw[if_pos e,e,Bi];exact BM (hM _) (ho.rj.filter _) k
 ·rw[if_neg e,Ak fun h=>e h.symm];exact hM j
theorem gF {K:Option Addr->Pw} (h:Ow B w0 w R) (hK:∀b w',Ow B w0 w' (bf b kM::R)->K (some ⟨b,0,none⟩) w'):C.qcr K w:=by
 apply S.qcr0;refine h.al fun w1 h=>hK _ w1 ?_
 generalize w.heap.size=d at h⊢;refine Ow.fF (mb:=fun _=>0) (M:=fun _=>[]) fO.new (fun i=>List.Perm.refl _) ?_;have e:(List.range 64).map (fi kM.tb (fun _=>0) fun _=>[])=List.replicate 64 (dX True):=rfl;rw[e]
 have pures:∀(n:Nat) (A:aA) (R:List aA),Ow B w0 w1 (A::R)->Ow B w0 w1 (A::(List.replicate n (dX True)++R)):=fun n=>by
  induction n with
  |zero=>intro A R h;exact h
  |succ n ih=>
   intro A R h;have h2:Ow B w0 w1 (dX True::A::(List.replicate n (dX True)++R)):=Ow.dN trivial (ih A R h);exact h2.perm (List.Perm.swap _ _ _)
 exact pures 64 _ R h
theorem De {i:Int} {K:Int->Bool->Pw} (h:Ow B w0 w (bf b m::R)) (hK:K ((m.at i).getD 0) (m.at i).isSome w):C.qce (some ⟨b,0,none⟩) i K w:=by
 apply S.qce0;obtain ⟨mb,M,ho,hM,h⟩:=h.Hd;unfold dv.at at hK;intro k3 hk3;refine nq ?_;by_cases hi:0≤i/\i<64
 ·rw[decide_eq_true hi]
  rw[if_neg om] at hK;have hq:i.toNat<64:=by omega
  refine bD rfl ⟨_,rfl,hi.1,hi.2, ?_⟩;rw[FR];refine ⟨_,(gS hq 0 h rfl).2, ?_⟩;cases e:m.tb i.toNat with
  |none=>rw[e] at hK;exact hk3 _ _ (bN rfl hK)
  |some n=>
   rw[e] at hK;refine hk3 _ _ (bD rfl ⟨_,rfl,hi.1,hi.2, ?_⟩);rw[FR];refine ⟨_,(gS hq 0 h rfl).1, ?_⟩;rw[e];exact hK
 ·rw[decide_eq_false hi]
  refine bN rfl (hk3 _ _ (bN rfl ?_));by_cases h0:i<0
  ·rw[if_pos h0] at hK;exact hK
  ·rw[if_neg h0] at hK
   cases e:m.tb i.toNat with
   |none=>rw[e] at hK;exact hK
   |some n=>have:=ho.gT i.toNat (by rw[e];rfl);omega
theorem Dh {k:Int} {p:Pg} {K:Int->Pw} (h:Ow B w0 w (bf b m::R)) (hK:∀w',Ow B w0 w' (bf b (m.pf k p).2::R)->K (m.pf k p).1 w'):C.qbz (some ⟨b,0,none⟩) k p.1 p.2 K w:=by
 apply S.qbz0;obtain ⟨mb,M,ho,hM,h⟩:=h.Hd;unfold dv.pf at hK;refine h.a fun d w1 h=>?_;intro k6 hk6
 have bad:¬(0≤k/\k<4096/\0≤p.1/\0≤p.2/\p.2≤7)->k6 true w1:=fun e=>by
  rw[if_pos e] at hK;exact hk6 _ _ (bN rfl (hK w1 (Ow.fF ho hM h.drop)))
 refine px ?_;by_cases hk:0≤k/\k<4096
 case neg=>rw[decide_eq_false hk];exact bN rfl (bad fun hh=>hk ⟨hh.1,hh.2.1⟩)
 rw[decide_eq_true hk];refine bD rfl ⟨_,h.aq rfl, ?_⟩;refine dD (fun e=>bad fun hh=>by omega) (fun e1=>?_);refine ⟨_,h.ao rfl,yx ?_⟩;by_cases hr:0≤p.2/\p.2≤7
 case neg=>rw[decide_eq_false hr];exact bad fun hh=>hr hh.2.2.2
 rw[decide_eq_true hr];rw[if_neg (fun hh=>hh ⟨hk.1,hk.2,om,hr.1,hr.2⟩)] at hK;have hq:k.toNat / 64<64:=by omega
 refine hk6 _ _ (bD rfl ?_);refine kg (mb:=mb) (m:=m) hk 1 h rfl fun w h=>?_
 cases ht:m.tb (k.toNat / 64) with
 |none=>
  rw[if_pos ht] at hK;exact bN rfl (hK w (Ow.fF ho hM h.drop))
 |some v=>
  have hs:(m.tb (k.toNat / 64)).isSome=true:=by rw[ht];rfl
  rw[if_neg (by rw[ht];simp)] at hK;refine bD rfl ⟨_,rfl,_,(gS hq 1 h rfl).2, ?_⟩;refine ⟨_,_,_,AT ho hM hk (k.toNat / 64+2) h (by rw[List.getElem?_cons_succ];exact gO hq _), ?_⟩;refine h.a fun d2 w2 h=>?_;refine h.ax rfl rfl fun w h=>?_
  cases hl:(look m.pg k).isSome with
  |true=>
   rw[if_pos hl] at hK;exact bN rfl (hK w (Ow.fF ho hM h.drop.drop))
  |false=>
   rw[if_neg (by rw[hl];simp)] at hK;refine bD rfl ?_;refine h.dr fun w h=>?_
   refine ⟨_,rfl,_,(gS hq 2 h rfl).2, ?_⟩;refine h.aL rfl (Go.Vc.a2 ?_);rw[ht];refine h.iS (v:=p) (M:=M (k.toNat / 64)) (m:=mb (k.toNat / 64)) (enc:=Value.int .i64) (encV:=H6) Tryz.underlying191 (aF .i64 Tryz.underlying3) (k.toNat / 64+3) ?_ fun w h=>?_
   ·rw[List.getElem?_cons_succ,List.getElem?_cons_succ,gO hq];unfold fi;rw[if_pos hs]
   ·rw[List.set_cons_succ,List.set_cons_succ,A9 hq hs] at h
    refine hK w (Ow.fF (ho.ins hk hs p) (EP ho hM k p) h.drop.drop)
theorem mP {k:Int} {K:Int->Int->Int->Pw} (h:Ow B w0 w (bf b m::R)) (hK:∀w',Ow B w0 w' (bf b (m.cH k).2.2::R)->K (m.cH k).1.1 (m.cH k).1.2 (m.cH k).2.1 w'):C.qaq (some ⟨b,0,none⟩) k K w:=by
 apply S.qaq0;unfold dv.cH at hK;refine h.a fun d w1 h=>?_;refine px ?_;by_cases hk:0≤k/\k<4096
 case neg=>
  rw[decide_eq_false hk];rw[if_pos hk] at hK;refine bN rfl ?_;refine h.ax rfl rfl fun w h=>?_
  refine h.aL rfl ?_;exact hK w h.drop
 rw[decide_eq_true hk];rw[if_neg (fun hh=>hh hk)] at hK;have hq:k.toNat / 64<64:=by omega
 refine bD rfl ?_;refine BJ (h.dz:Ow B w0 w1 (bf b m::aa d _::R)) fun w h=>?_
 refine h.a fun d2 w2 h=>?_;refine h.ax rfl rfl fun w h=>?_
 (try dsimp only[putAt,List.set_cons_zero,List.set_cons_succ] at h)
 cases hl:look m.pg k with
 |none=>
  rw[hl] at hK;refine bN rfl ?_;refine h.ax rfl rfl fun w h=>?_
  refine h.aL rfl ?_;exact hK w h.sub
 |some p=>
  rw[hl] at hK;refine bD rfl ?_;have h:Ow B w0 w (aa d2 [.z p.1, .z p.2]::bf b m::aa d [.z 0, .z 0]::R):=by rw[hl] at h;exact h
  have h:Ow B w0 w (bf b m::aa d2 [.z p.1, .z p.2]::aa d [.z 0, .z 0]::R):=h.dz;obtain ⟨mb,M,ho,hM,h⟩:=h.Hd;obtain ⟨_,_,hs⟩:=ho.JG hl
  have h2:Ow B w0 w (aa d2 [.z p.1, .z p.2]::aa d [.z 0, .z 0]::aa b ((kG m.tb mb).flatMap mI.enc)::((List.range 64).map (fi m.tb mb M)++R)):=by
   refine h.perm ?_;have p1:=(List.perm_middle (a:=aa d2 [.z p.1, .z p.2]) (l₁:=aa b ((kG m.tb mb).flatMap mI.enc)::(List.range 64).map (fi m.tb mb M)) (l₂:=aa d [.z 0, .z 0]::R))
   have p2:=(List.perm_middle (a:=aa d [.z 0, .z 0]) (l₁:=aa b ((kG m.tb mb).flatMap mI.enc)::(List.range 64).map (fi m.tb mb M)) (l₂:=R))
   have:=p1.trans (p2.cons _);simpa using this
  refine kg (mb:=mb) (m:=m) hk 2 h2 rfl fun w h=>?_
  refine ⟨_,rfl,_,(gS hq 2 h rfl).2, ?_⟩;obtain ⟨v,ht⟩:=Option.isSome_iff_exists.1 hs;rw[ht];refine h.Ez (k:=k) (M:=M (k.toNat / 64)) (m:=mb (k.toNat / 64)) (enc:=Value.int .i64) (encV:=H6) Tryz.underlying191 (aF .i64 Tryz.underlying3) (k.toNat / 64+3) ?_ fun w h=>?_
  ·rw[List.getElem?_cons_succ,List.getElem?_cons_succ,gO hq];unfold fi;rw[if_pos hs]
  ·rw[List.set_cons_succ,List.set_cons_succ,A9 hq hs] at h
   refine h.aL rfl ?_;have h:=h.dz;refine h.ax rfl rfl fun w h=>?_
   refine h.aL rfl ?_;exact hK w (Ow.fF (m:=⟨m.tb,ll m.pg k⟩) ⟨ho.rj.filter _,fun x hx=>ho.kA x (List.mem_filter.1 hx).1,ho.gT⟩ (EO ho hM k) h.drop.drop)
end
section
variable {B:Nat} {w0 w:World} {R L:List aA} {b:Nat} {m:dv}
set_option maxHeartbeats 1000000 in
theorem keys_nil {K:Sl->Pw} (h:Ow B w0 w L) (hK:∀(s:Sl) (w':World),Ow B w0 w' (ah aG s []::L)->K s w'):
  C.qR none (fun r5 w6=>C.qdj r5 K w6) w:=by
 unfold C.qR;refine kh Tryz.func210 rfl ?_;have cK:∀mb W,CallsIn Fence.wide 5 Tryz.prog 210 #[.map mb] W fun e w'=>e= .returned (.func (.func 256) #[] #[.pointer (some ⟨W.heap.size,0,none⟩)])/\w'=W.alloc (.cells #[.map mb] 191):=fun mb W=>AnyZI.keys_in Tryz.AR Fence.wide 5 trivial rfl mb W
 refine (callsIn_wide (n:=5)).1 ((cK _ _).mono ?_);rintro e w' ⟨rfl,rfl⟩;refine ⟨_,rfl, ?_⟩;unfold C.qdj;refine kh Tryz.func209 rfl ?_
 have hseq:SeqGives Fence.wide 2 Tryz.prog 256 #[.pointer (some ⟨w.heap.size,0,none⟩)] encZ (fun ss:List Int=>ss= []) 0 (w.alloc (.cells #[.map none] 191)):=
  AnyZI.keys_gives_nil (ρ:=Tryz.oV) { Tryz.AR with} Fence.wide _ trivial rfl w.heap.size _ (by simp) (by simp)
 have cS:=AnyZI.sorted_in Tryz.Bg Fence.wide 5 trivial trivial trivial trivial rfl om (yG _) (enters_of Tryz.func255 (by kernel_rfl) rfl) 256 #[.pointer (some ⟨w.heap.size,0,none⟩)] trivial (enters_of Tryz.func256 (by kernel_rfl) rfl) _ 0 (Nat.zero_le _) om _ hseq;change CallsIn _ _ Tryz.prog 209 _ _ _ at cS;refine (callsIn_wide (n:=5)).1 (cS.mono ?_);rintro e w' ⟨v,ss,rfl,rfl,hrow,hnil,hb⟩;have h1:Ow B w0 (w.alloc (.cells #[.map none] 191)) L:=h.same (eJ _ _);rw[show (([]:List Int).mergeSort fun x y=>decide (x≤y))= [] from by simp] at hrow;obtain ⟨s,rfl,h2⟩:=re h1 hb hrow;exact ⟨s,rfl,hK s w' h2⟩
theorem Ef {n:Int} {K:Sl->Pw} (h:Ow B w0 w L) (hK:∀s w',Ow B w0 w' (ah de s []::L)->K s w'):C.qP n none K w:=by
 apply S.qP0;refine h.a fun d w1 h=>?_;refine ⟨_,h.ao rfl,keys_nil h fun s w h=>?_⟩;have hlen:=h.br s;intro l9 hl9;apply hl9;refine aE (by rw[hlen];decide) ?_;exact hK _ w (Ow.dK h.drop.drop)
theorem xT {n:Int} {mb:Nat->Nat} {M:Nat->fq} {q:Nat} {K:Sl->Pw} (ho:fO m) (hM:∀i,(M i).Perm (cJ m.pg i)) (j:Nat) (h:Ow B w0 w L) (hL:L[j]?=some (fi m.tb mb M q)) (hK:∀s w',Ow B w0 w' (ah de s (cJ m.pg q)::L)->K s w'):
  C.qP n ((m.tb q).map fun _=>mb q) K w:=by
 cases ht:m.tb q with
 |none=>
  rw[ho.yh ht] at hK;exact Ef h hK
 |some v=>
  unfold fi at hL;rw[if_pos (by rw[ht];rfl)] at hL;refine mg h j hL (hM q) (ho.rj.filter _) (fun x hx=>?_) hK;have:=ho.kA x (List.mem_filter.1 hx).1;exact ⟨this.1,this.2.1⟩
theorem A7:∀{L:List aA} {i:Nat} {a:aA},L[i]?=some a->(a::L.eraseIdx i).Perm L
 |x::L,0,a,h=>by simp at h;subst h;exact List.Perm.refl _
 |x::L,i+1,a,h=>(List.Perm.swap x a _).trans ((A7 (L:=L) (i:=i) (by simpa using h)).cons x)
theorem xO {X A:aA} {i:Nat} (h:Ow B w0 w (X::L)) (hi:L[i]?=some A):Ow B w0 w (L.set i X):=by
 have h1:Ow B w0 w (A::X::L.eraseIdx i):=h.perm (((A7 hi).symm.cons X).trans (List.Perm.swap _ _ _));exact h1.drop.put (bQ hi)
theorem pE {t:Int} {c n:Int} {p:Option Nat} {K:Bool->Pw} {d:Nat} (j:Nat) (h:Ow B w0 w L) (hL:L[j]?=some (aa d [.z t])) (hK:∀w',Ow B w0 w' L->K (!p.isNone&&n==t) w'):C.qbB n p ⟨d,0,none⟩ K w:=by
 apply S.qbB0;refine h.a fun g w1 h=>?_;refine ⟨_,h.ao rfl, ?_⟩;cases p with
 |none=>exact bD rfl (hK w1 h.drop)
 |some q=>exact bN rfl ⟨_,h.aq rfl,_,h.jS (j+1) (by simpa using hL) rfl,hK w1 h.drop⟩
theorem tO {t:Int} {mb:Nat->Nat} {K:Bool->Pw} {d:Nat} (j j2:Nat) (h:Ow B w0 w L) (hL:L[j]?=some (aa d [.z t])) (hL2:L[j2]?=some (aa b ((kG m.tb mb).flatMap mI.enc)))
  (hK:∀w',Ow B w0 w' L->K ((List.range 64).any fun i=>m.tb i==some t) w'):C.qf ⟨dV (some ⟨b,0,none⟩) 0 64 2,64-0,64-0⟩ (.func (.func 237) #[] #[.pointer (some ⟨d,0,none⟩)]) K w:=by
 apply S.qf0;apply S.qk0;have ha:dV (some (⟨b,0,none⟩:Addr)) 0 64 2=some ⟨b,0,none⟩:=by rw[fV rfl (by decide)]
 rw[ha];intro l3 hl3
 have loop:∀(k i:Nat) (w:World),i+k=64->(∀x,x<i->(m.tb x==some t)=false)->Ow B w0 w L->l3 (i:Int) w:=by
  intro k
  induction k with
  |zero=>
   intro i w hik hno h;apply hl3;refine aE (by show ¬(i:Int)<64;omega) ?_
   have e:((List.range 64).any fun i=>m.tb i==some t)=false:=by
    rw[List.any_eq_false];intro x hx;rw[hno x (by have:=List.mem_range.1 hx;omega)];decide
   have:=hK w h;rw[e] at this;exact this
  |succ k ih=>
   intro i w hik hno h;apply hl3;refine aR (by show (i:Int)<64;omega) ?_;refine ⟨_,rfl,om,by show (i:Int)<64;omega, ?_⟩;rw[Int.toNat_natCast,FR];have hc:=gS (by omega:i<64) j2 h hL2;refine ⟨_,hc.1,_,hc.2,aP (pE (c:=t) j h hL fun w h=>?_)⟩
   have e2:(!((m.tb i).map fun _=>mb i).isNone&&((m.tb i).getD 0)==t)=(m.tb i==some t):=by
    cases m.tb i<;>simp
   rw[e2];cases e:(m.tb i==some t) with
   |true=>
    refine bN rfl ?_;have e3:((List.range 64).any fun i=>m.tb i==some t)=true:=List.any_eq_true.2 ⟨i,List.mem_range.2 om,e⟩;have:=hK w h;rw[e3] at this;show K (decide ((i:Int)≥0)) w;rw[decide_eq_true (show (i:Int)≥0 by omega)];exact this
   |false=>
    refine bD rfl ?_;rw[wI i om];refine ih (i+1) w om (fun x hx=>?_) h;by_cases e4:x=i
    ·rw[e4];exact e
    ·exact hno x om
 exact loop 64 0 w om (fun x hx=>by omega) h
theorem zg {i n:Int} {K:Int->Pw} (h:Ow B w0 w (bf b m::R)) (hK:∀w',Ow B w0 w' (bf b (m.jn i n).2::R)->K (m.jn i n).1 w'):C.qbs (some ⟨b,0,none⟩) i n K w:=by
 apply S.qbs0;obtain ⟨mb,M,ho,hM,h⟩:=h.Hd;have hok:=ho.table i n;unfold dv.jn at hK hok;refine h.a fun d w1 h=>?_;intro k5 hk5
 have bad:¬(0≤i/\i<64/\0≤n)->k5 true w1:=fun e=>by
  rw[if_pos e] at hK;exact hk5 _ _ (bN rfl (hK w1 (Ow.fF ho hM h.drop)))
 refine nq ?_;by_cases hi:0≤i/\i<64
 case neg=>rw[decide_eq_false hi];exact bN rfl (bad fun hh=>hi ⟨hh.1,hh.2.1⟩)
 rw[decide_eq_true hi];refine bD rfl ⟨_,h.aq rfl, ?_⟩;by_cases hn:n<0
 ·rw[decide_eq_true hn];exact bad fun hh=>by omega
 rw[decide_eq_false hn];rw[if_neg (fun hh=>hh ⟨hi.1,hi.2,om⟩)] at hK hok;have hq:i.toNat<64:=by omega
 refine hk5 _ _ (bD rfl ?_);intro k8 hk8
 have full:∀w,((m.tb i.toNat).isSome=true∨((List.range 64).any fun j=>m.tb j==some n)=true)->Ow B w0 w (aa d [.z n]::aa b ((kG m.tb mb).flatMap mI.enc)::((List.range 64).map (fi m.tb mb M)++R))->k8 true w:=fun w e h=>by
  rw[if_pos e] at hK;exact hk8 _ _ (bN rfl (hK w (Ow.fF ho hM h.drop)))
 refine ⟨_,rfl,hi.1,hi.2, ?_⟩;rw[FR];refine ⟨_,(gS hq 1 h rfl).2, ?_⟩;cases ht:m.tb i.toNat with
 |some v=>exact bN rfl (full w1 (.inl (by rw[ht];rfl)) h)
 |none=>
  refine bD rfl ⟨_,rfl, ?_⟩;refine tO (m:=m) (mb:=mb) 0 1 h rfl rfl fun w h=>?_
  cases ha:((List.range 64).any fun j=>m.tb j==some n) with
  |true=>exact full w (.inr ha) h
  |false=>
   rw[if_neg (by rw[ht,ha];simp)] at hK hok;refine hk8 _ _ (bD rfl ?_);refine h.dr fun w h=>?_
   refine ⟨_,h.aq rfl,_,rfl,Go.Vc.a2 ?_⟩;refine h.xk (Value.int .i64) H6 fun w2 h=>?_
   generalize w.heap.size=g at h⊢;refine ⟨hi.1,hi.2,Go.Vc.a2 ?_⟩;rw[FR]
   refine Ow.FJ (o:=i.toNat*2) h 2 rfl (by
    apply Nat.ble_eq_true_of_le;rw[vV];show i.toNat*2+2≤128;omega) rfl fun w h=>?_
   have h2:Ow B w0 w (dI (Value.int .i64) H6 g []::aa d [.z n]::aa b (putAt ((kG m.tb mb).flatMap mI.enc) (i.toNat*2) [.z n, .map (some g)])::((List.range 64).map (fi m.tb mb M)++R)):=h;have e1:=EW (tb:=m.tb) (mb:=mb) hq (some n) g;have e1:putAt ((kG m.tb mb).flatMap mI.enc) (i.toNat*2) [.z n, .map (some g)]=_:=e1;rw[e1] at h2;have h3:Ow B w0 w (IE g []::aa b ((kG (rq m.tb i.toNat (some n)) fun j=>if j=i.toNat then g else mb j).flatMap mI.enc)::((List.range 64).map (fi m.tb mb M)++R)):=h2.yy;have ht0:fi m.tb mb M i.toNat=dX True:=by unfold fi;rw[if_neg (by rw[ht];simp)]
   have h4:=xO (i:=i.toNat+1) h3 (gO hq _);rw[tt (g:=fi (rq m.tb i.toNat (some n)) (fun j=>if j=i.toNat then g else mb j) (fun j=>if j=i.toNat then [] else M j)) hq (fun j hj=>?_)] at h4
   ·refine hK w (Ow.fF hok (fun j=>?_) h4)
    by_cases e:j=i.toNat
    ·rw[e];simp only[if_true]
     show ([]:fq).Perm (cJ m.pg i.toNat);rw[ho.yh ht]
    ·simp only[if_neg e];exact hM j
   ·by_cases e:j=i.toNat
    ·rw[e]
     unfold fi rq;simp
    ·unfold fi rq
     simp only[if_neg e]
theorem Bz {i:Int} {K:Sl->Int->Pw} (h:Ow B w0 w (bf b m::R)) (hK:∀s w',Ow B w0 w' (ah de s (m.cf i).1::bf b (m.cf i).2.2::R)->K s (m.cf i).2.1 w'):C.qbQ (some ⟨b,0,none⟩) i K w:=by
 apply S.qbQ0;obtain ⟨mb,M,ho,hM,h⟩:=h.Hd;have hok:=ho.drop i;unfold dv.cf at hK hok;refine nq ?_;by_cases hi:0≤i/\i<64
 case neg=>
  rw[decide_eq_false hi];rw[if_pos hi] at hK;exact bN rfl (hK _ w (Ow.dK (Ow.fF ho hM h)))
 rw[decide_eq_true hi];rw[if_neg (fun hh=>hh hi)] at hK hok;have hq:i.toNat<64:=by omega
 refine bD rfl ⟨_,rfl,hi.1,hi.2, ?_⟩;rw[FR];refine ⟨_,(gS hq 0 h rfl).2, ?_⟩;cases ht:m.tb i.toNat with
 |none=>
  rw[if_pos ht] at hK;exact bN rfl (hK _ w (Ow.dK (Ow.fF ho hM h)))
 |some v=>
  rw[if_neg (by rw[ht];simp)] at hK hok;refine bD rfl ⟨_,rfl,hi.1,hi.2, ?_⟩;rw[FR];refine ⟨_,(gS hq 0 h rfl).1,_,(gS hq 0 h rfl).2, ?_⟩;refine xT ho hM (i.toNat+1) h (gO hq _) fun s w h=>?_
  refine ⟨_,rfl,hi.1,hi.2, ?_⟩;rw[FR]
  refine Ow.FJ (o:=i.toNat*2) h 1 rfl (by
   apply Nat.ble_eq_true_of_le;rw[vV];show i.toNat*2+2≤128;omega) rfl fun w h=>?_
  have h2:Ow B w0 w (ah de s (cJ m.pg i.toNat)::aa b (putAt ((kG m.tb mb).flatMap mI.enc) (i.toNat*2) [.z 0, .map none])::((List.range 64).map (fi m.tb mb M)++R)):=h;have e1:=EW (tb:=m.tb) (mb:=mb) hq none 0;have e1:putAt ((kG m.tb mb).flatMap mI.enc) (i.toNat*2) [.z 0, .map none]=_:=e1;rw[e1] at h2;have h3:=xO (X:=dX True) (i:=i.toNat+2) (Ow.dN trivial h2) (by rw[List.getElem?_cons_succ];exact gO hq _);rw[List.set_cons_succ,tt (g:=fi (rq m.tb i.toNat none) (fun j=>if j=i.toNat then 0 else mb j) (fun j=>if j=i.toNat then [] else M j)) hq (fun j hj=>?_)] at h3
  ·have h4:Ow B w0 w (aa b ((kG (rq m.tb i.toNat none) fun j=>if j=i.toNat then 0 else mb j).flatMap mI.enc)::((List.range 64).map (fi (rq m.tb i.toNat none) (fun j=>if j=i.toNat then 0 else mb j) (fun j=>if j=i.toNat then [] else M j))++ah de s (cJ m.pg i.toNat)::R)):=by
    refine h3.perm ?_;have:=(List.perm_middle (a:=ah de s (cJ m.pg i.toNat)) (l₁:=aa b ((kG (rq m.tb i.toNat none) fun j=>if j=i.toNat then 0 else mb j).flatMap mI.enc)::(List.range 64).map (fi (rq m.tb i.toNat none) (fun j=>if j=i.toNat then 0 else mb j) (fun j=>if j=i.toNat then [] else M j))) (l₂:=R)).symm;simpa using this
   have h5:Ow B w0 w (bf b ⟨rq m.tb i.toNat none,m.pg.filter fun x=>x.1.toNat / 64 !=i.toNat⟩::ah de s (cJ m.pg i.toNat)::R):=Ow.fF (m:=⟨rq m.tb i.toNat none,m.pg.filter fun x=>x.1.toNat / 64 !=i.toNat⟩) hok (fun j=>?_) h4
   ·exact hK s w h5.dz
   ·by_cases e:j=i.toNat
    ·rw[e];simp only[if_true]
     show ([]:fq).Perm (cJ (m.pg.filter fun x=>x.1.toNat / 64 !=i.toNat) i.toNat)
     have:cJ (m.pg.filter fun x=>x.1.toNat / 64 !=i.toNat) i.toNat= []:=by
      unfold cJ;rw[List.filter_filter,List.filter_eq_nil_iff];intro x _;simp
     rw[this]
    ·simp only[if_neg e]
     show (M j).Perm (cJ (m.pg.filter fun x=>x.1.toNat / 64 !=i.toNat) j);rw[Fh e];exact hM j
  ·by_cases e:j=i.toNat
   ·rw[e]
    unfold fi rq;simp
   ·unfold fi rq
    simp only[if_neg e]
theorem Dy {s x:Sl} {xs ys:fq} {k:Sl->Pw} (h:Ow B w0 w (ah de s xs::L)) (hx:jR de.z w x (ys.flatMap de.enc)) (hxl:x.len=ys.length) (hbig:xs.length+ys.length≤1000000) (hk:∀s' w',s'.len=xs.length+ys.length->Ow B w0 w' (ah de s' (xs++ys)::L)->k s' w'):
  ∃s' w',bo Tryz.prog [216,216] 216 (.slice s.a s.len s.cap) (.slice x.a x.len x.cap) w s' w'/\k s' w':=
 Ow.app (s:=s) (xs:=xs) (ys:=ys) Tryz.underlying216 (show Tryz.prog.info? 220=some Tryz.t220 from by kernel_rfl) (zv:=(Tryz.t220.zero).get (by kernel_rfl)) (by kernel_rfl) (by kernel_rfl) (by kernel_rfl) (by decide) h 0 rfl hx hxl (by
  have e:Tryz.t220.bytes=24:=by kernel_rfl
  rw[e];omega) fun s' w' hl h=>hk s' w' hl h
theorem jT {K:Sl->Pw} (h:Ow B w0 w (bf b m::R)) (hK:∀s w',Ow B w0 w' (ah de s m.pg::bf b m::R)->K s w'):C.qaO (some ⟨b,0,none⟩) K w:=by
 apply S.qaO0;obtain ⟨mb,M,ho,hM,h⟩:=h.Hd;have hall:=Fi ho;have hlen:=oz m.pg 0 4096 ho.rj fun x hx=>⟨(ho.kA x hx).1,(ho.kA x hx).2.1⟩
 refine ⟨_,rfl,⟨(kG m.tb mb).flatMap mI.enc⟩,vV,fun i hi=>?_, ?_⟩
 ·have hb:=h.ud 0 rfl
  rw[aI,hb.cell,Nat.zero_add];simp
 intro l5 hl5
 have loop:∀(k t:Nat) (out:Sl) (w:World),t+k=64->Ow B w0 w (ah de out ((List.range t).flatMap (cJ m.pg))::aa b ((kG m.tb mb).flatMap mI.enc)::((List.range 64).map (fi m.tb mb M)++R))->l5 out (t:Int) w:=by
  intro k
  induction k with
  |zero=>
   intro t out w ht h;obtain rfl:t=64:=by omega
   apply hl5;refine aE om ?_;rw[hall] at h;refine hK out w ?_
   have h4:Ow B w0 w (aa b ((kG m.tb mb).flatMap mI.enc)::((List.range 64).map (fi m.tb mb M)++ah de out m.pg::R)):=by
    refine h.perm ?_;have:=(List.perm_middle (a:=ah de out m.pg) (l₁:=aa b ((kG m.tb mb).flatMap mI.enc)::(List.range 64).map (fi m.tb mb M)) (l₂:=R)).symm;simpa using this
   have h5:Ow B w0 w (bf b m::ah de out m.pg::R):=Ow.fF ho hM h4;exact h5.dz
  |succ k ih=>
   intro t out w ht h;apply hl5;refine aR om ⟨om,om, ?_⟩;have htq:t<64:=by omega
   refine ⟨(m.tb t).getD 0, ?_,(m.tb t).map fun _=>mb t, ?_, ?_⟩
   ·rw[Int.toNat_natCast,Nat.add_zero]
    simpa using Bk (tb:=m.tb) (mb:=mb) htq
   ·rw[Int.toNat_natCast]
    simpa using Bl (tb:=m.tb) (mb:=mb) htq
   ·refine h.a fun d w2 h=>?_;refine h.ax rfl rfl fun w h=>?_
    refine ⟨_,h.aq rfl,_,h.ao rfl, ?_⟩;refine xT ho hM (t+3) h (by rw[List.getElem?_cons_succ,List.getElem?_cons_succ];exact gO htq _) fun s w h=>?_
    have hs:=h.vg 0 rfl;have hsl:=h.len 0 rfl;have h2:Ow B w0 w (ah de out ((List.range t).flatMap (cJ m.pg))::aa b ((kG m.tb mb).flatMap mI.enc)::((List.range 64).map (fi m.tb mb M)++R)):=h.drop.drop
    have hpre:((List.range t).flatMap (cJ m.pg)).length+(cJ m.pg t).length≤1000000:=by
     have e:(List.range (t+1)).flatMap (cJ m.pg)=(List.range t).flatMap (cJ m.pg)++cJ m.pg t:=by rw[List.range_succ,List.flatMap_append];simp
     have hsub:((List.range (t+1)).flatMap (cJ m.pg)).length≤((List.range 64).flatMap (cJ m.pg)).length:=by
      have e64:List.range 64=List.range (t+1)++(List.range (64-(t+1))).map (fun x=>t+1+x):=by
       rw[←List.range_add];congr 1;omega
      rw[e64,List.flatMap_append,List.length_append];omega
     rw[e,hall,List.length_append] at hsub;omega
    refine Dy h2 hs hsl hpre fun s' w hs' h=>?_
    rw[wI t om];refine ih (t+1) s' w om ?_;have e:(List.range (t+1)).flatMap (cJ m.pg)=(List.range t).flatMap (cJ m.pg)++cJ m.pg t:=by rw[List.range_succ,List.flatMap_append];simp
    rw[e];exact h
 exact loop 64 0 ⟨none,0,0⟩ w om (Ow.dK h)
theorem vZ {w:World} {a:Addr} {x:Int × Pg} {f:Int->Int->Int->Prop} (g:∀c v,(de.enc x)[c]?=some v->w.cell? (a.add c)=some v) (hf:f x.1 x.2.1 x.2.2):az w a 0 [.o, .o, .o] f:=
 ⟨_,g 0 _ rfl,_,g 1 _ rfl,_,g 2 _ rfl,hf⟩
theorem kU {s:Sl} {ys:List Int} {y:Int} {c:Nat} {L:List aA} {k:Sl->Pw} [I:bT s L Int aG ys] [J:dG (ah aG s ys) L R] (h:Ow B w0 w (aa c [.z y]::L)) (hbig:ys.length≤1000000000)
  (hk:∀s' w',s'.len=ys.length+1->Ow B w0 w' (ah aG s' (ys++ [y])::R)->k s' w'):
  ∃s' w',bo Tryz.prog [22,22] 22 (.slice s.a s.len s.cap) (.slice (some (Addr.mk c 0 none)) 1 1) w s' w'/\k s' w':=
 Ow.fy (E:=aG) (y:=y) Tryz.underlying22 (show Tryz.prog.info? 3=some Tryz.t3 from by kernel_rfl) (zv:= .z 0) (by kernel_rfl) (by kernel_rfl) rfl (by decide) h (by
  have e:Tryz.t3.bytes=8:=by kernel_rfl
  rw[e];omega) hk
def fC (P:fq) (f:Int):List Int:=(P.filter fun x=>x.2.1==f).map (·.1)
theorem xc {f:Int} {K:Sl->Pw} (h:Ow B w0 w (bf b m::R)) (hK:∀s w',Ow B w0 w' (ah aG s (fC m.pg f)::bf b m::R)->K s w'):C.qbe (some ⟨b,0,none⟩) f K w:=by
 apply S.qbe0;have ho:fO m:=by obtain ⟨_,_,ho,_,_⟩:=h.Hd;exact ho
 have hlen:=oz m.pg 0 4096 ho.rj fun x hx=>⟨(ho.kA x hx).1,(ho.kA x hx).2.1⟩
 refine jT h fun s w h=>?_
 have hl:=h.br s;intro l5 hl5
 have loop:∀(k t:Nat) (out:Sl) (w:World),t+k=m.pg.length->Ow B w0 w (ah aG out (fC (m.pg.take t) f)::ah de s m.pg::bf b m::R)->l5 out (t:Int) w:=by
  intro k
  induction k with
  |zero=>
   intro t out w ht h;apply hl5;refine aE om ?_;rw[List.take_of_length_le om] at h;exact hK out w h.yy
  |succ k ih=>
   intro t out w ht h;apply hl5;refine aR om ?_;have hx:m.pg[t]?=some m.pg[t]:=gE om;refine h.dZ (s:=s) (i:=(t:Int)) (j:=t) rfl hx fun a ha h0 hc=>?_
   refine vZ hc ?_;refine h.a fun d w2 h=>?_;refine h.ax rfl rfl fun w h=>?_
   refine ⟨_,h.ao rfl, ?_⟩
   have e:fC (m.pg.take (t+1)) f=fC (m.pg.take t) f++(if m.pg[t].2.1=f then [m.pg[t].1] else []):=by
    unfold fC;rw[List.take_add_one,hx,Option.toList_some,List.filter_append,List.map_append];congr 1;by_cases e:m.pg[t].2.1=f
    ·rw[if_pos e,List.filter_cons,if_pos (by simpa using e)];rfl
    ·rw[if_neg e,List.filter_cons,if_neg (by simpa using e)];rfl
   rw[wI t om];refine gB (fun e2=>?_) (fun e2=>?_)
   ·rw[if_pos e2] at e
    refine ⟨_,h.aq rfl, ?_⟩;refine h.a fun d3 w3 h=>?_;refine kU (s:=out) (ys:=fC (m.pg.take t) f) (y:=m.pg[t].1) h (by unfold fC;rw[List.length_map];have:=List.length_filter_le (fun x:Int × Pg=>x.2.1==f) (m.pg.take t);rw[List.length_take] at this;omega) fun s' w hs' h=>?_
    refine ih (t+1) s' w om ?_;rw[e];exact h.yy
   ·rw[if_neg e2,List.append_nil] at e
    refine ih (t+1) out w om ?_;rw[e];exact h.drop
 exact loop m.pg.length 0 ⟨none,0,0⟩ w om (Ow.dK h)
end
end Go.Proofs.YtlhljbbfckbjpaaGreat.Tb
end
