/- What the row rests on: the declarations that it needs, out of my texts (part 7). -/
import Derived.Test.YtogmbmdbgkopjaaGreatZb6
import Derived.Ground.GgzProg
import Derived.Ground.SlgmProg
import Derived.Ground.SlmcProg
import Derived.Ground.SlsfProg
import Derived.Shelf.SlIterI.Nil
import Derived.Shelf.SlMaps.Clone
import Derived.Shelf.SlSortCmp.NoneTotal
import Derived.Shelf.SortM.Plain
import Derived.Shelf.SortM.SortNone
set_option linter.unusedVariables false
set_option linter.unusedSimpArgs false
set_option linter.unusedSectionVars false
section
namespace Go.Proofs
open Go.Shelf
def Tryz.sortFuncA_ren:Go.Shelf.Ren:=⟨fun|6=>195|15=>273|14=>272|28=>325|29=>268|20=>317|21=>318|22=>319|23=>320|24=>321|25=>322|26=>323|27=>324|46=>351|47=>352|48=>353|49=>354|50=>355|57=>370|n=>n,fun|22=>79|24=>40|25=>211|3=>3|39=>288|0=>0|53=>338|55=>31|4=>4|46=>384|45=>383|50=>47|5=>5|9=>9|66=>411|70=>415|76=>426|77=>427|n=>n,fun|n=>n⟩
theorem Tryz.sortFuncA:Go.Proofs.SlLaysF0.n6 Tryz.prog Tryz.sortFuncA_ren:={
 mixed:=by kernel_rfl
 f6:=⟨Tryz.f195.name,by decide,Tryz.func195.trans (congrArg some (by kernel_rfl))⟩
 f14:=⟨Tryz.f272.name,by decide,Tryz.func272.trans (congrArg some (by kernel_rfl))⟩
 f15:=Tryz.func273.trans (congrArg some (by kernel_rfl))
 f20:=⟨Tryz.f317.name,by decide,Tryz.func317.trans (congrArg some (by kernel_rfl))⟩
 f21:=⟨Tryz.f318.name,by decide,Tryz.func318.trans (congrArg some (by kernel_rfl))⟩
 f22:=⟨Tryz.f319.name,by decide,Tryz.func319.trans (congrArg some (by kernel_rfl))⟩
 f23:=⟨Tryz.f320.name,by decide,Tryz.func320.trans (congrArg some (by kernel_rfl))⟩
 f24:=⟨Tryz.f321.name,by decide,Tryz.func321.trans (congrArg some (by kernel_rfl))⟩
 f25:=⟨Tryz.f322.name,by decide,Tryz.func322.trans (congrArg some (by kernel_rfl))⟩
 f26:=⟨Tryz.f323.name,by decide,Tryz.func323.trans (congrArg some (by kernel_rfl))⟩
 f27:=⟨Tryz.f324.name,by decide,Tryz.func324.trans (congrArg some (by kernel_rfl))⟩
 f28:=Tryz.func325.trans (congrArg some (by kernel_rfl))
 f29:=Tryz.func268.trans (congrArg some (by kernel_rfl))
 f46:=⟨Tryz.f351.name,by decide,Tryz.func351.trans (congrArg some (by kernel_rfl))⟩
 f47:=Tryz.func352.trans (congrArg some (by kernel_rfl))
 f48:=Tryz.func353.trans (congrArg some (by kernel_rfl))
 f49:=⟨Tryz.f354.name,by decide,Tryz.func354.trans (congrArg some (by kernel_rfl))⟩
 f50:=⟨Tryz.f355.name,by decide,Tryz.func355.trans (congrArg some (by kernel_rfl))⟩
 f57:=⟨Tryz.f370.name,by decide,Tryz.func370.trans (congrArg some (by kernel_rfl))⟩
 t0:=Tryz.underlying0
 a0:=Tryz.isAgg0
 z0:=Tryz.sizeOf0
 v0:=Tryz.zeroValue0
 t3:=Tryz.underlying3
 a3:=Tryz.isAgg3
 z3:=Tryz.sizeOf3
 v3:=Tryz.zeroValue3
 t4:=Tryz.underlying4
 a4:=Tryz.isAgg4
 z4:=Tryz.sizeOf4
 v4:=Tryz.zeroValue4
 t5:=Tryz.underlying5
 a5:=Tryz.isAgg5
 z5:=Tryz.sizeOf5
 v5:=Tryz.zeroValue5
 t9:=Tryz.underlying9
 a9:=Tryz.isAgg9
 z9:=Tryz.sizeOf9
 v9:=Tryz.zeroValue9
 t22:=Tryz.underlying79
 a22:=Tryz.isAgg79
 z22:=Tryz.sizeOf79
 v22:=Tryz.zeroValue79
 t25:=Tryz.underlying211
 a25:=Tryz.isAgg211
 z25:=Tryz.sizeOf211
 v25:=Tryz.zeroValue211
 t39:=Tryz.underlying288
 a39:=Tryz.isAgg288
 z39:=Tryz.sizeOf288
 v39:=Tryz.zeroValue288
 t45:=Tryz.underlying383
 a45:=Tryz.isAgg383
 z45:=Tryz.sizeOf383
 v45:=Tryz.zeroValue383
 t46:=Tryz.underlying384
 a46:=Tryz.isAgg384
 z46:=Tryz.sizeOf384
 v46:=Tryz.zeroValue384
 t50:=Tryz.underlying47
 a50:=Tryz.isAgg47
 z50:=Tryz.sizeOf47
 v50:=Tryz.zeroValue47
 t53:=Tryz.underlying338
 a53:=Tryz.isAgg338
 z53:=Tryz.sizeOf338
 v53:=Tryz.zeroValue338
 t55:=Tryz.underlying31
 a55:=Tryz.isAgg31
 z55:=Tryz.sizeOf31
 v55:=Tryz.zeroValue31
 t66:=Tryz.underlying411
 a66:=Tryz.isAgg411
 z66:=Tryz.sizeOf411
 v66:=Tryz.zeroValue411
 t70:=Tryz.underlying415
 a70:=Tryz.isAgg415
 z70:=Tryz.sizeOf415
 v70:=Tryz.zeroValue415
 t76:=Tryz.underlying426
 a76:=Tryz.isAgg426
 z76:=Tryz.sizeOf426
 v76:=Tryz.zeroValue426
 t77:=Tryz.underlying427
 a77:=Tryz.isAgg427
 z77:=Tryz.sizeOf427
 v77:=Tryz.zeroValue427}
def Tryz.keysA_ren:Go.Shelf.Ren:=⟨fun|7=>228|10=>308|n=>n,fun|23=>186|26=>3|3=>59|28=>324|0=>0|27=>323|33=>94|4=>4|n=>n,fun|n=>n⟩
theorem Tryz.keysA:Go.Proofs.SlLaysZI.n7 Tryz.prog Tryz.keysA_ren:={
 mixed:=by kernel_rfl
 f7:=⟨Tryz.f228.name,by decide,Tryz.func228.trans (congrArg some (by kernel_rfl))⟩
 f10:=⟨Tryz.f308.name,by decide,Tryz.func308.trans (congrArg some (by kernel_rfl))⟩
 t0:=Tryz.underlying0
 a0:=Tryz.isAgg0
 z0:=Tryz.sizeOf0
 v0:=Tryz.zeroValue0
 t4:=Tryz.underlying4
 a4:=Tryz.isAgg4
 z4:=Tryz.sizeOf4
 v4:=Tryz.zeroValue4
 t23:=Tryz.underlying186
 a23:=Tryz.isAgg186
 z23:=Tryz.sizeOf186
 v23:=Tryz.zeroValue186
 t26:=Tryz.underlying3
 a26:=Tryz.isAgg3
 z26:=Tryz.sizeOf3
 v26:=Tryz.zeroValue3
 t27:=Tryz.underlying323
 a27:=Tryz.isAgg323
 z27:=Tryz.sizeOf323
 v27:=Tryz.zeroValue323
 t28:=Tryz.underlying324
 a28:=Tryz.isAgg324
 z28:=Tryz.sizeOf324
 v28:=Tryz.zeroValue324
 t33:=Tryz.underlying94
 a33:=Tryz.isAgg94
 z33:=Tryz.sizeOf94
 v33:=Tryz.zeroValue94}
def Tryz.sortedA_ren:Go.Shelf.Ren:=⟨fun|6=>227|8=>306|9=>307|11=>348|13=>273|12=>349|23=>325|24=>268|14=>361|15=>362|16=>363|17=>364|18=>365|19=>366|20=>367|21=>368|22=>369|25=>372|26=>352|27=>353|28=>373|29=>374|30=>274|31=>376|n=>n,fun|26=>3|28=>324|24=>26|0=>0|3=>3|37=>288|48=>338|50=>31|4=>4|40=>384|39=>383|45=>47|5=>5|9=>9|51=>411|55=>415|57=>426|58=>427|33=>94|n=>n,fun|n=>n⟩
theorem Tryz.sortedA:Go.Proofs.SlLaysZI.n6 Tryz.prog Tryz.sortedA_ren:={
 mixed:=by kernel_rfl
 f6:=⟨Tryz.f227.name,by decide,Tryz.func227.trans (congrArg some (by kernel_rfl))⟩
 f8:=⟨Tryz.f306.name,by decide,Tryz.func306.trans (congrArg some (by kernel_rfl))⟩
 f11:=⟨Tryz.f348.name,by decide,Tryz.func348.trans (congrArg some (by kernel_rfl))⟩
 t0:=Tryz.underlying0
 a0:=Tryz.isAgg0
 z0:=Tryz.sizeOf0
 v0:=Tryz.zeroValue0
 t24:=Tryz.underlying26
 a24:=Tryz.isAgg26
 z24:=Tryz.sizeOf26
 v24:=Tryz.zeroValue26
 t26:=Tryz.underlying3
 a26:=Tryz.isAgg3
 z26:=Tryz.sizeOf3
 v26:=Tryz.zeroValue3
 t28:=Tryz.underlying324
 a28:=Tryz.isAgg324
 z28:=Tryz.sizeOf324
 v28:=Tryz.zeroValue324
 i26:=by kernel_rfl}
def Tryz.sortA_ren:Go.Shelf.Ren:=⟨fun|5=>307|8=>273|7=>349|19=>325|20=>268|10=>361|11=>362|12=>363|13=>364|14=>365|15=>366|16=>367|17=>368|18=>369|30=>372|31=>352|32=>353|33=>373|34=>374|35=>274|40=>376|n=>n,fun|23=>26|25=>3|3=>3|32=>288|22=>26|0=>0|44=>338|46=>31|4=>4|36=>384|35=>383|41=>47|5=>5|9=>9|53=>411|57=>415|63=>426|64=>427|n=>n,fun|n=>n⟩
theorem Tryz.sortA:Go.Proofs.SlLaysM.n5 Tryz.prog Tryz.sortA_ren:={
 mixed:=by kernel_rfl
 f5:=⟨Tryz.f307.name,by decide,Tryz.func307.trans (congrArg some (by kernel_rfl))⟩
 f7:=⟨Tryz.f349.name,by decide,Tryz.func349.trans (congrArg some (by kernel_rfl))⟩
 f8:=Tryz.func273.trans (congrArg some (by kernel_rfl))
 f10:=⟨Tryz.f361.name,by decide,Tryz.func361.trans (congrArg some (by kernel_rfl))⟩
 f11:=⟨Tryz.f362.name,by decide,Tryz.func362.trans (congrArg some (by kernel_rfl))⟩
 f12:=⟨Tryz.f363.name,by decide,Tryz.func363.trans (congrArg some (by kernel_rfl))⟩
 f13:=⟨Tryz.f364.name,by decide,Tryz.func364.trans (congrArg some (by kernel_rfl))⟩
 f14:=⟨Tryz.f365.name,by decide,Tryz.func365.trans (congrArg some (by kernel_rfl))⟩
 f15:=⟨Tryz.f366.name,by decide,Tryz.func366.trans (congrArg some (by kernel_rfl))⟩
 f16:=⟨Tryz.f367.name,by decide,Tryz.func367.trans (congrArg some (by kernel_rfl))⟩
 f17:=⟨Tryz.f368.name,by decide,Tryz.func368.trans (congrArg some (by kernel_rfl))⟩
 f18:=⟨Tryz.f369.name,by decide,Tryz.func369.trans (congrArg some (by kernel_rfl))⟩
 f19:=Tryz.func325.trans (congrArg some (by kernel_rfl))
 f20:=Tryz.func268.trans (congrArg some (by kernel_rfl))
 f30:=⟨Tryz.f372.name,by decide,Tryz.func372.trans (congrArg some (by kernel_rfl))⟩
 f31:=Tryz.func352.trans (congrArg some (by kernel_rfl))
 f32:=Tryz.func353.trans (congrArg some (by kernel_rfl))
 f33:=⟨Tryz.f373.name,by decide,Tryz.func373.trans (congrArg some (by kernel_rfl))⟩
 f34:=⟨Tryz.f374.name,by decide,Tryz.func374.trans (congrArg some (by kernel_rfl))⟩
 f35:=⟨Tryz.f274.name,by decide,Tryz.func274.trans (congrArg some (by kernel_rfl))⟩
 f40:=⟨Tryz.f376.name,by decide,Tryz.func376.trans (congrArg some (by kernel_rfl))⟩
 t0:=Tryz.underlying0
 a0:=Tryz.isAgg0
 z0:=Tryz.sizeOf0
 v0:=Tryz.zeroValue0
 t3:=Tryz.underlying3
 a3:=Tryz.isAgg3
 z3:=Tryz.sizeOf3
 v3:=Tryz.zeroValue3
 t4:=Tryz.underlying4
 a4:=Tryz.isAgg4
 z4:=Tryz.sizeOf4
 v4:=Tryz.zeroValue4
 t5:=Tryz.underlying5
 a5:=Tryz.isAgg5
 z5:=Tryz.sizeOf5
 v5:=Tryz.zeroValue5
 t9:=Tryz.underlying9
 a9:=Tryz.isAgg9
 z9:=Tryz.sizeOf9
 v9:=Tryz.zeroValue9
 t22:=Tryz.underlying26
 a22:=Tryz.isAgg26
 z22:=Tryz.sizeOf26
 v22:=Tryz.zeroValue26
 t23:=Tryz.underlying26
 a23:=Tryz.isAgg26
 z23:=Tryz.sizeOf26
 v23:=Tryz.zeroValue26
 t25:=Tryz.underlying3
 a25:=Tryz.isAgg3
 z25:=Tryz.sizeOf3
 v25:=Tryz.zeroValue3
 t32:=Tryz.underlying288
 a32:=Tryz.isAgg288
 z32:=Tryz.sizeOf288
 v32:=Tryz.zeroValue288
 t35:=Tryz.underlying383
 a35:=Tryz.isAgg383
 z35:=Tryz.sizeOf383
 v35:=Tryz.zeroValue383
 t36:=Tryz.underlying384
 a36:=Tryz.isAgg384
 z36:=Tryz.sizeOf384
 v36:=Tryz.zeroValue384
 t41:=Tryz.underlying47
 a41:=Tryz.isAgg47
 z41:=Tryz.sizeOf47
 v41:=Tryz.zeroValue47
 t44:=Tryz.underlying338
 a44:=Tryz.isAgg338
 z44:=Tryz.sizeOf338
 v44:=Tryz.zeroValue338
 t46:=Tryz.underlying31
 a46:=Tryz.isAgg31
 z46:=Tryz.sizeOf31
 v46:=Tryz.zeroValue31
 t53:=Tryz.underlying411
 a53:=Tryz.isAgg411
 z53:=Tryz.sizeOf411
 v53:=Tryz.zeroValue411
 t57:=Tryz.underlying415
 a57:=Tryz.isAgg415
 z57:=Tryz.sizeOf415
 v57:=Tryz.zeroValue415
 t63:=Tryz.underlying426
 a63:=Tryz.isAgg426
 z63:=Tryz.sizeOf426
 v63:=Tryz.zeroValue426
 t64:=Tryz.underlying427
 a64:=Tryz.isAgg427
 z64:=Tryz.sizeOf427
 v64:=Tryz.zeroValue427}
end Go.Proofs
end
section
set_option maxRecDepth 8000
namespace Go.Proofs.YtogmbmdbgkopjaaGreat.Tb
open Go Go.Vc Go.Proofs
open Go.WideElems (Fit rd rg pl)
theorem mapR_owns {P:Program} {k:TypeId} (hk:P.underlying k=some (.int .i64)) {V:Type} {encV:V->Value} {w:World} {m:Nat} {M:List (Int × V)} (h:MapR (Value.int .i64) encV w m M) (hwf:∀x∈M,(Lit.int .i64 x.1).wf=true) (hsz:M.length≤maxLen):
  ∃D0:DataW Unit,w.ownsMap P k (fun _=>some (.nil,[])) m M.length D0/\(intKeys D0).Perm (M.map (·.1))/\Maps.size D0=M.length:=by
 obtain ⟨es,c,hb,hmap,hborn,hlt⟩:=h.ex;have hlen:es.toList.length=M.length:=by have:=congrArg List.length hmap;simpa using this
 have hkeys:es.toList.map (·.key)=M.map (fun p=>Value.int .i64 p.1):=by
  have:=congrArg (List.map (·.1)) hmap;rw[List.map_map,List.map_map] at this;exact this
 have hread:∀x∈es.toList,∃a:Int,x.key= .int .i64 a/\(Lit.int .i64 a).wf=true:=fun x hx=>by
  have:x.key∈es.toList.map (·.key):=List.mem_map.2 ⟨x,hx,rfl⟩;rw[hkeys] at this;obtain ⟨p,hp,e⟩:=List.mem_map.1 this;exact ⟨p.1,e.symm,hwf p hp⟩
 have hrd:∀x∈es.toList,∀a:Int,x.key= .int .i64 a->(Lit.int .i64 a).wf=true->rd (H:=Unit) P k (fun _=>some (.nil,[])) x=some (.int .i64 a, .nil):=fun x hx a e hw=>by
  have hko:keyOf P k x.key=some (.int .i64 a):=by
   unfold keyOf mapKey;rw[hk,e];simp[hw]
  unfold rd;rw[hko];rfl
 refine ⟨.map ((es.toList.map (rg P k fun _=>some (.nil,[]))).foldr DataW.insert []),⟨es,c,hb,⟨?_,⟨hlt,hborn,?_⟩,fun x hx=>?_⟩,?_,rfl⟩,?_,?_⟩
 ·have:es.size=M.length:=by simpa using hlen
  rw[this];exact hsz
 ·rw[hkeys]
  have:M.map (fun p=>Value.int .i64 p.1)=(M.map (·.1)).map (Value.int .i64):=by rw[List.map_map];rfl
  rw[this];exact List.Pairwise.map _ (fun a b hab e=>hab (by cases e;rfl)) h.nodup
 ·obtain ⟨a,e,hw⟩:=hread x hx
  exact ⟨_,hrd x hx a e hw⟩
 ·have:es.size=M.length:=by simpa using hlen
  omega
 ·show (((es.toList.map (rg P k fun _=>some (.nil,[]))).foldr DataW.insert []).map fun p=>_root_.Go.intOf p.1).Perm _
  refine ((Go.WideShapes.sorted_perm _).map _).trans ?_;rw[List.map_map]
  have:es.toList.map ((fun p:Lit × DataW Unit=>_root_.Go.intOf p.1)∘rg P k fun _=>some (.nil,[]))=M.map (·.1):=by
   have e1:es.toList.map ((fun p:Lit × DataW Unit=>_root_.Go.intOf p.1)∘rg P k fun _=>some (.nil,[]))=es.toList.map (fun x=>match x.key with| .int _ a=>a|_=>0):=by
    refine List.map_congr_left fun x hx=>?_
    obtain ⟨a,e,hw⟩:=hread x hx;show _root_.Go.intOf (rg P k _ x).1=_;unfold rg;rw[hrd x hx a e hw,e];rfl
   rw[e1];have e2:=congrArg (List.map fun v:Value=>match v with| .int _ a=>a|_=>(0:Int)) hkeys;rw[List.map_map,List.map_map] at e2;exact e2
  rw[this]
 ·show ((es.toList.map (rg P k fun _=>some (.nil,[]))).foldr DataW.insert []).length=_
  rw[(Go.WideShapes.sorted_perm _).length_eq,List.length_map];exact hlen
theorem ownsRow_own {B:Nat} {w0 w w':World} {R:List Asn} {t:TypeId} {v:Value} {xs:List Int} (h:Own B w0 w R) (hb:RowKit.Below w.heap.size w w') (hr:w'.ownsRow w.heap.size t 1 v xs.length (xs.map (Value.int .i64))):
  ∃s:Sl,v= .slice s.a s.len s.cap/\Own B w0 w' (SlT intE s xs::R):=by
 have hu:Upd No w w':=⟨hb.os,hb.tape,hb.output,hb.size,fun k hk _=>hb.block k hk⟩
 have hfl:xs.flatMap intE.enc=xs.map (Value.int .i64):=by
  clear hr
  induction xs with
  |nil=>rfl
  |cons x xs ih=>rw[List.flatMap_cons,ih];rfl
 rcases hr.2 with ⟨rfl,hz⟩|⟨g,cap,cur,rfl,hbase,hgb,r1,r2,r3,r4⟩
 ·have:xs= []:=List.eq_nil_of_length_eq_zero hz
  subst this;exact ⟨⟨none,0,0⟩,rfl,(h.same hu).nilS⟩
 ·refine ⟨⟨some ⟨g,0,none⟩,xs.length,cap⟩,rfl,h.new (A':=SlT intE ⟨some ⟨g,0,none⟩,xs.length,cap⟩ xs) (G':=fun k=>k=g) hu ⟨fun a ha=>?_,rfl,?_⟩ fun k e=>?_⟩
  ·cases ha;rfl
  ·refine .mk g 0 cur.toList rfl ⟨t,hgb⟩ r1 ?_ ?_
   ·show 0+cap*1≤cur.toList.length
    rw[Array.length_toList];omega
   ·rw[hfl,List.drop_zero];exact r4.symm
  ·subst e
   exact ⟨hbase,(Array.getElem?_eq_some_iff.1 hgb).1⟩
end Go.Proofs.YtogmbmdbgkopjaaGreat.Tb
end
section
set_option maxRecDepth 8000
namespace Go.Proofs.YtogmbmdbgkopjaaGreat.Tb
open Go Go.Vc Go.Proofs
def pgV (p:Pg):Value:= .agg #[.z p.1, .z p.2]
def tcE:EncT (Option (Int × Nat)):=⟨2,fun o=>[.z ((o.map (·.1)).getD 0), .map (o.map (·.2))],fun _=>rfl,fun x v h=>by
 simp only[List.mem_cons,List.not_mem_nil,or_false] at h;rcases h with rfl|rfl<;>rfl,by decide⟩
def laidE:EncT (Int × Pg):=⟨3,fun o=>[.z o.1, .z o.2.1, .z o.2.2],fun _=>rfl,fun x v h=>by
 simp only[List.mem_cons,List.not_mem_nil,or_false] at h;rcases h with rfl|rfl|rfl<;>rfl,by decide⟩
abbrev pmA (m:Nat) (M:Pgs):Asn:=MapA (Value.int .i64) pgV m M
def tcs (tb:Nat->Option Int) (mb:Nat->Nat):List (Option (Int × Nat)):=(List.range 64).map fun i=>(tb i).map fun n=>(n,mb i)
def tabA (tb:Nat->Option Int) (mb:Nat->Nat) (M:Nat->Pgs) (i:Nat):Asn:=if (tb i).isSome=true then pmA (mb i) (M i) else PureA True
def SpcA (b:Nat) (m:Spc):Asn:=ExA fun x:(Nat->Nat)×(Nat->Pgs)=>StarA (PureA (SOk m/\∀i,(x.2 i).Perm (tabP m.pg i))::BlkA b ((tcs m.tb x.1).flatMap tcE.enc)::(List.range 64).map (tabA m.tb x.1 x.2))
section
variable {B:Nat} {w0 w:World} {R L:List Asn} {b:Nat} {m:Spc}
theorem _root_.Go.Vc.Own.spc (h:Own B w0 w (SpcA b m::R)):∃(mb:Nat->Nat) (M:Nat->Pgs),SOk m/\(∀i,(M i).Perm (tabP m.pg i))/\Own B w0 w (BlkA b ((tcs m.tb mb).flatMap tcE.enc)::((List.range 64).map (tabA m.tb mb M)++R)):=by
 obtain ⟨⟨mb,M⟩,h⟩:=h.ex;obtain ⟨⟨h1,h2⟩,h⟩:=Own.pure h.star;exact ⟨mb,M,h1,h2,h⟩
theorem _root_.Go.Vc.Own.mk_spc {mb:Nat->Nat} {M:Nat->Pgs} (h1:SOk m) (h2:∀i,(M i).Perm (tabP m.pg i)) (h:Own B w0 w (BlkA b ((tcs m.tb mb).flatMap tcE.enc)::((List.range 64).map (tabA m.tb mb M)++R))):Own B w0 w (SpcA b m::R):=
 Own.mk_ex (mb,M) (Own.mk_star (Own.mk_pure ⟨h1,h2⟩ h))
theorem tabs_get {f:Nat->Asn} {i:Nat} (hi:i<64) (A:Asn):(A::((List.range 64).map f++R))[i+1]?=some (f i):=by
 rw[List.getElem?_cons_succ,List.getElem?_append_left (by simp;exact hi),List.getElem?_map,List.getElem?_range hi];rfl
theorem tabs_set {f g:Nat->Asn} {A:Asn} {i:Nat} (hi:i<64) (h:∀j,j<64->g j=if j=i then A else f j) (A0:Asn):(A0::((List.range 64).map f++R)).set (i+1) A=A0::((List.range 64).map g++R):=by
 rw[List.set_cons_succ,List.set_append_left _ _ (by simp;exact hi)];congr 2;apply List.ext_getElem?;intro j;rw[List.getElem?_set,List.getElem?_map,List.getElem?_map];by_cases hj:j<64
 ·rw[List.getElem?_range hj]
  by_cases e:i=j
  ·subst e;rw[if_pos rfl,if_pos (by simp;exact hi)];simp only[Option.map_some];rw[h i hi,if_pos rfl]
  ·rw[if_neg e];simp only[Option.map_some];rw[h j hj,if_neg fun e2=>e e2.symm]
 ·rw[List.getElem?_eq_none (show (List.range 64).length≤j by simp;omega),if_neg (by omega)];rfl
theorem tcs_get {tb:Nat->Option Int} {mb:Nat->Nat} {i:Nat} (hi:i<64):(tcs tb mb)[i]?=some ((tb i).map fun n=>(n,mb i)):=by
 unfold tcs;rw[List.getElem?_map,List.getElem?_range hi];rfl
theorem tcs_len {tb:Nat->Option Int} {mb:Nat->Nat}:(tcs tb mb).length=64:=by unfold tcs;simp
theorem tcs_set {tb:Nat->Option Int} {mb:Nat->Nat} {i:Nat} (hi:i<64) (v:Option Int) (r:Nat):(tcs tb mb).set i (v.map fun n=>(n,r))=tcs (upT tb i v) (fun j=>if j=i then r else mb j):=by
 apply List.ext_getElem?;intro j;rw[List.getElem?_set];by_cases hj:j<64
 ·rw[tcs_get hj,tcs_get hj]
  unfold upT;by_cases e:i=j
  ·subst e;rw[if_pos rfl,if_pos (by rw[tcs_len];exact hi),if_pos rfl,if_pos rfl]
  ·rw[if_neg e,if_neg fun e2=>e e2.symm,if_neg fun e2=>e e2.symm]
 ·rw[List.getElem?_eq_none (show (tcs _ _).length≤j by rw[tcs_len];omega),List.getElem?_eq_none (show (tcs _ _).length≤j by rw[tcs_len];omega),if_neg (by omega)]
theorem tcell_n {tb:Nat->Option Int} {mb:Nat->Nat} {i:Nat} (hi:i<64):((tcs tb mb).flatMap tcE.enc)[i*2]?=some (.z ((tb i).getD 0)):=by
 have:=flat_get tcE (tcs tb mb) i 0 _ (tcs_get hi) (by decide);rw[show i*tcE.z+0=i*2 from rfl] at this;rw[this];cases tb i<;>rfl
theorem tcell_p {tb:Nat->Option Int} {mb:Nat->Nat} {i:Nat} (hi:i<64):((tcs tb mb).flatMap tcE.enc)[i*2+1]?=some (.map ((tb i).map fun _=>mb i)):=by
 have:=flat_get tcE (tcs tb mb) i 1 _ (tcs_get hi) (by decide);rw[show i*tcE.z+1=i*2+1 from rfl] at this;rw[this];cases tb i<;>rfl
end
theorem SOk.none_tab {m:Spc} (h:SOk m) {i:Nat} (hi:m.tb i=none):tabP m.pg i= []:=by
 unfold tabP;rw[List.filter_eq_nil_iff];intro x hx e;have:=(h.bnd x hx).2.2;simp only[beq_iff_eq] at e;rw[e,hi] at this;cases this
end Go.Proofs.YtogmbmdbgkopjaaGreat.Tb
end
section
set_option maxRecDepth 8000
namespace Go.Proofs.YtogmbmdbgkopjaaGreat.Tb
open Go Go.Vc Go.Proofs Go.Shelf
theorem sorts_in (n:Nat):AnyZI.SortsIn Tryz.prog Tryz.sortedA_ren Fence.wide n:=
 ⟨fun blk off cap ss W hH hblk hsz=>callsIn_wide.2 (AnyM.slices_Sort_int Tryz.sortA blk off cap ss W hH hblk hsz),
  fun p cap W=>callsIn_wide.2 (AnyM.slices_Sort_int_none Tryz.sortA p cap W)⟩
section
variable {B:Nat} {w0 w:World} {R L:List Asn} {b:Nat} {m:Spc}
set_option maxHeartbeats 1000000 in
theorem keys_sorted {V:Type} {encV:V->Value} {mb:Nat} {M:List (Int × V)} {K:Sl->Pw} (h:Own B w0 w L) (i:Nat) (hi:L[i]?=some (MapA (Value.int .i64) encV mb M)) (hwf:∀x∈M,(Lit.int .i64 x.1).wf=true) (hsz:M.length≤1000000)
  (hK:∀(s:Sl) (ks:List Int) (w':World),ks.Perm (M.map (·.1))->ks.Pairwise (fun x y=>decide (x≤y)=true)->Own B w0 w' (SlT intE s ks::L)->K s w'):
  C.qG (some mb) (fun r5 w6=>C.qcM r5 K w6) w:=by
 have hM:MapR (Value.int .i64) encV w mb M:=(h.take i hi).head fun _ h=>h.2
 have hmax:(1000000:Nat)≤maxLen:=by decide
 obtain ⟨D0,hown,hperm,hsize⟩:=mapR_owns (P:=Tryz.prog) (k:=3) Tryz.underlying3 hM hwf (Nat.le_trans hsz hmax);have hbl:=hown.lt;unfold C.qG;refine okF_mk Tryz.func228 rfl ?_;have cK:∀mb W,CallsIn Fence.wide 5 Tryz.prog 228 #[.map mb] W fun e w'=>e= .returned (.func (.func 308) #[] #[.pointer (some ⟨W.heap.size,0,none⟩)])/\w'=W.alloc (.cells #[.map mb] 186):=fun mb W=>AnyZI.keys_in Tryz.keysA Fence.wide 5 trivial rfl mb W
 refine (callsIn_wide (n:=5)).1 ((cK _ _).mono ?_);rintro e w' ⟨rfl,rfl⟩;refine ⟨_,rfl,?_⟩;unfold C.qcM;refine okF_mk Tryz.func227 rfl ?_
 have hseq:SeqGives Fence.wide 2 Tryz.prog 308 #[.pointer (some ⟨w.heap.size,0,none⟩)] encZ (fun ss=>ss.Perm (intKeys D0)) (Maps.size D0) (w.alloc (.cells #[.map (some mb)] 186)):=
  AnyZI.keys_gives (ρ:=Tryz.keysA_ren) { Tryz.keysA with} Fence.wide _ trivial rfl (by omega) w.heap.size mb M.length D0 _ (by simp) (by simp) (by
   obtain ⟨es,clock,hb,Ft,hs,hD⟩:=hown;exact ⟨es,clock,(RowKit.Below.heap_alloc _ _ mb hbl).trans hb,Ft,hs,hD⟩)
 have cS:=AnyZI.sorted_in Tryz.sortedA Fence.wide 5 trivial trivial trivial trivial rfl (by omega) (sorts_in _) (enters_of Tryz.func307 (by kernel_rfl) rfl) 308 #[.pointer (some ⟨w.heap.size,0,none⟩)] trivial (enters_of Tryz.func308 (by kernel_rfl) rfl) _ _ (by rw[hsize];exact Nat.le_trans hsz hmax) (by rw[hsize];omega) _ hseq;change CallsIn _ _ Tryz.prog 227 _ _ _ at cS;refine (callsIn_wide (n:=5)).1 (cS.mono ?_);rintro e w' ⟨v,ss,rfl,hS,hrow,hnil,hb⟩;have h1:Own B w0 (w.alloc (.cells #[.map (some mb)] 186)) L:=h.same (upd_alloc _ _);have hlen:(ss.mergeSort fun x y=>decide (x≤y)).length=ss.length:=List.length_mergeSort _;rw[←hlen] at hrow;obtain ⟨s,rfl,h2⟩:=ownsRow_own h1 hb hrow;refine ⟨s,rfl,hK s _ w' (((List.mergeSort_perm _ _).trans hS).trans hperm) ?_ h2⟩;exact List.pairwise_mergeSort (fun a b c h1 h2=>by simp at *;omega) (fun a b=>by simp;omega) _
theorem srt_keys {P:Pgs} (h:Srt P) {ks:List Int} (hp:ks.Perm (P.map (·.1))) (hs:ks.Pairwise (fun x y=>decide (x≤y)=true)):ks=P.map (·.1):=by
 refine List.Perm.eq_of_pairwise (le:=fun x y=>x≤y) (fun a b _ _ h1 h2=>by omega) (hs.imp fun h=>by simpa using h) ?_ hp;rw[List.pairwise_map];exact h.imp fun h=>by omega
theorem srt_len:∀(P:Pgs) (a c:Int),Srt P->(∀x∈P,a≤x.1/\x.1<c)->(P.length:Int)≤max 0 (c-a)
 | [],a,c,_,_=>Int.le_max_left _ _
 |x::P,a,c,h,hb=>by
  have h':=List.pairwise_cons.1 h;have h1:=hb x List.mem_cons_self;have:=srt_len P (x.1+1) c h'.2 fun y hy=>⟨by have:=h'.1 y hy;omega,(hb y (List.mem_cons_of_mem _ hy)).2⟩
  simp only[List.length_cons];omega
theorem app1_laid {s:Sl} {ys:Pgs} {y:Int × Pg} {c:Nat} {L:List Asn} {k:Sl->Pw} [I:SlIn s L (Int × Pg) laidE ys] [J:Pick (SlT laidE s ys) L R] (h:Own B w0 w (BlkA c [.z y.1, .z y.2.1, .z y.2.2]::L)) (hbig:ys.length≤1000000000)
  (hk:∀s' w',s'.len=ys.length+1->Own B w0 w' (SlT laidE s' (ys++ [y])::R)->k s' w'):
  ∃s' w',AppR Tryz.prog [56,56] 56 (.slice s.a s.len s.cap) (.slice (some (Addr.mk c 0 none)) 1 1) w s' w'/\k s' w':=
 Own.app1c (E:=laidE) (y:=y) Tryz.underlying56 (show Tryz.prog.info? 61=some Tryz.t61 from by kernel_rfl) (zv:=(Tryz.t61.zero).get (by kernel_rfl)) (by kernel_rfl) (by kernel_rfl) (by kernel_rfl) (by decide) h (by
  have e:Tryz.t61.bytes=24:=by kernel_rfl
  rw[e];omega) hk
theorem laid_spec {n:Int} {mb:Nat} {M Q:Pgs} {K:Sl->Pw} (h:Own B w0 w L) (i:Nat) (hi:L[i]?=some (pmA mb M)) (hp:M.Perm Q) (hS:Srt Q) (hb:∀x∈Q,0≤x.1/\x.1<4096) (hK:∀s w',Own B w0 w' (SlT laidE s Q::L)->K s w'):C.qE n (some mb) K w:=by
 apply S.qE0;have hl:=srt_len Q 0 4096 hS hb;refine h.al fun w1 h=>?_
 generalize w.heap.size=d at h⊢;refine ⟨_,h.ldd rfl,?_⟩;refine keys_sorted h (i+1) (by simpa using hi) (fun x hx=>?_) (by rw[hp.length_eq];omega) fun s ks w hks hso h=>?_
 ·have:=hb x (hp.mem_iff.1 hx)
  have e1:IntKind.i64.min= -9223372036854775808:=by decide
  have e2:IntKind.i64.max=9223372036854775807:=by decide
  simp only[Lit.wf,e1,e2,Bool.and_eq_true,decide_eq_true_eq];omega
 have hkeys:=srt_keys hS (hks.trans (hp.map _)) hso;subst hkeys;have hlen:=h.lenc s;rw[List.length_map] at hlen;intro l9 hl9
 have loop:∀(j k:Nat) (out:Sl) (w:World),k+j=Q.length->Own B w0 w (SlT laidE out (Q.take k)::SlT intE s (Q.map (·.1))::BlkA d [.z n, .map (some mb)]::L)->l9 out (k:Int) w:=by
  intro j
  induction j with
  |zero=>
   intro k out w hk h;apply hl9;refine cdecF (by omega) ?_;rw[List.take_of_length_le (by omega)] at h;exact hK out w h.rm1.rm1
  |succ j ih=>
   intro k out w hk h;apply hl9;refine cdecT (by omega) ?_;have hx:Q[k]?=some Q[k]:=gE (by omega);have hkx:(Q.map (·.1))[k]?=some Q[k].1:=by rw[List.getElem?_map,hx];rfl
   refine h.ixc (s:=s) (i:=(k:Int)) (j:=k) rfl hkx fun a ha h0 hc=>⟨_,h0 _ rfl,_,h.ldd rfl,Q[k].2.1,Q[k].2.2,?_⟩
   have hl2:mget M Q[k].1=some Q[k].2:=by rw[look_perm hp hS];exact hS.look (List.getElem_mem _)
   refine ⟨(h.mlook Tryz.underlying186 (keyOk_int .i64 Tryz.underlying3) (i+3) (by simpa using hi) hl2).2,?_⟩;refine h.al fun w3 h=>?_
   generalize w.heap.size=d3 at h⊢;refine app1_laid (s:=out) (ys:=Q.take k) (y:=Q[k]) h (by rw[List.length_take];omega) fun s' w hs' h=>?_
   rw[show IntKind.i64.wrap ((k:Int)+1)=((k+1:Nat):Int) from by rw[wr (by omega) (by omega)];omega];refine ih (k+1) s' w (by omega) ?_;rw[List.take_add_one,hx];exact h
 exact loop Q.length 0 ⟨none,0,0⟩ w (by omega) (Own.nilS h)
end
end Go.Proofs.YtogmbmdbgkopjaaGreat.Tb
end
section
set_option maxRecDepth 8000
namespace Go.Proofs.YtogmbmdbgkopjaaGreat.Tb
open Go Go.Vc Go.Proofs
theorem wrap_u64 (z:Nat):IntKind.u64.wrap (z:Int)=((z%2^64:Nat):Int):=by
 have e1:(2:Int)^64=18446744073709551616:=by decide
 have e2:(2:Nat)^64=18446744073709551616:=by decide
 simp only[IntKind.wrap,IntKind.bits,IntKind.signed,e1,e2,Bool.false_and,Bool.false_eq_true,if_false];omega
theorem low_val (n:Nat) (hn:n≤64):IntKind.u64.wrap (shlI .u64 1 (n:Int)-1)=((2^n-1:Nat):Int):=by
 have e2:(2:Nat)^64=18446744073709551616:=by decide
 have hp:0<2^n:=Nat.two_pow_pos n;unfold shlI;rw[Int.toNat_natCast,show IntKind.u64.bits=64 from rfl,Nat.min_eq_left hn,Int.one_mul,show ((2:Int)^n)=((2^n:Nat):Int) from by simp,wrap_u64];by_cases e:n=64
 ·subst e
  rw[e2];rfl
 ·have hlt:2^n<2^64:=Nat.pow_lt_pow_right (by omega) (by omega)
  rw[Nat.mod_eq_of_lt hlt,show (((2^n:Nat):Int)-1)=((2^n-1:Nat):Int) from by omega,wrap_u64,Nat.mod_eq_of_lt (by omega)]
theorem bv_of (z:Nat):BitVec.ofInt IntKind.u64.bits (z:Int)=BitVec.ofNat 64 z:=by
 apply BitVec.eq_of_toNat_eq;simp[IntKind.bits,BitVec.toNat_ofInt]
theorem and_low (v n:Nat) (hv:v<2^64) (hn:n≤64):andI .u64 (v:Int) ((2^n-1:Nat):Int)=((v%2^n:Nat):Int):=by
 have hp:0<2^n:=Nat.two_pow_pos n;have hle:2^n≤2^64:=Nat.pow_le_pow_right (by omega) hn;unfold andI;rw[bv_of,bv_of]
 have h1:(BitVec.ofNat 64 v &&& BitVec.ofNat 64 (2^n-1)).toNat=v%2^n:=by
  rw[BitVec.toNat_and,BitVec.toNat_ofNat,BitVec.toNat_ofNat,Nat.mod_eq_of_lt hv,Nat.mod_eq_of_lt (by omega),Nat.and_two_pow_sub_one_eq_mod]
 show IntKind.u64.wrap (((BitVec.ofNat 64 v &&& BitVec.ofNat 64 (2^n-1)).toNat:Nat):Int)=_;rw[h1,wrap_u64,Nat.mod_eq_of_lt (Nat.lt_of_le_of_lt (Nat.mod_le _ _) hv)]
theorem shr_nat (x k:Nat) (hk:k≤64):shrI .u64 (x:Int) (k:Int)=((x / 2^k:Nat):Int):=by
 unfold shrI;rw[Int.toNat_natCast,show IntKind.u64.bits=64 from rfl,Nat.min_eq_left hk];rw[show ((2:Int)^k)=((2^k:Nat):Int) from by simp];rw[Int.fdiv_eq_ediv_of_nonneg _ (Int.natCast_nonneg _)];simp
theorem lk_nil {P:Program} {T kt el:TypeId} {K:Type} [DecidableEq K] {enc:K->Value} (hu:P.underlying T=some (.map kt el)) (hk:KeyOk P kt enc) {z:Value} (hz:∀w,(zeroValue el).run P w= .ok z w) {w:World} {k:K}:
  LkB P T (.map none) (enc k) z false w/\Lk1 P T (.map none) (enc k) z w:=by
 have h3:=find_none (V:=Unit) (encV:=fun _=> .nilIface) (L:=[]) hk (es:= #[]) rfl (k:=k) rfl w;constructor
 ·unfold LkB Instr.lookup
  simp only[Sem.run_bind,run_und hu,Result.andThen_ok,Sem.run_pure,hk.check,h3,hz,if_true]
 ·unfold Lk1 Instr.lookup
  simp only[Sem.run_bind,run_und hu,Result.andThen_ok,Sem.run_pure,hk.check,h3,hz,Bool.false_eq_true,if_false]
section
variable {B:Nat} {w0 w:World} {R L:List Asn} {b:Nat} {m:Spc}
theorem words_low_spec {n:Nat} {K:Int->Pw} (hn:n≤64) (h:K ((2^n-1:Nat):Int) w):C.qcl (n:Int) K w:=by
 apply S.qcl0;rw[low_val n hn];exact ⟨by omega,h⟩
theorem words_there_spec {a n:Nat} {K:Bool->Pw} (ha:a+n≤64) (h:K true w):C.qbY (a:Int) (n:Int) K w:=by
 apply S.qbY0;refine cdecT (by omega) (cdecT (by omega) (cdecT (by omega) ?_));rw[wr (by omega) (by omega),decide_eq_true (by omega)];exact h
theorem words_Field_spec {v a n:Nat} {K:Int->Int->Pw} (hv:v<2^64) (hn:a+n≤64) (h:Own B w0 w L) (hK:∀w',Own B w0 w' L->K ((v / 2^a%2^n:Nat):Int) 0 w'):C.qbN (v:Int) (a:Int) (n:Int) K w:=by
 apply S.qbN0;refine words_there_spec hn ?_;refine cbF rfl ?_
 repeat refine h.dr fun w h=>?_
 refine ⟨by omega,a2 ?_⟩;refine words_low_spec (by omega) ?_;rw[shr_nat v a (by omega),and_low _ n (Nat.lt_of_le_of_lt (Nat.div_le_self _ _) hv) (by omega)];exact hK _ h
theorem page_spec {n:Int} {K:Bool->Pw} (hK:K (decide (0≤n/\n<4096)) w):C.qcn n K w:=by
 apply S.qcn0;refine cdec (fun e=>?_) (fun e=>?_)
 ·rw[show decide (0≤n/\n<4096)=decide (n<4096) from decide_eq_decide.2 (by omega)] at hK;exact hK
 ·rw[decide_eq_false (by omega)] at hK;exact hK
theorem place_spec {n:Int} {K:Bool->Pw} (hK:K (decide (0≤n/\n<64)) w):C.qbX n K w:=by
 apply S.qbX0;refine cdec (fun e=>?_) (fun e=>?_)
 ·rw[show decide (0≤n/\n<64)=decide (n<64) from decide_eq_decide.2 (by omega)] at hK;exact hK
 ·rw[decide_eq_false (by omega)] at hK;exact hK
theorem rights_spec {n:Int} {K:Bool->Pw} (hK:K (decide (0≤n/\n≤7)) w):C.qcB n K w:=by
 apply S.qcB0;refine cdec (fun e=>?_) (fun e=>?_)
 ·rw[show decide (0≤n/\n≤7)=decide (n≤7) from decide_eq_decide.2 (by omega)] at hK;exact hK
 ·rw[decide_eq_false (by omega)] at hK;exact hK
theorem cell_p {tb:Nat->Option Int} {mb:Nat->Nat} {i:Nat} (hi:i<64) (j:Nat) (h:Own B w0 w L) (hL:L[j]?=some (BlkA b ((tcs tb mb).flatMap tcE.enc))):w.cell? (⟨b,i*2,none⟩:Addr)=some (.z ((tb i).getD 0))/\w.cell? ((⟨b,i*2,none⟩:Addr).add 1)=some (.map ((tb i).map fun _=>mb i)):=
 ⟨h.ld0 j hL (tcell_n hi),h.ld j hL (tcell_p hi)⟩
theorem adr (b i:Nat):(⟨b,0,none⟩:Addr).add (i*2)=⟨b,i*2,none⟩:=by rw[add_mk,Nat.zero_add]
theorem of_spec {n:Int} {mb:Nat->Nat} {K:Option Addr->Bool->Pw} (hn:0≤n/\n<4096) (j:Nat) (h:Own B w0 w L) (hL:L[j]?=some (BlkA b ((tcs m.tb mb).flatMap tcE.enc))) (hK:∀w',Own B w0 w' L->K (some ⟨b,n.toNat / 64*2,none⟩) (m.tb (n.toNat / 64)).isSome w'):C.qaP (some ⟨b,0,none⟩) n K w:=by
 apply S.qaP0;obtain ⟨k,rfl⟩:=Int.eq_ofNat_of_zero_le hn.1;rw[wrap_u64,Nat.mod_eq_of_lt (by omega)];refine words_Field_spec (a:=6) (n:=6) (by omega) (by omega) h fun w h=>?_
 rw[Int.toNat_natCast] at hK
 have e:k / 2^6%2^6=k / 64:=by
  have:(2:Nat)^6=64:=by decide
  rw[this];omega
 rw[e];refine h.dr fun w h=>?_
 refine ⟨_,rfl,by omega,by omega,_,rfl,by omega,by omega,?_⟩;rw[Int.toNat_natCast,adr];refine ⟨_,(cell_p (by omega) j h hL).2,?_⟩;have:=hK w h;cases ht:m.tb (k / 64) with
 |none=>rw[ht] at this;exact this
 |some v=>rw[ht] at this;exact this
theorem zeroPg:∀w,(zeroValue 59).run Tryz.prog w= .ok (pgV (0,0)) w:=fun w=>Tryz.zeroValue59 w
theorem lk_page {k:Int} {mb:Nat->Nat} {M:Nat->Pgs} (ho:SOk m) (hM:∀i,(M i).Perm (tabP m.pg i)) (hk:0≤k/\k<4096) (j:Nat) (h:Own B w0 w L) (hL:L[j]?=some (tabA m.tb mb M (k.toNat / 64))):
  LkB Tryz.prog 186 (.map ((m.tb (k.toNat / 64)).map fun _=>mb (k.toNat / 64))) (.z k) (.agg #[.z ((look m.pg k).getD (0,0)).1, .z ((look m.pg k).getD (0,0)).2]) (look m.pg k).isSome w:=by
 have hlook:look (tabP m.pg (k.toNat / 64)) k=look m.pg k:=by
  unfold tabP;rw[look_filter ho.srt];cases e:look m.pg k with
  |none=>rfl
  |some v=>rw[Option.filter_some,if_pos (by simp)]
 have hget:mget (M (k.toNat / 64)) k=look m.pg k:=by rw[look_perm (hM _) (ho.srt.filter _)];exact hlook
 cases ht:m.tb (k.toNat / 64) with
 |none=>
  have hno:look m.pg k=none:=by
   cases e:look m.pg k with
   |none=>rfl
   |some v=>have:=(ho.tab e).2.2;rw[ht] at this;cases this
  rw[hno];exact (lk_nil Tryz.underlying186 (keyOk_int .i64 Tryz.underlying3) zeroPg).1
 |some v=>
  unfold tabA at hL;rw[if_pos (by rw[ht];rfl)] at hL;cases e:look m.pg k with
  |none=>exact (h.mlook0 Tryz.underlying186 (keyOk_int .i64 Tryz.underlying3) zeroPg j hL (by rw[hget,e])).1
  |some p=>exact (h.mlook Tryz.underlying186 (keyOk_int .i64 Tryz.underlying3) j hL (by rw[hget,e];rfl)).1
theorem Walk_spec {k:Int} {K:Int->Int->Bool->Pw} (h:Own B w0 w (SpcA b m::R)) (hK:∀w',Own B w0 w' (SpcA b m::R)->K ((look m.pg k).getD (0,0)).1 ((look m.pg k).getD (0,0)).2 (look m.pg k).isSome w'):C.qbt (some ⟨b,0,none⟩) k K w:=by
 apply S.qbt0;obtain ⟨mb,M,ho,hM,h⟩:=h.spc;refine h.al fun w1 h=>?_
 generalize w.heap.size=d at h⊢;refine page_spec ?_;by_cases hk:0≤k/\k<4096
 ·rw[decide_eq_true hk]
  refine cbF rfl ?_;have hq:k.toNat / 64<64:=by omega
  refine of_spec (mb:=mb) (m:=m) hk 1 h rfl fun w h=>?_
  refine ⟨_,rfl,_,(cell_p hq 1 h rfl).2,?_⟩;refine ⟨_,_,_,lk_page ho hM hk (k.toNat / 64+2) h (by rw[List.getElem?_cons_succ];exact tabs_get hq _),?_⟩;refine h.al fun w2 h=>?_
  generalize w.heap.size=d2 at h⊢;refine h.stLc rfl rfl fun w h=>?_
  refine h.lc_2 rfl ?_;have h:=h.up1;refine h.stLc rfl rfl fun w h=>?_
  refine h.lc_2 rfl ?_;exact hK w (Own.mk_spc ho hM h.drop.drop)
 ·rw[decide_eq_false hk]
  refine cbT rfl ?_;refine h.stLc rfl rfl fun w h=>?_
  refine h.lc_2 rfl ?_;rw[ho.out hk] at hK;exact hK w (Own.mk_spc ho hM h.drop)
end
end Go.Proofs.YtogmbmdbgkopjaaGreat.Tb
end
section
set_option maxRecDepth 8000
namespace Go.Proofs.YtogmbmdbgkopjaaGreat.Tb
open Go Go.Vc Go.Proofs Go.Shelf
theorem put_tc {tb:Nat->Option Int} {mb:Nat->Nat} {i:Nat} (hi:i<64) (v:Option Int) (r:Nat):putAt ((tcs tb mb).flatMap tcE.enc) (i*2) [.z (v.getD 0), .map (v.map fun _=>r)]=(tcs (upT tb i v) (fun j=>if j=i then r else mb j)).flatMap tcE.enc:=by
 have e:=flat_set tcE (tcs tb mb) i (v.map fun n=>(n,r)) (by rw[tcs_len];exact hi);rw[tcs_set hi] at e;rw[e];cases v<;>rfl
theorem flat_tc {tb:Nat->Option Int} {mb:Nat->Nat}:((tcs tb mb).flatMap tcE.enc).length=128:=by rw[flat_len,tcs_len];rfl
section
variable {B:Nat} {w0 w:World} {R L:List Asn} {b:Nat} {m:Spc}
theorem put_tab {tb:Nat->Option Int} {mb:Nat->Nat} {M:Nat->Pgs} {i:Nat} (hi:i<64) (hs:(tb i).isSome=true) (M1:Pgs) (A0:Asn):(A0::((List.range 64).map (tabA tb mb M)++R)).set (i+1) (pmA (mb i) M1)=A0::((List.range 64).map (tabA tb mb (fun j=>if j=i then M1 else M j))++R):=
 tabs_set hi (fun j hj=>by
  unfold tabA;by_cases e:j=i
  ·subst e;rw[if_pos hs,if_pos rfl];show pmA (mb j) (if j=j then M1 else M j)=_;rw[if_pos rfl]
  ·simp only[if_neg e]) A0
theorem perm_ins {M:Nat->Pgs} (ho:SOk m) (hM:∀i,(M i).Perm (tabP m.pg i)) (k:Int) (p:Pg):∀j,(if j=k.toNat / 64 then aput (M (k.toNat / 64)) k p else M j).Perm (tabP (insS m.pg k p) j):=fun j=>by
 rw[tab_ins ho.srt];by_cases e:j=k.toNat / 64
 ·rw[if_pos e,if_pos e.symm,e];exact aput_perm (hM _) (ho.srt.filter _) k p
 ·rw[if_neg e,if_neg fun h=>e h.symm];exact hM j
theorem perm_del {M:Nat->Pgs} (ho:SOk m) (hM:∀i,(M i).Perm (tabP m.pg i)) (k:Int):∀j,(if j=k.toNat / 64 then adel (M (k.toNat / 64)) k else M j).Perm (tabP (delS m.pg k) j):=fun j=>by
 by_cases e:j=k.toNat / 64
 ·rw[if_pos e,e,tab_del];exact adel_perm (hM _) (ho.srt.filter _) k
 ·rw[if_neg e,tab_del_ne fun h=>e h.symm];exact hM j
theorem New_spec {K:Option Addr->Pw} (h:Own B w0 w R) (hK:∀b w',Own B w0 w' (SpcA b newS::R)->K (some ⟨b,0,none⟩) w'):C.qbZ K w:=by
 apply S.qbZ0;refine h.al fun w1 h=>hK _ w1 ?_
 generalize w.heap.size=d at h⊢;refine Own.mk_spc (mb:=fun _=>0) (M:=fun _=>[]) SOk.new (fun i=>List.Perm.refl _) ?_;have e:(List.range 64).map (tabA newS.tb (fun _=>0) fun _=>[])=List.replicate 64 (PureA True):=rfl;rw[e]
 have pures:∀(n:Nat) (A:Asn) (R:List Asn),Own B w0 w1 (A::R)->Own B w0 w1 (A::(List.replicate n (PureA True)++R)):=fun n=>by
  induction n with
  |zero=>intro A R h;exact h
  |succ n ih=>
   intro A R h;have h2:Own B w0 w1 (PureA True::A::(List.replicate n (PureA True)++R)):=Own.mk_pure trivial (ih A R h);exact h2.perm (List.Perm.swap _ _ _)
 exact pures 64 _ R h
theorem Has_spec {i:Int} {K:Int->Bool->Pw} (h:Own B w0 w (SpcA b m::R)) (hK:K ((m.at i).getD 0) (m.at i).isSome w):C.qbM (some ⟨b,0,none⟩) i K w:=by
 apply S.qbM0;obtain ⟨mb,M,ho,hM,h⟩:=h.spc;unfold Spc.at at hK;intro k3 hk3;refine place_spec ?_;by_cases hi:0≤i/\i<64
 ·rw[decide_eq_true hi]
  rw[if_neg (by omega)] at hK;have hq:i.toNat<64:=by omega
  refine cbF rfl ⟨_,rfl,hi.1,hi.2,?_⟩;rw[adr];refine ⟨_,(cell_p hq 0 h rfl).2,?_⟩;cases e:m.tb i.toNat with
  |none=>rw[e] at hK;exact hk3 _ _ (cbT rfl hK)
  |some n=>
   rw[e] at hK;refine hk3 _ _ (cbF rfl ⟨_,rfl,hi.1,hi.2,?_⟩);rw[adr];refine ⟨_,(cell_p hq 0 h rfl).1,?_⟩;rw[e];exact hK
 ·rw[decide_eq_false hi]
  refine cbT rfl (hk3 _ _ (cbT rfl ?_));by_cases h0:i<0
  ·rw[if_pos h0] at hK;exact hK
  ·rw[if_neg h0] at hK
   cases e:m.tb i.toNat with
   |none=>rw[e] at hK;exact hK
   |some n=>have:=ho.few i.toNat (by rw[e];rfl);omega
theorem Map_spec {k:Int} {p:Pg} {K:Int->Pw} (h:Own B w0 w (SpcA b m::R)) (hK:∀w',Own B w0 w' (SpcA b (m.mapR k p).2::R)->K (m.mapR k p).1 w'):C.qbb (some ⟨b,0,none⟩) k p.1 p.2 K w:=by
 apply S.qbb0;obtain ⟨mb,M,ho,hM,h⟩:=h.spc;unfold Spc.mapR at hK;refine h.al fun w1 h=>?_
 generalize w.heap.size=d at h⊢;intro k6 hk6
 have bad:¬(0≤k/\k<4096/\0≤p.1/\0≤p.2/\p.2≤7)->k6 true w1:=fun e=>by
  rw[if_pos e] at hK;exact hk6 _ _ (cbT rfl (hK w1 (Own.mk_spc ho hM h.drop)))
 refine page_spec ?_;by_cases hk:0≤k/\k<4096
 case neg=>rw[decide_eq_false hk];exact cbT rfl (bad fun hh=>hk ⟨hh.1,hh.2.1⟩)
 rw[decide_eq_true hk];refine cbF rfl ⟨_,h.ldc rfl,?_⟩;refine cdec (fun e=>bad fun hh=>by omega) (fun e1=>?_);refine ⟨_,h.ldd rfl,rights_spec ?_⟩;by_cases hr:0≤p.2/\p.2≤7
 case neg=>rw[decide_eq_false hr];exact bad fun hh=>hr hh.2.2.2
 rw[decide_eq_true hr];rw[if_neg (fun hh=>hh ⟨hk.1,hk.2,by omega,hr.1,hr.2⟩)] at hK;have hq:k.toNat / 64<64:=by omega
 refine hk6 _ _ (cbF rfl ?_);refine of_spec (mb:=mb) (m:=m) hk 1 h rfl fun w h=>?_
 cases ht:m.tb (k.toNat / 64) with
 |none=>
  rw[if_pos ht] at hK;exact cbT rfl (hK w (Own.mk_spc ho hM h.drop))
 |some v=>
  have hs:(m.tb (k.toNat / 64)).isSome=true:=by rw[ht];rfl
  rw[if_neg (by rw[ht];simp)] at hK;refine cbF rfl ⟨_,rfl,_,(cell_p hq 1 h rfl).2,?_⟩;refine ⟨_,_,_,lk_page ho hM hk (k.toNat / 64+2) h (by rw[List.getElem?_cons_succ];exact tabs_get hq _),?_⟩;refine h.al fun w2 h=>?_
  generalize w.heap.size=d2 at h⊢;refine h.stLc rfl rfl fun w h=>?_
  cases hl:(look m.pg k).isSome with
  |true=>
   rw[if_pos hl] at hK;exact cbT rfl (hK w (Own.mk_spc ho hM h.drop.drop))
  |false=>
   rw[if_neg (by rw[hl];simp)] at hK;refine cbF rfl ?_;refine h.dr fun w h=>?_
   refine ⟨_,rfl,_,(cell_p hq 2 h rfl).2,?_⟩;refine h.lc_2 rfl (Go.Vc.a2 ?_);rw[ht];refine h.mput (v:=p) (M:=M (k.toNat / 64)) (m:=mb (k.toNat / 64)) (enc:=Value.int .i64) (encV:=pgV) Tryz.underlying186 (keyOk_int .i64 Tryz.underlying3) (k.toNat / 64+3) ?_ fun w h=>?_
   ·rw[List.getElem?_cons_succ,List.getElem?_cons_succ,tabs_get hq];unfold tabA;rw[if_pos hs]
   ·rw[List.set_cons_succ,List.set_cons_succ,put_tab hq hs] at h
    refine hK w (Own.mk_spc (ho.ins hk hs p) (perm_ins ho hM k p) h.drop.drop)
theorem Unmap_spec {k:Int} {K:Int->Int->Int->Pw} (h:Own B w0 w (SpcA b m::R)) (hK:∀w',Own B w0 w' (SpcA b (m.unmapR k).2.2::R)->K (m.unmapR k).1.1 (m.unmapR k).1.2 (m.unmapR k).2.1 w'):C.qai (some ⟨b,0,none⟩) k K w:=by
 apply S.qai0;unfold Spc.unmapR at hK;refine h.al fun w1 h=>?_
 generalize w.heap.size=d at h⊢;refine page_spec ?_;by_cases hk:0≤k/\k<4096
 case neg=>
  rw[decide_eq_false hk];rw[if_pos hk] at hK;refine cbT rfl ?_;refine h.stLc rfl rfl fun w h=>?_
  refine h.lc_2 rfl ?_;exact hK w h.drop
 rw[decide_eq_true hk];rw[if_neg (fun hh=>hh hk)] at hK;have hq:k.toNat / 64<64:=by omega
 refine cbF rfl ?_;refine Walk_spec (h.up1:Own B w0 w1 (SpcA b m::BlkA d _::R)) fun w h=>?_
 refine h.al fun w2 h=>?_
 generalize w.heap.size=d2 at h⊢;refine h.stLc rfl rfl fun w h=>?_
 (try dsimp only[putAt,List.set_cons_zero,List.set_cons_succ] at h)
 cases hl:look m.pg k with
 |none=>
  rw[hl] at hK;refine cbT rfl ?_;refine h.stLc rfl rfl fun w h=>?_
  refine h.lc_2 rfl ?_;exact hK w h.sub
 |some p=>
  rw[hl] at hK;refine cbF rfl ?_;have h:Own B w0 w (BlkA d2 [.z p.1, .z p.2]::SpcA b m::BlkA d [.z 0, .z 0]::R):=by rw[hl] at h;exact h
  have h:Own B w0 w (SpcA b m::BlkA d2 [.z p.1, .z p.2]::BlkA d [.z 0, .z 0]::R):=h.up1;obtain ⟨mb,M,ho,hM,h⟩:=h.spc;obtain ⟨_,_,hs⟩:=ho.tab hl
  have h2:Own B w0 w (BlkA d2 [.z p.1, .z p.2]::BlkA d [.z 0, .z 0]::BlkA b ((tcs m.tb mb).flatMap tcE.enc)::((List.range 64).map (tabA m.tb mb M)++R)):=by
   refine h.perm ?_;have p1:=(List.perm_middle (a:=BlkA d2 [.z p.1, .z p.2]) (l₁:=BlkA b ((tcs m.tb mb).flatMap tcE.enc)::(List.range 64).map (tabA m.tb mb M)) (l₂:=BlkA d [.z 0, .z 0]::R))
   have p2:=(List.perm_middle (a:=BlkA d [.z 0, .z 0]) (l₁:=BlkA b ((tcs m.tb mb).flatMap tcE.enc)::(List.range 64).map (tabA m.tb mb M)) (l₂:=R))
   have:=p1.trans (p2.cons _);simpa using this
  refine of_spec (mb:=mb) (m:=m) hk 2 h2 rfl fun w h=>?_
  refine ⟨_,rfl,_,(cell_p hq 2 h rfl).2,?_⟩;obtain ⟨v,ht⟩:=Option.isSome_iff_exists.1 hs;rw[ht];refine h.mdel (k:=k) (M:=M (k.toNat / 64)) (m:=mb (k.toNat / 64)) (enc:=Value.int .i64) (encV:=pgV) Tryz.underlying186 (keyOk_int .i64 Tryz.underlying3) (k.toNat / 64+3) ?_ fun w h=>?_
  ·rw[List.getElem?_cons_succ,List.getElem?_cons_succ,tabs_get hq];unfold tabA;rw[if_pos hs]
  ·rw[List.set_cons_succ,List.set_cons_succ,put_tab hq hs] at h
   refine h.lc_2 rfl ?_;have h:=h.up1;refine h.stLc rfl rfl fun w h=>?_
   refine h.lc_2 rfl ?_;exact hK w (Own.mk_spc (m:=⟨m.tb,delS m.pg k⟩) ⟨ho.srt.filter _,fun x hx=>ho.bnd x (List.mem_filter.1 hx).1,ho.few⟩ (perm_del ho hM k) h.drop.drop)
end
section
variable {B:Nat} {w0 w:World} {R L:List Asn} {b:Nat} {m:Spc}
set_option maxHeartbeats 1000000 in
theorem keys_nil {K:Sl->Pw} (h:Own B w0 w L) (hK:∀(s:Sl) (w':World),Own B w0 w' (SlT intE s []::L)->K s w'):
  C.qG none (fun r5 w6=>C.qcM r5 K w6) w:=by
 unfold C.qG;refine okF_mk Tryz.func228 rfl ?_;have cK:∀mb W,CallsIn Fence.wide 5 Tryz.prog 228 #[.map mb] W fun e w'=>e= .returned (.func (.func 308) #[] #[.pointer (some ⟨W.heap.size,0,none⟩)])/\w'=W.alloc (.cells #[.map mb] 186):=fun mb W=>AnyZI.keys_in Tryz.keysA Fence.wide 5 trivial rfl mb W
 refine (callsIn_wide (n:=5)).1 ((cK _ _).mono ?_);rintro e w' ⟨rfl,rfl⟩;refine ⟨_,rfl,?_⟩;unfold C.qcM;refine okF_mk Tryz.func227 rfl ?_
 have hseq:SeqGives Fence.wide 2 Tryz.prog 308 #[.pointer (some ⟨w.heap.size,0,none⟩)] encZ (fun ss:List Int=>ss= []) 0 (w.alloc (.cells #[.map none] 186)):=
  AnyZI.keys_gives_nil (ρ:=Tryz.keysA_ren) { Tryz.keysA with} Fence.wide _ trivial rfl w.heap.size _ (by simp) (by simp)
 have cS:=AnyZI.sorted_in Tryz.sortedA Fence.wide 5 trivial trivial trivial trivial rfl (by omega) (sorts_in _) (enters_of Tryz.func307 (by kernel_rfl) rfl) 308 #[.pointer (some ⟨w.heap.size,0,none⟩)] trivial (enters_of Tryz.func308 (by kernel_rfl) rfl) _ 0 (Nat.zero_le _) (by omega) _ hseq;change CallsIn _ _ Tryz.prog 227 _ _ _ at cS;refine (callsIn_wide (n:=5)).1 (cS.mono ?_);rintro e w' ⟨v,ss,rfl,rfl,hrow,hnil,hb⟩;have h1:Own B w0 (w.alloc (.cells #[.map none] 186)) L:=h.same (upd_alloc _ _);rw[show (([]:List Int).mergeSort fun x y=>decide (x≤y))= [] from by simp] at hrow;obtain ⟨s,rfl,h2⟩:=ownsRow_own h1 hb hrow;exact ⟨s,rfl,hK s w' h2⟩
theorem laid_nil {n:Int} {K:Sl->Pw} (h:Own B w0 w L) (hK:∀s w',Own B w0 w' (SlT laidE s []::L)->K s w'):C.qE n none K w:=by
 apply S.qE0;refine h.al fun w1 h=>?_
 generalize w.heap.size=d at h⊢;refine ⟨_,h.ldd rfl,keys_nil h fun s w h=>?_⟩;have hlen:=h.lenc s;intro l9 hl9;apply hl9;refine cdecF (by rw[hlen];decide) ?_;exact hK _ w (Own.nilS h.drop.drop)
theorem laid_tab {n:Int} {mb:Nat->Nat} {M:Nat->Pgs} {q:Nat} {K:Sl->Pw} (ho:SOk m) (hM:∀i,(M i).Perm (tabP m.pg i)) (j:Nat) (h:Own B w0 w L) (hL:L[j]?=some (tabA m.tb mb M q)) (hK:∀s w',Own B w0 w' (SlT laidE s (tabP m.pg q)::L)->K s w'):
  C.qE n ((m.tb q).map fun _=>mb q) K w:=by
 cases ht:m.tb q with
 |none=>
  rw[ho.none_tab ht] at hK;exact laid_nil h hK
 |some v=>
  unfold tabA at hL;rw[if_pos (by rw[ht];rfl)] at hL;refine laid_spec h j hL (hM q) (ho.srt.filter _) (fun x hx=>?_) hK;have:=ho.bnd x (List.mem_filter.1 hx).1;exact ⟨this.1,this.2.1⟩
theorem perm_at:∀{L:List Asn} {i:Nat} {a:Asn},L[i]?=some a->(a::L.eraseIdx i).Perm L
 |x::L,0,a,h=>by simp at h;subst h;exact List.Perm.refl _
 |x::L,i+1,a,h=>(List.Perm.swap x a _).trans ((perm_at (L:=L) (i:=i) (by simpa using h)).cons x)
theorem in_place {X A:Asn} {i:Nat} (h:Own B w0 w (X::L)) (hi:L[i]?=some A):Own B w0 w (L.set i X):=by
 have h1:Own B w0 w (A::X::L.eraseIdx i):=h.perm (((perm_at hi).symm.cons X).trans (List.Perm.swap _ _ _));exact h1.drop.put (lt_of_get hi)
theorem same_spec {t:Int} {c n:Int} {p:Option Nat} {K:Bool->Pw} {d:Nat} (j:Nat) (h:Own B w0 w L) (hL:L[j]?=some (BlkA d [.z t])) (hK:∀w',Own B w0 w' L->K (!p.isNone&&n==t) w'):C.qbf n p ⟨d,0,none⟩ K w:=by
 apply S.qbf0;refine h.al fun w1 h=>?_
 generalize w.heap.size=g at h⊢;refine ⟨_,h.ldd rfl,?_⟩;cases p with
 |none=>exact cbF rfl (hK w1 h.drop)
 |some q=>exact cbT rfl ⟨_,h.ldc rfl,_,h.ld0 (j+1) (by simpa using hL) rfl,hK w1 h.drop⟩
theorem Contains_spec {t:Int} {mb:Nat->Nat} {K:Bool->Pw} {d:Nat} (j j2:Nat) (h:Own B w0 w L) (hL:L[j]?=some (BlkA d [.z t])) (hL2:L[j2]?=some (BlkA b ((tcs m.tb mb).flatMap tcE.enc)))
  (hK:∀w',Own B w0 w' L->K ((List.range 64).any fun i=>m.tb i==some t) w'):C.qd ⟨slA (some ⟨b,0,none⟩) 0 64 2,64-0,64-0⟩ (.func (.func 300) #[] #[.pointer (some ⟨d,0,none⟩)]) K w:=by
 apply S.qd0;apply S.qi0;have ha:slA (some (⟨b,0,none⟩:Addr)) 0 64 2=some ⟨b,0,none⟩:=by rw[slA_some rfl (by decide)]
 rw[ha];intro l3 hl3
 have loop:∀(k i:Nat) (w:World),i+k=64->(∀x,x<i->(m.tb x==some t)=false)->Own B w0 w L->l3 (i:Int) w:=by
  intro k
  induction k with
  |zero=>
   intro i w hik hno h;apply hl3;refine cdecF (by show ¬(i:Int)<64;omega) ?_
   have e:((List.range 64).any fun i=>m.tb i==some t)=false:=by
    rw[List.any_eq_false];intro x hx;rw[hno x (by have:=List.mem_range.1 hx;omega)];decide
   have:=hK w h;rw[e] at this;exact this
  |succ k ih=>
   intro i w hik hno h;apply hl3;refine cdecT (by show (i:Int)<64;omega) ?_;refine ⟨_,rfl,by omega,by show (i:Int)<64;omega,?_⟩;rw[Int.toNat_natCast,adr];have hc:=cell_p (by omega:i<64) j2 h hL2;refine ⟨_,hc.1,_,hc.2,callV_mk (same_spec (c:=t) j h hL fun w h=>?_)⟩
   have e2:(!((m.tb i).map fun _=>mb i).isNone&&((m.tb i).getD 0)==t)=(m.tb i==some t):=by
    cases m.tb i<;>simp
   rw[e2];cases e:(m.tb i==some t) with
   |true=>
    refine cbT rfl ?_;have e3:((List.range 64).any fun i=>m.tb i==some t)=true:=List.any_eq_true.2 ⟨i,List.mem_range.2 (by omega),e⟩;have:=hK w h;rw[e3] at this;show K (decide ((i:Int)≥0)) w;rw[decide_eq_true (show (i:Int)≥0 by omega)];exact this
   |false=>
    refine cbF rfl ?_;rw[show IntKind.i64.wrap ((i:Int)+1)=((i+1:Nat):Int) from by rw[wr (by omega) (by omega)];omega];refine ih (i+1) w (by omega) (fun x hx=>?_) h;by_cases e4:x=i
    ·rw[e4];exact e
    ·exact hno x (by omega)
 exact loop 64 0 w (by omega) (fun x hx=>by omega) h
theorem Table_spec {i n:Int} {K:Int->Pw} (h:Own B w0 w (SpcA b m::R)) (hK:∀w',Own B w0 w' (SpcA b (m.tableR i n).2::R)->K (m.tableR i n).1 w'):C.qaW (some ⟨b,0,none⟩) i n K w:=by
 apply S.qaW0;obtain ⟨mb,M,ho,hM,h⟩:=h.spc;have hok:=ho.table i n;unfold Spc.tableR at hK hok;refine h.al fun w1 h=>?_
 generalize w.heap.size=d at h⊢;intro k5 hk5
 have bad:¬(0≤i/\i<64/\0≤n)->k5 true w1:=fun e=>by
  rw[if_pos e] at hK;exact hk5 _ _ (cbT rfl (hK w1 (Own.mk_spc ho hM h.drop)))
 refine place_spec ?_;by_cases hi:0≤i/\i<64
 case neg=>rw[decide_eq_false hi];exact cbT rfl (bad fun hh=>hi ⟨hh.1,hh.2.1⟩)
 rw[decide_eq_true hi];refine cbF rfl ⟨_,h.ldc rfl,?_⟩;by_cases hn:n<0
 ·rw[decide_eq_true hn];exact bad fun hh=>by omega
 rw[decide_eq_false hn];rw[if_neg (fun hh=>hh ⟨hi.1,hi.2,by omega⟩)] at hK hok;have hq:i.toNat<64:=by omega
 refine hk5 _ _ (cbF rfl ?_);intro k8 hk8
 have full:∀w,((m.tb i.toNat).isSome=true∨((List.range 64).any fun j=>m.tb j==some n)=true)->Own B w0 w (BlkA d [.z n]::BlkA b ((tcs m.tb mb).flatMap tcE.enc)::((List.range 64).map (tabA m.tb mb M)++R))->k8 true w:=fun w e h=>by
  rw[if_pos e] at hK;exact hk8 _ _ (cbT rfl (hK w (Own.mk_spc ho hM h.drop)))
 refine ⟨_,rfl,hi.1,hi.2,?_⟩;rw[adr];refine ⟨_,(cell_p hq 1 h rfl).2,?_⟩;cases ht:m.tb i.toNat with
 |some v=>exact cbT rfl (full w1 (.inl (by rw[ht];rfl)) h)
 |none=>
  refine cbF rfl ⟨_,rfl,?_⟩;refine Contains_spec (m:=m) (mb:=mb) 0 1 h rfl rfl fun w h=>?_
  cases ha:((List.range 64).any fun j=>m.tb j==some n) with
  |true=>exact full w (.inr ha) h
  |false=>
   rw[if_neg (by rw[ht,ha];simp)] at hK hok;refine hk8 _ _ (cbF rfl ?_);refine h.dr fun w h=>?_
   refine ⟨_,h.ldc rfl,_,rfl,Go.Vc.a2 ?_⟩;refine h.alMap (Value.int .i64) pgV fun w2 h=>?_
   generalize w.heap.size=g at h⊢;refine ⟨hi.1,hi.2,Go.Vc.a2 ?_⟩;rw[adr]
   refine Own.stL (o:=i.toNat*2) h 2 rfl (by
    apply Nat.ble_eq_true_of_le;rw[flat_tc];show i.toNat*2+2≤128;omega) rfl fun w h=>?_
   have h2:Own B w0 w (MapA (Value.int .i64) pgV g []::BlkA d [.z n]::BlkA b (putAt ((tcs m.tb mb).flatMap tcE.enc) (i.toNat*2) [.z n, .map (some g)])::((List.range 64).map (tabA m.tb mb M)++R)):=h;have e1:=put_tc (tb:=m.tb) (mb:=mb) hq (some n) g;have e1:putAt ((tcs m.tb mb).flatMap tcE.enc) (i.toNat*2) [.z n, .map (some g)]=_:=e1;rw[e1] at h2;have h3:Own B w0 w (pmA g []::BlkA b ((tcs (upT m.tb i.toNat (some n)) fun j=>if j=i.toNat then g else mb j).flatMap tcE.enc)::((List.range 64).map (tabA m.tb mb M)++R)):=h2.rm1;have ht0:tabA m.tb mb M i.toNat=PureA True:=by unfold tabA;rw[if_neg (by rw[ht];simp)]
   have h4:=in_place (i:=i.toNat+1) h3 (tabs_get hq _);rw[tabs_set (g:=tabA (upT m.tb i.toNat (some n)) (fun j=>if j=i.toNat then g else mb j) (fun j=>if j=i.toNat then [] else M j)) hq (fun j hj=>?_)] at h4
   ·refine hK w (Own.mk_spc hok (fun j=>?_) h4)
    by_cases e:j=i.toNat
    ·rw[e];simp only[if_true]
     show ([]:Pgs).Perm (tabP m.pg i.toNat);rw[ho.none_tab ht]
    ·simp only[if_neg e];exact hM j
   ·by_cases e:j=i.toNat
    ·rw[e]
     unfold tabA upT;simp
    ·unfold tabA upT
     simp only[if_neg e]
theorem Drop_spec {i:Int} {K:Sl->Int->Pw} (h:Own B w0 w (SpcA b m::R)) (hK:∀s w',Own B w0 w' (SlT laidE s (m.dropR i).1::SpcA b (m.dropR i).2.2::R)->K s (m.dropR i).2.1 w'):C.qbv (some ⟨b,0,none⟩) i K w:=by
 apply S.qbv0;obtain ⟨mb,M,ho,hM,h⟩:=h.spc;have hok:=ho.drop i;unfold Spc.dropR at hK hok;refine place_spec ?_;by_cases hi:0≤i/\i<64
 case neg=>
  rw[decide_eq_false hi];rw[if_pos hi] at hK;exact cbT rfl (hK _ w (Own.nilS (Own.mk_spc ho hM h)))
 rw[decide_eq_true hi];rw[if_neg (fun hh=>hh hi)] at hK hok;have hq:i.toNat<64:=by omega
 refine cbF rfl ⟨_,rfl,hi.1,hi.2,?_⟩;rw[adr];refine ⟨_,(cell_p hq 0 h rfl).2,?_⟩;cases ht:m.tb i.toNat with
 |none=>
  rw[if_pos ht] at hK;exact cbT rfl (hK _ w (Own.nilS (Own.mk_spc ho hM h)))
 |some v=>
  rw[if_neg (by rw[ht];simp)] at hK hok;refine cbF rfl ⟨_,rfl,hi.1,hi.2,?_⟩;rw[adr];refine ⟨_,(cell_p hq 0 h rfl).1,_,(cell_p hq 0 h rfl).2,?_⟩;refine laid_tab ho hM (i.toNat+1) h (tabs_get hq _) fun s w h=>?_
  refine ⟨_,rfl,hi.1,hi.2,?_⟩;rw[adr]
  refine Own.stL (o:=i.toNat*2) h 1 rfl (by
   apply Nat.ble_eq_true_of_le;rw[flat_tc];show i.toNat*2+2≤128;omega) rfl fun w h=>?_
  have h2:Own B w0 w (SlT laidE s (tabP m.pg i.toNat)::BlkA b (putAt ((tcs m.tb mb).flatMap tcE.enc) (i.toNat*2) [.z 0, .map none])::((List.range 64).map (tabA m.tb mb M)++R)):=h;have e1:=put_tc (tb:=m.tb) (mb:=mb) hq none 0;have e1:putAt ((tcs m.tb mb).flatMap tcE.enc) (i.toNat*2) [.z 0, .map none]=_:=e1;rw[e1] at h2;have h3:=in_place (X:=PureA True) (i:=i.toNat+2) (Own.mk_pure trivial h2) (by rw[List.getElem?_cons_succ];exact tabs_get hq _);rw[List.set_cons_succ,tabs_set (g:=tabA (upT m.tb i.toNat none) (fun j=>if j=i.toNat then 0 else mb j) (fun j=>if j=i.toNat then [] else M j)) hq (fun j hj=>?_)] at h3
  ·have h4:Own B w0 w (BlkA b ((tcs (upT m.tb i.toNat none) fun j=>if j=i.toNat then 0 else mb j).flatMap tcE.enc)::((List.range 64).map (tabA (upT m.tb i.toNat none) (fun j=>if j=i.toNat then 0 else mb j) (fun j=>if j=i.toNat then [] else M j))++SlT laidE s (tabP m.pg i.toNat)::R)):=by
    refine h3.perm ?_;have:=(List.perm_middle (a:=SlT laidE s (tabP m.pg i.toNat)) (l₁:=BlkA b ((tcs (upT m.tb i.toNat none) fun j=>if j=i.toNat then 0 else mb j).flatMap tcE.enc)::(List.range 64).map (tabA (upT m.tb i.toNat none) (fun j=>if j=i.toNat then 0 else mb j) (fun j=>if j=i.toNat then [] else M j))) (l₂:=R)).symm;simpa using this
   have h5:Own B w0 w (SpcA b ⟨upT m.tb i.toNat none,m.pg.filter fun x=>x.1.toNat / 64 !=i.toNat⟩::SlT laidE s (tabP m.pg i.toNat)::R):=Own.mk_spc (m:=⟨upT m.tb i.toNat none,m.pg.filter fun x=>x.1.toNat / 64 !=i.toNat⟩) hok (fun j=>?_) h4
   ·exact hK s w h5.up1
   ·by_cases e:j=i.toNat
    ·rw[e];simp only[if_true]
     show ([]:Pgs).Perm (tabP (m.pg.filter fun x=>x.1.toNat / 64 !=i.toNat) i.toNat)
     have:tabP (m.pg.filter fun x=>x.1.toNat / 64 !=i.toNat) i.toNat= []:=by
      unfold tabP;rw[List.filter_filter,List.filter_eq_nil_iff];intro x _;simp
     rw[this]
    ·simp only[if_neg e]
     show (M j).Perm (tabP (m.pg.filter fun x=>x.1.toNat / 64 !=i.toNat) j);rw[tab_drop e];exact hM j
  ·by_cases e:j=i.toNat
   ·rw[e]
    unfold tabA upT;simp
   ·unfold tabA upT
    simp only[if_neg e]
theorem app_laid {s x:Sl} {xs ys:Pgs} {k:Sl->Pw} (h:Own B w0 w (SlT laidE s xs::L)) (hx:SlO laidE.z w x (ys.flatMap laidE.enc)) (hxl:x.len=ys.length) (hbig:xs.length+ys.length≤1000000) (hk:∀s' w',s'.len=xs.length+ys.length->Own B w0 w' (SlT laidE s' (xs++ys)::L)->k s' w'):
  ∃s' w',AppR Tryz.prog [56,56] 56 (.slice s.a s.len s.cap) (.slice x.a x.len x.cap) w s' w'/\k s' w':=
 Own.app (s:=s) (xs:=xs) (ys:=ys) Tryz.underlying56 (show Tryz.prog.info? 61=some Tryz.t61 from by kernel_rfl) (zv:=(Tryz.t61.zero).get (by kernel_rfl)) (by kernel_rfl) (by kernel_rfl) (by kernel_rfl) (by decide) h 0 rfl hx hxl (by
  have e:Tryz.t61.bytes=24:=by kernel_rfl
  rw[e];omega) fun s' w' hl h=>hk s' w' hl h
theorem Pages_spec {K:Sl->Pw} (h:Own B w0 w (SpcA b m::R)) (hK:∀s w',Own B w0 w' (SlT laidE s m.pg::SpcA b m::R)->K s w'):C.qas (some ⟨b,0,none⟩) K w:=by
 apply S.qas0;obtain ⟨mb,M,ho,hM,h⟩:=h.spc;have hall:=tabs_all ho;have hlen:=srt_len m.pg 0 4096 ho.srt fun x hx=>⟨(ho.bnd x hx).1,(ho.bnd x hx).2.1⟩
 refine ⟨_,rfl,⟨(tcs m.tb mb).flatMap tcE.enc⟩,flat_tc,fun i hi=>?_,?_⟩
 ·have hb:=h.blk 0 rfl
  rw[add_mk,hb.cell,Nat.zero_add];simp
 intro l5 hl5
 have loop:∀(k t:Nat) (out:Sl) (w:World),t+k=64->Own B w0 w (SlT laidE out ((List.range t).flatMap (tabP m.pg))::BlkA b ((tcs m.tb mb).flatMap tcE.enc)::((List.range 64).map (tabA m.tb mb M)++R))->l5 out (t:Int) w:=by
  intro k
  induction k with
  |zero=>
   intro t out w ht h;obtain rfl:t=64:=by omega
   apply hl5;refine cdecF (by omega) ?_;rw[hall] at h;refine hK out w ?_
   have h4:Own B w0 w (BlkA b ((tcs m.tb mb).flatMap tcE.enc)::((List.range 64).map (tabA m.tb mb M)++SlT laidE out m.pg::R)):=by
    refine h.perm ?_;have:=(List.perm_middle (a:=SlT laidE out m.pg) (l₁:=BlkA b ((tcs m.tb mb).flatMap tcE.enc)::(List.range 64).map (tabA m.tb mb M)) (l₂:=R)).symm;simpa using this
   have h5:Own B w0 w (SpcA b m::SlT laidE out m.pg::R):=Own.mk_spc ho hM h4;exact h5.up1
  |succ k ih=>
   intro t out w ht h;apply hl5;refine cdecT (by omega) ⟨by omega,by omega,?_⟩;have htq:t<64:=by omega
   refine ⟨(m.tb t).getD 0,?_,(m.tb t).map fun _=>mb t,?_,?_⟩
   ·rw[Int.toNat_natCast,Nat.add_zero]
    simpa using tcell_n (tb:=m.tb) (mb:=mb) htq
   ·rw[Int.toNat_natCast]
    simpa using tcell_p (tb:=m.tb) (mb:=mb) htq
   ·refine h.al fun w2 h=>?_
    generalize w.heap.size=d at h⊢;refine h.stLc rfl rfl fun w h=>?_
    refine ⟨_,h.ldc rfl,_,h.ldd rfl,?_⟩;refine laid_tab ho hM (t+3) h (by rw[List.getElem?_cons_succ,List.getElem?_cons_succ];exact tabs_get htq _) fun s w h=>?_
    have hs:=h.slO 0 rfl;have hsl:=h.len 0 rfl;have h2:Own B w0 w (SlT laidE out ((List.range t).flatMap (tabP m.pg))::BlkA b ((tcs m.tb mb).flatMap tcE.enc)::((List.range 64).map (tabA m.tb mb M)++R)):=h.drop.drop
    have hpre:((List.range t).flatMap (tabP m.pg)).length+(tabP m.pg t).length≤1000000:=by
     have e:(List.range (t+1)).flatMap (tabP m.pg)=(List.range t).flatMap (tabP m.pg)++tabP m.pg t:=by rw[List.range_succ,List.flatMap_append];simp
     have hsub:((List.range (t+1)).flatMap (tabP m.pg)).length≤((List.range 64).flatMap (tabP m.pg)).length:=by
      have e64:List.range 64=List.range (t+1)++(List.range (64-(t+1))).map (fun x=>t+1+x):=by
       rw[←List.range_add];congr 1;omega
      rw[e64,List.flatMap_append,List.length_append];omega
     rw[e,hall,List.length_append] at hsub;omega
    refine app_laid h2 hs hsl hpre fun s' w hs' h=>?_
    rw[show IntKind.i64.wrap ((t:Int)+1)=((t+1:Nat):Int) from by rw[wr (by omega) (by omega)];omega];refine ih (t+1) s' w (by omega) ?_;have e:(List.range (t+1)).flatMap (tabP m.pg)=(List.range t).flatMap (tabP m.pg)++tabP m.pg t:=by rw[List.range_succ,List.flatMap_append];simp
    rw[e];exact h
 exact loop 64 0 ⟨none,0,0⟩ w (by omega) (Own.nilS h)
theorem ldLaid {w:World} {a:Addr} {x:Int × Pg} {f:Int->Int->Int->Prop} (g:∀c v,(laidE.enc x)[c]?=some v->w.cell? (a.add c)=some v) (hf:f x.1 x.2.1 x.2.2):LdL w a 0 [.o, .o, .o] f:=
 ⟨_,g 0 _ rfl,_,g 1 _ rfl,_,g 2 _ rfl,hf⟩
theorem app1_int {s:Sl} {ys:List Int} {y:Int} {c:Nat} {L:List Asn} {k:Sl->Pw} [I:SlIn s L Int intE ys] [J:Pick (SlT intE s ys) L R] (h:Own B w0 w (BlkA c [.z y]::L)) (hbig:ys.length≤1000000000)
  (hk:∀s' w',s'.len=ys.length+1->Own B w0 w' (SlT intE s' (ys++ [y])::R)->k s' w'):
  ∃s' w',AppR Tryz.prog [26,26] 26 (.slice s.a s.len s.cap) (.slice (some (Addr.mk c 0 none)) 1 1) w s' w'/\k s' w':=
 Own.app1c (E:=intE) (y:=y) Tryz.underlying26 (show Tryz.prog.info? 3=some Tryz.t3 from by kernel_rfl) (zv:= .z 0) (by kernel_rfl) (by kernel_rfl) rfl (by decide) h (by
  have e:Tryz.t3.bytes=8:=by kernel_rfl
  rw[e];omega) hk
def framesP (P:Pgs) (f:Int):List Int:=(P.filter fun x=>x.2.1==f).map (·.1)
theorem Frames_spec {f:Int} {K:Sl->Pw} (h:Own B w0 w (SpcA b m::R)) (hK:∀s w',Own B w0 w' (SlT intE s (framesP m.pg f)::SpcA b m::R)->K s w'):C.qaJ (some ⟨b,0,none⟩) f K w:=by
 apply S.qaJ0;have ho:SOk m:=by obtain ⟨_,_,ho,_,_⟩:=h.spc;exact ho
 have hlen:=srt_len m.pg 0 4096 ho.srt fun x hx=>⟨(ho.bnd x hx).1,(ho.bnd x hx).2.1⟩
 refine Pages_spec h fun s w h=>?_
 have hl:=h.lenc s;intro l5 hl5
 have loop:∀(k t:Nat) (out:Sl) (w:World),t+k=m.pg.length->Own B w0 w (SlT intE out (framesP (m.pg.take t) f)::SlT laidE s m.pg::SpcA b m::R)->l5 out (t:Int) w:=by
  intro k
  induction k with
  |zero=>
   intro t out w ht h;apply hl5;refine cdecF (by omega) ?_;rw[List.take_of_length_le (by omega)] at h;exact hK out w h.rm1
  |succ k ih=>
   intro t out w ht h;apply hl5;refine cdecT (by omega) ?_;have hx:m.pg[t]?=some m.pg[t]:=gE (by omega);refine h.ixc (s:=s) (i:=(t:Int)) (j:=t) rfl hx fun a ha h0 hc=>?_
   refine ldLaid hc ?_;refine h.al fun w2 h=>?_
   generalize w.heap.size=d at h⊢;refine h.stLc rfl rfl fun w h=>?_
   refine ⟨_,h.ldd rfl,?_⟩
   have e:framesP (m.pg.take (t+1)) f=framesP (m.pg.take t) f++(if m.pg[t].2.1=f then [m.pg[t].1] else []):=by
    unfold framesP;rw[List.take_add_one,hx,Option.toList_some,List.filter_append,List.map_append];congr 1;by_cases e:m.pg[t].2.1=f
    ·rw[if_pos e,List.filter_cons,if_pos (by simpa using e)];rfl
    ·rw[if_neg e,List.filter_cons,if_neg (by simpa using e)];rfl
   rw[show IntKind.i64.wrap ((t:Int)+1)=((t+1:Nat):Int) from by rw[wr (by omega) (by omega)];omega];refine ceq (fun e2=>?_) (fun e2=>?_)
   ·rw[if_pos e2] at e
    refine ⟨_,h.ldc rfl,?_⟩;refine h.al fun w3 h=>?_
    generalize w.heap.size=d3 at h⊢;refine app1_int (s:=out) (ys:=framesP (m.pg.take t) f) (y:=m.pg[t].1) h (by unfold framesP;rw[List.length_map];have:=List.length_filter_le (fun x:Int × Pg=>x.2.1==f) (m.pg.take t);rw[List.length_take] at this;omega) fun s' w hs' h=>?_
    refine ih (t+1) s' w (by omega) ?_;rw[e];exact h.rm1
   ·rw[if_neg e2,List.append_nil] at e
    refine ih (t+1) out w (by omega) ?_;rw[e];exact h.drop
 exact loop m.pg.length 0 ⟨none,0,0⟩ w (by omega) (Own.nilS h)
end
end Go.Proofs.YtogmbmdbgkopjaaGreat.Tb
end
