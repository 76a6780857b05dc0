/- What the row rests on: the declarations that it needs, out of my texts (part 5). -/
import Derived.Test.YtfgikfglabdeoaaGreatZy4
open Bool renaming false->G,true->Z
open Decidable renaming decide->V
open Go renaming Addr->qg,Program->qq,TypeId->qi,Value->Q,World->J
open Go.IntKind renaming i64->qf,u64->qv
open Go.Proofs.Tryz renaming prog->qe,t139->qS,t155->qW,t157->aa6,t202->aa5,t3->qF,underlying124->aaz,underlying133->aaO,underlying22->qG
open Option renaming none->N,some->S
open _root_ renaming Bool->W,Int->O,List->Y,Nat->X,Option->qh,True->I,congrArg->qz,decide_eq_false->qm,decide_eq_false_iff_not->qY,decide_eq_true->qu,if_neg->F,if_pos->qd,rfl->U
open Go.Proofs.Tryz
open Int renaming natCast_nonneg->Nr,toNat_natCast->Lw
open List renaming Perm->PU,append_assoc->LN,ext_getElem?->L5,flatMap_append->Me,getElem?_append_left->LI,getElem?_append_right->LH,getElem?_drop->LR,getElem?_eq_none->L0,getElem?_eq_some_iff->Lu,getElem?_map->LV,getElem?_take->LS,length->Nc,length_take->LX,map_append->LU,mem_map->L2,nil_append->Mw,perm_middle->Ml,replicate->Ly,take_add_one->LJ,take_of_length_le->Lz,zipWith->Lx
open Nat renaming le_refl->Lv,min_eq_left->Ms
set_option maxRecDepth 100000
set_option maxHeartbeats 4000000
set_option linter.all false
namespace Go.Vc
open Go.Proofs
namespace Sl
section
variable{B:X}{w0 w:J}{R L:Y aH}{b:X}{bits:Y O}{H:Hs}
theorem DQ{bits:Y O}{H:Hs}(hk:rh bits H){z:O}(hz:z≠ -1):rowsOf (bits++ [z]) H=rowsOf bits H++ [Ly (2^z.toNat) ak]:=by
 unfold rowsOf;rw[List.mapIdx_concat];congr 2;unfold rowOf;rw[F hz];apply L5;intro k;rw[LV];rcases Nat.lt_or_ge k (2^z.toNat)with hj|hj
 .rw[List.getElem?_range hj,List.getElem?_replicate,qd hj]
  simp only[Option.map_some,Option.some.injEq];cases hs:H ((bits.length:O),(k:O))with
  |none=>rfl
  |some c=>
   have:=(hk.held _ _ hs).1;unfold aQ dX at this;rw[F (by simp only;omega)]at this;simp only[Lw,L0 (Lv _)]at this;cases this
 .rw[L0 (by simpa using hj),L0 (by simpa using hj)];rfl
theorem rq{w:J}{L R':Y aH}{s:Sl}{xs:Y Sl}{y:Sl}{c:X}{k:Sl->Pw}[abw:cu s L Sl Ah xs][abq:fh (af Ah s xs) L R'](h:Ow B w0 w (aa c [y.v]::L))(hbig:xs.length<=1000000)
  (hk:∀s' w',s'.len=xs.length+1->Ow B w0 w' (af Ah s' (xs++ [y])::R')->k s' w'):
  ∃s' w',aM qe [121,121] 121 s.v (.slice (S c.p) 1 1) w s' w'/\k s' w':=
 Ow.eL (E:=Ah) (y:=y) (R:=R') underlying121 (show qe.info? 202=S aa5 from by kernel_rfl) (zv:= .slice N 0 0) qa qa U qb h (by
  have e:aa5.bytes=24:=qa
  rw[e];omega) hk
theorem G2{w:J}{L:Y aH}{n:O}{k:Sl->Pw}(h:Ow B w0 w L)(h0:0<=n)(hn:n<=1000000)(hk:∀s' w',s'.len=n.toNat->Ow B w0 w' (af mm s' (Ly n.toNat ak)::L)->k s' w'):
  ∃s' w',km qe 202 (.z n) (.z n) w s' w'/\k s' w':=
 Ow.s6 (E:=mm) (z0:=ak) underlying202 (show qe.info? 157=S aa6 from by kernel_rfl) (zv:=iL ak) qa qa U h h0 (by
  have e:aa6.bytes=48:=qa
  rw[e];omega) om hk
theorem lD{z:O}{K:O->O->Pw}(h:Ow B w0 w (bf b bits H::R))(hK:∀w',Ow B w0 w' (bf b (eD bits z).2.2 H::R)->K (eD bits z).1 (eD bits z).2.1 w'):Ra b.o z K w:=by
 apply ZG;intro k3 hk3;have h3:(z<1\/8<z)->k3 Z w:=λe=>by
  apply hk3;have e2:eD bits z=(0,1,bits):=by unfold eD;rw[qd e]
  rw[e2]at hK;exact bh U (hK _ h)
 refine bo (λe=>h3 (.inl e)) (λe1=>?_);by_cases e2:8<z
 .rw[qu om];exact h3 (.inr e2)
 rw[qm om];apply hk3;refine bc U ?_;obtain⟨sl,ss,hk,hsl,h⟩:=h.lg;have hlen:=h.aL sl;have hfew:=hk.eC;repeat first|refine h.l1 U ?_|refine eE ?_
 refine bo (λe3=>?_) (λe3=>?_)
 .have e4:eD bits z=(0,2,bits):=by unfold eD;rw[F om,qd om]
  rw[e4]at hK;exact hK _ (Ow.dL (s:=sl) (ss:=ss) hk h.sub)
 have e4:eD bits z=((bits.length:O),0,bits++ [z]):=by unfold eD;rw[F om,F om]
 rw[e4]at hK;obtain⟨m,rfl⟩:=Int.eq_ofNat_of_zero_le (show 0<=z by omega);have hle:2^m<=2^8:=Nat.pow_le_pow_right om om;intro k8 hk8;have fin:∀(w:J)(s' sn:Sl),s'.len=ss.length+1->Ow B w0 w (af Ah s' (ss++ [sn])::af mm sn (Ly (2^m) ak)::fb mm ss (rowsOf bits H)::aa b [bg s']::R)->k8 w:=by
  intro w s' sn hs' h;apply hk8;repeat first|refine h.l1 U ?_|refine eE ?_
  rw[show qf.wrap ((s'.len:O)-1)=(bits.length:O)from by rw[wr om om];omega];have h2:Ow B w0 w (fb mm (ss++ [sn]) (rowsOf bits H++ [Ly (2^m) ak])::af Ah s' (ss++ [sn])::aa b [bg s']::R):=Ow.Hh h.sub;have h3:=DQ (z:=(m:O)) hk om;rw[Lw]at h3;rw[<-h3]at h2;exact hK _ (Ow.dL (s:=s') (ss:=ss++ [sn]) (hk.make om om om) h2.sub)
 have mk:∀(w:J)(k:Sl->Pw),Ow B w0 w (fb mm ss (rowsOf bits H)::aa b [bg sl]::af Ah sl ss::R)->
   (∀s' w',Ow B w0 w' (af mm s' (Ly (2^m) ak)::fb mm ss (rowsOf bits H)::aa b [bg sl]::af Ah sl ss::R)->k s' w')->
   ∃s' w',km qe 202 (.z (qf.wrap ((2^m:X):O))) (.z (qf.wrap ((2^m:X):O))) w s' w'/\k s' w':=λw k h hk=>by
  rw[wr (Int.le_trans qb (Nr _)) om];refine G2 h (Nr _) om λs' w' hs' h'=>?_;rw[Lw]at h';exact hk s' w' h'
 repeat first|refine h.dr λw h=>?_|refine eE ?_
 refine⟨?_,?_,trivial⟩
 ·(repeat first|refine h.l1 U ?_|refine _root_.Go.Vc.a2 ?_)
  refine cJ om ?_
  (refine _root_.Go.Vc.a2 ?_)
  refine mk _ _ h λsn w h=>?_;repeat first|refine h.al λw h=>?_|refine _root_.Go.Vc.a2 ?_
  refine rq h om λs' w hs' h=>?_;repeat first|refine eE ?_|refine _root_.Go.Vc.a2 ?_|refine h.jH U U λw h=>?_
  exact fin _ s' sn hs' h.sub
 .refine cJ om ?_
  refine⟨?_,?_,trivial⟩
  ·(repeat first|refine h.l1 U ?_|refine _root_.Go.Vc.a2 ?_)
   refine mk _ _ h λsn w h=>?_;repeat first|refine h.al λw h=>?_|refine _root_.Go.Vc.a2 ?_
   refine rq h om λs' w hs' h=>?_;repeat first|refine eE ?_|refine _root_.Go.Vc.a2 ?_|refine h.jH U U λw h=>?_
   exact fin _ s' sn hs' h.sub
  .refine mk _ _ h λsn w h=>?_
   repeat first|refine h.al λw h=>?_|refine h.l1 U ?_|refine _root_.Go.Vc.a2 ?_
   refine rq h om λs' w hs' h=>?_;repeat first|refine eE ?_|refine _root_.Go.Vc.a2 ?_|refine h.jH U U λw h=>?_
   exact fin _ s' sn hs' h.sub
theorem mN{s:Slot}{c:cN}{K:O->Pw}(hc:fg c)(h:Ow B w0 w (bf b bits H::R))(hK:∀w',Ow B w0 w' (bf b bits (iN bits H s c).2::R)->K (iN bits H s c).1 w'):
  Rl b.o s.1 s.2 c.kind c.obj c.ar c.ay c.guard c.bits K w:=by
 apply ZH;repeat first|refine h.al λw h=>?_|refine h.aR U ?_
 refine fP (s:=s) h.kh λw h=>?_;refine HH (λe=>?_) (λe=>?_)
 .have ep:iN bits H s c=(50,H):=by unfold iN;rw[qd e]
  rw[ep]at hK;exact hK _ h.sub
 have ht':¬aQ bits s=false:=by rw[e];decide
 repeat refine h.aR U ?_
 refine kF h hc λw h=>?_;refine oU (λe1=>?_) (λe1=>?_)
 .have ep:iN bits H s c=(bY c,H):=by unfold iN;rw[F ht',qd e1]
  rw[ep]at hK;exact hK _ h.sub
 (refine h.l1 U ?_)
 refine dE (λe2=>?_) (λe2=>?_)
 .have ep:iN bits H s c=(1,H):=by unfold iN;rw[F ht',F om,qd e2]
  rw[ep]at hK;exact hK _ h.sub
 have hth:=e;obtain⟨n,k,z,rfl,hb,hz,hkl⟩:=fX e;obtain⟨sl,ss,hk,hsl,h⟩:=h.lg;obtain⟨sn,hss⟩:∃sn,ss[n]?=S sn:=⟨_,gE (by have:=(Lu.1 hb).1;omega)⟩
 repeat first|refine h.dr λw h=>?_|refine h.l1 U ?_|refine eE ?_
 refine h.cz U hss λa ha hc0 hc1=>?_;refine⟨_,hc0 _ U,?_⟩
 (refine h.l1 U ?_)
 refine h.tp hss (dq hb) U (fS hz hkl) λa2 ha2 hd0 hd=>?_;refine⟨((H ((n:O),(k:O))).getD ak).kind,hd0 _ U,?_⟩;cases hs:H ((n:O),(k:O))with
 |some c'=>
  have ep:iN bits H ((n:O),(k:O)) c=(51,H):=by unfold iN;rw[F ht',F om,F e2,qd (by rw[hs];rfl)]
  rw[ep]at hK;refine iv (hk.held _ _ hs).2.2.1 ?_;exact hK _ (Ow.dL (s:=sl) (ss:=ss) hk h.sub)
 |none=>
  have ep:iN bits H ((n:O),(k:O)) c=(0,cC H ((n:O),(k:O)) (S c)):=by unfold iN;rw[F ht',F om,F e2,F (by rw[hs];decide)]
  rw[ep]at hK;refine fa U ?_;repeat first|refine h.dr λw h=>?_|refine h.l1 U ?_|refine eE ?_
  refine h.cz U hss λa ha hc0 hc1=>?_;refine⟨_,hc0 _ U,?_⟩;repeat first|refine h.aR U ?_|refine h.l1 U ?_
  refine h.tp hss (dq hb) U (fS hz hkl) λa2 ha2 hd0 hd=>?_
  (refine _root_.Go.Vc.a2 ?_)
  refine h.Hi c hss (dq hb) U (by rw[gC hz];exact hkl) ha2 λw h=>?_;rw[show(rowsOf bits H).set n ((rowOf H n z).set k c)=rowsOf bits (cC H ((n:O),(k:O)) (S c))from(pV hb hz hkl (S c)).symm]at h;exact hK _ (Ow.dL (s:=sl) (ss:=ss) (hk.put hth om e2 hc) h.sub)
end
end Sl
namespace Tr
section
variable{B:X}{w0 w:J}{R L:Y aH}{b:X}{T:Tr}
theorem Dz{T:Tr}(hT:oc T){i:X}{x:eG}(hx:T[i]?=S x):bA T x.1=S i:=by have hi:=(Lu.1 hx).1;unfold bA;rw[List.findIdx?_eq_some_iff_getElem];rw[gE hi]at hx;cases hx;refine⟨hi,qc,λj hj=>?_⟩;have hn:=List.pairwise_iff_getElem.1 hT.nd j i (by simpa using Nat.lt_trans hj hi) (by simpa using hi) hj;simp only[List.getElem_map]at hn;simp[hn]
theorem uB{T:Tr}{s:Slot}:bA T s=N↔s∉T.map (·.1):=by
 unfold bA;rw[List.findIdx?_eq_none_iff];constructor
 .intro h hm
  obtain⟨x,hx,rfl⟩:=L2.1 hm;have:=h x hx;simp at this
 .intro h x hx
  simp only[qY];intro e;exact h (L2.2 ⟨x,hx,e⟩)
def jT(T:Tr):Y Slot:=T.map λx=>x.1
def kQ(T:Tr):Y O:=T.map λx=>x.2
theorem fG(T:Tr):(jT T).length=T.length:=by unfold jT;simp
theorem xm(T:Tr):(kQ T).length=T.length:=by unfold kQ;simp
theorem tI{T:Tr}{k:X}{x:eG}(h:T[k]?=S x):(jT T)[k]?=S x.1:=by unfold jT;rw[LV,h];rfl
theorem pq{T:Tr}{k:X}{x:eG}(h:T[k]?=S x):(kQ T)[k]?=S x.2:=by unfold kQ;rw[LV,h];rfl
theorem uV{T:Tr}{e:X}{x:eG}(h:T[e]?=S x):jT (T.take e)++ [x.1]=jT (T.take (e+1)):=by unfold jT;rw[LJ,h,LU];rfl
theorem ue{T:Tr}{e:X}{x:eG}(h:T[e]?=S x):kQ (T.take e)++ [x.2]=kQ (T.take (e+1)):=by unfold kQ;rw[LJ,h,LU];rfl
def cD(b:X)(T:Tr):aH:=sB λp:Sl × Sl=>cj [aa b [bg p.1,bg p.2],af aC p.1 (jT T),af aq p.2 (kQ T)]
theorem _root_.Go.Vc.Ow.ref(h:Ow B w0 w (cD b T::R)):∃s d,Ow B w0 w (af aC s (jT T)::af aq d (kQ T)::aa b [bg s,bg d]::R):=by obtain⟨⟨s,d⟩,h⟩:=h.ex;have h:=h.star;exact⟨s,d,h.cq.kh.cq⟩
theorem _root_.Go.Vc.Ow.gX{s d:Sl}(h:Ow B w0 w (af aC s (jT T)::af aq d (kQ T)::aa b [bg s,bg d]::R)):Ow B w0 w (cD b T::R):=
 Ow.fk (s,d) (Ow.bW h.kh)
theorem eo{s:Sl}{ys:Y O}{y:O}{c:X}{k:Sl->Pw}[abw:cu s L O aq ys][abq:fh (af aq s ys) L R](h:Ow B w0 w (aa c [.z y]::L))(hbig:ys.length<=1000000000)
  (hk:∀s' w',s'.len=ys.length+1->Ow B w0 w' (af aq s' (ys++ [y])::R)->k s' w'):
  ∃s' w',aM qe [22,22] 22 s.v (.slice (S c.p) 1 1) w s' w'/\k s' w':=
 Ow.eL (E:=aq) (y:=y) qG (show qe.info? 3=S qF from by kernel_rfl) (zv:= .z 0) qa qa U qb h (by
  have e:qF.bytes=8:=qa
  rw[e];omega) hk
theorem jD{s d:Sl}{x:Slot}{K:O->Pw}(hT:oc T)(h:Ow B w0 w (af aC s (jT T)::af aq d (kQ T)::aa b [bg s,bg d]::R))(hK:∀w',Ow B w0 w' (af aC s (jT T)::af aq d (kQ T)::aa b [bg s,bg d]::R)->K (match bA T x with|some i=>(i:O)|none=> -1) w'):
  Pe b.o x.1 x.2 K w:=by
 apply ZQ;have hlen:=h.aL s;rw[fG]at hlen;have hfew:=hT.eC;refine h.a λc w1 h=>?_;intro l hl;have loop:∀(m k:X)(w:J),k+m=T.length->(∀r y,r<k->T[r]?=S y->y.1≠x)->Ow B w0 w (aa c [.z x.1,.z x.2]::af aC s (jT T)::af aq d (kQ T)::aa b [bg s,bg d]::R)->l (k:O) w:=by
  intro m;induction m with
  |zero=>
   intro k w hk hno h;apply hl;repeat first|refine h.l1 U ?_|refine eE ?_
   refine aw om ?_;have hn:bA T x=none:=uB.2 λhm=>by obtain⟨y,hy,hyx⟩:=L2.1 hm;obtain⟨r,hr⟩:=List.mem_iff_getElem?.1 hy;have:=(Lu.1 hr).1;exact hno r y om hr hyx
   rw[hn]at hK;exact hK _ h.sub
  |succ m ih=>
   intro k w hk hno h;obtain⟨y,hy⟩:∃y,T[k]?=S y:=⟨_,gE om⟩
   apply hl;repeat first|refine h.l1 U ?_|refine eE ?_
   refine az om ?_;repeat first|refine h.dr λw h=>?_|refine h.l1 U ?_|refine eE ?_
   refine h.cz (s:=s) U (tI hy) λa ha h0 hc=>?_;refine jW (x:=y.1) hc ?_
   (refine h.aR U ?_)
   refine⟨_,Gf y.1 x,bo (λe=>?_) (λe=>?_)⟩
   .rw[<-e,Dz hT hy]at hK
    exact hK _ h.sub
   .rw[wI k om]
    refine ih (k+1) _ om (λr z hr hz=>?_) h;by_cases h1:r=k
    .subst h1;rw[hy]at hz;cases hz;exact e
    .exact hno r z om hz
 exact loop T.length 0 _ om (λr y h1=>by omega) h
theorem BC{s d:Sl}{i:X}{K:O->Pw}(hT:oc T)(hi:i<T.length)(h:Ow B w0 w (af aC s (jT T)::af aq d (kQ T)::aa b [bg s,bg d]::R))(hK:∀w',Ow B w0 w' (af aC s (jT T)::af aq d (kQ T)::aa b [bg s,bg d]::R)->K ((dD T i:X):O) w'):
  QX b.o (i:O) K w:=by
 apply ZU;have hlen:=h.aL s;rw[fG]at hlen;have hfew:=hT.eC;obtain⟨xi,hxi⟩:∃x,T[i]?=S x:=⟨_,gE hi⟩
 intro l hl;have loop:∀(rest:Tr)(k:X)(w:J),T.drop k=rest->k<=T.length->i<k->k+(rest.takeWhile λx=>V (ud T i<x.2)).length=dD T i->Ow B w0 w (af aC s (jT T)::af aq d (kQ T)::aa b [bg s,bg d]::R)->l (k:O) w:=by
  intro rest;induction rest with
  |nil=>
   intro k w hk hkl hik he h;have:T.length<=k:=by have:=qz Nc hk;simp at this;omega
   apply hl;repeat first|refine h.l1 U ?_|refine eE ?_
   refine aw om ?_;have:k=dD T i:=by simpa using he
   repeat first|refine h.l1 U ?_|refine eE ?_
   rw[hlen,show T.length=dD T i from by omega];exact hK _ h
  |cons y rest ih=>
   intro k w hk hkl hik he h;have hkl2:k<T.length:=by have:=qz Nc hk;simp at this;omega
   have hx:T[k]?=S y:=by have:=qz (λl=>l[0]?) hk;simpa using this
   apply hl;repeat first|refine h.l1 U ?_|refine eE ?_
   refine az om ?_;repeat first|refine h.dr λw h=>?_|refine h.l1 U ?_|refine eE ?_
   refine h.cz (s:=d) U (pq hx) λa ha h0 hc=>⟨_,h0 _ U,?_⟩
   repeat first|refine h.l1 U ?_|refine eE ?_
   refine h.cz (s:=d) U (pq hxi) λa ha h0 hc=>⟨_,h0 _ U,?_⟩
   refine bo (λe=>?_) (λe=>?_)
   .rw[List.takeWhile_cons_of_neg (by rw[gn hxi];simpa using e)]at he
    have:k=dD T i:=by simpa using he
    rw[this];exact hK _ h
   .rw[wr om om]
    refine ih (k+1) _ (by rw[<-List.drop_drop,hk];rfl) om om ?_ h;rw[List.takeWhile_cons_of_pos (by rw[gn hxi];simpa using e)]at he;simp at he;omega
 rw[wI i om];exact loop _ (i+1) w U om om U h
def td(T:Tr)(i:X)(z:eG):Tr:=T.take i++z::T.drop i
theorem Hc{T:Tr}{i:X}{z:eG}(hi:i<=T.length):(∀r,r<i->(td T i z)[r]?=T[r]?)/\(td T i z)[i]?=S z/\(∀r,i<=r->(td T i z)[r+1]?=T[r]?):=by
 have h1:(T.take i).length=i:=by simp;omega
 unfold td;refine⟨λr hr=>?_,?_,λr hr=>?_⟩
 .rw[LI om,LS,qd hr]
 .rw[LH om,h1,Nat.sub_self];rfl
 .rw[LH om,h1,show r+1-i=(r-i)+1 from by omega,List.getElem?_cons_succ,LR,show i+(r-i)=r from by omega]
theorem Hd{T:Tr}{i:X}{z:eG}(hi:i<=T.length):(td T i z).length=T.length+1:=by unfold td;simp;omega
theorem F2{s d:Sl}{i:X}{z:eG}{K:Pw}(hl:T.length<1000000)(hi:i<=T.length)(h:Ow B w0 w (af aC s (jT T)::af aq d (kQ T)::aa b [bg s,bg d]::R))(hK:∀w',Ow B w0 w' (cD b (td T i z)::R)->K w'):
  QL b.o (i:O) z.1.1 z.1.2 z.2 K w:=by
 apply ZR;have hlen:=h.aL s;rw[fG]at hlen;obtain⟨g1,g2,g3⟩:=Hc (z:=z) hi;have hpl:=Hd (z:=z) hi;generalize td T i z=T' at*
 refine h.a λc w1 h=>?_;refine h.a λc1 w2 h=>?_;refine h.a λc2 w3 h=>?_;have h:Ow B w0 w3 (af aq ⟨S c2.p,0,0⟩ []::_):=h.empty;have h:Ow B w0 w3 (af aC ⟨S c1.p,0,0⟩ []::_):=h.cq.empty;intro l hlp;have loop:∀(m k:X)(l1 d1:Sl)(w:J),k+m=T.length+1->Ow B w0 w (af aC l1 (jT (T'.take (if k<=i then k else k+1)))::af aq d1 (kQ (T'.take (if k<=i then k else k+1)))::aa c [.z z.1.1,.z z.1.2]::af aC s (jT T)::af aq d (kQ T)::aa b [bg s,bg d]::R)->l l1 d1 (k:O) w:=by
  intro m;induction m with
  |zero=>
   intro k l1 d1 w hk h;rw[F (show ¬k<=i by omega),Lz om]at h;apply hlp;repeat first|refine h.l1 U ?_|refine eE ?_
   refine aw om ?_;repeat first|refine eE ?_|refine h.jH U U λw h=>?_
   exact hK _ (Ow.gX (s:=l1) (d:=d1) h.sub)
  |succ m ih=>
   intro k l1 d1 w hk h;have hwk:qf.wrap ((k:O)+1)=((k+1:X):O):=by rw[wr om om];omega
   apply hlp;repeat first|refine h.l1 U ?_|refine eE ?_
   refine az om ?_;intro k16 hk16;have second:∀(l2 d2:Sl)(w:J),Ow B w0 w (af aC l2 (jT (T'.take (if k<i then k else k+1)))::af aq d2 (kQ (T'.take (if k<i then k else k+1)))::aa c [.z z.1.1,.z z.1.2]::af aC s (jT T)::af aq d (kQ T)::aa b [bg s,bg d]::R)->k16 l2 d2 w:=by
    intro l2 d2 w h;apply hk16;repeat first|refine h.l1 U ?_|refine eE ?_
    refine bo (λe=>?_) (λe=>?_)
    .obtain ⟨y,hy⟩:∃y,T[k]?=S y:=⟨_,gE om⟩
     have hy':T'[if k<i then k else k+1]?=S y:=by
      by_cases h1:k<i
      .rw[qd h1,g1 k h1,hy]
      .rw[F h1,g3 k om,hy]
     have hnext:(if k+1<=i then k+1 else k+1+1)=(if k<i then k else k+1)+1:=by split<;>split<;>omega
     have hib:(if k<i then k else k+1)<=1000001:=by split<;>omega
     generalize (if k<i then k else k+1)=e2 at*
     repeat first|refine h.l1 U ?_|refine eE ?_
     refine h.cz (s:=s) U (tI hy) λa ha h0 hc=>?_;refine jW (x:=y.1) hc ?_;refine h.al λw1 h=>?_;refine jc (ys:=jT (T'.take e2)) (y:=y.1) h (by rw[fG];simp;omega) λl3 w hl3 h=>?_;repeat first|refine h.l1 U ?_|refine eE ?_
     refine h.cz (s:=d) U (pq hy) λa ha h0 hc=>⟨_,h0 _ U,?_⟩
     refine h.al λw1 h=>?_;refine eo (ys:=kQ (T'.take e2)) (y:=y.2) h (by rw[xm];simp;omega) λd3 w hd3 h=>?_;rw[uV hy',ue hy',<-hnext]at h;rw[hwk];exact ih (k+1) l3 d3 w om h.sub
    .have h1:T'.take (if k+1<=i then k+1 else k+1+1)=T'.take (if k<i then k else k+1):=by rw[F om,F om,Lz om,Lz om]
     rw[hwk];refine ih (k+1) l2 d2 w om ?_;rw[h1];exact h
   refine dE (λe=>?_) (λe=>?_)
   .have hki:k=i:=om
    have e1:(if k<=i then k else k+1)=i:=by rw[qd om];exact hki
    have e2:(if k<i then k else k+1)=i+1:=by rw[F om];omega
    rw[e1]at h;rw[e2]at second;repeat first|refine h.al λw h=>?_|refine h.aR U ?_
    refine jc (ys:=jT (T'.take i)) (y:=z.1) h (by rw[fG];simp;omega) λl3 w hl3 h=>?_;refine h.al λw1 h=>?_;refine eo (ys:=kQ (T'.take i)) (y:=z.2) h (by rw[xm];simp;omega) λd3 w hd3 h=>?_;rw[uV g2,ue g2]at h;exact second l3 d3 w h.sub
   .have e1:(if k<=i then k else k+1)=(if k<i then k else k+1):=by split<;>split<;>omega
    rw[e1]at h;exact second l1 d1 w h
 refine loop (T.length+1) 0 _ _ w3 om ?_;rw[qd om];exact h
theorem Br{s:Slot}{K:O->Pw}(hT:oc T)(hl:T.length<1000000)(h:Ow B w0 w (cD b T::R))(hK:∀w',Ow B w0 w' (cD b (mR T s).2::R)->K (mR T s).1 w'):SV b.o s.1 s.2 K w:=by
 apply ZN;obtain⟨sl,dd,h⟩:=h.ref;have hlen:=h.aL sl;rw[fG]at hlen;unfold mR at hK;refine h.a λc w1 h=>?_
 (refine h.aR U ?_)
 refine jD (x:=s) hT h.vd.vd.vd λw h=>?_;cases hp:bA T s with
 |some i=>
  rw[hp]at hK;refine az (by show(i:O)>=0;omega) ?_;exact hK _ (Ow.gX (s:=sl) (d:=dd) h.sub)
 |none=>
  rw[hp]at hK;refine aw qb ?_;have e:td T T.length (s,0)=T++ [(s,0)]:=by unfold td;simp
  repeat first|refine h.dr λw h=>?_|refine h.aR U ?_|refine h.l1 U ?_|refine eE ?_|refine _root_.Go.Vc.a2 ?_
  rw[hlen];refine F2 (z:=(s,0)) hl (Lv _) h λw h=>?_;rw[e]at h;exact hK _ h.sub
theorem DE{p s:Slot}{K:O->Pw}(hT:oc T)(hl:T.length<1000000)(h:Ow B w0 w (cD b T::R))(hK:∀w',Ow B w0 w' (cD b (xc T p s).2::R)->K (xc T p s).1 w'):T1 b.o p.1 p.2 s.1 s.2 K w:=by
 apply ZS;obtain⟨sl,dd,h⟩:=h.ref;unfold xc at hK;refine h.a λc w1 h=>?_;refine h.a λc1 w2 h=>?_
 (refine h.aR U ?_)
 refine jD (R:=aa c1 [.z s.1,.z s.2]::aa c [.z p.1,.z p.2]::R) (s:=sl) (d:=dd) (x:=p) hT h.sub λw h=>?_;cases hp:bA T p with
 |none=>
  rw[hp]at hK;refine az qb ?_;exact hK _ (Ow.gX (s:=sl) (d:=dd) h.sub)
 |some i=>
  obtain⟨x,hx,hxp⟩:=du hp;have hr:=hT.Eg hx;have hi:=(Lu.1 hx).1;rw[hp]at hK;refine aw (by show ¬(i:O)<0;omega) ?_
  (refine h.aR U ?_)
  refine jD (x:=s) hT h λw h=>?_;cases hs:bA T s with
  |some j=>
   simp only[hs]at hK;refine az (by show(j:O)>=0;omega) ?_;exact hK _ (Ow.gX (s:=sl) (d:=dd) h.sub)
  |none=>
   simp only[hs]at hK;refine aw qb ?_;repeat first|refine h.dr λw h=>?_|refine h.aR U ?_|refine h.l1 U ?_|refine eE ?_
   refine h.cz (s:=dd) U (pq hx) λa ha h0 hc=>⟨_,h0 _ U,?_⟩
   rw[show qf.wrap (x.2+1)=ud T i+1 from by rw[gn hx,wr om om]]
   (refine _root_.Go.Vc.a2 ?_)
   show QL _ (qf.wrap ((i:O)+1)) _ _ _ _ _;rw[wI i om];have e:td T (i+1) (s,ud T i+1)=T.take (i+1)++ [(s,ud T i+1)]++T.drop (i+1):=by unfold td;simp
   refine F2 (z:=(s,ud T i+1)) hl om h λw h=>?_;rw[e]at h;exact hK _ h.sub
theorem Bp{f t:Slot}{K:O->Pw}(hT:oc T)(h:Ow B w0 w (cD b T::R))(hK:∀w',Ow B w0 w' (cD b (dI T f t).2::R)->K (dI T f t).1 w'):To b.o f.1 f.2 t.1 t.2 K w:=by
 apply ZO;obtain⟨sl,dd,h⟩:=h.ref;unfold dI at hK;refine h.a λc w1 h=>?_;refine h.a λc1 w2 h=>?_
 (refine h.aR U ?_)
 refine jD (R:=aa c1 [.z t.1,.z t.2]::aa c [.z f.1,.z f.2]::R) (s:=sl) (d:=dd) (x:=f) hT h.sub λw h=>?_;cases hp:bA T f with
 |none=>
  rw[hp]at hK;refine az qb ?_;exact hK _ (Ow.gX (s:=sl) (d:=dd) h.sub)
 |some i=>
  obtain⟨x,hx,hxp⟩:=du hp;have hi:=(Lu.1 hx).1;rw[hp]at hK;refine aw (by show ¬(i:O)<0;omega) ?_
  (refine h.aR U ?_)
  refine jD (x:=t) hT h λw h=>?_;cases hs:bA T t with
  |some j=>
   simp only[hs]at hK;refine az (by show(j:O)>=0;omega) ?_;exact hK _ (Ow.gX (s:=sl) (d:=dd) h.sub)
  |none=>
   simp only[hs]at hK;refine aw qb ?_;repeat first|refine h.dr λw h=>?_|refine h.aR U ?_|refine h.l1 U ?_|refine eE ?_
   refine h.cz (s:=sl) (j:=i) U (tI hx) λa ha h0 hc=>Go.Vc.a2 ?_;refine Ow.sU (s:=sl) (E:=aC) (xs:=jT T) (i:=(i:O)) (j:=i) h t U (by rw[fG];exact hi) ha λw h=>?_;have e1:(jT T).set i t=jT (T.set i (t,ud T i)):=by unfold jT;rw[List.map_set]
   have e2:kQ T=kQ (T.set i (t,ud T i)):=by
    apply L5;intro j;unfold kQ;rw[LV,LV,List.getElem?_set];by_cases e:i=j
    .subst e;rw[qd U,qd hi,hx,gn hx];rfl
    .rw[F e]
   rw[e1,e2]at h;exact hK _ (Ow.gX (s:=sl) (d:=dd) h.sub)
theorem C6{α:Type}(E:dT α)(xs:Y α)(p q:X)(hp:p<=q)(hq:q<=xs.length):((xs.flatMap E.enc).take (q*E.z)).drop (p*E.z)=((xs.drop p).take (q-p)).flatMap E.enc:=by
 have h1:xs.flatMap E.enc=(xs.take q).flatMap E.enc++(xs.drop q).flatMap E.enc:=by rw[<-Me,List.take_append_drop]
 have h2:((xs.take q).flatMap E.enc).length=q*E.z:=by rw[aN,LX,Ms hq]
 rw[h1,<-h2,List.take_left];have h3:xs.take q=xs.take p++(xs.drop p).take (q-p):=by rw[<-List.take_add,show p+(q-p)=q from by omega]
 have h4:((xs.take p).flatMap E.enc).length=p*E.z:=by rw[aN,LX,Ms om]
 rw[h3,Me,<-h4,List.drop_left]
theorem G8{T:Tr}{j e:X}(hj:j<T.length)(he:j<e)(hel:e<=T.length):
  (∀r,r<j->(T.take j++(eM ((T.drop (j+1)).take (e-(j+1)))++T.drop e))[r]?=T[r]?)/\
  (∀r,j<r->r<e->(T.take j++(eM ((T.drop (j+1)).take (e-(j+1)))++T.drop e))[r-1]?=T[r]?.map λx=>(x.1,x.2-1))/\
  (∀r,e<=r->(T.take j++(eM ((T.drop (j+1)).take (e-(j+1)))++T.drop e))[r-1]?=T[r]?):=by
 have h1:(T.take j).length=j:=by simp;omega
 have h2:(eM ((T.drop (j+1)).take (e-(j+1)))).length=e-(j+1):=by unfold eM;simp;omega
 refine⟨λr hr=>?_,λr hr1 hr2=>?_,λr hr=>?_⟩
 .rw[LI om,LS,qd hr]
 .rw[LH om,h1,LI om]
  unfold eM;rw[LV,LS,qd om,LR,show j+1+(r-1-j)=r from by omega]
 .rw[LH om,h1,LH om,h2,LR,show e+(r-1-j-(e-(j+1)))=r from by omega]
theorem Bv{s:Slot}{K:O->Pw}(hT:oc T)(h:Ow B w0 w (cD b T::R))(hK:∀w',Ow B w0 w' (cD b (takeN T s).2::R)->K (takeN T s).1 w'):T2 b.o s.1 s.2 K w:=by
 apply ZT;obtain⟨sl,dd,h⟩:=h.ref;have hlen:=h.aL sl;rw[fG]at hlen;have hfew:=hT.eC;refine h.a λc w1 h=>?_
 (refine h.aR U ?_)
 refine jD (R:=aa c [.z s.1,.z s.2]::R) (s:=sl) (d:=dd) (x:=s) hT h.sub λw h=>?_;unfold takeN at hK;cases hp:bA T s with
 |none=>
  rw[hp]at hK;refine az qb ?_;exact hK _ (Ow.gX (s:=sl) (d:=dd) h.sub)
 |some i=>
  obtain⟨x,hx,hxp⟩:=du hp;have hi:=(Lu.1 hx).1;obtain⟨he,hel⟩:=ru T hi;rw[hp]at hK;simp only at hK;refine aw (by show ¬(i:O)<0;omega) ?_;refine BC hT hi h λw h=>?_;obtain⟨g1,g2,g3⟩:=G8 hi he hel;have hpl:(T.take i++(eM ((T.drop (i+1)).take (dD T i-(i+1)))++T.drop (dD T i))).length+1=T.length:=by unfold eM;simp;omega
  generalize dD T i=e at*
  generalize T.take i++(eM ((T.drop (i+1)).take (e-(i+1)))++T.drop e)=T' at*
  refine h.a λc1 w2 h=>?_;refine h.a λc2 w3 h=>?_;have h:Ow B w0 w3 (af aq ⟨S c2.p,0,0⟩ []::_):=h.empty;have h:Ow B w0 w3 (af aC ⟨S c1.p,0,0⟩ []::_):=h.cq.empty;intro l hlp;have loop:∀(m k:X)(l1 d1:Sl)(w:J),k+m=T.length->Ow B w0 w (af aC l1 (jT (T'.take (if k<=i then k else k-1)))::af aq d1 (kQ (T'.take (if k<=i then k else k-1)))::af aC sl (jT T)::af aq dd (kQ T)::aa b [bg sl,bg dd]::R)->l l1 d1 (k:O) w:=by
   intro m;induction m with
   |zero=>
    intro k l1 d1 w hk h;rw[F (show ¬k<=i by omega),Lz om]at h;apply hlp;repeat first|refine h.l1 U ?_|refine eE ?_
    refine aw om ?_;repeat first|refine eE ?_|refine h.jH U U λw h=>?_
    exact hK _ (Ow.gX (s:=l1) (d:=d1) h.sub)
   |succ m ih=>
    intro k l1 d1 w hk h;have hwk:qf.wrap ((k:O)+1)=((k+1:X):O):=by rw[wr om om];omega
    obtain⟨y,hy⟩:∃y,T[k]?=S y:=⟨_,gE om⟩
    have hry:=hT.Eg hy;apply hlp;repeat first|refine h.l1 U ?_|refine eE ?_
    refine az om ?_;refine dE (λe0=>?_) (λe0=>?_)
    .have e0:(k:O)=(i:O):=e0
     have e1:(if k+1<=i then k+1 else k+1-1)=(if k<=i then k else k-1):=by rw[F om,qd om];omega
     rw[hwk];refine ih (k+1) l1 d1 w om ?_;rw[e1];exact h
    .have e0:¬(k:O)=(i:O):=e0
     have hnext:(if k+1<=i then k+1 else k+1-1)=(if k<=i then k else k-1)+1:=by split<;>split<;>omega
     have hib:(if k<=i then k else k-1)<=1000001:=by split<;>omega
     have hy':T'[if k<=i then k else k-1]?=S (y.1,if i<k/\k<e then y.2-1 else y.2):=by
      by_cases h1:k<i
      .rw[qd om,g1 k h1,hy,F om]
      .rw[F om]
       by_cases h2:k<e
       .rw[g2 k om h2,hy,qd ⟨om,h2⟩];rfl
       .rw[g3 k om,hy,F om]
     generalize hE2:(if k<=i then k else k-1)=e2 at*
     repeat first|refine h.l1 U ?_|refine eE ?_
     refine h.cz (s:=dd) U (pq hy) λa ha h0 hc=>⟨_,h0 _ U,?_⟩
     have fin:∀(dp:O)(w:J),dp=(if i<k/\k<e then y.2-1 else y.2)->Ow B w0 w (af aC l1 (jT (T'.take e2))::af aq d1 (kQ (T'.take e2))::af aC sl (jT T)::af aq dd (kQ T)::aa b [bg sl,bg dd]::R)->I:=λ_ _ _ _=>trivial;intro k24 hk24;have third:∀(t:W)(w:J),t=V (i<k/\k<e)->Ow B w0 w (af aC l1 (jT (T'.take e2))::af aq d1 (kQ (T'.take e2))::af aC sl (jT T)::af aq dd (kQ T)::aa b [bg sl,bg dd]::R)->k24 t w:=by
      intro t w ht h;apply hk24;intro k27 hk27;have four:∀(dp:O)(w:J),dp=(if i<k/\k<e then y.2-1 else y.2)->Ow B w0 w (af aC l1 (jT (T'.take e2))::af aq d1 (kQ (T'.take e2))::af aC sl (jT T)::af aq dd (kQ T)::aa b [bg sl,bg dd]::R)->k27 dp w:=by
       intro dp w hdp h;apply hk27;repeat first|refine h.l1 U ?_|refine eE ?_
       refine h.cz (s:=sl) U (tI hy) λa ha h0 hc=>?_;refine jW (x:=y.1) hc ?_;refine h.al λw1 h=>?_;refine jc (ys:=jT (T'.take e2)) (y:=y.1) h (by rw[fG];simp;omega) λl3 w hl3 h=>?_;refine h.al λw1 h=>?_;refine eo (ys:=kQ (T'.take e2)) (y:=dp) h (by rw[xm];simp;omega) λd3 w hd3 h=>?_;have q1:=uV hy';have q2:=ue hy';simp only at q1 q2;rw[q1,hdp,q2,<-hnext]at h;rw[hwk];exact ih (k+1) l3 d3 w om h.sub
      by_cases hc:i<k/\k<e
      .rw[ht,qu hc]
       refine bh U ?_;rw[wr (show -9223372036854775808<=y.2-1 by omega) om];exact four _ w (by rw[qd hc]) h
      .rw[ht,qm hc]
       refine bc U ?_;exact four _ w (by rw[F hc]) h
     refine bo (λe3=>?_) (λe3=>?_)
     .have e3:(k:O)>(i:O):=e3
      refine third _ w ?_ h;by_cases hke:k<e
      .rw[qu (show i<k/\k<e by omega),qu (show(k:O)<(e:O) by omega)]
      .rw[qm (show ¬(i<k/\k<e) by omega),qm (show ¬(k:O)<(e:O) by omega)]
     .have e3:¬(k:O)>(i:O):=e3
      exact third _ w (qm (show ¬(i<k/\k<e) by omega)).symm h
  refine loop T.length 0 _ _ w3 om ?_;have q0:jT (T'.take 0)= []:=rfl;have q1:kQ (T'.take 0)= []:=rfl;rw[qd om,q0,q1];exact h.sub
theorem I3{s x:Sl}{xs ys:Y Slot}{k:Sl->Pw}(h:Ow B w0 w (af aC s xs::R))(hx:jN aC.z w x (ys.flatMap aC.enc))(hxl:x.len=ys.length)(hbig:xs.length+ys.length<=1000000000)
  (hk:∀s' w',s'.len=xs.length+ys.length->Ow B w0 w' (af aC s' (xs++ys)::R)->k s' w'):
  ∃s' w',aM qe [124,124] 124 s.v x.v w s' w'/\k s' w':=
 Ow.app (E:=aC) aaz (show qe.info? 155=S qW from by kernel_rfl) (zv:= .agg ⟨aC.enc (0,0)⟩) qa qa U qb h 0 U hx hxl (by
  have e:qW.bytes=16:=qa
  rw[e];omega) hk
theorem zx{s:Slot}{K:Sl->Pw}(hT:oc T)(h:Ow B w0 w (cD b T::R))(hK:∀s' w',Ow B w0 w' (af aC s' (cF T s)::cD b T::R)->K s' w'):Tp b.o s.1 s.2 K w:=by
 apply ZP;obtain⟨sl,dd,h⟩:=h.ref;have hlen:=h.aL sl;rw[fG]at hlen;have hfew:=hT.eC;have hcap:=h.lK.gu;refine h.a λc w1 h=>?_
 (refine h.aR U ?_)
 refine jD (R:=aa c [.z s.1,.z s.2]::R) (s:=sl) (d:=dd) (x:=s) hT h.sub λw h=>?_;cases hp:bA T s with
 |none=>
  have hun:cF T s= []:=by unfold cF;rw[hp]
  rw[hun]at hK;refine az qb ?_;have h2:Ow B w0 w (cD b T::R):=Ow.gX (s:=sl) (d:=dd) h.sub;exact hK _ w (Ow.cZ h2)
 |some i=>
  obtain⟨x,hx,hxp⟩:=du hp;have hi:=(Lu.1 hx).1;obtain⟨e1,e2⟩:=ru T hi;have hun:cF T s=((jT T).drop (i+1)).take (dD T i-(i+1)):=by unfold cF jT;rw[hp,<-List.map_drop,<-List.map_take]
  have hul:(cF T s).length=dD T i-(i+1):=by rw[hun];simp[fG];omega
  have ew:qf.wrap ((i:O)+1)=((i+1:X):O):=by rw[wr om om];omega
  have fin:∀(w:J)(d0:X),Ow B w0 w (af aC ⟨S d0.p,0,0⟩ []::af aC sl (jT T)::af aq dd (kQ T)::aa b [bg sl,bg dd]::R)->
    ∃(t:Sl)(w':J),aM qe [124,124] 124 (.slice (S d0.p) 0 0) (.slice (eU sl.a (i+1) sl.cap 2) (dD T i-(i+1)) (sl.cap-(i+1))) w t w'/\K t w':=λw d0 h=>by
   have hs:=(h.sR 1 U).sub (l:=i+1) (hh:=dD T i) om om;rw[C6 aC (jT T) _ _ om (by rw[fG];exact e2),<-hun]at hs;refine I3 (s:=⟨S d0.p,0,0⟩) (xs:=[]) (ys:=cF T s) (x:=⟨eU sl.a (i+1) sl.cap 2,dD T i-(i+1),sl.cap-(i+1)⟩) h hs hul.symm (by simp;omega) λs' w hs' h=>?_;rw[Mw]at h;have h2:Ow B w0 w (cD b T::af aC s' (cF T s)::R):=Ow.gX (s:=sl) (d:=dd) h.sub;exact hK _ _ h2.cq
  refine aw (by show ¬(i:O)<0;omega) ?_;dsimp only;rw[ew];simp only[Lw];have h:Ow B w0 w (af aC sl (jT T)::af aq dd (kQ T)::aa b [bg sl,bg dd]::R):=h.sub;repeat first|refine h.dr λw h=>?_|refine h.l1 U ?_|refine eE ?_
  refine⟨?_,Go.Vc.a2 ?_⟩
  .refine h.a λd0 w3 h=>?_;have h:Ow B w0 w3 (af aC ⟨S d0.p,0,0⟩ []::_):=h.empty;refine Go.Vc.a2 ?_;refine BC (R:=af aC ⟨S d0.p,0,0⟩ []::R) (s:=sl) (d:=dd) hT hi h.sub λw h=>?_
   exact⟨h.aF U,om,om,om,om,Go.Vc.a2 (fin w d0 h.sub)⟩
  .refine BC hT hi h λw h=>?_
   refine⟨h.aF U,om,om,om,om,Go.Vc.a2 (h.a λd0 w3 h=>?_)⟩;have h:Ow B w0 w3 (af aC ⟨S d0.p,0,0⟩ []::_):=h.empty;refine Go.Vc.a2 ?_;exact fin w3 d0 h
end
end Tr
theorem ZV{a b K w}:Fr (Sj a b K w) (bif (a.len:O) !=(b.len:O)then K G w else ∀c:O->Pw,(∀(d:O)(e:J),(bif V (d<(a.len:O))then Dr e λf=>∃g,a.a=S g/\0<=d/\d<(a.len:O)/\ax f (g.add (d.toNat*3)) 0 [.o,.o,.o] λ(a g h:O)=>∃i,b.a=S i/\0<=d/\d<(b.len:O)/\ax f (i.add (d.toNat*3)) 0 [.o,.o,.o] λ(b i j:O)=>∃k,vl qe .neq 204 (.tmp 20) (.tmp 24) (.agg #[.z a,.z g,.z h]) (.agg #[.z b,.z i,.z j]) k/\bif k then K G f else c (qf.wrap (d+1)) f else K Z e)->c d e)->c 0 w):=aj func25 .g4
theorem ZW{a K w}:Fr (Qr a K w) (A2 w [] 204 λb c=>∀d:Sl->O->Pw,(∀(b:Sl)(c:O)(e:J),(∀f:W->Pw,(∀(e:W)(g:J),(bif e then ∀e:Sl->O->Pw,(∀(b:Sl)(f:O)(g:J),(∃h,a=S h/\∃i,g.s (h.add 1) i/\bif V (f<(i.len:O))then ∃h,a=S h/\∃i,g.s (h.add 1) i/\∃h,i.a=S h/\0<=f/\f<(i.len:O)/\∃i,g.z (h.add (f.toNat*3)) i/\bif i==c then ∃h,a=S h/\∃a,g.s (h.add 1) a/\∃h,a.a=S h/\0<=f/\f<(a.len:O)/\ax g (h.add (f.toNat*3)) 0 [.o,.o,.o] λ(a h i:O)=>A2 g [.z a,.z h,.z i] 204 λa h=>∃i j,aM qe [81,81] 81 b.v (.slice (S a.p) 1 1) h i j/\e i (qf.wrap (f+1)) j else e b (qf.wrap (f+1)) g else d b (qf.wrap (c+1)) g)->e b f g)->e b 0 g else K b g)->f e g)->(bif V (c<4096)then ∃c,a=S c/\∃a,e.s (c.add 1) a/\f (V ((b.len:O)<(a.len:O))) e else f G e))->d b c e)->d ⟨S b.p,0,0⟩ 0 c):=aj func27 (.v (.v (.y (.v (.x (.t (S [(3,.c .s),(4,.c (.i .i64))]) (.y (.y .Kr .w) .KO) .u))) .w)))
theorem ZX{a b c K w}:Fr (Tw a b c K w) (∀d:W->Pw,(∀(e:W)(f:J),(bif e then K 1 f else ∀d:O->Pw,(∀(e:O)(f:J),(∃g,a=S g/\∃h,f.s g h/\bif V (e<(h.len:O))then ∀g:W->Pw,(∀(a:W)(b:J),(bif a then K 140 b else d (qf.wrap (e+1)) b)->g a b)->(∃d,a=S d/\∃h,f.s d h/\∃d,h.a=S d/\0<=e/\e<(h.len:O)/\∃h,f.z (d.add (e.toNat*2)) h/\bif h==b then g Z f else ∃b,a=S b/\∃a,f.s b a/\∃b,a.a=S b/\0<=e/\e<(a.len:O)/\∃a,f.z ((b.add (e.toNat*2)).add 1) a/\g (a==c) f)else ∃d,a=S d/\∃e,f.s d e/\A2 f [.z b,.z c] 410 λb c=>∃d f,aM qe [127,127] 127 e.v (.slice (S b.p) 1 1) c d f/\∃b,a=S b/\St f b d.v λa=>K 0 a)->d e f)->d 0 f)->d e f)->(bif V (b<0)then d Z w else bif V (b>63)then d Z w else d (V (c<0)) w)):=aj func186 (.v (.y .Kc (.y (.v (.x (.t (S [(7,.c (.i .i64))]) (.y (.v .w) (.x (.x (.y (.r (S [(48,.c .b)]) .done) (.x .w))))) .u))) (.v .w))))
theorem ZY{a b c d K w}:Fr (Tx a b c d K w) (A2 w [.z c,.z d] 70 λc d=>∀e:W->Pw,(∀(d:W)(f:J),(bif d then K 1 f else(64:O)≠0/\QW a (qf.wrap (b.tdiv 64)) (λ_ d e=>bif !d then K 141 e else RI a b (λd e=>bif V (d>=0)then K 140 e else Dr e λd=>∃e,a=S e/\∃f,d.s (e.add 1) f/\ax d c.p 0 [.o,.o] λ(c e:O)=>(A2 d [.z b,.z c,.z e] 204 λb c=>(∃d e,aM qe [81,81] 81 f.v (.slice (S b.p) 1 1) c d e/\∃b,a=S b/\(St e (b.add 1) d.v λa=>K 0 a)/\I)/\I)/\I) e) f)->e d f)->(bif V (b<0)then e Z d else bif V (b>4095)then e Z d else ∃a,d.z c.p a/\bif V (a<0)then e Z d else ∃a,d.z (c.p.add 1) a/\bif V (a<0)then e Z d else ∃a,d.z (c.p.add 1) a/\e (V (a>7)) d)):=aj func187 (.v (.y (.y (.r (S [(29,.c .b)]) .done) (.x .w)) (.v (.y (.v (.x .w)) (.y (.v (.x .w)) (.y .g15 .w))))))
theorem ZZ{a b K w}:Fr (Qj a b K w) (A2 w [.z 0,.z 0] 70 λc d=>∀e:W->Pw,(∀(d:W)(f:J),(bif d then aB f c.p 0 [.z 0,.z 0] λd=>ax d c.p 0 [.o,.o] λ(e g:O)=>K e g 1 d else RI a b (λb d=>A2 d [] 204 λd e=>bif V (b<0)then aB e c.p 0 [.z 0,.z 0] λf=>ax f c.p 0 [.o,.o] λ(g h:O)=>K g h 141 f else ∃f,a=S f/\∃g,e.s (f.add 1) g/\∃f,g.a=S f/\0<=b/\b<(g.len:O)/\ax e ((f.add (b.toNat*3)).add 1) 0 [.o,.o] λ(f g:O)=>A2 e [.z 0,.z 0] 70 λe h=>aB h e.p 0 [.z f,.z g] λf=>∀g:Sl->O->Pw,(∀(d:Sl)(f:O)(h:J),(∃i,a=S i/\∃j,h.s (i.add 1) j/\bif V (f<(j.len:O))then bif f !=b then ∃b,a=S b/\∃i,h.s (b.add 1) i/\∃b,i.a=S b/\0<=f/\f<(i.len:O)/\ax h (b.add (f.toNat*3)) 0 [.o,.o,.o] λ(b i j:O)=>A2 h [.z b,.z i,.z j] 204 λb i=>∃j k,aM qe [81,81] 81 d.v (.slice (S b.p) 1 1) i j k/\g j (qf.wrap (f+1)) k else g d (qf.wrap (f+1)) h else ∃b,a=S b/\St h (b.add 1) d.v λa=>ax a e.p 0 [.o,.o] λ(b d:O)=>aB a c.p 0 [.z b,.z d] λa=>ax a c.p 0 [.o,.o] λ(b c:O)=>K b c 0 a)->g d f h)->g ⟨S d.p,0,0⟩ 0 f) f)->e d f)->(bif V (b<0)then e Z d else e (V (b>4095)) d)):=aj func188 (.v (.y (.y (.r (S [(15,.c .b)]) .done) (.x .w)) (.v (.y (.v (.x .w)) (.v (.y (.v (.x (.t (S [(7,.c .s),(9,.c (.i .i64))]) .HN .u))) (.v .w)))))))
theorem Z0{a b K w}:Fr (T4 a b K w) (Qr a (λa c=>A2 c [] 3 λc d=>∀e:Sl->O->Pw,(∀(c:Sl)(d:O)(f:J),(bif V (d<(a.len:O))then ∃g,a.a=S g/\0<=d/\d<(a.len:O)/\∃h,f.z ((g.add (d.toNat*3)).add 1) h/\bif h==b then ∃b,a.a=S b/\0<=d/\d<(a.len:O)/\∃a,f.z (b.add (d.toNat*3)) a/\A2 f [.z a] 3 λa b=>∃g h,aM qe [22,22] 22 c.v (.slice (S a.p) 1 1) b g h/\e g (qf.wrap (d+1)) h else e c (qf.wrap (d+1)) f else K c f)->e c d f)->e ⟨S c.p,0,0⟩ 0 d) w):=aj func284 (.v (.v (.y (.v (.x (.t (S [(6,.c .s),(7,.c (.i .i64))]) .HN .u))) .w)))
theorem Z3{a b K w}:Fr (QW a b K w) (∀c:O->Pw,(∀(d:O)(e:J),(∃f,a=S f/\∃g,e.s f g/\bif V (d<(g.len:O))then ∃f,a=S f/\∃g,e.s f g/\∃f,g.a=S f/\0<=d/\d<(g.len:O)/\∃g,e.z (f.add (d.toNat*2)) g/\bif g==b then ∃b,a=S b/\∃a,e.s b a/\∃b,a.a=S b/\0<=d/\d<(a.len:O)/\∃a,e.z ((b.add (d.toNat*2)).add 1) a/\K a Z e else c (qf.wrap (d+1)) e else K 0 G e)->c d e)->c 0 w):=aj func285 .KQ
theorem Z4{a b K w}:Fr (T5 a b K w) (∀c:W->Pw,(∀(d:W)(e:J),(bif d then K z0 1 e else QW a b (λ_ c d=>bif !c then K z0 141 d else Qr a (λc d=>A2 d [] 204 λd e=>A2 e [] 204 λe f=>A2 f [] 410 λf g=>∀h:Sl->Sl->O->Pw,(∀(d e:Sl)(g:O)(i:J),(bif V (g<(c.len:O))then ∃j,c.a=S j/\0<=g/\g<(c.len:O)/\∃k,i.z (j.add (g.toNat*3)) k/\(64:O)≠0/\bif (qf.wrap (k.tdiv 64))==b then ∃j,c.a=S j/\0<=g/\g<(c.len:O)/\ax i (j.add (g.toNat*3)) 0 [.o,.o,.o] λ(j k l:O)=>A2 i [.z j,.z k,.z l] 204 λj k=>∃l m,aM qe [81,81] 81 d.v (.slice (S j.p) 1 1) k l m/\h l e (qf.wrap (g+1)) m else ∃j,c.a=S j/\0<=g/\g<(c.len:O)/\ax i (j.add (g.toNat*3)) 0 [.o,.o,.o] λ(c j k:O)=>A2 i [.z c,.z j,.z k] 204 λc j=>∃k l,aM qe [81,81] 81 e.v (.slice (S c.p) 1 1) j k l/\h d k (qf.wrap (g+1)) l else ∀c:Sl->O->Pw,(∀(f:Sl)(g:O)(h:J),(∃i,a=S i/\∃j,h.s i j/\bif V (g<(j.len:O))then ∃i,a=S i/\∃j,h.s i j/\∃i,j.a=S i/\0<=g/\g<(j.len:O)/\∃j,h.z (i.add (g.toNat*2)) j/\bif j !=b then ∃b,a=S b/\∃i,h.s b i/\∃b,i.a=S b/\0<=g/\g<(i.len:O)/\ax h (b.add (g.toNat*2)) 0 [.o,.o] λ(b i:O)=>A2 h [.z b,.z i] 410 λb i=>∃j k,aM qe [127,127] 127 f.v (.slice (S b.p) 1 1) i j k/\c j (qf.wrap (g+1)) k else c f (qf.wrap (g+1)) h else ∃b,a=S b/\St h (b.add 1) e.v λb=>∃c,a=S c/\St b c f.v λa=>K d 0 a)->c f g h)->c ⟨S f.p,0,0⟩ 0 i)->h d e g i)->h ⟨S d.p,0,0⟩ ⟨S e.p,0,0⟩ 0 g) d) e)->c d e)->(bif V (b<0)then c Z w else c (V (b>63)) w)):=aj func286 (.v (.y .JP (.v (.y (.v (.x .w)) (.v (.y (.v (.x (.t (S [(9,.c .s),(10,.c .s),(12,.c (.i .i64))]) .HN .u))) (.y (.v (.x (.t (S [(11,.c .s),(13,.c (.i .i64))]) .HN .u))) (.v (.v .w)))))))))
theorem Z5{a b K w}:Fr (RI a b K w) (∀c:O->Pw,(∀(d:O)(e:J),(∃f,a=S f/\∃g,e.s (f.add 1) g/\bif V (d<(g.len:O))then ∃f,a=S f/\∃a,e.s (f.add 1) a/\∃f,a.a=S f/\0<=d/\d<(a.len:O)/\∃a,e.z (f.add (d.toNat*3)) a/\bif a==b then K d e else c (qf.wrap (d+1)) e else K (-1) e)->c d e)->c 0 w):=aj func292 (.v (.y .KU .w))
theorem Z6{a b c d K w}:Fr (R8 a b c d K w) (A2 w [.z a,.z b,.z c,d.v] 24 λa b=>∀c:W->Pw,(∀(b:W)(d:J),(bif b then K N 1 d else ∀b:O->Pw,(∀(c:O)(d:J),(∃e,d.s (a.p.add 3) e/\bif V (c<(e.len:O))then ∀e:W->Pw,(∀(a:W)(d:J),(bif a then K N 1 d else b (qf.wrap (c+1)) d)->e a d)->(∃b,d.s (a.p.add 3) b/\∃f,b.a=S f/\0<=c/\c<(b.len:O)/\∃b,d.z (f.add (c.toNat*1)) b/\bif V (b<0)then e Z d else ∃b,d.s (a.p.add 3) b/\∃a,b.a=S a/\0<=c/\c<(b.len:O)/\∃b,d.z (a.add (c.toNat*1)) b/\e (V (b>255)) d)else ∃b,d.z a.p b/\Sp b (λb _ c=>Sq 8 (λc _ d=>A2 d [.slice N 0 0] 123 λd e=>A2 e [.slice N 0 0,.slice N 0 0] 126 λe f=>∃g,f.z (a.p.add 1) g/\A2 f [.y 0,.z g,.y 0] 98 λf g=>A2 g [.slice N 0 0,.slice N 0 0] 129 λg h=>A2 h [.pointer (S g.p)] 83 λg h=>A2 h [.pointer (S d.p),.pointer (S e.p),.pointer b,.pointer c,.slice (S f.p) 1 1,.slice N 0 0,.slice N 0 0,.slice (S g.p) 1 1,.z 0,.z 0,.z 0,.y 0,.z 0,.slice N 0 0] 57 λb c=>∃d,S b.p=S d/\∃e,c.q d e/\Ra e 6 (λ_ _ c=>PG (S b.p) 2 0 (λc=>PG (S b.p) 1 0 (λc=>∀d:O->Pw,(∀(c:O)(e:J),(∃f,e.z a.p f/\bif V (c<f)then Dr e λf=>∃g,S b.p=S g/\∃h,f.q (g.add 2) h/\∃g,f.s (a.p.add 3) g/\∃i,g.a=S i/\0<=c/\c<(g.len:O)/\∃g,f.z (i.add (c.toNat*1)) g/\(Rb h g c (λ_ _ a=>∃e,S b.p=S e/\∃f,a.q (e.add 2) f/\Qu f c (λ_ a=>∃e,S b.p=S e/\∃f,a.q (e.add 2) f/\P3 f c (λ_ _ a=>PG (S b.p) 3 c (λa=>d (qf.wrap (c+1)) a) a) a) a) f)/\I else PG (S b.p) 8 0 (λc=>∀d:O->Pw,(∀(c:O)(e:J),(∃f,e.z (a.p.add 2) f/\bif V (c<f)then PG (S b.p) 9 c (λa=>d (qf.wrap (c+1)) a) e else K (S b.p) 0 e)->d c e)->d 0 c) e)->d c e)->d 0 c) c) c) c) c) d)->b c d)->b 0 d)->c b d)->(∃d,b.z a.p d/\bif V (d<1)then c Z b else ∃d,b.z a.p d/\bif V (d>8)then c Z b else ∃d,b.z (a.p.add 1) d/\bif V (d<4)then c Z b else ∃d,b.z (a.p.add 1) d/\bif V (d>20)then c Z b else ∃d,b.z (a.p.add 2) d/\bif V (d<0)then c Z b else ∃d,b.z (a.p.add 2) d/\bif V (d>8)then c Z b else ∃d,b.s (a.p.add 3) d/\∃e,b.z a.p e/\c ((d.len:O) !=e) b)):=aj func8 (.v (.y (.y (.r (S [(47,.c .b)]) .done) (.x .w)) (.y (.v (.x (.t (S [(4,.c (.i .i64))]) (.y (.v .w) (.x (.x (.y (.r (S [(68,.c .b)]) .done) (.x .w))))) .u))) (.v (.v (.v (.v (.v (.v (.y (.v (.x (.t (S [(10,.c (.i .i64))]) (.y (.v .w) (.x (.x (.y (.z (.o 0 1008 (.o 1 1008 (.o 2 1008 (.o 3 1008 (.o 4 576 (.o 5 576 (.o 6 512 (.o 7 512 (.o 8 512 (.o 9 0 (.e 10 .done)))))))))))) (.v .w))))) .u))) (.v (.y (.v (.x (.t (S [(11,.c (.i .i64))]) (.y (.v .w) (.x .w)) .u))) .w))))))))))))
theorem Z7{a b c d e f g h K w}:Fr (R9 a b c d e f g h K w) (A2 w [.z a,.y b,.z c,d.v] 42 λa b=>A2 b [.z e,.y f,.z g,h.v] 42 λb c=>∃d,c.z a.p d/\∃e,c.z b.p e/\bif d==e then ∃d,c.y (a.p.add 1) d/\∃e,c.y (b.p.add 1) e/\bif d==e then ∃d,c.z (a.p.add 2) d/\∃e,c.z (b.p.add 2) e/\bif d==e then ∃d,c.s (a.p.add 3) d/\∃a,c.s (b.p.add 3) a/\Sz d a (λa b=>K a b) c else K G c else K G c else K G c):=aj func11 (.v .w)
theorem Z8{a b c d e f g h K w}:Fr (Sa a b c d e f g h K w) (A2 w [.z c,.z d,.z e,.z f,.z g,.z h] 36 λc d=>A2 d [.z 0,.y 0,.z 0,.slice N 0 0] 42 λd e=>∃f,a=S f/\aB e (f.add 10) 0 [.z 0,.y 0,.z (-1),.slice N 0 0] λe=>∃f,a=S f/\∃g,e.q (f.add 2) g/\P3 g b (λe f g=>bif !f then aB g d.p 0 [.z 182,.y 0,.z (-1),.slice N 0 0] λf=>ax f d.p 0 [.o,.u,.o,.s] λ(h i j:O)(k:Sl)=>K h i j k f else ∀f:W->Pw,(∀(g:W)(h:J),(bif g then aB h d.p 0 [.z 180,.y 0,.z (-1),.slice N 0 0] λf=>ax f d.p 0 [.o,.u,.o,.s] λ(g i j:O)(k:Sl)=>K g i j k f else ∃f,h.z c.p f/\bif f==17 then ∃f,a=S f/\∃g,h.q (f.add 2) g/\Qy g b (λ_ b=>∃c,a=S c/\ax b (c.add 10) 0 [.o,.u,.o,.s] λ(a c e:O)(f:Sl)=>aB b d.p 0 [.z a,.y c,.z e,f.v] λa=>ax a d.p 0 [.o,.u,.o,.s] λ(b c d:O)(e:Sl)=>K b c d e a) h else ax h c.p 0 [.o,.o,.o,.o,.o,.o] λ(f g i j k l:O)=>SA a f g i j k l (λf g=>bif !f then aB g d.p 0 [.z 181,.y 0,.z (-1),.slice N 0 0] λf=>ax f d.p 0 [.o,.u,.o,.s] λ(h i j:O)(k:Sl)=>K h i j k f else ∃f,g.z c.p f/\∀h:Pw,(∀b:J,(∃c,a=S c/\ax b (c.add 10) 0 [.o,.u,.o,.s] λ(a c e:O)(f:Sl)=>aB b d.p 0 [.z a,.y c,.z e,f.v] λa=>ax a d.p 0 [.o,.u,.o,.s] λ(b c d:O)(e:Sl)=>K b c d e a)->h b)->(bif V (f<=4)then ax g c.p 0 [.o,.o,.o,.o,.o,.o] λ(d f i j k l:O)=>SB a b d f i j k l (λb c=>∃d,a=S d/\St c (d.add 10) (.z b) λa=>h a) g else ∃d,g.z c.p d/\bif V (d<=7)then ax g c.p 0 [.o,.o,.o,.o,.o,.o] λ(d f i j k l:O)=>SC a d f i j k l (λb c=>∃d,a=S d/\St c (d.add 10) (.z b) λa=>h a) g else ∃d,g.z c.p d/\bif V (d<=11)then ax g c.p 0 [.o,.o,.o,.o,.o,.o] λ(d f i j k l:O)=>SD a b e d f i j k l (λb c=>∃d,a=S d/\St c (d.add 10) (.z b) λa=>h a) g else ax g c.p 0 [.o,.o,.o,.o,.o,.o] λ(b c d e f i:O)=>SE a b c d e f i (λb c=>∃d,a=S d/\St c (d.add 10) (.z b) λa=>h a) g)) h)->f g h)->(∃a,g.z c.p a/\bif V (a<0)then f Z g else ∃a,g.z c.p a/\f (V (a>17)) g)) e):=aj func12 (.v (.v (.v (.y (.v (.x .w)) (.y (.y (.r (S [(32,.c .b)]) .done) (.x .w)) (.y (.v (.x (.v .w))) (.y (.v (.x .w)) (.y (.v (.t (S []) .u (.v (.v (.v .w))))) .w))))))))
theorem Z9{a b K w}:Fr (Sd a b K w) (∃c,a=S c/\∃d,w.q (c.add 3) d/\SG d b (λb c d e f=>bif d then P6 a b c (λa b=>K a e b) f else K (-1) e f) w):=aj func14 .IW
theorem aaa{a b c K w}:Fr (PG a b c K w) (∃d,a=S d/\∃e,w.q (d.add 1) e/\∃d,e=S d/\∃e,w.s d e/\A2 w [.z 0,.z 0] 155 λd f=>aB f d.p 0 [.z 0,.z (e.len:O)] λe=>Dr e λe=>∃f,a=S f/\∃g,e.q f g/\ax e d.p 0 [.o,.o] λ(f h:O)=>(Rl g f h b c 7 0 0 0 (λ_ b=>Dr b λb=>∃c,a=S c/\∃a,b.q (c.add 1) a/\ax b d.p 0 [.o,.o] λ(c d:O)=>(SV a c d (λ_ a=>K a) b)/\I) e)/\I):=aj func48 (.v (.y .g22 .JO))
theorem aab{a b K w}:Fr (Sz a b K w) (bif (a.len:O) !=(b.len:O)then K G w else ∀c:O->Pw,(∀(d:O)(e:J),(bif V (d<(a.len:O))then Dr e λf=>∃g,a.a=S g/\0<=d/\d<(a.len:O)/\ax f (g.add (d.toNat*4)) 0 [.o,.o,.o,.o] λ(a g h i:O)=>∃j,b.a=S j/\0<=d/\d<(b.len:O)/\ax f (j.add (d.toNat*4)) 0 [.o,.o,.o,.o] λ(b j k l:O)=>∃m,vl qe .neq 289 (.tmp 20) (.tmp 24) (.agg #[.z a,.z g,.z h,.z i]) (.agg #[.z b,.z j,.z k,.z l]) m/\bif m then K G f else c (qf.wrap (d+1)) f else K Z e)->c d e)->c 0 w):=aj func68 .g4
theorem aac{a b c d e f g K w}:Fr (SA a b c d e f g K w) (A2 w [.z b,.z c,.z d,.z e,.z f,.z g] 36 λb c=>∃d,c.z (b.p.add 1) d/\Oo a d (λa c d e f g h=>A2 h [.z 0,.z 0,.z 0,.y 0,.y 0,.z 0] 157 λh i=>aB i h.p 0 [.z a,.z c,.z d,.y e,.y f,.z g] λa=>∀c:W->Pw,(∀(a:W)(d:J),(bif a then K G d else ∀a:W->Pw,(∀(c:W)(d:J),(bif c then K G d else ∀a:W->Pw,(∀(c:W)(d:J),(bif c then ∃a,d.z (h.p.add 2) a/\(2:O)≠0/\(2:O)≠0/\K (((qf.wrap (a.tdiv 2)).tmod 2)==1) d else ∀a:W->Pw,(∀(b:W)(c:J),(bif b then ∃a,c.z (h.p.add 2) a/\(2:O)≠0/\K ((a.tmod 2)==1) c else K Z c)->a b c)->(∃c,d.z b.p c/\bif c==9 then a Z d else ∃c,d.z b.p c/\a (c==11) d))->a c d)->(∃c,d.z b.p c/\bif c==8 then a Z d else ∃c,d.z b.p c/\a (c==10) d))->a c d)->(∃c,d.z b.p c/\bif c==1 then ∃b,d.z h.p b/\a (b==1) d else a G d))->c a d)->(Dr a λa=>∃d,a.z h.p d/\bif d==0 then(((c Z a)/\I)/\(c Z a)/\I)/\I else ∃d,a.z b.p d/\(QC d (λa d=>bif a !=0 then ∃a,d.z b.p a/\(∃b,d.z h.p b/\(QC a (λa d=>c (b !=a) d) d)/\I)/\(QC a (λa b=>∃d,b.z h.p d/\c (d !=a) b) d)/\I else((c G d)/\I)/\(c G d)/\I) a)/\I)) c):=aj func70 (.v (.v (.y (.y (.r (S [(26,.c .b)]) (.o 0 0 (.o 1 0 (.o 2 0 (.o 3 0 (.o 4 0 (.o 5 0 (.e 6 (.o 7 0 (.o 8 0 (.o 9 14336 (.o 11 1024 (.o 12 1024 (.f 10 (.e 13 (.o 14 0 (.o 15 0 (.o 16 0 .done)))) (.e 13 (.o 10 0 (.o 14 0 (.o 15 0 (.o 16 0 .done))))))))))))))))))) (.x .w)) (.y (.y (.r (S [(34,.c .b)]) .done) (.x .w)) (.y (.y .Kq (.x .w)) (.y (.y (.r (S [(55,.c .b)]) .done) (.x .w)) .w))))))
theorem aad{a b c d e f g h K w}:Fr (SB a b c d e f g h K w) (A2 w [.z c,.z d,.z e,.z f,.z g,.z h] 36 λc d=>∀e:qg->qg->Pw,(∀(d f:qg)(g:J),(∃e,g.z c.p e/\bif e==0 then ax g c.p 0 [.o,.o,.o,.o,.o,.o] λ(h i j k l m:O)=>∃n,g.z (d.add 1) n/\Tl a b h i j k l m n (λa b=>K a b) g else bif e==1 then ∃b,g.z (c.p.add 2) b/\PI a b 1 (λb e=>ax e d 0 [.o,.o,.o,.u,.u,.o] λ(d f g h i j:O)=>∃k,e.z (c.p.add 3) k/\∃l,e.z (c.p.add 4) l/\Tm d f g h i j k (qv.wrap l) (λd e f g h i j k=>A2 k [.z 0,.z 0,.z 0,.y 0,.y 0,.z 0] 157 λk l=>aB l k.p 0 [.z d,.z e,.z f,.y g,.y h,.z i] λd=>∀e:O->Pw,(∀(b:O)(d:J),(bif b==0 then ∃e,d.z (c.p.add 1) e/\∃f,d.z (c.p.add 2) f/\ax d k.p 0 [.o,.o,.o,.u,.u,.o] λ(c g h i j k:O)=>Rq a e f c g h i j k (λa=>K b a) d else K b d)->e b d)->(bif b==0 then e j d else e b d)) e) g else bif e==2 then ∃b,g.z (c.p.add 2) b/\PI a b 1 (λb d=>bif b==0 then Dr d λe=>∃g,a=S g/\∃h,e.q g h/\ax e f 0 [.o,.o] λ(g i:O)=>∃j,e.z (c.p.add 2) j/\(Tn h g i 0 j (λ_ d=>Dr d λd=>∃e,a=S e/\∃a,d.q (e.add 1) a/\ax d f 0 [.o,.o] λ(e f:O)=>∃g,d.z (c.p.add 2) g/\(To a e f 0 g (λ_ a=>K b a) d)/\I) e)/\I else K b d) g else bif e==3 then ∃b,g.z (c.p.add 1) b/\bif b==0 then K 181 g else ax g f 0 [.o,.o] λ(b c:O)=>Rr a b c (λa=>K 0 a) g else Dr g λb=>∃c,a=S c/\∃e,b.q (c.add 1) e/\ax b f 0 [.o,.o] λ(c f:O)=>(Tp e c f (λb c=>∀e:O->Pw,(∀(c:O)(f:J),(bif V (c>=0)then ∃g,b.a=S g/\0<=c/\c<(b.len:O)/\ax f (g.add (c.toNat*2)) 0 [.o,.o] λ(g h:O)=>Rr a g h (λa=>e (qf.wrap (c-1)) a) f else ∃c,a=S c/\St f ((c.add 10).add 1) (.y (qv.wrap (b.len:O))) λb=>∃c,b.z d c/\bif c==1 then Dr b λc=>∃e,a=S e/\∃a,c.s (e.add 4) a/\∃e,c.z (d.add 1) e/\∃d,a.a=S d/\0<=e/\e<(a.len:O)/\(St c ((d.add (e.toNat*3)).add 2) (.y 0) λa=>K 0 a)/\I else K 0 b)->e c f)->e (qf.wrap ((b.len:O)-1)) c) b)/\I)->e d f g)->(Dr d λb=>∃d,b.z (c.p.add 1) d/\∃f,b.z (c.p.add 1) f/\(Oo a d (λa b d g h i j=>j.z (c.p.add 1) f/\(A2 j [.z 0,.z 0,.z 0,.y 0,.y 0,.z 0] 157 λj k=>(A2 k [.z 0,.z 0] 155 λk l=>(aB l j.p 0 [.z a,.z b,.z d,.y g,.y h,.z i] λa=>a.z (c.p.add 1) f/\(aB a k.p 0 [.z 0,.z f] λa=>e j.p k.p a)/\I)/\I)/\I)/\(A2 j [.z 0,.z 0] 155 λj k=>(A2 k [.z 0,.z 0,.z 0,.y 0,.y 0,.z 0] 157 λk l=>(aB l k.p 0 [.z a,.z b,.z d,.y g,.y h,.z i] λa=>a.z (c.p.add 1) f/\(aB a j.p 0 [.z 0,.z f] λa=>e k.p j.p a)/\I)/\I)/\I)/\I) b)/\(A2 b [.z 0,.z 0,.z 0,.y 0,.y 0,.z 0] 157 λb g=>(Oo a d (λa d g h i j k=>k.z (c.p.add 1) f/\(A2 k [.z 0,.z 0] 155 λk l=>(aB l b.p 0 [.z a,.z d,.z g,.y h,.y i,.z j] λa=>a.z (c.p.add 1) f/\(aB a k.p 0 [.z 0,.z f] λa=>e b.p k.p a)/\I)/\I)/\I) g)/\(A2 g [.z 0,.z 0] 155 λg h=>(Oo a d (λa d h i j k l=>l.z (c.p.add 1) f/\(aB l b.p 0 [.z a,.z d,.z h,.y i,.y j,.z k] λa=>a.z (c.p.add 1) f/\(aB a g.p 0 [.z 0,.z f] λa=>e b.p g.p a)/\I)/\I) h)/\I)/\I)/\(A2 b [.z 0,.z 0] 155 λb g=>(Oo a d (λa d g h i j k=>k.z (c.p.add 1) f/\(A2 k [.z 0,.z 0,.z 0,.y 0,.y 0,.z 0] 157 λk l=>(aB l k.p 0 [.z a,.z d,.z g,.y h,.y i,.z j] λa=>a.z (c.p.add 1) f/\(aB a b.p 0 [.z 0,.z f] λa=>e k.p b.p a)/\I)/\I)/\I) g)/\(A2 g [.z 0,.z 0,.z 0,.y 0,.y 0,.z 0] 157 λg h=>(Oo a d (λa d h i j k l=>l.z (c.p.add 1) f/\(aB l g.p 0 [.z a,.z d,.z h,.y i,.y j,.z k] λa=>a.z (c.p.add 1) f/\(aB a b.p 0 [.z 0,.z f] λa=>e g.p b.p a)/\I)/\I) h)/\I)/\I)/\I)):=aj func71 (.v (.y (.r (S [(7,.c .q),(8,.c .q)]) (.o 0 502 (.o 1 496 (.o 2 496 (.o 4 904 (.hold 5 904 1023 (.o 6 904 (.f 3 (.f 7 (.e 8 (.e 9 (.e 10 .done))) (.e 8 (.e 7 (.e 9 (.e 10 .done))))) (.f 7 (.f 3 (.e 8 (.e 9 (.e 10 .done))) (.e 8 (.e 3 (.e 9 (.e 10 .done))))) (.e 8 (.f 3 (.e 7 (.e 9 (.e 10 .done))) (.e 7 (.e 3 (.e 9 (.e 10 .done))))))))))))))) (.y (.v (.x (.v (.y .w (.v (.y (.v (.v (.y (.v (.t (S [(9,.c (.i .i64))]) .u .u)) (.y (.v .w) .w)))) (.v (.y (.v (.y (.v (.x .g5)) .w)) (.v (.x .H9)))))))))) (.y (.z (.o 0 16 (.o 1 16 (.o 2 16 (.o 3 16 (.o 4 0 (.e 5 (.o 6 0 .done)))))))) (.y (.v (.x (.t (S [(14,.c (.i .i64))]) (.y (.v .w) (.x .w)) .u))) (.v (.y (.v (.x (.z (.o 0 48 (.o 1 48 (.o 2 48 (.o 3 48 (.o 4 0 .Kg)))))))) .w)))))))
theorem aae{a b c d e f g K w}:Fr (SC a b c d e f g K w) (A2 w [.z b,.z c,.z d,.z e,.z f,.z g] 36 λb c=>∃d,c.z (b.p.add 1) d/\Oo a d (λ_ c _ _ _ _ d=>∃e,a=S e/\∃f,d.q (e.add 2) f/\Rc f c (λd e f g h i j k l m n o _ p=>A2 p [.z 0,.z 0,.z 0,.z 0,.y 0,.y 0,.y 0,.y 0,.y 0,.y 0,.y 0,.y 0] 139 λp q=>aB q p.p 0 [.z d,.z e,.z f,.z g,.y h,.y i,.y j,.y k,.y l,.y m,.y n,.y o] λd=>∃e,d.z b.p e/\bif e==5 then ∃f,d.z p.p f/\bif f==3 then QD a c (λb=>Pt a c (λa b=>K a b) b) d else Pt a c (λa b=>K a b) d else bif e==6 then QD a c (λb=>∃d,a=S d/\∃a,b.q (d.add 2) a/\Rs a c (λa b=>K a b) b) d else Dr d λd=>∃e,a=S e/\∃a,d.q (e.add 2) a/\∃e,d.z (b.p.add 3) e/\(Tq a c e (λa b=>K a b) d)/\I) d) c):=aj func72 (.v (.v (.v (.y (.v (.x (.v (.y (.y (.v .w) .w) (.v (.x (.v .w))))))) (.x (.z (.o 0 112 (.o 1 112 (.o 2 112 (.o 3 112 (.o 4 96 .Kh)))))))))))
theorem aaf{a b c d e f g h i K w}:Fr (SD a b c d e f g h i K w) (A2 w [.z d,.z e,.z f,.z g,.z h,.z i] 36 λd e=>∃f,e.z (d.p.add 1) f/\Oo a f (λe f g h i j k=>A2 k [.z 0,.z 0,.z 0,.y 0,.y 0,.z 0] 157 λk l=>aB l k.p 0 [.z e,.z f,.z g,.y h,.y i,.z j] λe=>∃f,e.z d.p f/\bif f==10 then ∃f,e.z (k.p.add 1) f/\∃g,e.y (k.p.add 3) g/\P6 a f g (λb c=>∃d,a=S d/\St c ((d.add 10).add 2) (.z b) λa=>K 0 a) e else ∃f,e.z d.p f/\bif f==11 then Dr e λf=>∃g,a=S g/\∃h,f.s (g.add 6) h/\∃g,f.z (k.p.add 1) g/\∃i,h.a=S i/\0<=g/\g<(h.len:O)/\∃h,f.q (i.add (g.toNat*1)) h/\∃g,f.z (d.p.add 5) g/\(Ts h c (g !=0) (λe f g h=>∃i,a=S i/\St h ((i.add 10).add 1) (.y e) λe=>∀h:W->Pw,(∀(e:W)(f:J),(bif e then ax f d.p 0 [.o,.o,.o,.o,.o,.o] λ(d e h i j k:O)=>Rt a b c d e h i j k (λa=>K g a) f else K g f)->h e f)->(bif g==0 then h (!f) e else h G e)) f)/\I else A2 e [.bool G,.z 0,.z 0,.z 0,.y 0,.y 0,.y 0,.y 0,.y 0,.bool G] 303 λe f=>aB f e.p 0 [.bool G,.z 0,.z 0,.z 0,.y 0,.y 0,.y 0,.y 0,.y 0,.bool G] λf=>∃g,f.z d.p g/\∀h:O->Pw,(∀(f:O)(g:J),(bif f !=0 then K f g else ∃f,g.b e.p f/\bif !f then ax g d.p 0 [.o,.o,.o,.o,.o,.o] λ(f h i j k l:O)=>Rt a b c f h i j k l (λa=>K 0 a) g else ∃b,g.z (e.p.add 2) b/\ax g (e.p.add 3) 0 [.o,.u,.u,.u,.u,.u,.b] λ(c f h i j k:O)(l:W)=>Tv a b c f h i j k l (λb=>∃c,b.z d.p c/\bif c==8 then ∃c,b.z (e.p.add 2) c/\Pt a c (λa b=>K a b) b else ∃c,b.z (e.p.add 1) c/\Pt a c (λa b=>K a b) b) g)->h f g)->(bif g==8 then ∃b,f.z (d.p.add 3) b/\∃g,f.y (k.p.add 3) g/\A2 f [.z 0,.y 0,.y 0,.y 0,.y 0,.y 0,.bool G] 274 λi j=>aB j i.p 0 [.z b,.y 0,.y 0,.y 0,.y 0,.y g,.bool G] λb=>∃g,b.z (d.p.add 4) g/\(0:O)<=0/\(0:O)<4/\St b ((i.p.add 1).add ((0:O).toNat*1)) (.y (qv.wrap g)) λb=>Dr b λb=>∃g,a=S g/\∃j,b.s (g.add 5) j/\∃g,b.z (k.p.add 1) g/\∃l,j.a=S l/\0<=g/\g<(j.len:O)/\∃j,b.q (l.add (g.toNat*1)) j/\ax b i.p 0 [.o,.u,.u,.u,.u,.u,.b] λ(g i l m n o:O)(p:W)=>∃q,b.z (d.p.add 5) q/\(Tt j c g i l m n o p (q !=0) (λa b c d f g i j k l m n=>(aB n e.p 0 [.bool a,.z b,.z c,.z d,.y f,.y g,.y i,.y j,.y k,.bool l] λa=>h m a)/\I) b)/\I else Dr f λb=>∃f,a=S f/\∃a,b.s (f.add 5) a/\∃f,b.z (k.p.add 1) f/\∃g,a.a=S g/\0<=f/\f<(a.len:O)/\∃a,b.q (g.add (f.toNat*1)) a/\∃f,b.z (d.p.add 5) f/\(Tu a c (f !=0) (λa b c d f g i j k l m n=>(aB n e.p 0 [.bool a,.z b,.z c,.z d,.y f,.y g,.y i,.y j,.y k,.bool l] λa=>h m a)/\I) b)/\I)) e):=aj func73 (.v (.v (.y (.v (.x (.v .w))) (.y (.v (.x (.y (.z (.o 0 3888 (.o 1 3888 (.o 2 3888 (.o 3 3888 (.o 4 3840 (.o 5 3840 (.o 6 3840 (.o 7 3840 (.o 8 3584 (.o 9 0 (.o 10 0 (.o 11 0 (.e 12 (.o 13 0 (.o 14 98304 (.o 15 196608 (.o 16 393216 (.o 17 0 (.o 18 0 (.o 19 0 .done))))))))))))))))))))) (.v (.y (.y (.r (S [(63,.c .b)]) .done) .w) .w))))) (.v (.y (.v (.t (S [(14,.c (.i .i64))]) (.v (.v (.z (.o 0 7984 (.o 1 7984 (.o 2 7984 (.o 3 7984 (.o 4 7936 (.o 5 7936 (.o 6 7936 (.o 7 7936 (.o 8 7680 (.o 9 7168 (.o 10 0 (.o 11 0 (.o 12 0 (.e 13 (.o 14 0 (.o 15 65536 (.o 16 131072 (.e 17 (.o 18 0 .done)))))))))))))))))))))) (.z (.o 0 3888 (.o 1 3888 (.o 2 3888 (.o 3 3888 (.o 4 3840 (.o 5 3840 (.o 6 3840 (.o 7 3840 (.o 8 3584 (.o 9 0 (.o 10 0 (.o 11 0 (.e 12 (.o 13 0 (.o 14 32768 (.o 15 65536 (.e 16 (.o 17 0 .done))))))))))))))))))))) (.y (.v (.x .w)) (.y (.v (.x (.v .w))) .AQ))))))))
theorem aag{a b c d e f g K w}:Fr (SE a b c d e f g K w) (A2 w [.z b,.z c,.z d,.z e,.z f,.z g] 36 λb c=>∀d:qg->qg->Pw,(∀(c e:qg)(f:J),(∃d,f.z b.p d/\bif d==12 then ∃g,f.z e g/\bif g !=8 then K 181 f else Dr f λg=>∃h,a=S h/\∃i,g.s (h.add 7) i/\∃h,g.z (e.add 1) h/\∃j,i.a=S j/\0<=h/\h<(i.len:O)/\∃i,g.q (j.add (h.toNat*1)) i/\∃h,g.z (b.p.add 3) h/\∃j,g.z (c.add 1) j/\(Tw i h j (λa b=>K a b) g)/\I else bif d==13 then ∃g,f.z e g/\bif g !=8 then K 181 f else Dr f λg=>∃h,a=S h/\∃i,g.s (h.add 7) i/\∃h,g.z (e.add 1) h/\∃j,i.a=S j/\0<=h/\h<(i.len:O)/\∃i,g.q (j.add (h.toNat*1)) i/\∃h,g.z (b.p.add 3) h/\∃j,g.z (c.add 1) j/\∃k,g.z (c.add 2) k/\∃l,g.z (b.p.add 4) l/\(Tx i h j (di .i64 k l) (λa b=>K a b) g)/\I else bif d==14 then ∀g:qg->O->Pw,(∀(d:qg)(e:O)(f:J),(bif e==0 then ∃g,f.z (c.add 1) g/\∃c,f.z (b.p.add 3) c/\ax f d 0 [.o,.o] λ(b d:O)=>QE a g c b d (λa=>K e a) f else K e f)->g d e f)->(Dr f λd=>∃e,a=S e/\∃a,d.s (e.add 7) a/\∃e,d.z (c.add 1) e/\∃c,a.a=S c/\0<=e/\e<(a.len:O)/\∃a,d.q (c.add (e.toNat*1)) a/\∃c,d.z (b.p.add 3) c/\(Qj a c (λa b c d=>(A2 d [.z 0,.z 0] 70 λd e=>(aB e d.p 0 [.z a,.z b] λa=>g d.p c a)/\I)/\I) d)/\(A2 d [.z 0,.z 0] 70 λb d=>(Qj a c (λa c d e=>(aB e b.p 0 [.z a,.z c] λa=>g b.p d a)/\I) d)/\I)/\I)else bif d==15 then ∃b,f.z e b/\bif b !=5 then K 181 f else Dr f λb=>∃d,a=S d/\∃g,b.q (d.add 3) g/\∃d,b.z (c.add 1) d/\∃h,b.z (e.add 1) h/\∃i,b.y (e.add 3) i/\(Ty g d h i (λa b=>K a b) b)/\I else Dr f λb=>∃d,a=S d/\∃e,b.q (d.add 3) e/\∃d,b.z (c.add 1) d/\(Tz e d (λb c d e f=>bif d then P6 a b c (λb c=>∃d,a=S d/\St c ((d.add 10).add 2) (.z b) λa=>K e a) f else K e f) b)/\I)->d c e f)->(Dr c λc=>∃e,c.z (b.p.add 1) e/\∃f,c.z (b.p.add 2) f/\(Oo a e (λc e g h i j k=>k.z (b.p.add 2) f/\(Oo a f (λa b f k l m n=>(A2 n [.z 0,.z 0,.z 0,.y 0,.y 0,.z 0] 157 λn o=>(A2 o [.z 0,.z 0,.z 0,.y 0,.y 0,.z 0] 157 λo p=>(aB p n.p 0 [.z c,.z e,.z g,.y h,.y i,.z j] λc=>(aB c o.p 0 [.z a,.z b,.z f,.y k,.y l,.z m] λa=>d n.p o.p a)/\I)/\I)/\I)/\(A2 n [.z 0,.z 0,.z 0,.y 0,.y 0,.z 0] 157 λn o=>(A2 o [.z 0,.z 0,.z 0,.y 0,.y 0,.z 0] 157 λo p=>(aB p o.p 0 [.z c,.z e,.z g,.y h,.y i,.z j] λc=>(aB c n.p 0 [.z a,.z b,.z f,.y k,.y l,.z m] λa=>d o.p n.p a)/\I)/\I)/\I)/\I) k)/\(A2 k [.z 0,.z 0,.z 0,.y 0,.y 0,.z 0] 157 λb k=>(Oo a f (λa f k l m n o=>(A2 o [.z 0,.z 0,.z 0,.y 0,.y 0,.z 0] 157 λo p=>(aB p b.p 0 [.z c,.z e,.z g,.y h,.y i,.z j] λc=>(aB c o.p 0 [.z a,.z f,.z k,.y l,.y m,.z n] λa=>d b.p o.p a)/\I)/\I)/\I) k)/\(A2 k [.z 0,.z 0,.z 0,.y 0,.y 0,.z 0] 157 λk l=>(Oo a f (λa f l m n o p=>(aB p b.p 0 [.z c,.z e,.z g,.y h,.y i,.z j] λc=>(aB c k.p 0 [.z a,.z f,.z l,.y m,.y n,.z o] λa=>d b.p k.p a)/\I)/\I) l)/\I)/\I)/\(A2 k [.z 0,.z 0,.z 0,.y 0,.y 0,.z 0] 157 λb k=>(Oo a f (λa f k l m n o=>(A2 o [.z 0,.z 0,.z 0,.y 0,.y 0,.z 0] 157 λo p=>(aB p o.p 0 [.z c,.z e,.z g,.y h,.y i,.z j] λc=>(aB c b.p 0 [.z a,.z f,.z k,.y l,.y m,.z n] λa=>d o.p b.p a)/\I)/\I)/\I) k)/\(A2 k [.z 0,.z 0,.z 0,.y 0,.y 0,.z 0] 157 λk l=>(Oo a f (λa f l m n o p=>(aB p k.p 0 [.z c,.z e,.z g,.y h,.y i,.z j] λc=>(aB c b.p 0 [.z a,.z f,.z l,.y m,.y n,.z o] λa=>d k.p b.p a)/\I)/\I) l)/\I)/\I)/\I) c)/\(A2 c [.z 0,.z 0,.z 0,.y 0,.y 0,.z 0] 157 λc g=>(Oo a e (λe g h i j k l=>l.z (b.p.add 2) f/\(Oo a f (λa b f l m n o=>(A2 o [.z 0,.z 0,.z 0,.y 0,.y 0,.z 0] 157 λo p=>(aB p c.p 0 [.z e,.z g,.z h,.y i,.y j,.z k] λe=>(aB e o.p 0 [.z a,.z b,.z f,.y l,.y m,.z n] λa=>d c.p o.p a)/\I)/\I)/\I) l)/\(A2 l [.z 0,.z 0,.z 0,.y 0,.y 0,.z 0] 157 λb l=>(Oo a f (λa f l m n o p=>(aB p c.p 0 [.z e,.z g,.z h,.y i,.y j,.z k] λe=>(aB e b.p 0 [.z a,.z f,.z l,.y m,.y n,.z o] λa=>d c.p b.p a)/\I)/\I) l)/\I)/\I) g)/\(A2 g [.z 0,.z 0,.z 0,.y 0,.y 0,.z 0] 157 λg h=>(Oo a e (λe h i j k l m=>m.z (b.p.add 2) f/\(Oo a f (λa b f m n o p=>(aB p c.p 0 [.z e,.z h,.z i,.y j,.y k,.z l] λe=>(aB e g.p 0 [.z a,.z b,.z f,.y m,.y n,.z o] λa=>d c.p g.p a)/\I)/\I) m)/\I) h)/\I)/\I)/\(A2 c [.z 0,.z 0,.z 0,.y 0,.y 0,.z 0] 157 λc g=>(Oo a e (λe g h i j k l=>l.z (b.p.add 2) f/\(Oo a f (λa b f l m n o=>(A2 o [.z 0,.z 0,.z 0,.y 0,.y 0,.z 0] 157 λo p=>(aB p o.p 0 [.z e,.z g,.z h,.y i,.y j,.z k] λe=>(aB e c.p 0 [.z a,.z b,.z f,.y l,.y m,.z n] λa=>d o.p c.p a)/\I)/\I)/\I) l)/\(A2 l [.z 0,.z 0,.z 0,.y 0,.y 0,.z 0] 157 λb l=>(Oo a f (λa f l m n o p=>(aB p b.p 0 [.z e,.z g,.z h,.y i,.y j,.z k] λe=>(aB e c.p 0 [.z a,.z f,.z l,.y m,.y n,.z o] λa=>d b.p c.p a)/\I)/\I) l)/\I)/\I) g)/\(A2 g [.z 0,.z 0,.z 0,.y 0,.y 0,.z 0] 157 λg h=>(Oo a e (λe h i j k l m=>m.z (b.p.add 2) f/\(Oo a f (λa b f m n o p=>(aB p g.p 0 [.z e,.z h,.z i,.y j,.y k,.z l] λe=>(aB e c.p 0 [.z a,.z b,.z f,.y m,.y n,.z o] λa=>d g.p c.p a)/\I)/\I) m)/\I) h)/\I)/\I)/\I)):=aj func74 (.v (.y (.r (S [(5,.c .q),(6,.c .q)]) (.o 0 886 (.o 1 880 (.o 2 880 (.o 4 872 (.o 5 776 (.hold 6 776 895 (.f 3 (.f 7 (.f 8 (.e 9 (.e 10 (.e 11 .done))) (.e 9 (.e 8 (.e 10 (.e 11 .done))))) (.f 8 .KZ (.e 9 .K0))) (.f 8 (.f 3 .KZ (.e 9 (.e 3 .JS))) (.e 9 (.f 3 .K0 (.e 8 (.e 3 .JS))))))))))))) (.y (.v (.x (.v (.y (.y (.v (.x .w)) (.x (.z (.o 0 3888 (.o 1 3888 (.o 2 3888 (.o 3 3888 (.o 4 3840 (.o 5 3840 (.o 6 3840 (.o 7 3840 (.o 8 3072 (.o 9 3072 (.o 10 0 (.o 11 0 (.e 12 (.o 13 0 .done))))))))))))))))) (.v (.y (.y (.v (.x .w)) (.x (.z (.o 0 261936 (.o 1 261936 (.o 2 261936 (.o 3 261936 (.o 4 261888 (.o 5 261888 (.o 6 261888 (.o 7 261888 (.o 8 261120 (.o 9 261120 (.o 10 126976 (.o 11 126976 (.o 12 49152 (.o 13 49152 (.o 14 0 (.o 15 0 (.o 16 0 (.o 17 0 (.e 18 (.o 19 0 .done))))))))))))))))))))))) (.v (.y (.y (.r (S [(7,.c .q),(8,.c (.i .i64))]) (.o 0 17200 (.o 1 17200 (.o 2 17200 (.o 3 17200 (.o 4 17152 (.o 5 17152 (.o 6 17152 (.o 7 17152 (.o 8 16384 (.o 9 16384 (.f 10 (.o 11 16384 (.o 12 24576 (.o 13 49152 (.e 14 (.e 15 (.o 16 0 .done)))))) (.e 14 (.e 10 (.o 11 0 (.o 12 8192 (.o 13 32768 (.e 15 (.o 16 0 .done))))))))))))))))))) (.y (.v .w) .w)) (.v (.x (.y (.v (.x .w)) (.x (.z (.o 0 1008 (.o 1 1008 (.o 2 1008 (.o 3 1008 (.o 4 960 (.o 5 960 (.o 6 768 (.o 7 768 (.o 8 0 .Kl)))))))))))))))))))))) (.y (.z (.o 0 48 (.o 1 48 (.o 2 48 (.o 3 48 (.o 4 0 (.o 5 0 (.e 6 (.o 7 0 (.o 8 3584 (.o 9 7168 (.o 10 14336 (.o 11 28672 (.o 12 0 (.o 13 0 (.o 14 0 (.o 15 0 .done))))))))))))))))) (.y (.v .w) .w)))))
theorem aah{a b c K w}:Fr (P6 a b c K w) (∃d,a=S d/\∃e,w.s (d.add 6) e/\∃d,e.a=S d/\0<=b/\b<(e.len:O)/\∃e,w.q (d.add (b.toNat*1)) e/\TB e c (λb c d e=>bif !d then K (-1) e else ∃d,a=S d/\∃f,e.q (d.add 2) f/\Ql f b 0 c (λ_ c=>∃d,a=S d/\∃a,c.q (d.add 2) a/\Qu a b (λ_ a=>K b a) c) e) w):=aj func78 (.v .JR)
theorem aai{a b K w}:Fr (Oo a b K w) (A2 w [.z 0,.z 0,.z 0,.y 0,.y 0,.z 0] 157 λc d=>∀e:W->Pw,(∀(d:W)(f:J),(bif d then aB f c.p 0 [.z 0,.z 0,.z 0,.y 0,.y 0,.z 0] λd=>ax d c.p 0 [.o,.o,.o,.u,.u,.o] λ(e g h i j k:O)=>K e g h i j k d else ∃d,a=S d/\∃a,f.q d a/\TZ a 0 b (λa b d e f g _ h=>A2 h [.z 0,.z 0,.z 0,.y 0,.y 0,.z 0] 157 λh i=>aB i h.p 0 [.z a,.z b,.z d,.y e,.y f,.z g] λa=>ax a h.p 0 [.o,.o,.o,.u,.u,.o] λ(b d e f g h:O)=>aB a c.p 0 [.z b,.z d,.z e,.y f,.y g,.z h] λa=>ax a c.p 0 [.o,.o,.o,.u,.u,.o] λ(b c d e f g:O)=>K b c d e f g a) f)->e d f)->(bif V (b<0)then e Z d else e (V (b>63)) d)):=aj func167 (.v (.y (.y (.r (S [(12,.c .b)]) .done) (.x .w)) (.v .w)))
theorem aaj{a K w}:Fr (QC a K w) (bif a==0 then K 1 w else ∀b:W->Pw,(∀(c:W)(d:J),(bif c then K 3 d else ∀b:W->Pw,(∀(c:W)(d:J),(bif c then K 4 d else ∀b:W->Pw,(∀(c:W)(d:J),(bif c then K 5 d else bif a==12 then K 7 d else bif a==13 then K 6 d else bif a==14 then K 8 d else bif a==15 then bif a==15 then K 9 d else K 0 d else bif a==16 then K 9 d else K 0 d)->b c d)->(bif a==10 then b (a==10) d else b (a==11) d))->b c d)->(bif a==8 then b (a==8) d else b (a==9) d))->b c d)->(bif a==5 then b (a==5) w else bif a==6 then b (a==6) w else b (a==7) w)):=aj func168 (.v (.y (.v (.x (.v (.y .w (.y (.v (.t (S [(6,.c .b)]) .u (.v .w))) (.y .w (.y (.v (.t (S [(10,.c .b)]) .u .u)) (.y .w (.y (.v (.t (S [(13,.c .b)]) .u .u)) (.y .w (.v (.y .w (.v (.y .w (.v (.y .w (.y (.v .w) (.x .w)))))))))))))))))) .w))
theorem aak{a b c d e f g h i K w}:Fr (Tl a b c d e f g h i K w) (A2 w [.z c,.z d,.z e,.z f,.z g,.z h] 36 λc d=>∀e:Sl->qg->O->Pw,(∀(d:Sl)(f:qg)(g:O)(h:J),(bif g !=0 then K g h else ∃e,h.z (c.p.add 2) e/\∃g,h.z (c.p.add 5) g/\PI a e g (λe g=>bif e !=0 then K e g else ∀e:W->Pw,(∀(g:W)(h:J),(bif g then K 2 h else Dr h λe=>∃g,a=S g/\∃h,e.s (g.add 4) h/\ax e f 0 [.u,.o,.u] λ(f g j:O)=>∃k,h.a=S k/\0<=i/\i<(h.len:O)/\(aB e (k.add (i.toNat*3)) 0 [.y f,.z g,.y j] λe=>∀f:O->Pw,(∀(e:O)(g:J),(∃h,g.z (c.p.add 5) h/\bif V (e<h)then Dr g λh=>ax h c.p 0 [.o,.o,.o,.o,.o,.o] λ(i j k l m n:O)=>∃o,d.a=S o/\0<=e/\e<(d.len:O)/\∃d,h.y (o.add (e.toNat*1)) d/\(T0 a b i j k l m n d (λb d=>∃g,d.z (c.p.add 1) g/\∃h,d.z (c.p.add 2) h/\∃i,d.z (c.p.add 3) i/\Rq a g (qf.wrap (h+e)) i b 7 0 0 0 (λa=>f (qf.wrap (e+1)) a) d) h)/\I else K 0 g)->f e g)->f 0 e)/\I)->e g h)->(Dr g λb=>∃d,b.z (c.p.add 3) d/\bif d==2 then ∃d,a=S d/\∃f,b.q d f/\∃d,f=S d/\∃f,b.s d f/\∃d,b.z (c.p.add 5) d/\bif V ((qf.wrap ((f.len:O)+d))>64)then e Z b else ∃d,b.z (c.p.add 3) d/\bif d==3 then ∃d,a=S d/\∃f,b.q (d.add 2) f/\∃d,f=S d/\∃f,b.s d f/\∃d,b.z (c.p.add 5) d/\e (V ((qf.wrap ((f.len:O)+d))>64)) b else e G b else ∃d,b.z (c.p.add 3) d/\bif d==3 then ∃d,a=S d/\∃a,b.q (d.add 2) a/\∃d,a=S d/\∃a,b.s d a/\∃d,b.z (c.p.add 5) d/\e (V ((qf.wrap ((a.len:O)+d))>64)) b else e G b)) h)->e d f g h)->(Dr d λb=>∃d,a=S d/\∃a,b.s (d.add 4) a/\∃d,a.a=S d/\0<=i/\i<(a.len:O)/\ax b (d.add (i.toNat*3)) 0 [.u,.o,.u] λ(a d f:O)=>∃g,b.z (c.p.add 3) g/\∃h,b.z (c.p.add 4) h/\∃i,b.z (c.p.add 5) i/\(RF a d f g h i (λa b c d f g=>(A2 g [.y 0,.z 0,.y 0] 98 λg h=>(aB h g.p 0 [.y b,.z c,.y d] λb=>e a g.p f b)/\I)/\I) b)/\(A2 b [.y 0,.z 0,.y 0] 98 λb c=>(RF a d f g h i (λa c d f g h=>(aB h b.p 0 [.y c,.z d,.y f] λc=>e a b.p g c)/\I) c)/\I)/\I)):=aj func169 (.v (.y (.r (S [(9,.c .s),(10,.c .q),(11,.c (.i .i64))]) (.o 0 270224 (.o 1 270224 (.o 2 270224 (.o 3 270224 (.o 4 270208 (.o 5 270208 (.o 6 270208 (.o 7 269824 (.o 8 269824 (.o 9 268288 (.o 10 268288 (.o 11 262144 (.o 12 262144 (.f 13 (.o 14 262144 (.o 15 458752 (.o 16 917504 (.o 17 1835008 (.e 18 (.o 19 0 (.e 20 (.o 21 0 .done)))))))) (.e 18 (.e 13 (.o 14 0 (.o 15 196608 (.o 16 655360 (.o 17 1572864 (.o 19 0 (.e 20 (.o 21 0 .done)))))))))))))))))))))))) (.y (.v (.x .w)) (.v (.y (.v (.x .w)) (.y (.y (.r (S [(79,.c .b)]) (.o 0 0 (.o 1 0 (.o 2 0 (.o 3 0 (.o 4 12288 (.o 5 12288 (.o 6 12288 (.o 7 12288 (.o 8 12288 (.o 9 12288 (.o 10 12288 (.o 11 12288 (.o 12 0 (.o 13 0 (.o 14 0 (.o 15 0 (.o 16 0 (.o 17 0 (.o 18 0 (.o 19 0 (.o 20 0 (.o 21 0 (.o 22 3221225472 (.o 23 3221225472 (.o 24 3221225472 (.o 25 3221225472 (.o 26 3221225472 (.o 27 3221225472 (.o 28 3221225472 (.o 29 3221225472 (.o 30 0 (.o 31 0 (.o 32 0 (.o 33 0 (.o 34 0 (.o 35 0 .done))))))))))))))))))))))))))))))))))))) (.x .w)) (.y .KT (.y (.v (.x (.t (S [(12,.c (.i .i64))]) (.y (.v .w) (.x (.x (.x (.z (.o 0 126 (.o 1 124 (.o 2 120 (.o 3 16 (.o 4 0 .Kh)))))))))) .u))) .w))))))))
theorem aal{a b c K w}:Fr (PI a b c K w) (∀d:W->Pw,(∀(e:W)(f:J),(bif e then K 181 f else ∀d:O->Pw,(∀(e:O)(f:J),(bif V (e<(qf.wrap (b+c)))then Oo a e (λa _ _ _ _ _ b=>bif a !=0 then K 51 b else d (qf.wrap (e+1)) b) f else K 0 f)->d e f)->d b f)->d e f)->(bif V (b<0)then d Z w else bif V (b>63)then d Z w else d (V ((qf.wrap (b+c))>64)) w)):=aj func170 (.v (.y .JP (.y (.v (.x (.t (S [(7,.c (.i .i64))]) .JQ .u))) .w)))
theorem aam{a b c d e f g h i K w}:Fr (Rq a b c d e f g h i K w) (A2 w [.z d,.z e,.z f,.y g,.y h,.z i] 157 λd e=>Dr e λe=>∃f,a=S f/\∃g,e.q f g/\ax e d.p 0 [.o,.o,.o,.u,.u,.o] λ(d f h i j k:O)=>(Rl g 0 c d f h i j k (λ_ d=>∃e,a=S e/\∃a,d.q (e.add 1) a/\T1 a 0 b 0 c (λ_ a=>K a) d) e)/\I):=aj func172 (.v (.x (.z (.o 0 112 (.o 1 112 (.o 2 112 (.o 3 112 .Ke)))))))
theorem aan{a b c K w}:Fr (Rr a b c K w) (A2 w [.z b,.z c] 155 λb c=>Dr c λc=>∃d,a=S d/\∃e,c.q (d.add 1) e/\ax c b.p 0 [.o,.o] λ(d f:O)=>(T2 e d f (λ_ c=>∀d:qg->Pw,(∀(b:qg)(c:J),(∃d,a=S d/\∃e,c.q d e/\Q7 e (λc d=>∀e:O->Pw,(∀(d:O)(f:J),(bif V (d<(c.len:O))then Dr f λg=>∃h,c.a=S h/\0<=d/\d<(c.len:O)/\ax g ((h.add (d.toNat*8)).add 2) 0 [.o,.o,.o,.u,.u,.o] λ(c h i j k l:O)=>ax g b 0 [.o,.o,.o,.u,.u,.o] λ(m n o p q r:O)=>(T3 c h i j k l m n o p q r (λa b=>bif a then K b else e (qf.wrap (d+1)) b) g)/\I else ∃c,f.z b c/\∀d:Pw,(∀c:J,(∀d:O->Pw,(∀(c:O)(e:J),(∀f:W->Pw,(∀(e:W)(g:J),(bif e then Dr g λe=>∃f,a=S f/\∃h,e.s (f.add 7) h/\∃f,h.a=S f/\0<=c/\c<(h.len:O)/\∃h,e.q (f.add (c.toNat*1)) h/\∃f,e.z (b.add 1) f/\(T4 h f (λb e=>∀f:O->Pw,(∀(e:O)(g:J),(bif V (e<(b.len:O))then ∀h:qg->Pw,(∀(d:qg)(g:J),(Dr g λg=>∃h,b.a=S h/\0<=e/\e<(b.len:O)/\∃b,g.z (h.add (e.toNat*1)) b/\ax g d 0 [.o,.o] λ(d h:O)=>(QE a c b d h (λa=>f (qf.wrap (e+1)) a) g)/\I)->h d g)->(Dr g λd=>∃f,a=S f/\∃a,d.s (f.add 7) a/\∃f,a.a=S f/\0<=c/\c<(a.len:O)/\∃a,d.q (f.add (c.toNat*1)) a/\∃c,b.a=S c/\0<=e/\e<(b.len:O)/\∃b,d.z (c.add (e.toNat*1)) b/\(Qj a b (λa b _ c=>(A2 c [.z 0,.z 0] 70 λc d=>(aB d c.p 0 [.z a,.z b] λa=>h c.p a)/\I)/\I) d)/\(A2 d [.z 0,.z 0] 70 λc d=>(Qj a b (λa b _ d=>(aB d c.p 0 [.z a,.z b] λa=>h c.p a)/\I) d)/\I)/\I)else d (qf.wrap (c+1)) g)->f e g)->f 0 e) e)/\I else ∀c:O->Pw,(∀(d:O)(e:J),(∀f:W->Pw,(∀(e:W)(g:J),(bif e then ∀e:O->Pw,(∀(f:O)(g:J),(bif V (f<64)then ∃h,a=S h/\∃i,g.s (h.add 7) i/\∃h,i.a=S h/\0<=d/\d<(i.len:O)/\∃i,g.q (h.add (d.toNat*1)) i/\QW i f (λc g h=>∀i:W->Pw,(∀(b:W)(c:J),(bif b then ∃b,a=S b/\∃g,c.s (b.add 7) g/\∃b,g.a=S b/\0<=d/\d<(g.len:O)/\∃g,c.q (b.add (d.toNat*1)) g/\T5 g f (λb _ c=>∀g:O->Pw,(∀(c:O)(h:J),(bif V (c<(b.len:O))then Dr h λi=>∃j,b.a=S j/\0<=c/\c<(b.len:O)/\∃k,i.z (j.add (c.toNat*3)) k/\∃j,b.a=S j/\0<=c/\c<(b.len:O)/\ax i ((j.add (c.toNat*3)).add 1) 0 [.o,.o] λ(b j:O)=>(QE a d k b j (λa=>g (qf.wrap (c+1)) a) i)/\I else e (qf.wrap (f+1)) h)->g c h)->g 0 c) c else e (qf.wrap (f+1)) c)->i b c)->(bif g then ∃a,h.z (b.add 1) a/\i (c==a) h else i G h)) g else c (qf.wrap (d+1)) g)->e f g)->e 0 g else K g)->f e g)->(∃c,a=S c/\∃a,e.s (c.add 7) a/\bif V (d<(a.len:O))then ∃a,e.z b a/\f (a==7) e else f G e))->c d e)->c 0 g)->f e g)->(∃d,a=S d/\∃a,e.s (d.add 7) a/\bif V (c<(a.len:O))then ∃a,e.z b a/\f (a==6) e else f G e))->d c e)->d 0 c)->d c)->(bif c==3 then ∃c,f.z (b.add 1) c/\QD a c (λc=>Dr c λc=>∃e,a=S e/\∃a,c.q (e.add 2) a/\∃e,c.z (b.add 1) e/\(Rs a e (λ_ a=>d a) c)/\I) f else d f))->e d f)->e 0 d) c)->d b c)->(Dr c λc=>∃e,a=S e/\∃a,c.q e a/\ax c b.p 0 [.o,.o] λ(b e:O)=>(RH a b e (λa b c e f g _ h=>(A2 h [.z 0,.z 0,.z 0,.y 0,.y 0,.z 0] 157 λh i=>(aB i h.p 0 [.z a,.z b,.z c,.y e,.y f,.z g] λa=>d h.p a)/\I)/\I) c)/\(A2 c [.z 0,.z 0,.z 0,.y 0,.y 0,.z 0] 157 λc f=>(RH a b e (λa b e f g h _ i=>(aB i c.p 0 [.z a,.z b,.z e,.y f,.y g,.z h] λa=>d c.p a)/\I) f)/\I)/\I)) c)/\I):=aj func175 (.v (.y .JO (.y (.r (S [(4,.c .q)]) .g6) (.v (.y (.v (.x (.t (S [(7,.c (.i .i64))]) (.y (.v .w) (.x (.x (.y (.z (.o 0 34 .K5)) .w)))) .u))) (.y (.v (.t (S []) (.v .KW) .u)) (.y (.v (.x (.t (S [(8,.c (.i .i64))]) (.y (.y (.r (S [(78,.c .b)]) .done) .w) (.x (.x (.y (.z (.o 0 400 (.o 1 400 (.o 2 400 (.o 3 400 (.o 4 384 (.o 5 384 (.o 6 384 (.o 7 0 (.o 8 0 (.e 9 (.o 10 0 .done)))))))))))) (.v (.x (.t (S [(10,.c (.i .i64))]) (.y (.v .w) (.x (.x (.y (.r (S [(11,.c .q)]) (.o 0 34704 (.o 1 34704 (.o 2 34704 (.o 3 34704 (.o 4 34688 (.o 5 34688 (.o 6 34688 (.o 7 33024 (.o 8 32768 .g8)))))))))) (.z (.o 0 126 (.o 1 124 (.o 2 72 (.o 3 64 .Ke))))))))) .u))))))) .u))) (.v (.x (.t (S [(13,.c (.i .i64))]) (.y (.y (.r (S [(131,.c .b)]) .done) .w) (.x (.x (.v (.x (.t (S [(14,.c (.i .i64))]) (.y (.v .w) (.x (.x (.v (.y (.r (S [(156,.c .b)]) .done) (.x (.v (.v (.x (.t (S [(19,.c (.i .i64))]) (.y (.v .w) (.x (.x (.z (.o 0 4094 (.o 1 4092 (.o 2 3976 (.o 3 3968 (.o 4 3968 (.o 5 3968 (.o 6 3968 .K3))))))))))) .u)))))))))) .u)))))) .u))))))))))
theorem aao{a b K w}:Fr (QD a b K w) (∀c:O->Pw,(∀(d:O)(e:J),(∃f,a=S f/\∃g,e.s (f.add 5) g/\bif V (d<(g.len:O))then ∃f,a=S f/\∃g,e.s (f.add 5) g/\∃f,g.a=S f/\0<=d/\d<(g.len:O)/\∃g,e.q (f.add (d.toNat*1)) g/\T6 g b (λ_ a=>c (qf.wrap (d+1)) a) e else ∀c:O->Pw,(∀(d:O)(e:J),(∃f,a=S f/\∃g,e.s (f.add 6) g/\bif V (d<(g.len:O))then ∃f,a=S f/\∃a,e.s (f.add 6) a/\∃f,a.a=S f/\0<=d/\d<(a.len:O)/\∃a,e.q (f.add (d.toNat*1)) a/\T8 a b (λ_ a=>c (qf.wrap (d+1)) a) e else K e)->c d e)->c 0 e)->c d e)->c 0 w):=aj func177 (.y (.v (.x (.t (S [(4,.c (.i .i64))]) (.y (.v .w) (.x .w)) .u))) .K1)
theorem aap{a b K w}:Fr (Pt a b K w) (∃c,a=S c/\∃d,w.q (c.add 2) d/\Qu d b (λc d=>bif c==0 then ∃e,a=S e/\St d ((e.add 10).add 2) (.z b) λa=>K c a else K c d) w):=aj func178 (.v (.v (.y (.v .w) .w)))
theorem aaq{a b c d e f g h i K w}:Fr (Rt a b c d e f g h i K w) (A2 w [.z d,.z e,.z f,.z g,.z h,.z i] 36 λd e=>∃f,e.z (d.p.add 5) f/\bif f !=0 then ∃d,a=S d/\∃f,e.q (d.add 2) f/\T9 f c (λ_ c=>∃d,a=S d/\∃a,c.q (d.add 2) a/\P3 a b (λ_ _ a=>K a) c) e else K e):=aj func182 (.v (.v (.x .w)))
theorem aar{a b c d e f g h i K w}:Fr (Tv a b c d e f g h i K w) (A2 w [.z c,.y d,.y e,.y f,.y g,.y h,.bool i] 274 λc d=>Dr d λd=>∃e,a=S e/\∃f,d.q (e.add 2) f/\∃e,d.y (c.p.add 5) e/\(Ql f b 0 e (λ_ d=>Dr d λd=>∃e,a=S e/\∃f,d.q (e.add 2) f/\∃e,d.z c.p e/\(Ql f b 1 (qv.wrap e) (λ_ d=>Dr d λd=>∃e,a=S e/\∃a,d.q (e.add 2) a/\(0:O)<=0/\(0:O)<4/\∃e,d.y ((c.p.add 1).add ((0:O).toNat*1)) e/\(Ql a b 2 e (λ_ a=>K a) d)/\I) d)/\I) d)/\I):=aj func185 (.v (.y (.z (.o 0 112 (.o 1 112 (.o 2 112 (.o 3 112 (.o 4 96 .Ks)))))) .g5))
theorem aas{a b c d e K w}:Fr (QE a b c d e K w) (A2 w [.z d,.z e] 70 λd e=>Dr e λe=>∃f,a=S f/\∃g,e.s ((f.add 10).add 3) g/\ax e d.p 0 [.o,.o] λ(d f:O)=>(A2 e [.z b,.z c,.z d,.z f] 289 λb c=>(∃d e,aM qe [40,40] 40 g.v (.slice (S b.p) 1 1) c d e/\∃b,a=S b/\(St e ((b.add 10).add 3) d.v λa=>K a)/\I)/\I)/\I):=aj func189 (.v (.z (.o 0 4094 (.o 1 1984 (.o 2 1984 (.o 3 1984 (.o 4 1984 (.o 5 1984 (.o 6 384 (.o 7 256 (.o 8 0 (.o 9 0 (.e 10 (.e 11 (.o 12 0 (.o 13 0 (.o 14 0 (.e 15 .done))))))))))))))))))
theorem aat{a b c d e f g h i K w}:Fr (T0 a b c d e f g h i K w) (A2 w [.z c,.z d,.z e,.z f,.z g,.z h] 36 λc d=>∃e,d.z (c.p.add 3) e/\bif e==1 then Dr d λf=>∃g,a=S g/\∃h,f.s (g.add 4) h/\∃g,f.z (c.p.add 4) g/\(A2 f [.y i,.z g,.y 0] 98 λb c=>(∃d e,aM qe [52,52] 52 h.v (.slice (S b.p) 1 1) c d e/\∃b,a=S b/\(St e (b.add 4) d.v λb=>∃c,a=S c/\∃a,b.s (c.add 4) a/\K (qf.wrap ((a.len:O)-1)) b)/\I)/\I)/\I else bif e==2 then Dr d λf=>∃g,a=S g/\∃h,f.q g h/\∃g,f.z (c.p.add 4) g/\(Ra h g (λa _ b=>K a b) f)/\I else bif e==3 then ∃c,a=S c/\∃f,d.q (c.add 2) f/\Rb f 0 b (λa _ b=>K a b) d else bif e==4 then ∃b,a=S b/\∃c,d.s (b.add 5) c/\A2 d [.slice N 0 0,.slice N 0 0] 271 λb f=>A2 f [.pointer (S b.p)] 146 λb f=>∃g h,aM qe [53,53] 53 c.v (.slice (S b.p) 1 1) f g h/\∃b,a=S b/\St h (b.add 5) g.v λb=>∃c,a=S c/\∃f,b.s (c.add 5) f/\K (qf.wrap ((f.len:O)-1)) b else bif e==5 then ∃b,a=S b/\∃c,d.s (b.add 6) c/\A2 d [.slice N 0 0,.slice N 0 0] 280 λb f=>A2 f [.pointer (S b.p)] 151 λb f=>∃g h,aM qe [54,54] 54 c.v (.slice (S b.p) 1 1) f g h/\∃b,a=S b/\St h (b.add 6) g.v λb=>∃c,a=S c/\∃f,b.s (c.add 6) f/\K (qf.wrap ((f.len:O)-1)) b else bif e==8 then ∃b,a=S b/\∃c,d.s (b.add 7) c/\A2 d [.slice N 0 0,.slice N 0 0] 129 λb f=>A2 f [.pointer (S b.p)] 83 λb f=>∃g h,aM qe [55,55] 55 c.v (.slice (S b.p) 1 1) f g h/\∃b,a=S b/\St h (b.add 7) g.v λb=>∃c,a=S c/\∃f,b.s (c.add 7) f/\K (qf.wrap ((f.len:O)-1)) b else bif e==6 then ∃b,a=S b/\∃c,d.z (b.add 8) c/\∃b,a=S b/\St d (b.add 8) (.z (qf.wrap (c+1))) λb=>∃c,a=S c/\∃e,b.z (c.add 8) e/\K (qf.wrap (e-1)) b else ∃b,a=S b/\∃c,d.z (b.add 9) c/\∃b,a=S b/\St d (b.add 9) (.z (qf.wrap (c+1))) λb=>∃c,a=S c/\∃a,b.z (c.add 9) a/\K (qf.wrap (a-1)) b):=aj func277 (.v (.y (.v (.x (.v (.y (.y (.z (.o 0 2046 (.o 1 992 (.o 2 992 (.o 3 992 (.o 4 992 (.o 5 192 (.o 6 0 (.o 7 0 (.o 8 0 .Kb)))))))))) .w) (.v (.y (.y (.z (.o 0 48 (.o 1 48 (.o 2 48 (.o 3 48 (.o 4 0 .KY)))))) .w) (.v (.y (.v .w) (.v (.y (.v .w) (.v (.y (.v .w) (.v (.y (.v .w) (.v (.x (.v .w))))))))))))))))) (.v .w)))
theorem aau{a b c d e K w}:Fr (R6 a b c d e K w) (A2 w [.z a,.z b,.z c,d.v] 24 λa b=>ax b a.p 0 [.o,.o,.o,.s] λ(a c d:O)(f:Sl)=>R7 a c d f (λa b c d f=>A2 f [.z 0,.z 0,.z 0,.slice N 0 0] 24 λf g=>aB g f.p 0 [.z a,.z b,.z c,d.v] λa=>ax a f.p 0 [.o,.o,.o,.s] λ(b c d:O)(g:Sl)=>Qq b c d g (λa b c=>ax c f.p 0 [.o,.o,.o,.s] λ(d g h:O)(i:Sl)=>R8 d g h i (λc d g=>∀h:W->Pw,(∀(b:W)(d:J),(bif b then K G d else ∀b:qh qg->O->Pw,(∀(a:qh qg)(d:O)(g:J),(∀h:W->Pw,(∀(g:W)(i:J),(bif g then ∃g,e.a=S g/\0<=d/\d<(e.len:O)/\ax i (g.add (d.toNat*8)) 0 [.o,.o,.o,.o,.o,.o,.o,.o] λ(e g h j k l m n:O)=>A2 i [.z 0,.z 0,.z 0,.z 0,.z 0,.z 0,.z 0,.z 0] 38 λo p=>aB p o.p 0 [.z e,.z g,.z h,.z j,.z k,.z l,.z m,.z n] λe=>∃g,e.z o.p g/\∀h:qh qg->Pw,(∀(a:qh qg)(e:J),(∃g,e.z f.p g/\Q5 a c g (λc e=>bif !c then K G e else b a (qf.wrap (d+1)) e) e)->h a e)->(bif g==0 then ∃b,e.z (o.p.add 1) b/\ax e (o.p.add 2) 0 [.o,.o,.o,.o,.o,.o] λ(d f i j k l:O)=>OF a b d f i j k l (λb d e f g=>A2 g [.z 0,.y 0,.z 0,.slice N 0 0] 42 λg i=>aB i g.p 0 [.z b,.y d,.z e,f.v] λb=>Dr b λb=>∃d,b.z (o.p.add 1) d/\ax b (o.p.add 2) 0 [.o,.o,.o,.o,.o,.o] λ(e f i j k l:O)=>ax b g.p 0 [.o,.u,.o,.s] λ(m n o:O)(p:Sl)=>(Sa c d e f i j k l (λb c d e f=>yr f g.p 0 [.z m,.y n,.z o,p.v] ((R9 m n o p b c d e (λb c=>bif !b then K G c else h a c) f)/\I)) b)/\I) e else bif g==1 then ∃b,e.z (o.p.add 1) b/\Sb a b (λb d e=>∃f,e.z (o.p.add 1) f/\Sd c f (λc e f=>bif b !=c then K G f else bif d !=e then K G f else h a f) e) e else bif g==2 then ∃b,e.z (o.p.add 1) b/\Se a b (λb d=>Dr d λd=>∃e,c=S e/\∃c,d.q (e.add 2) c/\∃e,d.z (o.p.add 1) e/\(Q6 c e (λc d=>bif !(b==c)then K G d else h a d) d)/\I) e else bif g==3 then Sf a (λb c=>∃d,c.z (o.p.add 1) d/\ax c (o.p.add 2) 0 [.o,.o,.o,.o,.o,.o] λ(e f g i j k:O)=>OF a d e f g i j k (λ_ _ _ _ c=>OF a 0 4 1 0 0 0 0 (λ_ _ _ _ a=>bif b.isNone then K G a else h b a) c) c) e else h a e)else Sg (λa b=>K a b) i)->h g i)->(bif V (d<(e.len:O))then h (V (d<40)) g else h G g))->b a d g)->b a 0 d)->h b d)->(bif a.isNone then h Z g else bif c.isNone then h Z g else bif b !=0 then h Z g else bif d !=0 then h Z g else ∃b,g.z f.p b/\Q5 a c b (λa b=>h (!a) b) g)) c) a) b):=aj func3 (.v (.v (.v (.v (.y (.y (.r (S [(52,.c .b)]) .done) (.x .w)) (.y (.v (.x (.t (S [(6,.c .p),(10,.c (.i .i64))]) (.y (.y (.r (S [(60,.c .b)]) .done) .w) (.x (.x (.v (.y (.v (.x (.v (.t (S [(6,.c .p)]) (.v (.y (.z (.o 1 61 (.o 2 49 (.o 3 49 (.o 4 1 (.o 5 1 (.hold 0 64 383 (.e 6 (.e 7 (.o 8 0 .done)))))))))) (.x .w))) (.v (.y (.v (.v (.v (.x .w)))) (.v (.y (.v (.y (.z (.o 0 254 (.o 1 96 (.o 2 96 (.o 3 96 (.o 4 96 .Kh)))))) (.x .w))) (.v (.x (.v (.v (.v (.v (.v (.x .w)))))))))))))))) (.v (.x .w))))))) .u))) .w))))))
theorem aav{a b c d K w}:Fr (R7 a b c d K w) (A2 w [.z a,.z b,.z c,d.v] 24 λa b=>A2 b [.z 0,.z 0,.z 0,.slice N 0 0] 24 λb c=>∃d,c.z a.p d/\(3:O)≠0/\∃e,c.z (a.p.add 1) e/\(7:O)≠0/\∃f,c.z (a.p.add 2) f/\A2 c [.z 0,.z 0,.z 0,.slice N 0 0] 24 λc g=>aB g c.p 0 [.z (qf.wrap (1+((di .i64 d 65535).tmod 3))),.z (qf.wrap (6+((di .i64 e 65535).tmod 7))),.z (di .i64 f 3),.slice N 0 0] λe=>∀f:O->Pw,(∀(e:O)(g:J),(bif V (e<(qf.wrap (1+((di .i64 d 65535).tmod 3))))then ∃d,g.s (a.p.add 3) d/\∀h:O->Pw,(∀(a:O)(b:J),(∃d,b.s (c.p.add 3) d/\A2 b [.z a] 3 λa b=>∃g h,aM qe [22,22] 22 d.v (.slice (S a.p) 1 1) b g h/\St h (c.p.add 3) g.v λa=>f (qf.wrap (e+1)) a)->h a b)->(bif V (e<(d.len:O))then ∃b,g.s (a.p.add 3) b/\∃a,b.a=S a/\0<=e/\e<(b.len:O)/\∃b,g.z (a.add (e.toNat*1)) b/\h (di .i64 b 255) g else h 5 g)else ax g c.p 0 [.o,.o,.o,.s] λ(a c d:O)(e:Sl)=>aB g b.p 0 [.z a,.z c,.z d,e.v] λa=>ax a b.p 0 [.o,.o,.o,.s] λ(b c d:O)(e:Sl)=>K b c d e a)->f e g)->f 0 e):=aj func6 (.v (.v (.v (.y (.v (.x (.t (S [(5,.c (.i .i64))]) (.y (.v .w) (.x (.x (.v (.x (.v (.t (S [(6,.c (.i .i64))]) .u .u))))))) .u))) .w))))
theorem aaw{a b c K w}:Fr (Q5 a b c K w) (∀d:W->Pw,(∀(e:W)(f:J),(bif e then K G f else ∀d:O->Pw,(∀(e:O)(f:J),(∃g,b=S g/\∃h,f.q (g.add 2) h/\∃g,h=S g/\∃h,f.s g h/\bif V (e<=(h.len:O))then Sr a e (λa c f g h i j k l m n o p q=>A2 q [.z 0,.z 0,.z 0,.z 0,.y 0,.y 0,.y 0,.y 0,.y 0,.y 0,.y 0,.y 0] 139 λq r=>aB r q.p 0 [.z a,.z c,.z f,.z g,.y h,.y i,.y j,.y k,.y l,.y m,.y n,.y o] λa=>∃c,b=S c/\∃b,a.q (c.add 2) b/\Rc b e (λa b c f g h i j k l m n o r=>A2 r [.z 0,.z 0,.z 0,.z 0,.y 0,.y 0,.y 0,.y 0,.y 0,.y 0,.y 0,.y 0] 139 λr s=>aB s r.p 0 [.z a,.z b,.z c,.z f,.y g,.y h,.y i,.y j,.y k,.y l,.y m,.y n] λa=>∀b:W->Pw,(∀(a:W)(c:J),(bif a then K G c else d (qf.wrap (e+1)) c)->b a c)->(ax a q.p 0 [.o,.o,.o,.o,.u,.u,.u,.u,.u,.u,.u,.u] λ(c d e f g h i j k l m n:O)=>ax a r.p 0 [.o,.o,.o,.o,.u,.u,.u,.u,.u,.u,.u,.u] λ(q r s t u v w x y z A B:O)=>∃D,vl qe .neq 139 (.tmp 81) (.tmp 82) (.agg #[.z c,.z d,.z e,.z f,.y g,.y h,.y i,.y j,.y k,.y l,.y m,.y n]) (.agg #[.z q,.z r,.z s,.z t,.y u,.y v,.y w,.y x,.y y,.y z,.y A,.y B]) D/\bif D then b Z a else b (p !=o) a)) a) f else ∀d:O->Pw,(∀(e:O)(f:J),(∃g,b=S g/\∃h,f.s (g.add 4) h/\bif V (e<(h.len:O))then Re a e (λa c f g h=>A2 h [.y 0,.z 0,.y 0] 98 λh i=>aB i h.p 0 [.y a,.z c,.y f] λa=>∀c:W->Pw,(∀(a:W)(b:J),(bif a then K G b else d (qf.wrap (e+1)) b)->c a b)->(Dr a λa=>bif !g then c Z a else ax a h.p 0 [.u,.o,.u] λ(d f g:O)=>∃h,b=S h/\∃b,a.s (h.add 4) b/\∃h,b.a=S h/\0<=e/\e<(b.len:O)/\ax a (h.add (e.toNat*3)) 0 [.u,.o,.u] λ(b e h:O)=>∃i,vl qe .neq 98 (.tmp 107) (.tmp 114) (.agg #[.y d,.z f,.y g]) (.agg #[.y b,.z e,.y h]) i/\c i a)) f else ∀d:O->Pw,(∀(e:O)(f:J),(∃g,b=S g/\∃h,f.s (g.add 5) h/\bif V (e<(h.len:O))then Ss a e (λa c f=>∃g,b=S g/\∃b,f.s (g.add 5) b/\∃g,b.a=S g/\0<=e/\e<(b.len:O)/\∃b,f.q (g.add (e.toNat*1)) b/\Su b (λb f g=>∀h:W->Pw,(∀(a:W)(b:J),(bif a then K G b else d (qf.wrap (e+1)) b)->h a b)->(Sv a b (λa b=>bif !a then h Z b else h (!(c==f)) b) g)) f) f else ∀d:O->Pw,(∀(e:O)(f:J),(∃g,b=S g/\∃h,f.s (g.add 6) h/\bif V (e<(h.len:O))then Sw a e (λa c f=>∃g,b=S g/\∃b,f.s (g.add 6) b/\∃g,b.a=S g/\0<=e/\e<(b.len:O)/\∃b,f.q (g.add (e.toNat*1)) b/\Rf b (λb f g=>∀h:W->Pw,(∀(a:W)(b:J),(bif a then K G b else d (qf.wrap (e+1)) b)->h a b)->(bif a !=b then h Z g else h (!(c==f)) g)) f) f else ∀d:O->Pw,(∀(e:O)(f:J),(∃g,b=S g/\∃h,f.s (g.add 7) h/\bif V (e<=(h.len:O))then A2 f [] 204 λg h=>∃i,b=S i/\∃j,h.s (i.add 7) j/\∀i:Sl->Pw,(∀(b:Sl)(c:J),(Sx a e (λa c=>Sj a b (λa b=>bif !a then K G b else d (qf.wrap (e+1)) b) c) c)->i b c)->(bif V (e<(j.len:O))then ∃a,b=S a/\∃b,h.s (a.add 7) b/\∃a,b.a=S a/\0<=e/\e<(b.len:O)/\∃b,h.q (a.add (e.toNat*1)) b/\Qr b (λa b=>i a b) h else i ⟨S g.p,0,0⟩ h)else ∀d:O->Pw,(∀(e:O)(f:J),(bif V (e<=c)then Rg a e (λa c f=>∃g,b=S g/\∃b,f.q (g.add 2) b/\OZ b e (λb f g=>∀h:W->Pw,(∀(a:W)(b:J),(bif a then K G b else d (qf.wrap (e+1)) b)->h a b)->(bif a !=b then h Z g else h (!(c==f)) g)) f) f else K Z f)->d e f)->d 0 f)->d e f)->d 0 f)->d e f)->d 0 f)->d e f)->d 0 f)->d e f)->d 0 f)->d e f)->d 0 f)->d e f)->(Dr w λc=>∃e,b=S e/\∃f,c.q e f/\(Qv a (λc g=>g.q e f/\(Q7 f (λe f=>(Si c e (λc e=>bif !c then((d Z e)/\I)/\(((d Z e)/\I)/\(((d Z e)/\I)/\I)/\I)/\I else ∃c,b=S c/\(Qw a (λa b=>∃e,b.q (c.add 1) e/\∃c,e=S c/\∃e,b.s c e/\(P5 a e (λa b=>d (!a) b) b)/\I) e)/\(∃b,e.q (c.add 1) b/\∃c,b=S c/\(Qw a (λa b=>∃e,b.s c e/\(P5 a e (λa b=>d (!a) b) b)/\I) e)/\(∃b,e.s c b/\(Qw a (λa c=>(P5 a b (λa b=>d (!a) b) c)/\I) e)/\I)/\I)/\I) f)/\I) g)/\I) c)/\I)):=aj func9 (.v (.y (.y (.r (S [(53,.c .b)]) (.o 0 60 (.o 2 2 (.o 3 2 (.o 4 2 (.hold 5 2 3667775 (.e 1 (.e 6 (.e 7 (.o 8 0 (.o 9 0 (.o 10 520192 (.o 12 2048 (.o 13 2048 (.o 14 2048 (.f 11 (.o 15 0 (.o 16 0 (.o 17 0 (.o 18 0 .Kk)))) (.e 15 (.o 16 2048 (.o 17 2048 (.f 11 (.o 18 0 .Kk) (.e 18 (.e 11 .Kk)))))))))))))))))))))) (.x .w)) (.y (.v (.x (.t (S [(7,.c (.i .i64))]) (.y (.v .w) (.x (.x (.v (.v (.y (.r (S [(88,.c .b)]) .done) (.x .w))))))) .u))) (.y (.v (.x (.t (S [(12,.c (.i .i64))]) (.y (.v .w) (.x (.x (.v (.y (.r (S [(116,.c .b)]) (.o 0 0 (.o 1 0 (.o 2 0 (.o 3 2032 (.o 4 256 (.o 5 256 (.o 6 256 (.o 7 256 (.o 8 0 (.o 9 0 (.o 10 0 (.o 11 0 (.o 12 0 .done)))))))))))))) (.x .w)))))) .u))) (.y (.v (.x (.t (S [(15,.c (.i .i64))]) (.y (.v .w) (.x (.x (.v (.v (.y (.r (S [(151,.c .b)]) .done) (.x .w))))))) .u))) (.y (.v (.x (.t (S [(20,.c (.i .i64))]) (.y (.v .w) (.x (.x (.v (.v (.y (.r (S [(185,.c .b)]) .done) (.x .w))))))) .u))) (.y (.v (.x (.t (S [(25,.c (.i .i64))]) (.y (.v .w) (.x (.x (.v (.y (.v (.t (S [(26,.c .s)]) .u .u)) (.v (.x .w))))))) .u))) (.y (.v (.x (.t (S [(27,.c (.i .i64))]) (.y (.v .w) (.x (.x (.v (.v (.y (.r (S [(244,.c .b)]) .done) (.x .w))))))) .u))) .w))))))))
theorem aax{K w}:Fr (Sg K w) (UY (λa b c d e=>Qq a b c d (λa b c=>∀d:W->Pw,(∀(b:W)(c:J),(bif b then K G c else OF a 0 0 1 20 4 0 1 (λb c d e f=>A2 f [.z 0,.y 0,.z 0,.slice N 0 0] 42 λf g=>aB g f.p 0 [.z b,.y c,.z d,e.v] λb=>OF a 0 1 20 21 2 7 0 (λb c d e g=>A2 g [.z 0,.y 0,.z 0,.slice N 0 0] 42 λg h=>aB h g.p 0 [.z b,.y c,.z d,e.v] λb=>OF a 0 9 21 0 0 0 0 (λb c d e h=>A2 h [.z 0,.y 0,.z 0,.slice N 0 0] 42 λh i=>aB i h.p 0 [.z b,.y c,.z d,e.v] λb=>Qv a (λb c=>OF a 0 4 1 0 0 0 0 (λc d e i j=>A2 j [.z 0,.y 0,.z 0,.slice N 0 0] 42 λj k=>aB k j.p 0 [.z c,.y d,.z e,i.v] λc=>OF a 0 18 0 0 0 0 0 (λc d e i k=>A2 k [.z 0,.y 0,.z 0,.slice N 0 0] 42 λk l=>aB l k.p 0 [.z c,.y d,.z e,i.v] λc=>OF a 1 0 0 0 0 0 0 (λc d e i l=>A2 l [.z 0,.y 0,.z 0,.slice N 0 0] 42 λl m=>aB m l.p 0 [.z c,.y d,.z e,i.v] λc=>Re a 0 (λc d e i m=>A2 m [.y 0,.z 0,.y 0] 98 λm n=>aB n m.p 0 [.y c,.z d,.y e] λc=>OF a 0 6 2 0 0 0 0 (λc d e n o=>A2 o [.z 0,.y 0,.z 0,.slice N 0 0] 42 λo p=>aB p o.p 0 [.z c,.y d,.z e,n.v] λc=>OF a 0 17 0 0 0 0 0 (λc d e n p=>A2 p [.z 0,.y 0,.z 0,.slice N 0 0] 42 λp q=>aB q p.p 0 [.z c,.y d,.z e,n.v] λc=>Qq 0 0 0 z0 (λ_ c d=>∃e,d.z f.p e/\bif e==0 then ∃e,d.z (f.p.add 2) e/\bif e==(-1)then ∃e,d.z g.p e/\bif e==0 then ∃e,d.z h.p e/\bif e==181 then bif (b.len:O)==8 then ∃b,d.z j.p b/\bif b==0 then ∃b,d.y (j.p.add 1) b/\bif b==2 then Qv a (λa b=>bif (a.len:O)==6 then ∃a,b.z k.p a/\bif a==180 then ∃a,b.z l.p a/\bif a==182 then ax b m.p 0 [.u,.o,.u] λ(a d e:O)=>∃f,vl qe .eql 98 (.tmp 113) (.tmp 114) (.agg #[.y a,.z d,.y e]) (.agg #[.y 0,.z 10,.y 0]) f/\bif f then bif i then ∃a,b.z o.p a/\bif a==0 then ∃a,b.z p.p a/\bif a==182 then K (c==1) b else K G b else K G b else K G b else K G b else K G b else K G b else K G b) d else K G d else K G d else K G d else K G d else K G d else K G d else K G d) c) c) c) c) c) c) c) b) b) b) c)->d b c)->(bif a.isNone then d Z c else d (b !=0) c)) e) w):=aj func18 (.v (.v (.y .Kd .K7)))
theorem aay{K w}:Fr (UY K w) (A2 w [.z 0,.z 0,.z 0,.slice N 0 0] 24 λa b=>A2 b [.z 5] 3 λb c=>aB c a.p 0 [.z 1,.z 10,.z 2,.slice (S b.p) 1 1] λb=>ax b a.p 0 [.o,.o,.o,.s] λ(a c d:O)(e:Sl)=>K a c d e b):=aj func91 (.v .w)
namespace Th
section
variable{B:X}{w0 w:J}{R L:Y aH}{b:X}{m m1:Mt}
theorem pO:∀{L:Y aH}{i:X}{a:aH},L[i]?=S a->(a::L.eraseIdx i).Perm L
 |x::L,0,a,h=>by simp at h;subst h;exact List.Perm.refl _
 |x::L,i+1,a,h=>(List.Perm.swap x a _).trans ((pO (L:=L) (i:=i) (by simpa using h)).cons x)
theorem vD{b1:X}{aby:Qs}{K:qh qg->Pw}(i:X)(hi:L[i]?=S (aD b1 aby))(h:Ow B w0 w L)(hK:∀b' w',Ow B w0 w' (aD b' aby::L)->K b'.o w'):Ru b1.o K w:=by
 refine lR (h.take i hi) λb' w h=>hK b' w (h.perm (List.Perm.cons _ ?_));exact pO hi
theorem CE{s:Sl}{xs:Y rj}{K:Sl->Pw}[abw:cu s L rj ff xs](h:Ow B w0 w L)(hbig:xs.length<=1000000)(hK:∀s' w',Ow B w0 w' (af ff s' xs::L)->K s' w'):TE s K w:=by
 apply Vy;have hlen:=h.aL s;cases hn:s.a with
 |none=>
  refine bh U ?_;have hx:xs= []:=by
   cases xs with
   |nil=>rfl
   |cons x xs=>obtain⟨_,_,ha,_⟩:=h.get abw.i abw.at_ (j:=0) (x:=x) U;rw[hn]at ha;cases ha
  subst hx;exact hK _ w (Ow.cZ h)
 |some a=>
  refine bc U ?_;refine h.a λb w' h=>?_;have h2:Ow B w0 w' (af ff ⟨S b.p,0,0⟩ []::L):=Ow.empty h;have hx2:=h2.sR (abw.i+1) (by simpa using abw.at_)
  (try rw[<-hn])
  exact Ow.app (s:=⟨S b.p,0,0⟩) (xs:=[]) (ys:=xs) aaO (show qe.info? 139=S qS from by kernel_rfl) (zv:=(qS.zero).get qa) qa qa qa qb h2 0 U hx2 hlen (by
   have e:qS.bytes=96:=qa
   rw[e,List.length_nil];omega) λs' w _ h=>hK _ w h
theorem vI{K:qh qg->Pw}(hm:fH m)(h:Ow B w0 w (bu b m::R))(hK:∀b' w',Ow B w0 w' (bu b' m::bu b m::R)->K b'.o w'):SL b.o K w:=by
 apply Yz;have hfew:=hm.eC;have hmost:=hm.Fv;have hcr:=hm.jk;obtain⟨l,q,r,bs,hbs,h⟩:=h.ym;have hql:=h.aL q;refine h.dr λw h=>?_;refine⟨_,U,l,h.aF U,_,U,r,h.aE U,Go.Vc.a2 (CE (s:=l) h om λr7 w h=>⟨h.aE U,Go.Vc.a2 ?_⟩)⟩
 refine fJ (xs:=m.runs) h (h.sR 4 U) (h.len 4 U) om λr9 w h=>Go.Vc.a2 ?_;refine h.a λt w2 h=>?_;refine⟨_,U,q,h.aE U,?_⟩;intro l14 hl14;have h:Ow B w0 w2 (af dO z0 []::_):=Ow.cZ h;have loop:∀(k j:X)(qn:Sl)(bs2:Y X)(w:J),j+k=m.qs.length->bs2.length=j->Ow B w0 w (aa t [bg r7,bg qn,bg r9]::af dO qn bs2::af ff r7 m.br::af aq r9 m.runs::aa b [bg l,bg q,bg r]::af ff l m.br::af dO q bs::af aq r m.runs::(Lx aD bs m.qs++(Lx aD bs2 (m.qs.take j)++R)))->l14 (j:O) w:=by
  intro k;induction k with
  |zero=>
   intro j qn bs2 w hj hbs2 h;apply hl14;refine aw om ?_;rw[Lz om]at h;have p1:=(List.perm_append_comm (l₁:=[aa t [bg r7,bg qn,bg r9],af ff r7 m.br,af dO qn bs2,af aq r9 m.runs]) (l₂:=[aa b [bg l,bg q,bg r],af ff l m.br,af dO q bs,af aq r m.runs]++Lx aD bs m.qs)).append_right (Lx aD bs2 m.qs++R);rw[LN ([aa b [bg l,bg q,bg r],af ff l m.br,af dO q bs,af aq r m.runs]++Lx aD bs m.qs),LN [aa b [bg l,bg q,bg r],af ff l m.br,af dO q bs,af aq r m.runs]]at p1;have h:Ow B w0 w (aa t [bg r7,bg qn,bg r9]::af ff r7 m.br::af dO qn bs2::af aq r9 m.runs::aa b [bg l,bg q,bg r]::af ff l m.br::af dO q bs::af aq r m.runs::(Lx aD bs m.qs++(Lx aD bs2 m.qs++R))):=h.perm ((List.Perm.swap _ _ _).cons _);have h2:=h.perm p1;have h3:Ow B w0 w (bu b m::([aa t [bg r7,bg qn,bg r9],af ff r7 m.br,af dO qn bs2,af aq r9 m.runs]++(Lx aD bs2 m.qs++R))):=Ow.bU hbs h2;have p2:PU (bu b m::([aa t [bg r7,bg qn,bg r9],af ff r7 m.br,af dO qn bs2,af aq r9 m.runs]++(Lx aD bs2 m.qs++R))) ([aa t [bg r7,bg qn,bg r9],af ff r7 m.br,af dO qn bs2,af aq r9 m.runs]++(Lx aD bs2 m.qs++(bu b m::R))):=by rw[<-LN,<-LN];exact Ml.symm
   exact hK t w (Ow.bU om (h3.perm p2))
  |succ k ih=>
   intro j qn bs2 w hj hbs2 h;apply hl14;refine az om ?_;obtain⟨b1,hb1⟩:∃x,bs[j]?=S x:=⟨_,gE om⟩
   obtain⟨aby,hQ⟩:∃x,m.qs[j]?=S x:=⟨_,gE om⟩
   refine h.cz (s:=q) (i:=(j:O)) (j:=j) U hb1 λa ha h0 hc=>⟨_,h0 _ U,?_⟩
   refine h.dr λw h=>?_;refine⟨_,U,qn,h.aE U,Go.Vc.a2 (vD (8+j) (b1:=b1) (aby:=aby) ?_ h λb' w h=>?_)⟩
   .have hz:(Lx aD bs m.qs++(Lx aD bs2 (m.qs.take j)++R))[j]?=S (aD b1 aby):=by rw[LI (by simp;omega),List.getElem?_zipWith,hb1,hQ]
    rw[Nat.add_comm];simpa using hz
   refine⟨h.aE U,Go.Vc.a2 (h.a λd3 w3 h=>?_)⟩;refine Go.Vc.a2 ?_;refine yA (s:=qn) (ys:=bs2) (y:=b') h om λq' w hq' h=>?_;refine⟨_,U,Go.Vc.a2 (h.fK U U λw h=>?_)⟩;rw[wI j om];refine ih (j+1) q' (bs2++ [b']) w om (by simp[hbs2]) ?_;have ez:Lx aD (bs2++ [b']) (m.qs.take (j+1))=Lx aD bs2 (m.qs.take j)++ [aD b' aby]:=by rw[LJ,hQ,Option.toList_some,List.zipWith_append (by simp;omega)];rfl
   rw[ez];have h2:Ow B w0 w (aa t [bg r7,q'.v,bg r9]::af dO q' (bs2++ [b'])::af ff r7 m.br::af aq r9 m.runs::aa b [bg l,bg q,bg r]::af ff l m.br::af dO q bs::af aq r m.runs::aD b' aby::(Lx aD bs m.qs++(Lx aD bs2 (m.qs.take j)++R))):=h.sub;refine h2.perm ?_;have p:PU (aD b' aby::(Lx aD bs m.qs++(Lx aD bs2 (m.qs.take j)++R))) (Lx aD bs m.qs++(Lx aD bs2 (m.qs.take j)++ [aD b' aby]++R)):=by have:=(Ml (a:=aD b' aby) (l₁:=Lx aD bs m.qs++Lx aD bs2 (m.qs.take j)) (l₂:=R)).symm;simpa [LN]using this
   exact(((((((p.cons _).cons _).cons _).cons _).cons _).cons _).cons _).cons _
 refine loop m.qs.length 0 z0 [] w2 om U ?_;simp only[List.zipWith_nil_left,Mw];have h5:Ow B w0 w2 (aa t [r7.v,.slice N 0 0,r9.v]::af dO z0 []::af ff r7 m.br::af aq r9 m.runs::aa b [bg l,bg q,bg r]::af ff l m.br::af dO q bs::af aq r m.runs::(Lx aD bs m.qs++R)):=h.sub;exact h5
end
end Th
end Go.Vc
namespace Go.Vc
open Go.ChangeShapes Go.WideShapes
section
variable{H:Type}{enc:qi × Q->H}{P:qq}{held:W}
theorem E7:∀cs,Fits [.int .i64] cs->∃x,cs=aq.enc x/\(Lit.int .i64 x).wf=true:=λcs h=>by obtain⟨_,_,rfl,⟨a,rfl,ha⟩,h1⟩:=h.dj;obtain rfl:=h1.Ch;exact⟨a,U,ha⟩
theorem GD{t e:qi}{f0 f1 f2 f3:Field}{abt:J}{sp:X->W}{v:Q}{dd:DataW H}{ps:Y MemPlace}{r:Reach}{b0:X}(ht:P.underlying t=S (.struct #[f0,f1,f2,f3]))
  (h0:P.underlying f0.type=S (.int .i64)) (h1:P.underlying f1.type=S (.int .i64)) (h2:P.underlying f2.type=S (.int .i64)) (h3:P.underlying f3.type=S (.slice e))
  (o0:f0.offset=0) (o1:f1.offset=1) (o2:f2.offset=2) (o3:f3.offset=3) (c0:P.cellsOf f0.type=1) (c1:P.cellsOf f1.type=1) (c2:P.cellsOf f2.type=1) (c3:P.cellsOf f3.type=1) (hc:P.cellsOf t=4)
  (hval:Value.okWide P abt r b0 t v) (h:DataW.Trod enc P abt 0 sp held t v dd ps):
  ∃(x0 x1 x2:O)(s:Sl)(d:DataW H)(p:Y MemPlace),v= .agg #[.z x0,.z x1,.z x2,s.v]/\(Lit.int .i64 x0).wf=Z/\(Lit.int .i64 x1).wf=Z/\(Lit.int .i64 x2).wf=Z/\DataW.Trod enc P abt 0 sp held f3.type s.v d p:=by
 obtain⟨cs,rfl,hsz⟩:=okWide_struct ht hval;obtain⟨x0,x1,x2,x3,rfl⟩:∃x0 x1 x2 x3,cs= #[x0,x1,x2,x3]:=by
  obtain⟨l⟩:=cs
  match l,(hsz.trans hc)with
  | [c0,c1,c2,c3],_=>exact⟨c0,c1,c2,c3,U⟩
 obtain⟨fuel,hf⟩:=h;obtain⟨xs,n,_,_,hl,hlen,hfs⟩:=DataW.trod_struct ht hf
 match xs,hlen with
 | [y0,y1,y2,y3],_=>
  have g0:=hfs 0 f0 U;have g1:=hfs 1 f1 U;have g2:=hfs 2 f2 U;have g3:=hfs 3 f3 U;simp only[o0,o1,o2,o3,c0,c1,c2,c3,Value.cells]at g0 g1 g2 g3;simp at g0 g1 g2 g3;obtain⟨n0,e0,_,w0⟩:=DataW.trod_int h0 g0;obtain⟨n1,e1,_,w1⟩:=DataW.trod_int h1 g1;obtain⟨n2,e2,_,w2⟩:=DataW.trod_int h2 g2;obtain⟨a3,l3,k3,e3⟩:=Go.Joins.slice_form h3 g3;simp only[List.cons.injEq,and_true]at e0 e1 e2 e3;subst e0;subst e1;subst e2;subst e3;exact⟨n0,n1,n2,⟨a3,l3,k3⟩,y3.1,y3.2,U,w0,w1,w2,⟨n,by simpa [Value.cells]using g3⟩⟩
end
end Go.Vc
