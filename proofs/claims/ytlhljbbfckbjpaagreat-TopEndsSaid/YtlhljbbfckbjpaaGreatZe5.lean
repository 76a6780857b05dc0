/- What the row rests on: the declarations that it needs, out of my texts (part 5). -/
import Derived.Test.YtlhljbbfckbjpaaGreatZe4
set_option linter.unusedVariables false
set_option linter.unusedSimpArgs false
set_option linter.unusedSectionVars false
section
set_option maxRecDepth 8000
namespace Go.Proofs.YtlhljbbfckbjpaaGreat.Tr
open Go Go.Vc Go.Proofs
abbrev Tr:=List fE
def bR (T:Tr) (s:Slot):Option Nat:=T.findIdx? fun x=>decide (x.1=s)
def y9 (T:Tr) (i:Nat):Int:=match T[i]? with|some x=>x.2|none=>0
def eB (T:Tr) (i:Nat):Nat:=i+1+((T.drop (i+1)).takeWhile fun x=>decide (y9 T i<x.2)).length
def yV:Int->Tr->Prop
 |_,[]=>True
 |p,x::T=>0≤x.2/\x.2≤p+1/\yV x.2 T
structure tY (T:Tr):Prop where
 gT:T.length≤1000000
 wf:yV (-1) T
 nd:(T.map (·.1)).Nodup
def ve (T:Tr) (s:Slot):Int × Tr:=match bR T s with|some _=>(70,T)|none=>(0,T++ [(s,0)])
def BL (T:Tr) (p s:Slot):Int × Tr:=match bR T p with
 |none=>(71,T)
 |some i=>match bR T s with|some _=>(70,T)|none=>(0,T.take (i+1)++ [(s,y9 T i+1)]++T.drop (i+1))
def gI (l:Tr):Tr:=l.map fun x=>(x.1,x.2-1)
def takeN (T:Tr) (s:Slot):Int × Tr:=match bR T s with
 |none=>(71,T)
 |some i=>(0,T.take i++(gI ((T.drop (i+1)).take (eB T i-(i+1)))++T.drop (eB T i)))
def fk (T:Tr) (f t:Slot):Int × Tr:=match bR T f with
 |none=>(71,T)
 |some i=>match bR T t with|some _=>(70,T)|none=>(0,T.set i (t,y9 T i))
def db (T:Tr) (s:Slot):List Slot:=match bR T s with
 |none=>[]
 |some i=>((T.drop (i+1)).take (eB T i-(i+1))).map (·.1)
theorem Bo:∀(T:Tr) (p:Int) (i:Nat) (x:fE), -1≤p->yV p T->T[i]?=some x->0≤x.2/\x.2≤p+1+(i:Int)
 | [],_,i,x,_,_,h=>by simp at h
 |y::T,p,0,x,hp,hw,h=>by
  simp only[List.getElem?_cons_zero,Option.some.injEq] at h;subst h;exact ⟨hw.1,by have:=hw.2.1;omega⟩
 |y::T,p,i+1,x,hp,hw,h=>by
  rw[List.getElem?_cons_succ] at h;have h1:=hw.1;have h2:=hw.2.1;have:=Bo T y.2 i x om hw.2.2 h;omega
theorem tY.wX {T:Tr} (h:tY T) {i:Nat} {x:fE} (hx:T[i]?=some x):0≤x.2/\x.2≤1000000:=by
 have h1:=Bo T (-1) i x om h.wf hx;have h2:=(List.getElem?_eq_some_iff.1 hx).1;have h3:=h.gT;omega
theorem eo {T:Tr} {s:Slot} {i:Nat} (h:bR T s=some i):∃x,T[i]?=some x/\x.1=s:=by
 unfold bR at h;obtain ⟨h1,h2,_⟩:=List.findIdx?_eq_some_iff_getElem.1 h;exact ⟨T[i],gE h1,by simpa using h2⟩
theorem np {T:Tr} {s:Slot} (h:bR T s=none):∀x∈T,x.1≠s:=by
 unfold bR at h;rw[List.findIdx?_eq_none_iff] at h;intro x hx;simpa using h x hx
theorem jY {T:Tr} {i:Nat} {x:fE} (h:T[i]?=some x):y9 T i=x.2:=by unfold y9;rw[h]
theorem vR (T:Tr) {i:Nat} (hi:i<T.length):i<eB T i/\eB T i≤T.length:=by
 unfold eB;have:((T.drop (i+1)).takeWhile fun x=>decide (y9 T i<x.2)).length≤(T.drop (i+1)).length:=(List.takeWhile_sublist _).length_le;rw[List.length_drop] at this;omega
theorem Cb (T:Tr) (s:Slot):cN (fun x:fE=>decide (x.1=s)) T=match bR T s with|some i=>(i:Int)|none=> -1:=rfl
def bB (b:Nat) (T:Tr):aA:=pV fun s:Sl=>bh [dX (tY T),aa b [eT s],ah aS s T]
section
variable {B:Nat} {w0 w:World} {R L:List aA} {b:Nat} {T:Tr}
theorem _root_.Go.Vc.Ow.tree (h:Ow B w0 w (bB b T::R)):∃s,tY T/\Ow B w0 w (ah aS s T::aa b [eT s]::R):=by
 obtain ⟨s,h⟩:=h.ex;obtain ⟨h1,h⟩:=Ow.pure h.star;exact ⟨s,h1,Ow.dz h⟩
theorem _root_.Go.Vc.Ow.fh {s:Sl} (h1:tY T) (h:Ow B w0 w (ah aS s T::aa b [eT s]::R)):Ow B w0 w (bB b T::R):=
 Ow.eP s (Ow.aY (Ow.dN h1 (Ow.dz h)))
theorem jr {K:Option Addr->Pw} (h:Ow B w0 w R) (hK:∀b w',Ow B w0 w' (bB b []::R)->K (some ⟨b,0,none⟩) w'):C.qdA K w:=by
 apply S.qdA0;refine h.al fun w1 h=>?_
 exact hK _ w1 (Ow.fh (s:=⟨none,0,0⟩) ⟨by simp,trivial,by simp⟩ (Ow.dK h))
theorem eu {s:Sl} {x:Slot} {K:Int->Pw} (hT:tY T) (h:Ow B w0 w (ah aS s T::aa b [eT s]::R)) (hK:∀w',Ow B w0 w' (ah aS s T::aa b [eT s]::R)->K (match bR T x with|some i=>(i:Int)|none=> -1) w'):
  C.qU (some ⟨b,0,none⟩) x.1 x.2 K w:=by
 apply S.qU0;refine h.a fun c w1 h=>?_
 (repeat (first|(refine h.al fun w h=>?_)|(refine h.dr fun w h=>?_)|(refine h.aL rfl ?_)|(refine h.aV rfl ?_)|(refine ⟨_,h.aq rfl, ?_⟩)|(refine ⟨_,h.ao rfl, ?_⟩)|(refine h.hd rfl ?_)|(refine ⟨h.aq rfl, ?_⟩)|(refine ⟨h.ao rfl, ?_⟩)|(refine h.ax rfl rfl fun w h=>?_)|(refine eC ?_)|(refine _root_.Go.Vc.a2 ?_)|(refine h.dy rfl rfl fun w h=>?_)|(refine h.cC rfl rfl fun w h=>?_)))
 refine sd (L:=aa c [.z x.1, .z x.2]::ah aS s T::aa b [eT s]::R) (xs:=T) (p:=fun y=>decide (y.1=x)) h (by have:=hT.gT;omega) (fun y w Q h hQ=>?_) fun w h=>?_
 ·refine aP ?_
  have hA:C.qch y.1.1 y.1.2 y.2 (Addr.mk c 0 none) Q w:=by
   apply S.qch0
   (repeat (first|(refine h.al fun w h=>?_)|(refine h.dr fun w h=>?_)|(refine h.aL rfl ?_)|(refine h.aV rfl ?_)|(refine ⟨_,h.aq rfl, ?_⟩)|(refine ⟨_,h.ao rfl, ?_⟩)|(refine h.hd rfl ?_)|(refine ⟨h.aq rfl, ?_⟩)|(refine ⟨h.ao rfl, ?_⟩)|(refine h.ax rfl rfl fun w h=>?_)|(refine eC ?_)|(refine _root_.Go.Vc.a2 ?_)|(refine h.dy rfl rfl fun w h=>?_)|(refine h.cC rfl rfl fun w h=>?_)))
   refine ⟨_,HQ y.1 x, ?_⟩;exact hQ _ h.sub
  exact hA
 ·rw[Cb]
  exact hK _ h.sub
theorem tB {s:Sl} {i:Nat} {K:Int->Pw} (hT:tY T) (hi:i<T.length) (h:Ow B w0 w (ah aS s T::aa b [eT s]::R)) (hK:∀w',Ow B w0 w' (ah aS s T::aa b [eT s]::R)->K ((eB T i:Nat):Int) w'):
  C.qcu (some ⟨b,0,none⟩) (i:Int) K w:=by
 apply S.qcu0;have hlen:=h.br s;have hfew:=hT.gT;obtain ⟨xi,hxi⟩:∃x,T[i]?=some x:=⟨_,gE hi⟩
 intro l hl
 have loop:∀(rest:Tr) (k:Nat) (w:World),T.drop k=rest->k≤T.length->i<k->k+(rest.takeWhile fun x=>decide (y9 T i<x.2)).length=eB T i->Ow B w0 w (ah aS s T::aa b [eT s]::R)->l (k:Int) w:=by
  intro rest
  induction rest with
  |nil=>
   intro k w hk hkl hik he h;have:T.length≤k:=by have:=congrArg List.length hk;simp at this;omega
   apply hl
   (repeat (first|(refine h.al fun w h=>?_)|(refine h.dr fun w h=>?_)|(refine h.aL rfl ?_)|(refine h.aV rfl ?_)|(refine ⟨_,h.aq rfl, ?_⟩)|(refine ⟨_,h.ao rfl, ?_⟩)|(refine h.hd rfl ?_)|(refine ⟨h.aq rfl, ?_⟩)|(refine ⟨h.ao rfl, ?_⟩)|(refine h.ax rfl rfl fun w h=>?_)|(refine eC ?_)|(refine _root_.Go.Vc.a2 ?_)|(refine h.dy rfl rfl fun w h=>?_)|(refine h.cC rfl rfl fun w h=>?_)))
   refine aE om ?_;have:k=eB T i:=by simpa using he
   rw[this];exact hK _ h
  |cons y rest ih=>
   intro k w hk hkl hik he h;have hkl2:k<T.length:=by have:=congrArg List.length hk;simp at this;omega
   have hx:T[k]?=some y:=by
    have:=congrArg (fun l=>l[0]?) hk;simpa using this
   apply hl
   (repeat (first|(refine h.al fun w h=>?_)|(refine h.dr fun w h=>?_)|(refine h.aL rfl ?_)|(refine h.aV rfl ?_)|(refine ⟨_,h.aq rfl, ?_⟩)|(refine ⟨_,h.ao rfl, ?_⟩)|(refine h.hd rfl ?_)|(refine ⟨h.aq rfl, ?_⟩)|(refine ⟨h.ao rfl, ?_⟩)|(refine h.ax rfl rfl fun w h=>?_)|(refine eC ?_)|(refine _root_.Go.Vc.a2 ?_)|(refine h.dy rfl rfl fun w h=>?_)|(refine h.cC rfl rfl fun w h=>?_)))
   refine aR om ?_
   (repeat (first|(refine h.al fun w h=>?_)|(refine h.dr fun w h=>?_)|(refine h.aL rfl ?_)|(refine h.aV rfl ?_)|(refine ⟨_,h.aq rfl, ?_⟩)|(refine ⟨_,h.ao rfl, ?_⟩)|(refine h.hd rfl ?_)|(refine ⟨h.aq rfl, ?_⟩)|(refine ⟨h.ao rfl, ?_⟩)|(refine h.ax rfl rfl fun w h=>?_)|(refine eC ?_)|(refine _root_.Go.Vc.a2 ?_)|(refine h.dy rfl rfl fun w h=>?_)|(refine h.cC rfl rfl fun w h=>?_)))
   refine h.dZ rfl hx fun a ha h0 hc=>⟨_,hc 2 _ rfl, ?_⟩
   (repeat (first|(refine h.al fun w h=>?_)|(refine h.dr fun w h=>?_)|(refine h.aL rfl ?_)|(refine h.aV rfl ?_)|(refine ⟨_,h.aq rfl, ?_⟩)|(refine ⟨_,h.ao rfl, ?_⟩)|(refine h.hd rfl ?_)|(refine ⟨h.aq rfl, ?_⟩)|(refine ⟨h.ao rfl, ?_⟩)|(refine h.ax rfl rfl fun w h=>?_)|(refine eC ?_)|(refine _root_.Go.Vc.a2 ?_)|(refine h.dy rfl rfl fun w h=>?_)|(refine h.cC rfl rfl fun w h=>?_)))
   refine h.dZ rfl hxi fun a ha h0 hc=>⟨_,hc 2 _ rfl, ?_⟩
   refine dD (fun e=>?_) (fun e=>?_)
   ·rw[wr om om]
    refine ih (k+1) _ (by rw[←List.drop_drop,hk];rfl) om om ?_ h;rw[List.takeWhile_cons_of_pos (by rw[jY hxi];simpa using e)] at he;simp at he;omega
   ·rw[List.takeWhile_cons_of_neg (by rw[jY hxi];simpa using e)] at he
    have:k=eB T i:=by simpa using he
    rw[this];exact hK _ h
 rw[wI i om];exact loop _ (i+1) w rfl om om rfl h
theorem tY.root {s:Slot} (hT:tY T) (hl:T.length<1000000) (h:bR T s=none):tY (T++ [(s,0)]):=by
 refine ⟨by simp;omega, ?_, ?_⟩
 ·have:∀(T:Tr) (p:Int), -1≤p->yV p T->yV p (T++ [(s,0)]):=by
   intro T
   induction T with
   |nil=>intro p hp _;exact ⟨by simp,by show (0:Int)≤p+1;omega,trivial⟩
   |cons x T ih=>intro p hp hw;exact ⟨hw.1,hw.2.1,ih _ (by have:=hw.1;omega) hw.2.2⟩
  exact this T _ om hT.wf
 ·rw[List.map_append,List.map_cons,List.map_nil,List.nodup_append]
  refine ⟨hT.nd,by simp,fun a ha c hc=>?_⟩;simp only[List.mem_singleton] at hc;subst hc;obtain ⟨x,hx,rfl⟩:=List.mem_map.1 ha;exact np h x hx
theorem tz {s:Slot} {K:Int->Pw} (hl:T.length<1000000) (h:Ow B w0 w (bB b T::R)) (hK:∀w',Ow B w0 w' (bB b (ve T s).2::R)->K (ve T s).1 w'):C.qcx (some ⟨b,0,none⟩) s.1 s.2 K w:=by
 apply S.qcx0;obtain ⟨sl,hT,h⟩:=h.tree;unfold ve at hK
 (repeat (first|(refine h.al fun w h=>?_)|(refine h.dr fun w h=>?_)|(refine h.aL rfl ?_)|(refine h.aV rfl ?_)|(refine ⟨_,h.aq rfl, ?_⟩)|(refine ⟨_,h.ao rfl, ?_⟩)|(refine h.hd rfl ?_)|(refine ⟨h.aq rfl, ?_⟩)|(refine ⟨h.ao rfl, ?_⟩)|(refine h.ax rfl rfl fun w h=>?_)|(refine eC ?_)|(refine _root_.Go.Vc.a2 ?_)|(refine h.dy rfl rfl fun w h=>?_)|(refine h.cC rfl rfl fun w h=>?_)))
 refine eu (x:=s) hT h.nC.nC fun w h=>?_
 cases hp:bR T s with
 |some i=>
  rw[hp] at hK;refine aR (by show (i:Int)≥0;omega) ?_;exact hK _ (Ow.fh hT h.E1)
 |none=>
  rw[hp] at hK;refine aE (by decide) ?_
  (repeat (first|(refine h.al fun w h=>?_)|(refine h.dr fun w h=>?_)|(refine h.aL rfl ?_)|(refine h.aV rfl ?_)|(refine ⟨_,h.aq rfl, ?_⟩)|(refine ⟨_,h.ao rfl, ?_⟩)|(refine h.hd rfl ?_)|(refine ⟨h.aq rfl, ?_⟩)|(refine ⟨h.ao rfl, ?_⟩)|(refine h.ax rfl rfl fun w h=>?_)|(refine eC ?_)|(refine _root_.Go.Vc.a2 ?_)|(refine h.dy rfl rfl fun w h=>?_)|(refine h.cC rfl rfl fun w h=>?_)))
  refine uz (xs:=T) (y:=(s,0)) h om fun s' w hs' h=>?_
  (repeat (first|(refine h.al fun w h=>?_)|(refine h.dr fun w h=>?_)|(refine h.aL rfl ?_)|(refine h.aV rfl ?_)|(refine ⟨_,h.aq rfl, ?_⟩)|(refine ⟨_,h.ao rfl, ?_⟩)|(refine h.hd rfl ?_)|(refine ⟨h.aq rfl, ?_⟩)|(refine ⟨h.ao rfl, ?_⟩)|(refine h.ax rfl rfl fun w h=>?_)|(refine eC ?_)|(refine _root_.Go.Vc.a2 ?_)|(refine h.dy rfl rfl fun w h=>?_)|(refine h.cC rfl rfl fun w h=>?_)))
  (try dsimp only[putAt,List.set_cons_zero,List.set_cons_succ] at h)
  exact hK _ (Ow.fh (s:=s') (hT.root hl hp) h.sub)
theorem oF:∀(A:Tr) (p:Int) (Q:Tr),yV p (A++Q)↔yV p A/\yV (match A.getLast? with|some x=>x.2|none=>p) Q
 | [],p,Q=>by simp[yV]
 |x::A,p,Q=>by
  simp only[List.cons_append,yV,oF A x.2 Q];cases hA:A with
  |nil=>simp[yV];constructor<;>(intro h;simp_all)
  |cons y A'=>
   rw[←hA];have:(x::A).getLast?=A.getLast?:=by rw[hA];simp
   rw[this];have h2:∃z,A.getLast?=some z:=by rw[hA];exact ⟨_,List.getLast?_eq_some_getLast (by simp)⟩
   obtain ⟨z,hz⟩:=h2;rw[hz];constructor
   ·rintro ⟨h1,h2,h3,h4⟩;exact ⟨⟨h1,h2,h3⟩,h4⟩
   ·rintro ⟨⟨h1,h2,h3⟩,h4⟩;exact ⟨h1,h2,h3,h4⟩
theorem yW {p q:Int} (hpq:p≤q):∀{T:Tr},yV p T->yV q T
 | [],_=>trivial
 |x::T,h=>⟨h.1,by have:=h.2.1;omega,h.2.2⟩
theorem uQ {T:Tr} {i:Nat} {x:fE} (h:T[i]?=some x):(T.take (i+1)).getLast?=some x:=by
 rw[List.getLast?_take,if_neg om,show i+1-1=i from rfl,h];rfl
theorem tY.add {p s:Slot} {i:Nat} (hT:tY T) (hl:T.length<1000000) (hp:bR T p=some i) (h:bR T s=none):tY (T.take (i+1)++ [(s,y9 T i+1)]++T.drop (i+1)):=by
 obtain ⟨x,hx,_⟩:=eo hp;have hi:=(List.getElem?_eq_some_iff.1 hx).1;have hr:=hT.wX hx;refine ⟨by simp;omega, ?_, ?_⟩
 ·have hw:=hT.wf
  have e:T=T.take (i+1)++T.drop (i+1):=(List.take_append_drop _ _).symm;rw[e,oF,uQ hx] at hw;rw[List.append_assoc,oF,uQ hx];refine ⟨hw.1, ?_⟩;rw[jY hx];exact ⟨by show 0≤x.2+1;omega,Int.le_refl _,yW (by show x.2≤x.2+1;omega) hw.2⟩
 ·have hn:=hT.nd
  have e:T=T.take (i+1)++T.drop (i+1):=(List.take_append_drop _ _).symm;rw[e,List.map_append] at hn;rw[List.append_assoc,List.map_append,List.map_append]
  have hnot:s∉T.map (·.1):=fun hm=>by
   obtain ⟨y,hy,hys⟩:=List.mem_map.1 hm;exact np h y hy hys
  rw[e,List.map_append,List.mem_append,not_or] at hnot;rw[List.nodup_append] at hn⊢;refine ⟨hn.1, ?_,fun a ha c hc=>?_⟩
  ·rw[List.map_cons,List.map_nil,List.singleton_append,List.nodup_cons]
   exact ⟨hnot.2,hn.2.1⟩
  ·rw[List.map_cons,List.map_nil,List.singleton_append,List.mem_cons] at hc
   rcases hc with rfl|hc
   ·intro e;subst e;exact hnot.1 ha
   ·exact hn.2.2 a ha c hc
theorem ur {p s:Slot} {K:Int->Pw} (hl:T.length<1000000) (h:Ow B w0 w (bB b T::R)) (hK:∀w',Ow B w0 w' (bB b (BL T p s).2::R)->K (BL T p s).1 w'):C.qcQ (some ⟨b,0,none⟩) p.1 p.2 s.1 s.2 K w:=by
 apply S.qcQ0;obtain ⟨sl,hT,h⟩:=h.tree;unfold BL at hK
 (repeat (first|(refine h.al fun w h=>?_)|(refine h.dr fun w h=>?_)|(refine h.aL rfl ?_)|(refine h.aV rfl ?_)|(refine ⟨_,h.aq rfl, ?_⟩)|(refine ⟨_,h.ao rfl, ?_⟩)|(refine h.hd rfl ?_)|(refine ⟨h.aq rfl, ?_⟩)|(refine ⟨h.ao rfl, ?_⟩)|(refine h.ax rfl rfl fun w h=>?_)|(refine eC ?_)|(refine _root_.Go.Vc.a2 ?_)|(refine h.dy rfl rfl fun w h=>?_)|(refine h.cC rfl rfl fun w h=>?_)))
 refine eu (x:=p) hT h.vr.vr fun w h=>?_
 cases hp:bR T p with
 |none=>
  rw[hp] at hK;refine aR (by decide) ?_;exact hK _ (Ow.fh hT h.H7.E1)
 |some i=>
  obtain ⟨x,hx,hxp⟩:=eo hp;have hr:=hT.wX hx;have hi:=(List.getElem?_eq_some_iff.1 hx).1;rw[hp] at hK;refine aE (by show ¬(i:Int)<0;omega) ?_
  (repeat (first|(refine h.al fun w h=>?_)|(refine h.dr fun w h=>?_)|(refine h.aL rfl ?_)|(refine h.aV rfl ?_)|(refine ⟨_,h.aq rfl, ?_⟩)|(refine ⟨_,h.ao rfl, ?_⟩)|(refine h.hd rfl ?_)|(refine ⟨h.aq rfl, ?_⟩)|(refine ⟨h.ao rfl, ?_⟩)|(refine h.ax rfl rfl fun w h=>?_)|(refine eC ?_)|(refine _root_.Go.Vc.a2 ?_)|(refine h.dy rfl rfl fun w h=>?_)|(refine h.cC rfl rfl fun w h=>?_)))
  refine eu (x:=s) hT h fun w h=>?_
  cases hs:bR T s with
  |some j=>
   simp only[hs] at hK;refine aR (by show (j:Int)≥0;omega) ?_;exact hK _ (Ow.fh hT h.H7.E1)
  |none=>
   simp only[hs] at hK;refine aE (by decide) ?_
   (repeat (first|(refine h.al fun w h=>?_)|(refine h.dr fun w h=>?_)|(refine h.aL rfl ?_)|(refine h.aV rfl ?_)|(refine ⟨_,h.aq rfl, ?_⟩)|(refine ⟨_,h.ao rfl, ?_⟩)|(refine h.hd rfl ?_)|(refine ⟨h.aq rfl, ?_⟩)|(refine ⟨h.ao rfl, ?_⟩)|(refine h.ax rfl rfl fun w h=>?_)|(refine eC ?_)|(refine _root_.Go.Vc.a2 ?_)|(refine h.dy rfl rfl fun w h=>?_)|(refine h.cC rfl rfl fun w h=>?_)))
   refine h.dZ rfl hx fun a ha h0 hc=>⟨_,hc 2 _ rfl, ?_⟩
   rw[show IntKind.i64.wrap (x.2+1)=y9 T i+1 from by rw[jY hx,wr om om]]
   (repeat (first|(refine h.al fun w h=>?_)|(refine h.dr fun w h=>?_)|(refine h.aL rfl ?_)|(refine h.aV rfl ?_)|(refine ⟨_,h.aq rfl, ?_⟩)|(refine ⟨_,h.ao rfl, ?_⟩)|(refine h.hd rfl ?_)|(refine ⟨h.aq rfl, ?_⟩)|(refine ⟨h.ao rfl, ?_⟩)|(refine h.ax rfl rfl fun w h=>?_)|(refine eC ?_)|(refine _root_.Go.Vc.a2 ?_)|(refine h.dy rfl rfl fun w h=>?_)|(refine h.cC rfl rfl fun w h=>?_)))
   show C.qn sl (IntKind.i64.wrap ((i:Int)+1)) _ _ _;rw[wI i om];refine xd (y:=(s,y9 T i+1)) h.dz om om fun s' w h=>?_
   (repeat (first|(refine h.al fun w h=>?_)|(refine h.dr fun w h=>?_)|(refine h.aL rfl ?_)|(refine h.aV rfl ?_)|(refine ⟨_,h.aq rfl, ?_⟩)|(refine ⟨_,h.ao rfl, ?_⟩)|(refine h.hd rfl ?_)|(refine ⟨h.aq rfl, ?_⟩)|(refine ⟨h.ao rfl, ?_⟩)|(refine h.ax rfl rfl fun w h=>?_)|(refine eC ?_)|(refine _root_.Go.Vc.a2 ?_)|(refine h.dy rfl rfl fun w h=>?_)|(refine h.cC rfl rfl fun w h=>?_)))
   (try dsimp only[putAt,List.set_cons_zero,List.set_cons_succ] at h)
   exact hK _ (Ow.fh (s:=s') (hT.add hl hp hs) h.H7.E1)
theorem Bp {s:Slot}:∀(T:Tr) (p:Int) (i:Nat) (x:fE),T[i]?=some x->yV p T->yV p (T.set i (s,x.2))
 | [],_,_,_,h,_=>by simp at h
 |y::T,p,0,x,h,hw=>by
  simp only[List.getElem?_cons_zero,Option.some.injEq] at h;subst h;exact hw
 |y::T,p,i+1,x,h,hw=>⟨hw.1,hw.2.1,Bp T y.2 i x (by simpa using h) hw.2.2⟩
theorem u7 {α:Type}:∀(l:List α) (i:Nat) (s:α),l.Nodup->s∉l->(l.set i s).Nodup
 | [],_,_,_,_=>by simp
 |a::l,0,s,hn,hs=>by
  rw[List.set_cons_zero,List.nodup_cons];exact ⟨fun h=>hs (List.mem_cons_of_mem _ h),(List.nodup_cons.1 hn).2⟩
 |a::l,i+1,s,hn,hs=>by
  rw[List.set_cons_succ,List.nodup_cons];rw[List.mem_cons,not_or] at hs;refine ⟨fun h=>?_,u7 l i s (List.nodup_cons.1 hn).2 hs.2⟩;rcases List.mem_or_eq_of_mem_set h with h|h
  ·exact (List.nodup_cons.1 hn).1 h
  ·exact hs.1 h.symm
theorem tY.move {f t:Slot} {i:Nat} (hT:tY T) (hp:bR T f=some i) (h:bR T t=none):tY (T.set i (t,y9 T i)):=by
 obtain ⟨x,hx,_⟩:=eo hp;refine ⟨by rw[List.length_set];exact hT.gT,by rw[jY hx];exact Bp T _ i x hx hT.wf, ?_⟩;rw[List.map_set];refine u7 _ _ _ hT.nd fun hm=>?_
 obtain ⟨y,hy,hys⟩:=List.mem_map.1 hm;exact np h y hy hys
theorem HR {s:Sl} {xs:List fE} {i:Nat} {a:Addr} {x:fE} {t:Slot} {k:Pw} (h:Ow B w0 w (ah aS s xs::R)) (hx:xs[i]?=some x) (ha:s.a=some a) (hk:∀w',Ow B w0 w' (ah aS s (xs.set i (t,x.2))::R)->k w'):aH w (a.add ((i:Int).toNat*3)) 0 [.z t.1, .z t.2] k:=by
 have hi:=(List.getElem?_eq_some_iff.1 hx).1;have e:∀(y:fE) (w:World) (k:Pw),St w ((a.add ((i:Int).toNat*3)).add 0) (.z t.1) (fun w'=>St w' ((a.add ((i:Int).toNat*3)).add 1) (.z t.2) k)->aH w (a.add ((i:Int).toNat*3)) 0 [.z t.1, .z t.2] k:=fun _ _ _ h=>h
 refine e x _ _ ?_;refine h.tp (x:=x) (c:=0) ((t.1,x.1.2),x.2) rfl hx ha rfl (by decide) rfl fun w h=>?_
 refine h.tp (x:=((t.1,x.1.2),x.2)) (c:=1) (t,x.2) rfl (by rw[List.getElem?_set,if_pos rfl,if_pos hi]) ha rfl (by decide) rfl fun w h=>?_
 rw[List.set_set] at h;exact hk w h
theorem tx {f t:Slot} {K:Int->Pw} (h:Ow B w0 w (bB b T::R)) (hK:∀w',Ow B w0 w' (bB b (fk T f t).2::R)->K (fk T f t).1 w'):C.qcy (some ⟨b,0,none⟩) f.1 f.2 t.1 t.2 K w:=by
 apply S.qcy0;obtain ⟨sl,hT,h⟩:=h.tree;unfold fk at hK
 (repeat (first|(refine h.al fun w h=>?_)|(refine h.dr fun w h=>?_)|(refine h.aL rfl ?_)|(refine h.aV rfl ?_)|(refine ⟨_,h.aq rfl, ?_⟩)|(refine ⟨_,h.ao rfl, ?_⟩)|(refine h.hd rfl ?_)|(refine ⟨h.aq rfl, ?_⟩)|(refine ⟨h.ao rfl, ?_⟩)|(refine h.ax rfl rfl fun w h=>?_)|(refine eC ?_)|(refine _root_.Go.Vc.a2 ?_)|(refine h.dy rfl rfl fun w h=>?_)|(refine h.cC rfl rfl fun w h=>?_)))
 refine eu (x:=f) hT h.vr.vr fun w h=>?_
 cases hp:bR T f with
 |none=>
  rw[hp] at hK;refine aR (by decide) ?_;exact hK _ (Ow.fh hT h.H7.E1)
 |some i=>
  obtain ⟨x,hx,hxp⟩:=eo hp;have hi:=(List.getElem?_eq_some_iff.1 hx).1;rw[hp] at hK;refine aE (by show ¬(i:Int)<0;omega) ?_
  (repeat (first|(refine h.al fun w h=>?_)|(refine h.dr fun w h=>?_)|(refine h.aL rfl ?_)|(refine h.aV rfl ?_)|(refine ⟨_,h.aq rfl, ?_⟩)|(refine ⟨_,h.ao rfl, ?_⟩)|(refine h.hd rfl ?_)|(refine ⟨h.aq rfl, ?_⟩)|(refine ⟨h.ao rfl, ?_⟩)|(refine h.ax rfl rfl fun w h=>?_)|(refine eC ?_)|(refine _root_.Go.Vc.a2 ?_)|(refine h.dy rfl rfl fun w h=>?_)|(refine h.cC rfl rfl fun w h=>?_)))
  refine eu (x:=t) hT h fun w h=>?_
  cases hs:bR T t with
  |some j=>
   simp only[hs] at hK;refine aR (by show (j:Int)≥0;omega) ?_;exact hK _ (Ow.fh hT h.H7.E1)
  |none=>
   simp only[hs] at hK;refine aE (by decide) ?_
   (repeat (first|(refine h.al fun w h=>?_)|(refine h.dr fun w h=>?_)|(refine h.aL rfl ?_)|(refine h.aV rfl ?_)|(refine ⟨_,h.aq rfl, ?_⟩)|(refine ⟨_,h.ao rfl, ?_⟩)|(refine h.hd rfl ?_)|(refine ⟨h.aq rfl, ?_⟩)|(refine ⟨h.ao rfl, ?_⟩)|(refine h.ax rfl rfl fun w h=>?_)|(refine eC ?_)|(refine _root_.Go.Vc.a2 ?_)|(refine h.dy rfl rfl fun w h=>?_)|(refine h.cC rfl rfl fun w h=>?_)))
   refine h.dZ rfl hx fun a ha h0 hc=>?_
   refine Go.Vc.a2 ?_;refine HR (t:=t) h hx ha fun w h=>?_
   have hm:=hT.move hp hs;rw[jY hx] at hm hK;exact hK _ (Ow.fh (s:=sl) hm h.H7.E1)
end
theorem tY.take {T:Tr} {s:Slot} {i:Nat} (hT:tY T) (hp:bR T s=some i):tY (T.take i++(gI ((T.drop (i+1)).take (eB T i-(i+1)))++T.drop (eB T i))):=by
 obtain ⟨x,hx,_⟩:=eo hp;have hi:=(List.getElem?_eq_some_iff.1 hx).1;obtain ⟨e1,e2⟩:=vR T hi
 have hsub:(((T.take i++(gI ((T.drop (i+1)).take (eB T i-(i+1)))++T.drop (eB T i)))).map (·.1)).Sublist (T.map (·.1)):=by
  have h1:T=T.take i++(T.drop i):=(List.take_append_drop _ _).symm
  have h2:T.drop i=x::T.drop (i+1):=by
   rw[List.drop_eq_getElem_cons hi];rw[gE hi] at hx;cases hx;rfl
  have h3:T.drop (i+1)=(T.drop (i+1)).take (eB T i-(i+1))++T.drop (eB T i):=by
   have:=(List.take_append_drop (eB T i-(i+1)) (T.drop (i+1))).symm;rw[List.drop_drop,show i+1+(eB T i-(i+1))=eB T i from by omega] at this;exact this
  have h4:(gI ((T.drop (i+1)).take (eB T i-(i+1)))).map (·.1)=((T.drop (i+1)).take (eB T i-(i+1))).map (·.1):=by
   unfold gI;rw[List.map_map];rfl
  rw[List.map_append,List.map_append,h4,←List.map_append,←h3]
  conv=>rhs;rw[h1,h2]
  rw[List.map_append,List.map_cons];exact (List.sublist_cons_self _ _).append_left _
 refine ⟨?_, ?_,List.Nodup.sublist hsub hT.nd⟩
 ·have:=hsub.length_le
  rw[List.length_map,List.length_map] at this;have:=hT.gT;omega
 ·
  have hw:=hT.wf;have h1:T=T.take i++(T.drop i):=(List.take_append_drop _ _).symm
  have h2:T.drop i=x::T.drop (i+1):=by
   rw[List.drop_eq_getElem_cons hi];rw[gE hi] at hx;cases hx;rfl
  have hd:=jY hx;have hend:eB T i-(i+1)=((T.drop (i+1)).takeWhile fun y=>decide (x.2<y.2)).length:=by unfold eB;rw[hd];omega
  have hdrop:T.drop (eB T i)=(T.drop (i+1)).dropWhile fun y=>decide (x.2<y.2):=by
   have e:eB T i=i+1+((T.drop (i+1)).takeWhile fun y=>decide (x.2<y.2)).length:=by unfold eB;rw[hd]
   rw[e,←List.drop_drop]
   conv=>lhs;rw[←List.takeWhile_append_dropWhile (p:=fun y:fE=>decide (x.2<y.2)) (l:=T.drop (i+1))]
   rw[List.drop_left' (by rw[List.takeWhile_append_dropWhile])]
  have htake:(T.drop (i+1)).take (eB T i-(i+1))=(T.drop (i+1)).takeWhile fun y=>decide (x.2<y.2):=by
   rw[hend]
   conv=>lhs;rw[←List.takeWhile_append_dropWhile (p:=fun y:fE=>decide (x.2<y.2)) (l:=T.drop (i+1))]
   rw[List.take_left' (by rw[List.takeWhile_append_dropWhile])]
  rw[h1,h2,oF] at hw;rw[htake,hdrop,oF];refine ⟨hw.1, ?_⟩;obtain ⟨_,hx0,hx1,hrest⟩:=hw;generalize (match (T.take i).getLast? with|some x=>x.2|none=> -1:Int)=q at hx1⊢;generalize T.drop (i+1)=D at hrest
  have key:∀(D:Tr) (p:Int),x.2≤p->yV p D->yV (p-1) (gI (D.takeWhile fun y=>decide (x.2<y.2))++D.dropWhile fun y=>decide (x.2<y.2)):=by
   intro D
   induction D with
   |nil=>intro p _ _;exact trivial
   |cons y D ih=>
    intro p hp hw;by_cases e:x.2<y.2
    ·rw[List.takeWhile_cons_of_pos (by simpa using e),List.dropWhile_cons_of_pos (by simpa using e)]
     exact ⟨by show 0≤y.2-1;omega,by show y.2-1≤p-1+1;have:=hw.2.1;omega,ih y.2 om hw.2.2⟩
    ·rw[List.takeWhile_cons_of_neg (by simpa using e),List.dropWhile_cons_of_neg (by simpa using e)]
     exact ⟨hw.1,by show y.2≤p-1+1;omega,hw.2.2⟩
  exact yW om (key D x.2 (Int.le_refl _) hrest)
section
variable {B:Nat} {w0 w:World} {R L:List aA} {b:Nat} {T:Tr}
theorem wJ {s:Sl} {xs:Tr} {K:Sl->Pw} (hr:Rd aS B w0 L s xs) (hbig:xs.length≤1000000) (h:Ow B w0 w L) (hK:∀s' w',Ow B w0 w' (ah bw s' (xs.map (·.1))::L)->K s' w'):C.qco s K w:=by
 apply S.qco0;have hlen:=hr.len;intro l hl
 have loop:∀(rest:Tr) (j:Nat) (o:Sl) (w:World),xs.drop j=rest->j≤xs.length->Ow B w0 w (ah bw o ((xs.take j).map (·.1))::L)->l o (j:Int) w:=by
  intro rest
  induction rest with
  |nil=>
   intro j o w hj hjl h;have:xs.length≤j:=by have:=congrArg List.length hj;simp at this;omega
   apply hl;refine aE om ?_;rw[List.take_of_length_le this] at h;exact hK _ _ h
  |cons x rest ih=>
   intro j o w hj hjl h;have hjl2:j<xs.length:=by have:=congrArg List.length hj;simp at this;omega
   have hx:xs[j]?=some x:=by
    have:=congrArg (fun l=>l[0]?) hj;simpa using this
   apply hl;refine aR om ?_;have hr2:Rd aS B w0 (ah bw o ((xs.take j).map (·.1))::L) s xs:=hr.more;refine hr2.ix h rfl hx fun a ha h0 hc=>?_
   refine Ei hc ?_;refine h.al fun w h=>?_
   refine h.ax rfl rfl fun w h=>?_
   refine h.aL rfl ?_;refine h.al fun w h=>?_
   have h:=h.yy;refine oO (ys:=((xs.take j).map fun y:fE=>y.1)) (y:=x.1) h (by simp;omega) fun o' w ho' h=>?_
   rw[wI j om];refine ih (j+1) o' w (by rw[←List.drop_drop,hj];rfl) om ?_;rw[List.take_add_one,hx,List.map_append];exact h
 exact loop xs 0 ⟨none,0,0⟩ w rfl om (Ow.dK h)
theorem rH {s:Slot} {K:Sl->Pw} (h:Ow B w0 w (bB b T::R)) (hK:∀s' w',Ow B w0 w' (ah bw s' (db T s)::bB b T::R)->K s' w'):C.qcl (some ⟨b,0,none⟩) s.1 s.2 K w:=by
 apply S.qcl0;obtain ⟨sl,hT,h⟩:=h.tree;have hlen:=h.br sl;have hcap:=h.jN.fo;have hfew:=hT.gT;unfold db at hK
 (repeat (first|(refine h.al fun w h=>?_)|(refine h.dr fun w h=>?_)|(refine h.aL rfl ?_)|(refine h.aV rfl ?_)|(refine ⟨_,h.aq rfl, ?_⟩)|(refine ⟨_,h.ao rfl, ?_⟩)|(refine h.hd rfl ?_)|(refine ⟨h.aq rfl, ?_⟩)|(refine ⟨h.ao rfl, ?_⟩)|(refine h.ax rfl rfl fun w h=>?_)|(refine eC ?_)|(refine _root_.Go.Vc.a2 ?_)|(refine h.dy rfl rfl fun w h=>?_)|(refine h.cC rfl rfl fun w h=>?_)))
 refine eu (x:=s) hT h.nC.nC fun w h=>?_
 cases hp:bR T s with
 |none=>
  rw[hp] at hK;refine aR (by decide) ?_;have h2:Ow B w0 w (bB b T::R):=Ow.fh (s:=sl) hT h.E1;exact hK _ w (Ow.dK h2)
 |some i=>
  obtain ⟨x,hx,hxp⟩:=eo hp;have hi:=(List.getElem?_eq_some_iff.1 hx).1;obtain ⟨e1,e2⟩:=vR T hi;rw[hp] at hK;refine aE (by show ¬(i:Int)<0;omega) ?_;have ew:IntKind.i64.wrap ((i:Int)+1)=((i+1:Nat):Int):=by rw[wr om om];omega
  have fin:∀w,Ow B w0 w (ah aS sl T::aa b [eT sl]::R)->C.qco ⟨Vc.dV sl.a (i+1) sl.cap 3,eB T i-(i+1),sl.cap-(i+1)⟩ K w:=fun w h=>by
   refine wJ (Rd.part (s:=sl) (xs:=T) (E:=aS) (p:=i+1) (n:=eB T i-(i+1)) om) (by simp;omega) h fun s' w h=>?_
   have h2:Ow B w0 w (bB b T::ah bw s' _::R):=Ow.fh (s:=sl) hT h.nC.nC;exact hK _ _ h2.dz
  have h:=h.E1
  (repeat (first|(refine h.al fun w h=>?_)|(refine h.dr fun w h=>?_)|(refine h.aL rfl ?_)|(refine h.aV rfl ?_)|(refine ⟨_,h.aq rfl, ?_⟩)|(refine ⟨_,h.ao rfl, ?_⟩)|(refine h.hd rfl ?_)|(refine ⟨h.aq rfl, ?_⟩)|(refine ⟨h.ao rfl, ?_⟩)|(refine h.ax rfl rfl fun w h=>?_)|(refine eC ?_)|(refine _root_.Go.Vc.a2 ?_)|(refine h.dy rfl rfl fun w h=>?_)|(refine h.cC rfl rfl fun w h=>?_)))
  refine tB hT hi h fun w h=>?_
  (repeat (first|(refine h.al fun w h=>?_)|(refine h.dr fun w h=>?_)|(refine h.aL rfl ?_)|(refine h.aV rfl ?_)|(refine ⟨_,h.aq rfl, ?_⟩)|(refine ⟨_,h.ao rfl, ?_⟩)|(refine h.hd rfl ?_)|(refine ⟨h.aq rfl, ?_⟩)|(refine ⟨h.ao rfl, ?_⟩)|(refine h.ax rfl rfl fun w h=>?_)|(refine eC ?_)|(refine _root_.Go.Vc.a2 ?_)|(refine h.dy rfl rfl fun w h=>?_)|(refine h.cC rfl rfl fun w h=>?_)))
  show _/\_/\0≤IntKind.i64.wrap ((i:Int)+1)/\IntKind.i64.wrap ((i:Int)+1)≤_/\C.qco ⟨Vc.dV sl.a (IntKind.i64.wrap ((i:Int)+1)).toNat sl.cap 3,_-(IntKind.i64.wrap ((i:Int)+1)).toNat,sl.cap-(IntKind.i64.wrap ((i:Int)+1)).toNat⟩ _ _/\True;rw[ew];refine ⟨om,om,om,by simp only[Int.toNat_natCast];omega,Go.Vc.a2 ?_⟩;exact fin w h
end
def fY (T:Tr) (i k:Nat):Tr:=T.take (i+1)++(gI ((T.drop (i+1)).take k)++T.drop (i+1+k))
theorem sP (T:Tr) (i k:Nat):(fY T i k).length=T.length:=by unfold fY gI;simp;omega
theorem Eo {T:Tr} {i k j:Nat} (hk:k≤j):(fY T i k)[i+1+j]?=T[i+1+j]?:=by
 unfold fY gI;by_cases hl:i+1+k≤T.length
 ·have h1:(T.take (i+1)).length=i+1:=by simp;omega
  have h2:(((T.drop (i+1)).take k).map fun x:fE=>(x.1,x.2-1)).length=k:=by simp;omega
  rw[List.getElem?_append_right om,h1,List.getElem?_append_right om,h2,List.getElem?_drop];congr 1;omega
 ·rw[List.getElem?_eq_none (l:=T) om,List.getElem?_eq_none]
  simp;omega
theorem Cn {T:Tr} {i k:Nat} {x:fE} (hx:T[i+1+k]?=some x):(fY T i k).set (i+1+k) (x.1,x.2-1)=fY T i (k+1):=by
 have hl:=(List.getElem?_eq_some_iff.1 hx).1;unfold fY gI;have h1:(T.take (i+1)).length=i+1:=by simp;omega
 have h2:(((T.drop (i+1)).take k).map fun x:fE=>(x.1,x.2-1)).length=k:=by simp;omega
 rw[List.set_append_right _ _ om,h1,List.set_append_right _ _ om,h2,show i+1+k-(i+1)-k=0 from by omega]
 have h3:T.drop (i+1+k)=x::T.drop (i+1+(k+1)):=by
  rw[List.drop_eq_getElem_cons hl];rw[gE hl] at hx;cases hx;rfl
 have h4:(T.drop (i+1)).take (k+1)=(T.drop (i+1)).take k++ [x]:=by
  rw[List.take_add_one,List.getElem?_drop,hx];rfl
 rw[h3,h4,List.set_cons_zero,List.map_append,List.append_assoc];rfl
theorem Co (T:Tr) (i:Nat):fY T i 0=T:=by unfold fY gI;simp
section
variable {B:Nat} {w0 w:World} {R L:List aA} {b:Nat} {T:Tr}
theorem tA {s:Slot} {K:Int->Pw} (h:Ow B w0 w (bB b T::R)) (hK:∀w',Ow B w0 w' (bB b (takeN T s).2::R)->K (takeN T s).1 w'):C.qcA (some ⟨b,0,none⟩) s.1 s.2 K w:=by
 apply S.qcA0;obtain ⟨sl,hT,h⟩:=h.tree;have hlen:=h.br sl;have hcap:=h.jN.fo;have hfew:=hT.gT;unfold takeN at hK
 (repeat (first|(refine h.al fun w h=>?_)|(refine h.dr fun w h=>?_)|(refine h.aL rfl ?_)|(refine h.aV rfl ?_)|(refine ⟨_,h.aq rfl, ?_⟩)|(refine ⟨_,h.ao rfl, ?_⟩)|(refine h.hd rfl ?_)|(refine ⟨h.aq rfl, ?_⟩)|(refine ⟨h.ao rfl, ?_⟩)|(refine h.ax rfl rfl fun w h=>?_)|(refine eC ?_)|(refine _root_.Go.Vc.a2 ?_)|(refine h.dy rfl rfl fun w h=>?_)|(refine h.cC rfl rfl fun w h=>?_)))
 refine eu (x:=s) hT h.nC.nC fun w h=>?_
 cases hp:bR T s with
 |none=>
  rw[hp] at hK;refine aR (by decide) ?_;exact hK _ (Ow.fh (s:=sl) hT h.E1)
 |some i=>
  obtain ⟨x,hx,hxp⟩:=eo hp;have hi:=(List.getElem?_eq_some_iff.1 hx).1;obtain ⟨e1,e2⟩:=vR T hi;rw[hp] at hK;simp only at hK;refine aE (by show ¬(i:Int)<0;omega) ?_;have ew:IntKind.i64.wrap ((i:Int)+1)=((i+1:Nat):Int):=by rw[wr om om];omega
  generalize hm:eB T i-(i+1)=m at*
  have fin:∀(l:Int->Pw),(∀(t15:Int) (w16:World),(bif decide (t15<(m:Int)) then
    (∃a17:Addr,Vc.dV sl.a (i+1) sl.cap 3=some a17/\0≤t15/\t15<(m:Int)/\∃depth18:Int,w16.cell? ((a17.add (t15.toNat*3)).add 2)=some (.z depth18)/\
     ∃a19:Addr,Vc.dV sl.a (i+1) sl.cap 3=some a19/\0≤t15/\t15<(m:Int)/\
     St w16 ((a19.add (t15.toNat*3)).add 2) (.z (IntKind.i64.wrap (depth18-(1:Int)))) fun w20=>l (IntKind.i64.wrap (t15+(1:Int))) w20)
    else
    (∃a21:Addr,some (Addr.mk b 0 none)=some a21/\∃l22:Sl,w16.cell? a21=some (.slice l22.a l22.len l22.cap)/\
     C.qo l22 (i:Int) (((i+1:Nat):Int)) (fun r23 w24=>∃a25:Addr,some (Addr.mk b 0 none)=some a25/\St w24 a25 (.slice r23.a r23.len r23.cap) fun w26=>K (0:Int) w26) w16))->l t15 w16)->
    ∀w,Ow B w0 w (ah aS sl T::aa b [eT sl]::R)->l 0 w:=fun l hl w h=>by
   have loop:∀(n k:Nat) (w:World),k+n=m->Ow B w0 w (ah aS sl (fY T i k)::aa b [eT sl]::R)->l (k:Int) w:=by
    intro n
    induction n with
    |zero=>
     intro k w hk h;obtain rfl:k=m:=by omega
     apply hl;refine aE om ?_
     (repeat (first|(refine h.al fun w h=>?_)|(refine h.dr fun w h=>?_)|(refine h.aL rfl ?_)|(refine h.aV rfl ?_)|(refine ⟨_,h.aq rfl, ?_⟩)|(refine ⟨_,h.ao rfl, ?_⟩)|(refine h.hd rfl ?_)|(refine ⟨h.aq rfl, ?_⟩)|(refine ⟨h.ao rfl, ?_⟩)|(refine h.ax rfl rfl fun w h=>?_)|(refine eC ?_)|(refine _root_.Go.Vc.a2 ?_)|(refine h.dy rfl rfl fun w h=>?_)|(refine h.cC rfl rfl fun w h=>?_)))
     refine wZ h om (by rw[sP];omega) (by rw[sP];omega) fun s' w h=>?_
     (repeat (first|(refine h.al fun w h=>?_)|(refine h.dr fun w h=>?_)|(refine h.aL rfl ?_)|(refine h.aV rfl ?_)|(refine ⟨_,h.aq rfl, ?_⟩)|(refine ⟨_,h.ao rfl, ?_⟩)|(refine h.hd rfl ?_)|(refine ⟨h.aq rfl, ?_⟩)|(refine ⟨h.ao rfl, ?_⟩)|(refine h.ax rfl rfl fun w h=>?_)|(refine eC ?_)|(refine _root_.Go.Vc.a2 ?_)|(refine h.dy rfl rfl fun w h=>?_)|(refine h.cC rfl rfl fun w h=>?_)))
     (try dsimp only[putAt,List.set_cons_zero,List.set_cons_succ] at h)
     have hd:(fY T i k).take i++(fY T i k).drop (i+1)=T.take i++(gI ((T.drop (i+1)).take k)++T.drop (eB T i)):=by
      have h1:(T.take (i+1)).length=i+1:=by simp;omega
      have h2:(fY T i k).take i=T.take i:=by
       unfold fY;rw[List.take_append_of_le_length om,List.take_take,Nat.min_eq_left om]
      have h3:(fY T i k).drop (i+1)=gI ((T.drop (i+1)).take k)++T.drop (i+1+k):=by
       unfold fY;rw[List.drop_left' h1]
      rw[h2,h3,show i+1+k=eB T i from by omega]
     rw[hd] at h;have hok:=hT.take hp;rw[hm] at hok;exact hK _ (Ow.fh (s:=s') hok h)
    |succ n ih=>
     intro k w hk h;obtain ⟨y,hy⟩:∃y,T[i+1+k]?=some y:=⟨_,gE om⟩
     have hy2:(fY T i k)[i+1+k]?=some y:=by rw[Eo (Nat.le_refl _)];exact hy
     have hyr:=hT.wX hy;apply hl;refine aR om ?_;obtain ⟨a,a0,ha0,ha,he⟩:=h.G9 (s:=sl) (E:=aS) (xs:=fY T i k) (p:=i+1) (n:=m) (t:=k) (by rw[sP];omega) om;have he:a.add (k*3)=a0.add (((i+1+k:Nat):Int).toNat*3):=by rw[Int.toNat_natCast];exact he
     obtain ⟨_,hc⟩:=h.H4 (s:=sl) (E:=aS) (i:=((i+1+k:Nat):Int)) (j:=i+1+k) rfl hy2 ha0;have hc:w.cell? ((a0.add (((i+1+k:Nat):Int).toNat*3)).add 2)=some (.z y.2):=hc 2 _ rfl;refine ⟨a,ha,om,om,y.2, ?_,a,ha,om,om, ?_⟩
     ·rw[Int.toNat_natCast,he];exact hc
     ·rw[Int.toNat_natCast,he,wr om om]
      refine h.tp (E:=aS) (x:=y) (c:=2) (y.1,y.2-1) rfl hy2 ha0 rfl (by decide) rfl fun w h=>?_
      rw[Cn hy] at h;rw[wI k om];exact ih (k+1) w om h
   exact loop m 0 w om (by rw[Co];exact h)
  have h:=h.E1
  (repeat (first|(refine h.al fun w h=>?_)|(refine h.dr fun w h=>?_)|(refine h.aL rfl ?_)|(refine h.aV rfl ?_)|(refine ⟨_,h.aq rfl, ?_⟩)|(refine ⟨_,h.ao rfl, ?_⟩)|(refine h.hd rfl ?_)|(refine ⟨h.aq rfl, ?_⟩)|(refine ⟨h.ao rfl, ?_⟩)|(refine h.ax rfl rfl fun w h=>?_)|(refine eC ?_)|(refine _root_.Go.Vc.a2 ?_)|(refine h.dy rfl rfl fun w h=>?_)|(refine h.cC rfl rfl fun w h=>?_)))
  refine tB hT hi h fun w h=>?_
  (repeat (first|(refine h.al fun w h=>?_)|(refine h.dr fun w h=>?_)|(refine h.aL rfl ?_)|(refine h.aV rfl ?_)|(refine ⟨_,h.aq rfl, ?_⟩)|(refine ⟨_,h.ao rfl, ?_⟩)|(refine h.hd rfl ?_)|(refine ⟨h.aq rfl, ?_⟩)|(refine ⟨h.ao rfl, ?_⟩)|(refine h.ax rfl rfl fun w h=>?_)|(refine eC ?_)|(refine _root_.Go.Vc.a2 ?_)|(refine h.dy rfl rfl fun w h=>?_)|(refine h.cC rfl rfl fun w h=>?_)))
  dsimp only;rw[ew];refine ⟨om,om,om,by simp only[Int.toNat_natCast];omega, ?_⟩;intro l hl;subst hm;exact fin l hl w h
end
end Go.Proofs.YtlhljbbfckbjpaaGreat.Tr
end
section
set_option maxRecDepth 100000
namespace Go.Proofs.YtlhljbbfckbjpaaGreat
open Go Go.Vc Go.Proofs
theorem S.qcV0 {a b K w}:Fr (C.qcV a b K w) (C.qcL a b (fun _ a b=>K a b) w):=aD Tryz.func9 (.v (.v .w))
theorem S.qcL0 {a b K w}:Fr (C.qcL a b K w) (C.qdH a (fun c d e=>Al e (.map #[] 0) fun f=>A2 f [.pointer c, .map (some e.heap.size), .z 0] 83 fun c e=>∀f:Int->Pw,(∀(e:Int) (g:World),(bif decide (e<(b.len:Int)) then ∃h,b.a=some h/\0≤e/\e<(b.len:Int)/\az g (h.add (e.toNat*10)) 0 [.o, .o, .o, .o, .u, .o, .s, .o, .o, .b] fun (b h i j k l:Int) (m:Sl) (n o:Int) (p:Bool)=>A2 g [.z 0, .z 0, .z 0, .z 0, .y 0, .z 0, .slice none 0 0, .z 0, .z 0, .bool false] 40 fun q r=>aH r q.p 0 [.z b, .z h, .z i, .z j, .y k, .z l, .slice m.a m.len m.cap, .z n, .z o, .bool p] fun b=>∀h:Bool->Pw,(∀(a:Bool) (b:World),(bif a then K (some c.p) e b else f (IntKind.i64.wrap (e+1)) b)->h a b)->(bif d !=0 then h true b else ∃d,b.cell? (q.p.add 1)=some (.z d)/\bif decide (d<0) then h true b else ∃d,b.cell? (q.p.add 1)=some (.z d)/\bif decide (d≥a) then h true b else az b q.p 0 [.o, .o, .o, .o, .u, .o, .s, .o, .o, .b] fun (a d e f g i:Int) (j:Sl) (k l:Int) (m:Bool)=>C.qat (some c.p) a d e f g i j k l m (fun a b=>h (!a) b) b) else K (some c.p) (-1) g)->f e g)->f 0 e) w):=aD Tryz.func25 (.v (.v (.v (.y (.v (.x (.t (some [(22,.c (.i .i64))]) (.v (.y .w (.x (.x (.v (.y (.r (some [(45,.c .b)]) .done) (.x .w))))))) .u))) .w))))
theorem S.qat0 {a b c d e f g h i j k K w}:Fr (C.qat a b c d e f g h i j k K w) (A2 w [.z b, .z c, .z d, .z e, .y f, .z g, .slice h.a h.len h.cap, .z i, .z j, .bool k] 40 fun b c=>∃d,c.cell? (b.p.add 1)=some (.z d)/\C.qak a d (fun c d e=>Dr e fun e=>∃f,a=some f/\∃g,e.cell? (f.add 1)=some (.map g)/\∃f,e.cell? (b.p.add 1)=some (.z f)/\(∃h,∃i,oM Tryz.prog 81 (.map g) (.z f) (.pointer h) i e/\∃f,e.cell? b.p=some (.z f)/\∀g:Pw,(∀b:World,(∃c,a=some c/\∃a,b.cell? (c.add 1)=some (.map a)/\∃c,FN Tryz.prog 81 3 a b c/\K (c==0) b)->g b)->(bif f==0 then Dr e fun h=>∃j,a=some j/\∃k,h.cell? j=some (.pointer k)/\∃j,h.cell? (b.p.add 1)=some (.z j)/\(C.qar k j (fun c d=>bif c !=0 then K false d else Dr d fun c=>∃d,a=some d/\∃a,c.cell? (d.add 1)=some (.map a)/\∃d,c.cell? (b.p.add 1)=some (.z d)/\∃e,c.cell? (b.p.add 2)=some (.z e)/\(A2 c [.z e, .bool false, .z 0, .y 0, .z 0, .slice none 0 0, .z 0] 181 fun b c=>(∃e:World,fL Tryz.prog 81 (.map a) (.z d) (.pointer (some b.p)) c e/\K true e)/\True)/\True) h)/\True else bif f==1 then ∀h:Bool->Pw,(∀(a:Bool) (d:World),(bif a then K false d else Dr d fun a=>∃d,c=some d/\az a (b.p.add 3) 0 [.o, .u, .o, .s] fun (e f g:Int) (h:Sl)=>(St a (d.add 1) (.bool true) fun a=>vz a (b.p.add 3) 0 [.z e, .y f, .z g, .slice h.a h.len h.cap] (∃b,c=some b/\(aH a (b.add 2) 0 [.z e, .y f, .z g, .slice h.a h.len h.cap] fun a=>K true a)/\True))/\True)->h a d)->(Dr e fun a=>bif !d then h true a else ∃d,c=some d/\∃e,a.cell? d=some (.z e)/\∃d,a.cell? (b.p.add 2)=some (.z d)/\bif e !=d then h true a else ∃b,c=some b/\∃c,a.cell? (b.add 1)=some (.bool c)/\h c a) else bif f==2 then ∀h:Bool->Pw,(∀(d:Bool) (e:World),(bif d then K false e else ∃d,e.cell? (b.p.add 1)=some (.z d)/\C.qbX a d c (fun a=>K true a) e)->h d e)->(Dr e fun a=>bif !d then (h true a)/\True else ∃d,c=some d/\∃e,a.cell? d=some (.z e)/\∃d,a.cell? (b.p.add 2)=some (.z d)/\bif e !=d then (h true a)/\True else ∃d,c=some d/\∃e,a.cell? (d.add 1)=some (.bool e)/\bif !e then (h true a)/\True else ∃d,c=some d/\az a (d.add 2) 0 [.o, .u, .o, .s] fun (c d e:Int) (f:Sl)=>az a (b.p.add 3) 0 [.o, .u, .o, .s] fun (b g i:Int) (j:Sl)=>(C.qdt c d e f b g i j (fun a b=>h (!a) b) a)/\True) else bif f==3 then K (!i) e else bif f==4 then g e else bif f==5 then g e else K false e))/\True) c):=aD Tryz.func48 (.v (.v (.y .g9 (.y (.v (.x (.y (.t (some []) (.x (.y (.x (.y (.x (.y (.x (.y (.x (.x (.y (.v .w) (.y (.v .w) (.y (.v .w) (.y (.v .w) (.y (.v .w) (.v .w)))))))) (.x (.y (.y (.z (.o 0 48 (.o 1 48 (.o 2 48 (.o 3 48 .I9))))) (.x .w)) (.y (.z (.o 0 1008 (.o 1 1008 (.o 2 1008 (.o 3 1008 (.o 4 960 (.o 5 960 (.o 6 0 (.o 7 0 (.o 8 0 (.e 9 (.e 10 .done)))))))))))) .w))))) (.x (.y (.y (.r (some [(74,.c .b)]) (.o 0 0 (.o 1 0 (.o 2 0 (.o 3 384 (.o 4 384 (.o 5 384 (.o 6 384 (.o 7 0 (.o 8 0 (.o 9 0 (.o 10 0 (.o 11 0 (.o 12 0 (.o 13 0 (.o 14 0 (.o 15 0 (.o 16 0 .done)))))))))))))))))) (.x .w)) (.y .g10 .w))))) (.x (.y (.y (.r (some [(110,.c .b)]) (.o 0 0 (.o 1 0 (.o 2 0 (.o 3 384 (.o 4 384 (.o 5 384 (.o 6 384 (.o 7 0 (.o 8 0 (.o 9 0 (.o 10 0 (.o 11 0 (.o 12 0 (.o 13 0 (.o 14 0 (.o 15 0 (.o 16 0 (.o 17 0 (.o 18 0 (.o 19 25165824 (.o 20 25165824 (.o 21 25165824 (.o 22 25165824 (.o 23 0 (.o 24 0 (.e 25 (.o 26 0 (.o 27 0 .done))))))))))))))))))))))))))))) (.x .w)) (.v .w))))) (.x .w))) .u) (.x .w)))) .w))))
theorem S.qak0 {a b K w}:Fr (C.qak a b K w) (∃c,a=some c/\∃d,w.cell? c=some (.pointer d)/\C.qbh d b (fun c d e=>∃f,a=some f/\∃a,e.cell? (f.add 1)=some (.map a)/\∃f,wW Tryz.prog 81 (.map a) (.z b) (.pointer f) e/\bif c then K f (d==0) e else K f false e) w):=aD Tryz.func80 (.v (.v .w))
theorem S.qdt0 {a b c d e f g h K w}:Fr (C.qdt a b c d e f g h K w) (A2 w [.z a, .y b, .z c, .slice d.a d.len d.cap] 36 fun a b=>A2 b [.z e, .y f, .z g, .slice h.a h.len h.cap] 36 fun b c=>∃d,c.cell? a.p=some (.z d)/\∃e,c.cell? b.p=some (.z e)/\bif d==e then ∃d,c.cell? (a.p.add 1)=some (.y d)/\∃e,c.cell? (b.p.add 1)=some (.y e)/\bif d==e then ∃d,c.cell? (a.p.add 2)=some (.z d)/\∃e,c.cell? (b.p.add 2)=some (.z e)/\bif d==e then ∃d:Sl,c.cell? (a.p.add 3)=some (.slice d.a d.len d.cap)/\∃a:Sl,c.cell? (b.p.add 3)=some (.slice a.a a.len a.cap)/\C.qF d a (fun a b=>K a b) c else K false c else K false c else K false c):=aD Tryz.func81 (.v .w)
theorem S.qbX0 {a b c K w}:Fr (C.qbX a b c K w) (Dr w fun d=>∃e,a=some e/\∃f,d.cell? (e.add 2)=some (.z f)/\∃e,c=some e/\∃c,d.cell? (e.add 6)=some (.z c)/\∃e,a=some e/\(St d (e.add 2) (.z (ph f c)) fun c=>∃d,a=some d/\∃e,c.cell? d=some (.pointer e)/\C.qas e b (fun _ c=>∃d,a=some d/\∃e,c.cell? (d.add 1)=some (.map e)/\∃d:World,tP Tryz.prog [81,3] 0 (.map e) (.z b) c d/\∃b,a=some b/\∃a,d.cell? (b.add 1)=some (.map a)/\∃(b:Addr) (c:World),vA Tryz.prog 81 (.map a) d b c/\∀a:Pw,(∀c:World,(∃(d:Bool) (e:List Value) (f:World),Au Tryz.prog (.pointer (some b)) false 0 c d e f/\bif d then ∃c:Value,∃d,vw Tryz.prog (.pointer (some b)) (c) (.pointer d) f/\∃b,d=some b/\∃c,f.cell? (b.add 6)=some (.z c)/\∃b,d=some b/\St f (b.add 6) (.z (IntKind.i64.wrap (c+1))) fun b=>a b else K f)->a c)->a c) c)/\True):=aD Tryz.func82 (.y (.z (.o 0 1022 (.o 1 480 (.o 2 480 (.o 3 480 (.o 4 480 (.o 5 0 (.o 6 0 (.o 7 0 (.o 8 0 (.o 9 0 (.o 10 0 (.o 11 0 (.e 12 .done)))))))))))))) (.v (.v (.v (.x (.t (some []) (.v (.y .w (.x .w))) .u))))))
theorem S.qdD0 {K w}:Fr (C.qdD K w) (Al w (.map #[] 0) fun a=>A2 a [.slice none 0 0, .slice none 0 0, .slice none 0 0, .slice none 0 0, .slice none 0 0, .slice none 0 0, .slice none 0 0, .slice none 0 0, .slice none 0 0, .slice none 0 0, .slice none 0 0, .slice none 0 0, .slice none 0 0, .slice none 0 0, .slice none 0 0, .slice none 0 0, .slice none 0 0, .slice none 0 0, .slice none 0 0, .slice none 0 0, .slice none 0 0, .slice none 0 0, .slice none 0 0, .slice none 0 0, .slice none 0 0, .slice none 0 0, .slice none 0 0, .slice none 0 0, .slice none 0 0, .slice none 0 0, .slice none 0 0, .slice none 0 0, .slice none 0 0, .slice none 0 0, .slice none 0 0, .slice none 0 0, .slice none 0 0, .slice none 0 0, .slice none 0 0, .slice none 0 0, .slice none 0 0, .slice none 0 0, .slice none 0 0, .slice none 0 0, .slice none 0 0, .slice none 0 0, .slice none 0 0, .slice none 0 0, .slice none 0 0, .slice none 0 0, .slice none 0 0, .slice none 0 0, .slice none 0 0, .slice none 0 0, .slice none 0 0, .slice none 0 0, .slice none 0 0, .slice none 0 0, .slice none 0 0, .slice none 0 0, .slice none 0 0, .slice none 0 0, .slice none 0 0, .slice none 0 0, .slice none 0 0, .slice none 0 0, .slice none 0 0, .slice none 0 0, .slice none 0 0, .slice none 0 0, .slice none 0 0, .slice none 0 0, .slice none 0 0, .slice none 0 0, .slice none 0 0, .slice none 0 0, .slice none 0 0, .slice none 0 0, .slice none 0 0, .slice none 0 0, .slice none 0 0, .slice none 0 0, .slice none 0 0, .slice none 0 0, .slice none 0 0, .slice none 0 0, .slice none 0 0, .slice none 0 0, .slice none 0 0, .slice none 0 0, .slice none 0 0, .slice none 0 0, .slice none 0 0, .slice none 0 0, .slice none 0 0, .slice none 0 0, .slice none 0 0, .slice none 0 0, .slice none 0 0, .slice none 0 0, .slice none 0 0, .slice none 0 0, .slice none 0 0, .slice none 0 0, .slice none 0 0, .slice none 0 0, .slice none 0 0, .slice none 0 0, .slice none 0 0, .slice none 0 0, .slice none 0 0, .slice none 0 0, .slice none 0 0, .slice none 0 0, .slice none 0 0, .slice none 0 0, .slice none 0 0, .slice none 0 0, .slice none 0 0, .slice none 0 0, .slice none 0 0, .slice none 0 0, .slice none 0 0, .slice none 0 0, .slice none 0 0, .slice none 0 0, .slice none 0 0, .slice none 0 0, .slice none 0 0, .slice none 0 0, .slice none 0 0, .slice none 0 0, .slice none 0 0, .slice none 0 0, .slice none 0 0, .slice none 0 0, .slice none 0 0, .slice none 0 0, .slice none 0 0, .slice none 0 0, .slice none 0 0, .slice none 0 0, .slice none 0 0, .slice none 0 0, .slice none 0 0, .slice none 0 0, .slice none 0 0, .slice none 0 0, .slice none 0 0, .slice none 0 0, .slice none 0 0, .slice none 0 0, .slice none 0 0, .slice none 0 0, .slice none 0 0, .slice none 0 0, .slice none 0 0, .slice none 0 0, .slice none 0 0, .slice none 0 0, .slice none 0 0, .slice none 0 0, .slice none 0 0, .slice none 0 0, .slice none 0 0, .slice none 0 0, .slice none 0 0, .slice none 0 0, .slice none 0 0, .slice none 0 0, .slice none 0 0, .slice none 0 0, .slice none 0 0, .slice none 0 0, .slice none 0 0, .slice none 0 0, .slice none 0 0, .slice none 0 0, .slice none 0 0, .slice none 0 0, .slice none 0 0, .slice none 0 0, .slice none 0 0, .slice none 0 0, .slice none 0 0, .slice none 0 0, .slice none 0 0, .slice none 0 0, .slice none 0 0, .slice none 0 0, .slice none 0 0, .slice none 0 0, .slice none 0 0, .slice none 0 0, .slice none 0 0, .slice none 0 0, .slice none 0 0, .slice none 0 0, .slice none 0 0, .slice none 0 0, .slice none 0 0, .slice none 0 0, .slice none 0 0, .slice none 0 0, .slice none 0 0, .slice none 0 0, .slice none 0 0, .slice none 0 0, .slice none 0 0, .slice none 0 0, .slice none 0 0, .slice none 0 0, .slice none 0 0, .slice none 0 0, .slice none 0 0, .slice none 0 0, .slice none 0 0, .slice none 0 0, .slice none 0 0, .slice none 0 0, .slice none 0 0, .slice none 0 0, .slice none 0 0, .slice none 0 0, .slice none 0 0, .slice none 0 0, .slice none 0 0, .slice none 0 0, .slice none 0 0, .slice none 0 0, .slice none 0 0, .slice none 0 0, .slice none 0 0, .slice none 0 0, .slice none 0 0, .slice none 0 0, .slice none 0 0, .slice none 0 0, .slice none 0 0, .slice none 0 0, .slice none 0 0, .slice none 0 0, .slice none 0 0, .slice none 0 0, .slice none 0 0, .slice none 0 0, .slice none 0 0, .slice none 0 0, .slice none 0 0, .slice none 0 0, .slice none 0 0, .slice none 0 0, .slice none 0 0, .slice none 0 0, .slice none 0 0, .slice none 0 0, .map (some w.heap.size), .y 0, .y 0, .y 0, .y 0] 255 fun a b=>K (some a.p) b):=aD Tryz.func87 (.v .w)
theorem S.qbY0 {a K w}:Fr (C.qbY a K w) (∃b,a=some b/\az w (b.add 257) 0 [.u, .u, .u, .u] fun (b c d e:Int)=>C.qdE b c d e (fun b c=>bif decide (b<0) then K 0 false c else ∃d,a=some d/\0≤b/\b<256/\∃a:Sl,c.cell? (d.add (b.toNat*1))=some (.slice a.a a.len a.cap)/\∃b,a.a=some b/\(0:Int)≤0/\0<(a.len:Int)/\∃a,c.cell? (b.add ((0:Int).toNat*1))=some (.z a)/\K a true c) w):=aD Tryz.func94 .H3
theorem S.qcj0 {a b c K w}:Fr (C.qcj a b c K w) (∀d:Bool->Pw,(∀(e:Bool) (f:World),(bif e then K 1 f else ∃d,a=some d/\∃e,f.cell? (d.add 256)=some (.map e)/\∃d,∃g,oM Tryz.prog 248 (.map e) (.z c) (.z d) g f/\bif g then K 90 f else Dr f fun d=>∃e,a=some e/\0≤b/\b<256/\∃f:Sl,d.cell? (e.add (b.toNat*1))=some (.slice f.a f.len f.cap)/\∃e,a=some e/\(A2 d [.z c] 3 fun d g=>(∃h i,bo Tryz.prog [22,22] 22 (.slice f.a f.len f.cap) (.slice (some d.p) 1 1) g h i/\0≤b/\b<256/\(St i (e.add (b.toNat*1)) (.slice h.a h.len h.cap) fun d=>∃e,a=some e/\∃f,d.cell? (e.add 256)=some (.map f)/\∃e:World,fL Tryz.prog 248 (.map f) (.z c) (.z b) d e/\∃c,a=some c/\C.qby (some c) b (fun a=>K 0 a) e)/\True)/\True)/\True)->d e f)->(bif decide (b<0) then d true w else d (decide (b≥256)) w)):=aD Tryz.func120 (.v (.y .IQ (.y (.v (.v (.x .w))) (.y (.z (.o 0 4094 (.o 1 32764 (.o 2 30216 (.o 3 30320 (.o 4 30208 (.o 5 30208 (.o 6 30208 (.o 7 30208 (.o 8 30208 (.o 9 28672 (.o 12 3072 (.o 13 3072 (.o 14 3072 (.e 10 (.e 11 (.o 15 0 (.e 16 .done)))))))))))))))))) (.v (.v .w))))))
theorem S.qbZ0 {a b K w}:Fr (C.qbZ a b K w) (A2 w [.z b] 3 fun b c=>Dr c fun c=>∃d,a=some d/\∃e,c.cell? (d.add 256)=some (.map e)/\∃d,c.cell? b.p=some (.z d)/\(∃f,∃g,oM Tryz.prog 248 (.map e) (.z d) (.z f) g c/\bif !g then K 91 c else Dr c fun c=>∃d,a=some d/\0≤f/\f<256/\∃e:Sl,c.cell? (d.add (f.toNat*1))=some (.slice e.a e.len e.cap)/\∃d,a=some d/\(C.qL e (.func (.func 170) #[] #[.pointer (some b.p)]) (fun c e=>0≤f/\f<256/\(St e (d.add (f.toNat*1)) (.slice c.a c.len c.cap) fun c=>Dr c fun c=>∃d,a=some d/\∃e,c.cell? (d.add 256)=some (.map e)/\∃d,c.cell? b.p=some (.z d)/\(∃b:World,tP Tryz.prog [248,3] 0 (.map e) (.z d) c b/\∃c,a=some c/\C.qby (some c) f (fun a=>K 0 a) b)/\True)/\True) c)/\True)/\True):=aD Tryz.func122 (.v (.y (.z (.o 0 32 (.o 1 32 (.o 2 32 (.o 3 32 (.o 4 32 .g20)))))) (.y (.v (.x .w)) (.y (.z (.o 0 2046 (.o 1 16380 (.o 2 14856 (.o 3 14960 (.o 4 14848 (.o 5 14848 (.o 6 14848 (.o 7 14848 (.o 8 14848 (.o 9 14336 (.o 11 1024 (.o 12 1024 (.o 13 1024 (.e 10 (.o 14 0 (.e 15 .done))))))))))))))))) (.y (.z (.o 0 32 (.o 1 32 (.o 2 32 (.o 3 32 (.o 4 32 (.o 5 0 (.e 6 .done)))))))) (.v .w))))))
theorem S.qby0 {a b K w}:Fr (C.qby a b K w) (Dr w fun c=>∃d,a=some d/\az c (d.add 257) 0 [.u, .u, .u, .u] fun (d e f g:Int)=>∃h,a=some h/\0≤b/\b<256/\∃i:Sl,c.cell? (h.add (b.toNat*1))=some (.slice i.a i.len i.cap)/\(C.qdF d e f g b (decide ((i.len:Int)>0)) (fun b c d e _ f=>∃g,a=some g/\(aH f (g.add 257) 0 [.y b, .y c, .y d, .y e] fun a=>K a)/\True) c)/\True):=aD Tryz.func167 (.z (.o 0 262142 (.o 1 16352 (.o 2 16352 (.o 3 16352 (.o 4 16352 (.o 5 16320 (.o 6 128 (.o 7 768 (.o 8 0 (.o 9 0 (.o 10 0 (.o 11 0 (.o 12 0 (.o 13 0 (.e 14 (.o 15 0 (.o 16 131072 (.o 17 1835008 (.o 18 0 (.o 19 0 (.e 20 .done))))))))))))))))))))))
theorem S.qcb0 {a b K w}:Fr (C.qcb a b K w) (∃c,w.cell? b=some (.z c)/\K (a==c) w):=aD Tryz.func170 (.v .w)
theorem S.qcm0 {a b c d e K w}:Fr (C.qcm a b c d e K w) (A2 w [.z a, .z b, .z c, .z d] 44 fun a b=>∃c,b.cell? a.p=some (.z c)/\bif decide (c≥0) then ∃c,b.cell? a.p=some (.z c)/\bif decide (c<4) then ∃c,b.cell? (a.p.add 1)=some (.z c)/\bif decide (c≥0) then ∃c,b.cell? (a.p.add 1)=some (.z c)/\bif decide (c<(ic e 8)) then ∃c,b.cell? (a.p.add 2)=some (.z c)/\bY Tryz.prog (.func (.func 36) #[] #[]) [.z c] b fun c d=>∃e,c= .returned (.bool e)/\bif e then ∃c,d.cell? (a.p.add 3)=some (.z c)/\bY Tryz.prog (.func (.func 36) #[] #[]) [.z c] d fun a c=>∃e,a= .returned (.bool e)/\K e c else K false d else K false b else K false b else K false b else K false b):=aD Tryz.func17 (.v (.v .w))
theorem S.qcS0 {a K w}:Fr (C.qcS a K w) (bif decide (a≥0) then K (decide (a≤255)) w else K false w):=aD Tryz.func36 (.v .w)
end Go.Proofs.YtlhljbbfckbjpaaGreat
end
section
set_option maxRecDepth 8000
namespace Go.Proofs.YtlhljbbfckbjpaaGreat.Th
open Go Go.Vc Go.Proofs
abbrev Qs:=List (Nat × Int)
def bZ (L:Qs) (p:Nat):List Int:=(L.filter fun x=>x.1==p).map (·.2)
def wh (L:Qs) (n:Int):Option Nat:=(L.find? fun x=>x.2==n).map (·.1)
def kF (L:Qs) (p:Nat):Bool:= !(bZ L p).isEmpty
structure FF (L:Qs):Prop where
 nodup:(L.map (·.2)).Nodup
 prio:∀x∈L,x.1<256
 gT:L.length≤1000000
theorem four {α:Type} (ws:List α) (h:ws.length=4):∃a b c d,ws= [a,b,c,d]:=by
 rcases ws with _|⟨a,_|⟨b,_|⟨c,_|⟨d,_|⟨e,ws⟩⟩⟩⟩⟩
 ·simp at h
 ·simp at h
 ·simp at h
 ·simp at h
 ·exact ⟨a,b,c,d,rfl⟩
 ·simp at h
def eT (s:Sl):Value:= .slice s.a s.len s.cap
def cB (sl:Nat->Sl) (m:Nat) (ws:List Int):List Value:=(List.range 256).map (fun p=>eT (sl p))++Value.map (some m)::ws.map (Value.int .u64)
def rI (sl:Nat->Sl) (p:Nat) (s:Sl):Nat->Sl:=fun q=>if q=p then s else sl q
theorem fJ {sl:Nat->Sl} {m:Nat} {ws:List Int} {p:Nat} (hp:p<256):(cB sl m ws)[p]?=some (eT (sl p)):=by
 unfold cB;rw[List.getElem?_append_left (by simpa using hp),List.getElem?_map,List.getElem?_range hp];rfl
theorem kl {sl:Nat->Sl} {m:Nat} {ws:List Int}:(cB sl m ws)[256]?=some (.map (some m)):=by
 unfold cB;rw[List.getElem?_append_right (by simp)];simp
theorem lK {sl:Nat->Sl} {m:Nat} {ws:List Int} (j:Nat):(cB sl m ws)[257+j]?=(ws[j]?).map (Value.int .u64):=by
 unfold cB;rw[List.getElem?_append_right (by simp;omega)];simp only[List.length_map,List.length_range];rw[show 257+j-256=j+1 from by omega,List.getElem?_cons_succ,List.getElem?_map]
theorem tc {sl:Nat->Sl} {m:Nat} {ws:List Int} {p:Nat} (hp:p<256) (s:Sl):(cB sl m ws).set p (eT s)=cB (rI sl p s) m ws:=by
 unfold cB;rw[List.set_append_left _ _ (by simpa using hp)];congr 1;apply List.ext_getElem?;intro i;rw[List.getElem?_set];simp only[List.getElem?_map,List.length_map,List.length_range];by_cases hi:i<256
 ·rw[List.getElem?_range hi]
  by_cases e:p=i
  ·subst e;simp[hp,rI]
  ·have e':¬i=p:=fun h=>e h.symm
   simp[e,e',rI]
 ·rw[List.getElem?_eq_none (l:=List.range 256) (by simpa using hi),if_neg om];rfl
theorem df {sl:Nat->Sl} {m:Nat} {ws:List Int} (j:Nat) (x:Int):(cB sl m ws).set (257+j) (.y x)=cB sl m (ws.set j x):=by
 unfold cB;rw[List.set_append_right _ _ (by simp;omega)];simp only[List.length_map,List.length_range];rw[show 257+j-256=j+1 from by omega,List.set_cons_succ,List.map_set]
def He (L:Qs) (M:List (Int × Int)):Prop:=∀n,cF M n=(wh L n).map fun p:Nat=>(p:Int)
structure Qx where
 m:Nat
 M:List (Int × Int)
 sl:Nat->Sl
 ws:List Int
def eK (sl:Nat->Sl) (L:Qs):List aA:=(List.range 256).map fun p=>ah aG (sl p) (bZ L p)
abbrev mapA (m:Nat) (M:List (Int × Int)):aA:=dI (Value.int .i64) (Value.int .i64) m M
def bc (b:Nat) (L:Qs):aA:=pV fun x:Qx=>bh (dX (FF L/\He L x.M/\gk (kF L) x.ws)::aa b (cB x.sl x.m x.ws)::mapA x.m x.M::eK x.sl L)
section
variable {B:Nat} {w0 w:World} {R:List aA} {b:Nat} {L:Qs}
theorem _root_.Go.Vc.Ow.queue (h:Ow B w0 w (bc b L::R)):∃x:Qx,FF L/\He L x.M/\gk (kF L) x.ws/\Ow B w0 w (aa b (cB x.sl x.m x.ws)::mapA x.m x.M::(eK x.sl L++R)):=by
 obtain ⟨x,h⟩:=h.ex;have h:=h.star;obtain ⟨⟨h1,h2,h3⟩,h⟩:=Ow.pure h;exact ⟨x,h1,h2,h3,h⟩
theorem _root_.Go.Vc.Ow.iI {m:Nat} {M:List (Int × Int)} {sl:Nat->Sl} {ws:List Int} (h1:FF L) (h2:He L M) (h3:gk (kF L) ws) (h:Ow B w0 w (aa b (cB sl m ws)::mapA m M::(eK sl L++R))):Ow B w0 w (bc b L::R):=
 Ow.eP ⟨m,M,sl,ws⟩ (Ow.aY (Ow.dN ⟨h1,h2,h3⟩ h))
theorem Cp {sl:Nat->Sl} {p:Nat} (hp:p<256) (A B:aA) (R:List aA):(A::B::(eK sl L++R))[2+p]?=some (ah aG (sl p) (bZ L p)):=by
 rw[show 2+p=p+1+1 from by omega,List.getElem?_cons_succ,List.getElem?_cons_succ,List.getElem?_append_left (by simpa [eK] using hp)];simp only[eK,List.getElem?_map,List.getElem?_range hp,Option.map_some]
theorem uW {sl:Nat->Sl} {p:Nat} (hp:p<256) {s:Sl} {ns:List Int} {L':Qs} (hL:∀q,q<256->bZ L' q=if q=p then ns else bZ L q) (A B:aA) (R:List aA):
  (A::B::(eK sl L++R)).set (2+p) (ah aG s ns)=A::B::(eK (rI sl p s) L'++R):=by
 rw[show 2+p=p+1+1 from by omega,List.set_cons_succ,List.set_cons_succ,List.set_append_left _ _ (by simpa [eK] using hp)];congr 3;apply List.ext_getElem?;intro i;rw[List.getElem?_set];simp only[eK,List.getElem?_map,List.length_map,List.length_range];by_cases hi:i<256
 ·rw[List.getElem?_range hi]
  by_cases e:p=i
  ·subst e;simp[hp,rI,hL p hp]
  ·have e':¬i=p:=fun h=>e h.symm
   simp[e,e',rI,hL i hi]
 ·rw[List.getElem?_eq_none (l:=List.range 256) (by simpa using hi),if_neg om];rfl
theorem gb {sl:Nat->Sl} {m:Nat} {ws:List Int} {p:Nat} {K:Pw} (h:Ow B w0 w (aa b (cB sl m ws)::R)) (hp:p<256) (hw:ws.length=4)
  (hK:∀w',Ow B w0 w' (aa b (cB sl m (mq ws p (decide (0<(sl p).len))))::R)->K w'):C.qby (some ⟨b,0,none⟩) (p:Int) K w:=by
 apply S.qby0;obtain ⟨b1,b2,b3,b4,rfl⟩:=four ws hw;refine h.dr fun w1 h=>?_
 refine ⟨_,rfl, ?_⟩;simp only[aI]
 have hwd:∀j v,([b1,b2,b3,b4].map (Value.int .u64))[j]?=some v->(cB sl m [b1,b2,b3,b4])[257+j]?=some v:=fun j v hv=>by
  rw[lK,←List.getElem?_map];exact hv
 refine ⟨_,h.jS 0 rfl (hwd 0 _ rfl),_,h.jS 0 rfl (hwd 1 _ rfl),_,h.jS 0 rfl (hwd 2 _ rfl),_,h.jS 0 rfl (hwd 3 _ rfl),_,rfl,om,om, ?_⟩;simp only[aI,Int.toNat_natCast,Nat.mul_one,Nat.zero_add];refine ⟨sl p,h.jS 0 rfl (fJ hp), ?_,trivial⟩;refine tH h om om fun r1 r2 r3 r4 w2 h hr=>?_
 refine ⟨_,rfl, ?_,trivial⟩;simp only[aI,Nat.zero_add]
 have hlen:∀(ws:List Int) (j:Nat),j<ws.length->((cB sl m ws)[257+j]?).isSome=true:=fun ws j hj=>by
  rw[lK,gE hj];rfl
 refine h.st 0 rfl (hlen _ 0 (by simp)) rfl fun w3 h=>?_
 refine h.st 0 rfl (by rw[df 0];exact hlen _ 1 (by simp)) rfl fun w4 h=>?_
 refine h.st 0 rfl (by rw[df 0,df 1];exact hlen _ 2 (by simp)) rfl fun w5 h=>?_
 refine h.st 0 rfl (by rw[df 0,df 1,df 2];exact hlen _ 3 (by simp)) rfl fun w6 h=>?_
 have hd:decide (((sl p).len:Int)>0)=decide (0<(sl p).len):=by simp
 rw[hd,Int.toNat_natCast] at hr;refine hK _ ?_;rw[←hr]
 have e:((((cB sl m [b1,b2,b3,b4]).set 257 (.y r1)).set 258 (.y r2)).set 259 (.y r3)).set 260 (.y r4)=cB sl m [r1,r2,r3,r4]:=by
  rw[df 0,df 1,df 2,df 3];rfl
 rw[←e];exact h
theorem Fv {L:Qs} {n:Int} {p:Nat} (h:wh L n=some p):(p,n)∈L:=by
 unfold wh at h;obtain ⟨x,h1,rfl⟩:=Option.map_eq_some_iff.1 h;have h2:=List.find?_some h1;have h3:x.2=n:=by simpa using h2
 have:=List.mem_of_find?_eq_some h1;rw[←h3];exact this
theorem oG {L:Qs} {n:Int}:wh L n=none↔∀x∈L,x.2≠n:=by
 unfold wh;rw[Option.map_eq_none_iff,List.find?_eq_none];simp
theorem Cz {L:Qs} (h:(L.map (·.2)).Nodup) {x y:Nat × Int} (hx:x∈L) (hy:y∈L) (e:x.2=y.2):x=y:=by
 induction L with
 |nil=>cases hx
 |cons a L ih=>
  simp only[List.map_cons,List.nodup_cons,List.mem_map,not_exists,not_and] at h;rcases List.mem_cons.1 hx with hx'|hx'
  ·rcases List.mem_cons.1 hy with hy'|hy'
   ·rw[hx',hy']
   ·rw[hx'] at e;exact absurd e.symm (h.1 y hy')
  ·rcases List.mem_cons.1 hy with hy'|hy'
   ·rw[hy'] at e;exact absurd e (h.1 x hx')
   ·exact ih h.2 hx' hy'
theorem C7 {L:Qs} (h:(L.map (·.2)).Nodup) {n:Int} {p:Nat} (hm:(p,n)∈L):wh L n=some p:=by
 cases hw:wh L n with
 |none=>exact absurd rfl (oG.1 hw _ hm)
 |some q=>have:=Cz h (Fv hw) hm rfl;cases this;rfl
theorem EB {L:Qs} {p:Nat} {n:Int}:n∈bZ L p↔(p,n)∈L:=by
 unfold bZ;rw[List.mem_map];constructor
 ·rintro ⟨⟨a,b⟩,h1,h2⟩
  rw[List.mem_filter] at h1;have:a=p:=by simpa using h1.2
  subst this;have h2:b=n:=h2;subst h2;exact h1.1
 ·intro h;exact ⟨(p,n),List.mem_filter.2 ⟨h,by simp⟩,rfl⟩
theorem xX (L:Qs) (p:Nat) (n:Int) (q:Nat):bZ (L++ [(p,n)]) q=if q=p then bZ L p++ [n] else bZ L q:=by
 unfold bZ;rw[List.filter_append,List.map_append];by_cases e:q=p
 ·subst e;simp
 ·have:(p==q)=false:=by simpa using fun h=>e h.symm
  simp[e,this]
theorem xW (L:Qs) (p:Nat):(bZ L p).length≤L.length:=by
 unfold bZ;rw[List.length_map];exact List.length_filter_le _ _
theorem HU {L:Qs} {p:Nat} {n:Int} (hn:wh L n=none) (x:Int):wh (L++ [(p,n)]) x=if n=x then some p else wh L x:=by
 unfold wh;rw[List.find?_append];by_cases e:n=x
 ·subst e
  have:L.find? (fun y=>y.2==n)=none:=by have h:=hn;unfold wh at h;rwa [Option.map_eq_none_iff] at h
  rw[this];simp
 ·have:(n==x)=false:=by simpa using e
  rw[if_neg e];cases L.find? (fun y=>y.2==x)<;>simp[this]
theorem EV {L:Qs} {p:Nat} {n:Int} (h:FF L) (hp:p<256) (hn:wh L n=none) (hf:L.length<1000000):FF (L++ [(p,n)]):=by
 refine ⟨?_,fun x hx=>?_,by simp;omega⟩
 ·rw[List.map_append,List.nodup_append]
  refine ⟨h.nodup,by simp,fun a ha b hb=>?_⟩;simp only[List.map_cons,List.map_nil,List.mem_singleton] at hb;subst hb;obtain ⟨y,hy,rfl⟩:=List.mem_map.1 ha;exact oG.1 hn y hy
 ·rcases List.mem_append.1 hx with hx|hx
  ·exact h.prio x hx
  ·simp at hx;subst hx;exact hp
def pB (L:Qs) (p n:Int):Int × Qs:=if p<0∨256≤p then (1,L) else match wh L n with|some _=>(90,L)|none=>(0,L++ [(p.toNat,n)])
theorem lL {p n:Int} {K:Int->Pw} (h:Ow B w0 w (bc b L::R)) (hf:L.length<1000000)
  (hK:∀w',Ow B w0 w' (bc b (pB L p n).2::R)->K (pB L p n).1 w'):C.qcj (some ⟨b,0,none⟩) p n K w:=by
 apply S.qcj0;intro k hk;by_cases h0:p<0
 ·rw[show decide (p<0)=true from by simp[h0],cond_true]
  apply hk;rw[cond_true];have e:pB L p n=(1,L):=by unfold pB;rw[if_pos (.inl h0)]
  rw[e] at hK;exact hK w h
 rw[show decide (p<0)=false from by simp;omega,cond_false];apply hk;by_cases h1:256≤p
 ·rw[show decide (p≥256)=true from by simp;omega,cond_true]
  have e:pB L p n=(1,L):=by unfold pB;rw[if_pos (.inr h1)]
  rw[e] at hK;exact hK w h
 rw[show decide (p≥256)=false from by simp;omega,cond_false];obtain ⟨m,rfl⟩:=Int.eq_ofNat_of_zero_le (by omega:0≤p);have hm:m<256:=by omega
 have e:pB L (m:Int) n=match wh L n with|some _=>(90,L)|none=>(0,L++ [(m,n)]):=by
  unfold pB;rw[if_neg om];simp
 obtain ⟨x,hq,hby,hbits,h⟩:=h.queue;refine ⟨_,rfl,some x.m,h.ld 0 rfl kl, ?_⟩;cases hw:wh L n with
 |some q=>
  have hg:=hby n;rw[hw] at hg;refine ⟨(q:Int),true,(h.mF Tryz.underlying248 (aF .i64 Tryz.underlying3) 1 rfl hg).1, ?_⟩;rw[cond_true];rw[e,hw] at hK;exact hK w (h.iI hq hby hbits)
 |none=>
  have hg:=hby n;rw[hw] at hg;refine ⟨0,false,(h.nh Tryz.underlying248 (aF .i64 Tryz.underlying3) (fun w=>Tryz.zeroValue3 w) 1 rfl hg).1, ?_⟩;rw[cond_false];rw[e,hw] at hK;refine h.dr fun w1 h=>?_
  refine ⟨_,rfl,om,om, ?_⟩;simp only[aI,Int.toNat_natCast,Nat.mul_one,Nat.zero_add];refine ⟨x.sl m,h.jS 0 rfl (fJ hm),_,rfl,h.al fun w2 h=>⟨?_,trivial⟩,trivial⟩;have hll:=xW L m;refine BP h (2+m) (Cp hm _ _ _) om fun s' w3 hs' h=>?_
  rw[uW hm (xX L m n · |> fun e=>fun _=>e) _ _ _] at h;refine ⟨om,om, ?_,trivial⟩;simp only[aI,Nat.zero_add];refine h.st 0 rfl (by rw[fJ hm];rfl) rfl fun w4 h=>?_
  have h:Ow B w0 w4 (aa b ((cB x.sl x.m x.ws).set m (eT s'))::mapA x.m x.M::(eK (rI x.sl m s') (L++ [(m,n)])++R)):=h;rw[tc hm] at h;refine ⟨_,rfl,some x.m,h.ld 0 rfl kl, ?_⟩;refine h.iS Tryz.underlying248 (aF .i64 Tryz.underlying3) 1 rfl fun w5 h=>?_
  refine ⟨_,rfl, ?_⟩;refine gb h hm hbits.1 fun w6 h=>?_
  refine hK w6 (Ow.iI (EV hq hm hw hf) ?_ ?_ h)
  ·intro y
   rw[pk,HU hw,hby y];split<;>rfl
  ·have hlen:(rI x.sl m s' m).len=(bZ L m).length+1:=by simp[rI,hs']
   rw[hlen,show decide (0<(bZ L m).length+1)=true from by simp];refine (hbits.set hm true).congr fun i hi=>?_
   show (if i=m then true else kF L i)=kF (L++ [(m,n)]) i;unfold kF;rw[xX];by_cases e:i=m
   ·simp[e]
   ·simp[e]
theorem mX {sl:Nat->Sl} {p:Nat} (hp:p<256) (pre R:List aA):(pre++(eK sl L++R))[p+pre.length]?=some (ah aG (sl p) (bZ L p)):=by
 rw[Nat.add_comm,List.getElem?_append_right om,Nat.add_sub_cancel_left,List.getElem?_append_left (by simpa [eK] using hp)];simp only[eK,List.getElem?_map,List.getElem?_range hp,Option.map_some]
theorem zG {sl:Nat->Sl} {p:Nat} (hp:p<256) {s:Sl} {ns:List Int} {L':Qs} (hL:∀q,q<256->bZ L' q=if q=p then ns else bZ L q) (pre R:List aA):
  (pre++(eK sl L++R)).set (p+pre.length) (ah aG s ns)=pre++(eK (rI sl p s) L'++R):=by
 have h:=uW (L:=L) (L':=L') (sl:=sl) (s:=s) (ns:=ns) hp hL (dX True) (dX True) R;rw[show 2+p=p+1+1 from by omega,List.set_cons_succ,List.set_cons_succ] at h;rw[Nat.add_comm p pre.length,List.set_append_right _ _ om,Nat.add_sub_cancel_left];congr 1;simp only[List.cons.injEq,true_and] at h;exact h
theorem tf {K:Option Addr->Pw} (h:Ow B w0 w R) (hK:∀b w',Ow B w0 w' (bc b []::R)->K (some ⟨b,0,none⟩) w'):C.qdD K w:=by
 apply S.qdD0;refine h.xk (Value.int .i64) (Value.int .i64) fun w1 h=>?_
 refine h.al fun w2 h=>?_
 refine hK _ w2 ?_
 have hlines:∀(n:Nat) (w:World) (R:List aA),Ow B w0 w R->Ow B w0 w ((List.range n).map (fun p=>ah aG ⟨none,0,0⟩ (bZ [] p))++R):=by
  intro n
  induction n with
  |zero=>intro w R h;exact h
  |succ n ih=>
   intro w R h;rw[List.range_succ,List.map_append,List.append_assoc];exact ih w _ (Ow.dK h)
 have h:=h.DB (l':=cB (fun _=>⟨none,0,0⟩) w.heap.size [0,0,0,0]) (by kernel_rfl);refine Ow.iI (m:=w.heap.size) (M:=[]) (sl:=fun _=>⟨none,0,0⟩) (ws:=[0,0,0,0]) ⟨by simp,by simp,by simp⟩ (fun n=>rfl) (gk.zero.congr fun i _=>rfl) ?_;exact ((hlines 256 w2 _ h).perm List.perm_middle).perm ((List.perm_middle).cons _)
theorem xV (L:Qs) (n:Int) (q:Nat):bZ (L.filter fun x=>x.2 !=n) q=(bZ L q).filter fun x=>x !=n:=by
 unfold bZ;rw[List.filter_map,List.filter_filter,List.filter_filter];congr 1;apply List.filter_congr;intro x _;simp[Function.comp,Bool.and_comm]
theorem uU {L:Qs} (h:(L.map (·.2)).Nodup) {n:Int} {p:Nat} (hw:wh L n=some p) (q:Nat):bZ (L.filter fun x=>x.2 !=n) q=if q=p then (bZ L p).filter (fun x=>x !=n) else bZ L q:=by
 rw[xV];by_cases e:q=p
 ·subst e;simp
 ·rw[if_neg e,List.filter_eq_self]
  intro x hx;rw[EB] at hx;simp only[bne_iff_ne,ne_eq];intro e';subst e';have:=C7 h hx;rw[hw] at this;cases this;exact e rfl
theorem GP {L:Qs} (n x:Int):wh (L.filter fun y=>y.2 !=n) x=if n=x then none else wh L x:=by
 by_cases e:n=x
 ·subst e
  rw[if_pos rfl,oG];intro y hy;have:=(List.mem_filter.1 hy).2;simpa using this
 ·rw[if_neg e]
  unfold wh;congr 1;rw[List.find?_filter];congr 1;funext y;by_cases e2:y.2=x
  ·have:¬y.2=n:=fun h=>e (h.symm.trans e2)
   simp[e2,this];rw[e2] at this;exact this
  ·simp[e2]
def iO (L:Qs) (n:Int):Int × Qs:=match wh L n with|some _=>(0,L.filter fun x=>x.2 !=n)|none=>(91,L)
theorem ga {n:Int} {K:Int->Pw} (h:Ow B w0 w (bc b L::R))
  (hK:∀w',Ow B w0 w' (bc b (iO L n).2::R)->K (iO L n).1 w'):C.qbZ (some ⟨b,0,none⟩) n K w:=by
 apply S.qbZ0;obtain ⟨x,hq,hby,hbits,h⟩:=h.queue;refine h.al fun w1 h=>?_
 refine h.dr fun w2 h=>?_
 refine ⟨_,rfl,some x.m,h.ld 1 rfl kl,n,h.jS 0 rfl rfl, ?_,trivial⟩;cases hw:wh L n with
 |none=>
  have hg:=hby n;rw[hw] at hg;refine ⟨0,false,(h.nh Tryz.underlying248 (aF .i64 Tryz.underlying3) (fun w=>Tryz.zeroValue3 w) 2 rfl hg).1, ?_⟩;simp only[Bool.not_false,cond_true];have e:iO L n=(91,L):=by unfold iO;rw[hw]
  rw[e] at hK;exact hK w2 (h.drop.iI hq hby hbits)
 |some p=>
  have hg:=hby n;rw[hw] at hg;have hp:p<256:=hq.prio _ (Fv hw);refine ⟨(p:Int),true,(h.mF Tryz.underlying248 (aF .i64 Tryz.underlying3) 2 rfl hg).1, ?_⟩;simp only[Bool.not_true,cond_false];have e:iO L n=(0,L.filter fun x=>x.2 !=n):=by unfold iO;rw[hw]
  rw[e] at hK;refine h.dr fun w3 h=>?_
  refine ⟨_,rfl,om,om, ?_⟩;simp only[aI,Int.toNat_natCast,Nat.mul_one,Nat.zero_add];refine ⟨x.sl p,h.jS 1 rfl (fJ hp),_,rfl, ?_,trivial⟩;have hll:=xW L p;have hfew:=hq.gT;refine dS (p:=fun y=>y==n) h (p+3) (mX hp [_,_,_] R) om ?_ fun s' w4 h=>?_
  ·intro ys hys y w5 Q h hQ
   refine aP ?_
   have hA:C.qcb y (Addr.mk w.heap.size 0 none) Q w5:=by
    apply S.qcb0;exact ⟨n,h.jS 0 rfl rfl,hQ _ h⟩
   exact hA
  ·have h:Ow B w0 w4 ([aa w.heap.size [.z n],aa b (cB x.sl x.m x.ws),mapA x.m x.M]++(eK (rI x.sl p s') (L.filter fun x=>x.2 !=n)++R)):=by
    have:=zG (L:=L) (sl:=x.sl) hp (fun q _=>uU hq.nodup hw q) [aa w.heap.size [.z n],aa b (cB x.sl x.m x.ws),mapA x.m x.M] R (s:=s');rw[←this];exact h
   have hlen:=h.len (p+3) (mX hp [_,_,_] R);have hMn:(x.M.map (·.1)).Nodup:=(h.take 2 rfl).head fun _ hG=>hG.2.nodup
   refine ⟨om,om, ?_,trivial⟩;simp only[aI,Nat.zero_add];refine h.st 1 rfl (by rw[fJ hp];rfl) rfl fun w6 h=>?_
   have h:Ow B w0 w6 (aa w.heap.size [.z n]::aa b ((cB x.sl x.m x.ws).set p (eT s'))::mapA x.m x.M::(eK (rI x.sl p s') (L.filter fun x=>x.2 !=n)++R)):=h;rw[tc hp] at h;refine h.dr fun w7 h=>?_
   refine ⟨_,rfl,some x.m,h.ld 1 rfl kl,n,h.jS 0 rfl rfl, ?_,trivial⟩;refine h.Ez Tryz.underlying248 (aF .i64 Tryz.underlying3) 2 rfl fun w8 h=>?_
   refine ⟨_,rfl, ?_⟩;refine gb h.drop hp hbits.1 fun w9 h=>?_
   refine hK w9 (Ow.iI ⟨?_,fun y hy=>hq.prio y (List.mem_filter.1 hy).1,Nat.le_trans (List.length_filter_le _ _) hq.gT⟩ ?_ ?_ h)
   ·exact List.Nodup.sublist (List.filter_sublist.map _) hq.nodup
   ·intro y
    rw[pj hMn,GP,hby y];split<;>rfl
   ·rw[hlen]
    refine (hbits.set hp _).congr fun i hi=>?_
    show (if i=p then decide (0<(bZ (L.filter fun x=>x.2 !=n) p).length) else kF L i)=kF (L.filter fun x=>x.2 !=n) i;unfold kF;by_cases e:i=p
    ·subst e
     rw[if_pos rfl];cases bZ (L.filter fun x=>x.2 !=n) i<;>simp
    ·rw[if_neg e,uU hq.nodup hw i,if_neg e]
def GO (L:Qs):Option Nat:=nz (kF L) 256
def jF (L:Qs):Option Int:=(GO L).bind fun p=>(bZ L p).head?
theorem Fo {L:Qs} {p:Nat} (h:GO L=some p):p<256/\∃n l,bZ L p=n::l:=by
 obtain ⟨h1,h2,_⟩:=yP h;refine ⟨h1, ?_⟩;unfold kF at h2;cases hl:bZ L p with
 |nil=>rw[hl] at h2;cases h2
 |cons n l=>exact ⟨n,l,rfl⟩
theorem kN {K:Int->Bool->Pw} (h:Ow B w0 w (bc b L::R))
  (hK:∀w',Ow B w0 w' (bc b L::R)->K ((jF L).getD 0) (jF L).isSome w'):C.qbY (some ⟨b,0,none⟩) K w:=by
 apply S.qbY0;obtain ⟨x,hq,hby,hbits,h⟩:=h.queue;obtain ⟨b1,b2,b3,b4,hws⟩:=four x.ws hbits.1
 have hwd:∀j v,([b1,b2,b3,b4].map (Value.int .u64))[j]?=some v->(cB x.sl x.m x.ws)[257+j]?=some v:=fun j v hv=>by
  rw[lK,←List.getElem?_map,hws];exact hv
 refine ⟨_,rfl, ?_⟩;simp only[aI,Nat.zero_add];refine ⟨_,h.jS 0 rfl (hwd 0 _ rfl),_,h.jS 0 rfl (hwd 1 _ rfl),_,h.jS 0 rfl (hwd 2 _ rfl),_,h.jS 0 rfl (hwd 3 _ rfl), ?_⟩;refine tI h (by rw[←hws];exact hbits) fun w1 h=>?_
 unfold C0;cases ht:nz (kF L) 256 with
 |none=>
  simp only;rw[show decide ((-1:Int)<0)=true from rfl,cond_true];have e:jF L=none:=by unfold jF GO;rw[ht];rfl
  rw[e] at hK;exact hK w1 (h.iI hq hby hbits)
 |some p=>
  simp only;obtain ⟨hp,n,l,hl⟩:=Fo ht;rw[show decide ((p:Int)<0)=false from by simp,cond_false];refine ⟨_,rfl,om,om, ?_⟩;simp only[aI,Int.toNat_natCast,Nat.mul_one,Nat.zero_add];have hL:=mX (L:=L) (sl:=x.sl) hp [aa b (cB x.sl x.m x.ws),mapA x.m x.M] R;rw[hl] at hL;obtain ⟨a,ha,hc⟩:=h.Ge (p+2) hL (j:=0) rfl;have hlen:=h.len (p+2) hL;refine ⟨x.sl p,h.jS 0 rfl (fJ hp),a,ha,om,by rw[hlen];simp,n,hc, ?_⟩;have e:jF L=some n:=by unfold jF GO;rw[ht];simp[hl]
  rw[e] at hK;exact hK w1 (h.iI hq hby hbits)
end
end Go.Proofs.YtlhljbbfckbjpaaGreat.Th
end
section
set_option maxRecDepth 100000
namespace Go.Proofs.YtlhljbbfckbjpaaGreat
open Go Go.Vc Go.Proofs
theorem S.qaL0 {a b K w}:Fr (C.qaL a b K w) (C.qY a b (fun c d e=>bif !d then K false e else ∃d,a=some d/\∃f:Sl,e.cell? d=some (.slice f.a f.len f.cap)/\∃d,f.a=some d/\0≤c/\c<(f.len:Int)/\∃g,e.cell? ((d.add (c.toNat*12)).add 3)=some (.z g)/\∃d,f.a=some d/\0≤c/\c<(f.len:Int)/\St e ((d.add (c.toNat*12)).add 3) (.z (IntKind.i64.wrap (g-1))) fun d=>∃e,a=some e/\∃f:Sl,d.cell? e=some (.slice f.a f.len f.cap)/\∃e,f.a=some e/\0≤c/\c<(f.len:Int)/\∃f,d.cell? ((e.add (c.toNat*12)).add 3)=some (.z f)/\bif decide (f≤0) then C.qaf a b (fun _ a=>K true a) d else K true d) w):=aD Tryz.func47 (.v (.v (.y (.v (.x .w)) (.v (.y (.v .w) .w)))))
theorem S.qdp0 {a K w}:Fr (C.qdp a K w) (∀b:Bool->Pw,(∀(c:Bool) (d:World),(bif c then K none 1 d else A2 d [.z (-1)] 3 fun b c=>C.qaw ⟨some b.p,1,1⟩ a (fun b c=>A2 c [.slice none 0 0, .slice none 0 0, .slice b.a b.len b.cap] 176 fun b c=>∀d:Int->Pw,(∀(c:Int) (e:World),(bif decide (c<a) then Dr e fun a=>∃f,some b.p=some f/\∃g:Sl,a.cell? (f.add 1)=some (.slice g.a g.len g.cap)/\(C.qdD (fun a e=>e.cell? (f.add 1)=some (.slice g.a g.len g.cap)/\(A2 e [.pointer a] 198 fun a e=>(∃f h,bo Tryz.prog [174,174] 174 (.slice g.a g.len g.cap) (.slice (some a.p) 1 1) e f h/\∃a,some b.p=some a/\(St h (a.add 1) (.slice f.a f.len f.cap) fun a=>d (IntKind.i64.wrap (c+1)) a)/\True)/\True)/\True) a)/\True else K (some b.p) 0 e)->d c e)->d 0 c) c)->b c d)->(bif decide (a<1) then b true w else b (decide (a>8)) w)):=aD Tryz.func55 (.v (.y (.y (.r (some [(10,.c .b)]) .done) (.x .w)) (.v (.y (.v (.x (.t (some [(17,.c (.i .i64))]) (.v (.y .w (.x (.x (.z (.o 0 254 (.o 1 96 (.o 2 96 (.o 3 96 (.hold 4 96 895 (.e 5 (.e 6 (.e 7 (.o 8 0 (.o 9 0 (.e 10 .done)))))))))))))))) .u))) .w))))
theorem S.qN0 {a b c K w}:Fr (C.qN a b c K w) (∀d:Bool->Pw,(∀(e:Bool) (f:World),(bif e then K 0 1 f else ∃d,a=some d/\∃e:Sl,f.cell? d=some (.slice e.a e.len e.cap)/\bif decide ((e.len:Int)≥64) then K 0 2 f else ∃d,a=some d/\∃e:Sl,f.cell? d=some (.slice e.a e.len e.cap)/\A2 f [.z 0, .z b, .z c, .z 5, .y 0, .y 0, .y 0, .y 0, .y 0, .y 0, .y 0, .y 0] 172 fun b c=>∃d f,bo Tryz.prog [173,173] 173 (.slice e.a e.len e.cap) (.slice (some b.p) 1 1) c d f/\∃b,a=some b/\St f b (.slice d.a d.len d.cap) fun b=>∃c,a=some c/\∃a:Sl,b.cell? c=some (.slice a.a a.len a.cap)/\K (IntKind.i64.wrap ((a.len:Int)-1)) 0 b)->d e f)->(C.qcG b (fun b e=>bif !b then d true e else C.qZ a c (fun a b=>d (!a) b) e) w)):=aD Tryz.func59 (.v (.y (.x (.y (.r (some [(8,.c .b)]) .done) (.y .w (.v (.x .w))))) (.v .w)))
theorem S.qG0 {a b K w}:Fr (C.qG a b K w) (C.qx a b (fun c d=>bif c.isNone then K 100 d else ∀e:Bool->Pw,(∀(c:Bool) (d:World),(bif c then K 101 d else C.qH a b (fun a=>K 0 a) d)->e c d)->(∃a,c=some a/\∃b,d.cell? a=some (.z b)/\bif b==1 then e true d else ∃a,c=some a/\∃b,d.cell? a=some (.z b)/\e (b==2) d)) w):=aD Tryz.func60 (.v (.v (.y (.x (.v (.y .w (.y (.r (some [(12,.c .b)]) .done) (.x .w))))) (.v .w))))
theorem S.qO0 {a b K w}:Fr (C.qO a b K w) (C.qZ a b (fun c d=>bif !c then K 0 false d else C.qY a b (fun c d e=>∃f,a=some f/\∃g:Sl,e.cell? (f.add 1)=some (.slice g.a g.len g.cap)/\∃f,g.a=some f/\0≤b/\b<(g.len:Int)/\∃g,e.cell? (f.add (b.toNat*1))=some (.pointer g)/\C.qbY g (fun e f g=>∀h:Bool->Pw,(∀(f:Bool) (g:World),(bif f then K c d g else ∀f:Pw,(∀c:World,(C.qi a e 2 (fun c=>∃d,a=some d/\∃a:Sl,c.cell? (d.add 2)=some (.slice a.a a.len a.cap)/\∃d,a.a=some d/\0≤b/\b<(a.len:Int)/\St c (d.add (b.toNat*1)) (.z e) fun a=>K e true a) c)->f c)->(bif d then C.qi a c 1 (fun b=>C.qH a c (fun a=>f a) b) g else f g))->h f g)->(Dr g fun b=>bif !f then h true b else bif d then ∃d,a=some d/\∃f:Sl,b.cell? d=some (.slice f.a f.len f.cap)/\∃d,f.a=some d/\0≤e/\e<(f.len:Int)/\∃f,b.cell? ((d.add (e.toNat*12)).add 1)=some (.z f)/\∃d,a=some d/\∃a:Sl,b.cell? d=some (.slice a.a a.len a.cap)/\∃d,a.a=some d/\0≤c/\c<(a.len:Int)/\∃a,b.cell? ((d.add (c.toNat*12)).add 1)=some (.z a)/\h (decide (f≤a)) b else h false b)) e) d) w):=aD Tryz.func61 (.v (.y (.v (.x .w)) (.v (.v (.y (.y (.r (some [(54,.c .b)]) (.o 0 0 (.o 1 0 (.o 2 0 (.o 3 0 (.o 4 0 (.o 5 2089472 (.o 6 2089472 (.o 7 2089472 (.o 8 2089472 (.o 9 2088960 (.o 10 2088960 (.o 11 2088960 (.o 12 2088960 (.o 13 131072 (.o 14 131072 (.o 15 131072 (.o 16 131072 (.o 17 0 (.o 18 0 (.o 19 0 (.o 20 0 (.o 21 0 (.o 22 0 (.o 23 0 .done))))))))))))))))))))))))) (.x .w)) (.y (.v (.t (some []) .w .u)) (.v (.v .w))))))))
theorem S.qA0 {a b c d K w}:Fr (C.qA a b c d K w) (C.qx a b (fun a b=>∀e:Int->Pw,(∀(b:Int) (f:World),(bif b !=0 then K b f else ∃b,a=some b/\0≤c/\c<8/\St f ((b.add 4).add (c.toNat*1)) (.y d) fun a=>K 0 a)->e b f)->(C.qbD a.isNone 100 (fun a b=>bif decide (c<0) then C.qbD true 1 (fun b c=>A2 c [.z a, .z b] 32 fun a b=>C.qbC ⟨some a.p,2,2⟩ (fun a b=>e a b) b) b else C.qbD (decide (c≥8)) 1 (fun b c=>A2 c [.z a, .z b] 32 fun a b=>C.qbC ⟨some a.p,2,2⟩ (fun a b=>e a b) b) b) b)) w):=aD Tryz.func77 (.v (.v (.y (.y (.r (some [(10,.c (.i .i64))]) .done) (.v (.x .w))) (.v .w))))
theorem S.qY0 {a b K w}:Fr (C.qY a b K w) (∀c:Bool->Pw,(∀(d:Bool) (e:World),(bif d then K 0 false e else ∃c,a=some c/\∃a:Sl,e.cell? (c.add 2)=some (.slice a.a a.len a.cap)/\∃c,a.a=some c/\0≤b/\b<(a.len:Int)/\∃a,e.cell? (c.add (b.toNat*1))=some (.z a)/\K a true e)->c d e)->(C.qZ a b (fun d e=>bif !d then c true e else ∃d,a=some d/\∃a:Sl,e.cell? (d.add 2)=some (.slice a.a a.len a.cap)/\∃d,a.a=some d/\0≤b/\b<(a.len:Int)/\∃a,e.cell? (d.add (b.toNat*1))=some (.z a)/\c (a==(-1)) e) w)):=aD Tryz.func78 (.v (.y (.y (.r (some [(19,.c .b)]) .done) (.x .w)) .w))
theorem S.qaf0 {a b K w}:Fr (C.qaf a b K w) (C.qY a b (fun c d e=>bif !d then K false e else ∃d,a=some d/\∃f:Sl,e.cell? d=some (.slice f.a f.len f.cap)/\∃d,f.a=some d/\0≤c/\c<(f.len:Int)/\St e ((d.add (c.toNat*12)).add 3) (.z 5) fun d=>C.qi a c 1 (fun d=>C.qH a c (fun c=>C.qO a b (fun _ _ a=>K true a) c) d) d) w):=aD Tryz.func79 (.v (.v (.y (.v (.x .w)) (.v (.v (.v (.v .w)))))))
theorem S.qcG0 {a K w}:Fr (C.qcG a K w) (bif decide (a≥0) then K (decide (a<256)) w else K false w):=aD Tryz.func90 (.v .w)
theorem S.qZ0 {a b K w}:Fr (C.qZ a b K w) (bif decide (b≥0) then ∃c,a=some c/\∃a:Sl,w.cell? (c.add 1)=some (.slice a.a a.len a.cap)/\K (decide (b<(a.len:Int))) w else K false w):=aD Tryz.func91 (.v .w)
theorem S.qx0 {a b K w}:Fr (C.qx a b K w) (∀c:Bool->Pw,(∀(d:Bool) (e:World),(bif d then K none e else ∃c,a=some c/\∃a:Sl,e.cell? c=some (.slice a.a a.len a.cap)/\∃c,a.a=some c/\0≤b/\b<(a.len:Int)/\K (some (c.add (b.toNat*12))) e)->c d e)->(bif decide (b<0) then c true w else ∃d,a=some d/\∃a:Sl,w.cell? d=some (.slice a.a a.len a.cap)/\c (decide (b≥(a.len:Int))) w)):=aD Tryz.func92 .Jz
theorem S.qH0 {a b K w}:Fr (C.qH a b K w) (C.qx a b (fun c d=>∃e,c=some e/\St d e (.z 1) fun d=>Dr d fun d=>∃e,a=some e/\∃a:Sl,d.cell? (e.add 1)=some (.slice a.a a.len a.cap)/\∃e,c=some e/\∃f,d.cell? (e.add 2)=some (.z f)/\∃e,a.a=some e/\0≤f/\f<(a.len:Int)/\∃a,d.cell? (e.add (f.toNat*1))=some (.pointer a)/\∃e,c=some e/\∃c,d.cell? (e.add 1)=some (.z c)/\(C.qcj a c b (fun _ a=>K a) d)/\True) w):=aD Tryz.func93 (.v (.v (.z (.o 0 31984 (.o 1 31984 (.o 2 31984 (.o 3 31984 (.o 4 31744 (.o 5 31744 (.o 6 31744 (.o 7 31744 (.o 8 31744 (.o 9 31744 (.o 10 16384 (.o 11 16384 (.o 12 16384 (.o 13 16384 (.o 14 0 (.e 15 .done)))))))))))))))))))
theorem S.qi0 {a b c K w}:Fr (C.qi a b c K w) (C.qx a b (fun d e=>∃f,d=some f/\∃g,e.cell? f=some (.z g)/\∀f:Pw,(∀a:World,(∃b,d=some b/\St a b (.z c) fun a=>K a)->f a)->(bif g==1 then Dr e fun c=>∃h,a=some h/\∃i:Sl,c.cell? (h.add 1)=some (.slice i.a i.len i.cap)/\∃h,d=some h/\∃j,c.cell? (h.add 2)=some (.z j)/\∃h,i.a=some h/\0≤j/\j<(i.len:Int)/\∃i,c.cell? (h.add (j.toNat*1))=some (.pointer i)/\(C.qbZ i b (fun _ a=>f a) c)/\True else bif g==2 then Dr e fun b=>∃c,a=some c/\∃a:Sl,b.cell? (c.add 2)=some (.slice a.a a.len a.cap)/\∃c,d=some c/\∃d,b.cell? (c.add 2)=some (.z d)/\∃c,a.a=some c/\0≤d/\d<(a.len:Int)/\(St b (c.add (d.toNat*1)) (.z (-1)) fun a=>f a)/\True else f e)) w):=aD Tryz.func95 (.v (.x (.v (.x (.v (.t (some []) (.z (.o 0 1264 (.o 1 1264 (.o 2 1264 (.o 3 1264 (.o 4 1024 (.o 5 1024 (.o 6 1024 (.o 7 1024 (.o 8 1024 (.o 9 1024 (.o 10 0 (.e 11 .done))))))))))))) (.v (.x (.z (.o 0 240 (.o 1 240 (.o 2 240 (.o 3 240 .I7)))))))))))))
theorem S.qbC0 {a K w}:Fr (C.qbC a K w) (C.qz a (.func (.func 152) #[] #[]) (fun b c=>bif decide (b<0) then K 0 c else ∃d,a.a=some d/\0≤b/\b<(a.len:Int)/\∃a,c.cell? (d.add (b.toNat*1))=some (.z a)/\K a c) w):=aD Tryz.func109 .H3
theorem S.qbD0 {a b K w}:Fr (C.qbD a b K w) (bif a then K b w else K 0 w):=aD Tryz.func110 .G3
theorem S.qcI0 {a K w}:Fr (C.qcI a K w) (K (a !=0) w):=aD Tryz.func152 (.v .w)
theorem S.qau0 {a b K w}:Fr (C.qau a b K w) (A2 w [.z 0, .z 0, .z 0, .z 0, .y 0, .y 0, .y 0, .y 0, .y 0, .y 0, .y 0, .y 0] 172 fun c d=>C.qx a b (fun a b=>bif a.isNone then aH b c.p 0 [.z 0, .z 0, .z 0, .z 0, .y 0, .y 0, .y 0, .y 0, .y 0, .y 0, .y 0, .y 0] fun d=>az d c.p 0 [.o, .o, .o, .o, .u, .u, .u, .u, .u, .u, .u, .u] fun (e f g h i j k l m n o p:Int)=>K e f g h i j k l m n o p 100 d else ∃d,a=some d/\az b d 0 [.o, .o, .o, .o, .u, .u, .u, .u, .u, .u, .u, .u] fun (a d e f g h i j k l m n:Int)=>aH b c.p 0 [.z a, .z d, .z e, .z f, .y g, .y h, .y i, .y j, .y k, .y l, .y m, .y n] fun a=>az a c.p 0 [.o, .o, .o, .o, .u, .u, .u, .u, .u, .u, .u, .u] fun (b c d e f g h i j k l m:Int)=>K b c d e f g h i j k l m 0 a) d):=aD Tryz.func187 .H3
theorem S.qK0 {a b K w}:Fr (C.qK a b K w) (C.qx a b (fun c d=>bif c.isNone then K 100 d else ∃e,c=some e/\∃c,d.cell? e=some (.z c)/\bif c==0 then K 101 d else C.qi a b 0 (fun a=>K 0 a) d) w):=aD Tryz.func190 .JC
theorem S.qaQ0 {a b c K w}:Fr (C.qaQ a b c K w) (C.qx a b (fun d e=>C.qbD d.isNone 100 (fun e f=>C.qcG c (fun f g=>C.qbD (!f) 1 (fun f g=>A2 g [.z e, .z f] 32 fun e f=>C.qbC ⟨some e.p,2,2⟩ (fun e f=>bif e !=0 then K e f else ∃e,d=some e/\∃g,f.cell? e=some (.z g)/\bif g !=1 then ∃e,d=some e/\St f (e.add 1) (.z c) fun e=>K 0 e else C.qi a b 1 (fun e=>∃f,d=some f/\St e (f.add 1) (.z c) fun c=>C.qH a b (fun a=>K 0 a) c) f) f) g) f) e) w):=aD Tryz.func191 (.v (.v (.y (.v (.v (.x .w))) (.y (.v (.x (.v .w))) (.v (.v (.v .w)))))))
theorem S.qag0 {a b K w}:Fr (C.qag a b K w) (C.qx a b (fun c d=>bif c.isNone then K 100 d else ∃e,c=some e/\∃c,d.cell? e=some (.z c)/\bif c !=2 then K 101 d else C.qi a b 3 (fun a=>K 0 a) d) w):=aD Tryz.func234 .JC
theorem S.qdT0 {a K w}:Fr (C.qdT a K w) (∀b:Bool->Pw,(∀(c:Bool) (d:World),(bif c then K none 1 d else A2 d [.slice none 0 0, .z a] 146 fun a b=>K (some a.p) 0 b)->b c d)->(bif decide (a<1) then b true w else b (decide (a>256)) w)):=aD Tryz.func34 .Is
theorem S.qdd0 {a b c K w}:Fr (C.qdd a b c K w) (A2 w [.z 0, .z 0] 38 fun d e=>∃f,a=some f/\∃a:Sl,e.cell? f=some (.slice a.a a.len a.cap)/\∀f:Int->Pw,(∀(e:Int) (g:World),(bif decide (e<(a.len:Int)) then ∃h,a.a=some h/\0≤e/\e<(a.len:Int)/\az g (h.add (e.toNat*4)) 0 [.o, .o, .o, .o] fun (a h i j:Int)=>A2 g [.z 0, .z 0, .z 0, .z 0] 153 fun k l=>aH l k.p 0 [.z a, .z h, .z i, .z j] fun a=>Dr a fun a=>az a k.p 0 [.o, .o, .o, .o] fun (h i j l:Int)=>(C.qdO b (fun a b=>vz b k.p 0 [.z h, .z i, .z j, .z l] ((C.qdP c (fun b c=>vz c k.p 0 [.z h, .z i, .z j, .z l] ((a.oneCell'=true/\b.oneCell'=true/\A2 c [a,b] 214 fun a b=>(C.qdN h i j l ⟨some a.p,2,2⟩ (fun a b=>bif a then az b (k.p.add 2) 0 [.o, .o] fun (a c:Int)=>aH b d.p 0 [.z a, .z c] fun a=>az a d.p 0 [.o, .o] fun (c d:Int)=>K c d true a else f (IntKind.i64.wrap (e+1)) b) b)/\True)/\True)) b)/\True)) a)/\True else aH g d.p 0 [.z 0, .z 0] fun a=>az a d.p 0 [.o, .o] fun (b c:Int)=>K b c false a)->f e g)->f 0 e):=aD Tryz.func63 (.v (.y (.v (.x (.t (some [(15,.c (.i .i64))]) (.v (.y .w (.x (.x (.v (.y (.z (.o 1 9 (.o 3 5 (.hold 0 52 63 (.e 2 (.e 4 (.e 5 (.e 6 .done)))))))) (.x .w))))))) .u))) .w))
theorem S.qde0 {a b c d e K w}:Fr (C.qde a b c d e K w) (A2 w [.z b, .z c, .z d, .z e] 153 fun b c=>∀d:Bool->Pw,(∀(c:Bool) (e:World),(∀d:Pw,(∀c:World,(Dr c fun c=>∃d,a=some d/\∃e:Sl,c.cell? d=some (.slice e.a e.len e.cap)/\az c b.p 0 [.o, .o, .o, .o] fun (b d f g:Int)=>(A2 c [.z b, .z d, .z f, .z g] 153 fun b c=>(∃d f,bo Tryz.prog [34,34] 34 (.slice e.a e.len e.cap) (.slice (some b.p) 1 1) c d f/\∃b,a=some b/\(St f b (.slice d.a d.len d.cap) fun a=>K a)/\True)/\True)/\True)->d c)->(bif c then ∃b,a=some b/\∃c:Sl,e.cell? b=some (.slice c.a c.len c.cap)/\C.qB c 0 1 (fun b c=>∃e,a=some e/\St c e (.slice b.a b.len b.cap) fun a=>d a) e else d e))->d c e)->(Dr c fun c=>∃e,c.cell? b.p=some (.z e)/\∃f,c.cell? (b.p.add 1)=some (.z f)/\(C.qdO e (fun c e=>e.cell? (b.p.add 1)=some (.z f)/\(C.qdP f (fun b e=>(c.oneCell'=true/\b.oneCell'=true/\A2 e [c,b] 214 fun b c=>(C.qcH a ⟨some b.p,2,2⟩ (fun b c=>bif b==0 then ∃b,a=some b/\∃e:Sl,c.cell? b=some (.slice e.a e.len e.cap)/\∃b,a=some b/\∃a,c.cell? (b.add 1)=some (.z a)/\d (decide ((e.len:Int)≥a)) c else d false c) c)/\True)/\True) e)/\True) c)/\True)):=aD Tryz.func65 (.v (.y (.y (.r (some [(25,.c .b)]) (.o 0 254 (.o 1 48 (.o 2 48 (.o 4 8 (.hold 5 8 4193855 (.e 3 (.e 6 (.e 7 (.e 8 (.o 9 0 (.o 10 0 (.o 11 983040 (.o 12 983040 (.o 13 983040 (.o 14 983040 (.o 15 983040 (.o 16 0 (.o 17 0 (.o 18 0 (.o 19 0 (.o 20 0 (.o 21 0 .done))))))))))))))))))))))) (.t (some []) .u .u)) (.z (.o 0 254 (.o 1 96 (.o 2 96 (.o 3 96 (.o 4 96 (.o 5 0 (.e 6 (.e 7 (.o 8 0 (.o 9 0 (.e 10 .done))))))))))))))
theorem S.qcE0 {a b c K w}:Fr (C.qcE a b c K w) (C.qdO b (fun b d=>C.qdP c (fun c d=>b.oneCell'=true/\c.oneCell'=true/\A2 d [b,c] 214 fun b c=>C.qcH a ⟨some b.p,2,2⟩ (fun a b=>K (decide (a>0)) b) c) d) w):=aD Tryz.func67 (.v .w)
theorem S.qdN0 {a b c d e K w}:Fr (C.qdN a b c d e K w) (A2 w [.z a, .z b, .z c, .z d] 153 fun a b=>C.qb e (.func (.func 124) #[] #[.pointer (some a.p)]) (fun a b=>K (!a) b) b):=aD Tryz.func96 (.v .w)
theorem S.qdO0 {a K w}:Fr (C.qdO a K w) (A2 w [.z a] 3 fun a b=>K (.func (.func 125) #[] #[.pointer (some a.p)]) b):=aD Tryz.func97 (.v .w)
theorem S.qdP0 {a K w}:Fr (C.qdP a K w) (A2 w [.z a] 3 fun a b=>K (.func (.func 126) #[] #[.pointer (some a.p)]) b):=aD Tryz.func98 (.v .w)
theorem S.qcH0 {a b K w}:Fr (C.qcH a b K w) (A2 w [.slice b.a b.len b.cap] 264 fun b c=>∃d,a=some d/\∃e:Sl,c.cell? d=some (.slice e.a e.len e.cap)/\∃d,a=some d/\∃f:Sl,c.cell? d=some (.slice f.a f.len f.cap)/\C.qr f (.func (.func 130) #[] #[.pointer (some b.p)]) (fun b c=>∃d,a=some d/\St c d (.slice b.a b.len b.cap) fun b=>∃c,a=some c/\∃a:Sl,b.cell? c=some (.slice a.a a.len a.cap)/\K (IntKind.i64.wrap ((e.len:Int)-(a.len:Int))) b) c):=aD Tryz.func102 (.v (.v (.v .w)))
theorem S.qdL0 {a b K w}:Fr (C.qdL a b K w) (az w b 0 [.o, .o, .o, .o] fun (b c d e:Int)=>bY Tryz.prog (a) [.agg #[.z b, .z c, .z d, .z e]] w fun a b=>∃c,a= .returned (.bool c)/\K (!c) b):=aD Tryz.func124 (.v .w)
theorem S.qdQ0 {a b c d e K w}:Fr (C.qdQ a b c d e K w) (A2 w [.z a, .z b, .z c, .z d] 153 fun a b=>∃c,b.cell? a.p=some (.z c)/\∃a,b.cell? e=some (.z a)/\K (c==a) b):=aD Tryz.func125 (.v .w)
theorem S.qdR0 {a b c d e K w}:Fr (C.qdR a b c d e K w) (A2 w [.z a, .z b, .z c, .z d] 153 fun a b=>∃c,b.cell? (a.p.add 1)=some (.z c)/\∃a,b.cell? e=some (.z a)/\K (c==a) b):=aD Tryz.func126 (.v .w)
theorem S.qcU0 {a b c d e K w}:Fr (C.qcU a b c d e K w) (A2 w [.z a, .z b, .z c, .z d] 153 fun a b=>az b a.p 0 [.o, .o, .o, .o] fun (a c d f:Int)=>∃g:Sl,b.cell? e=some (.slice g.a g.len g.cap)/\C.qdN a c d f g (fun a b=>K a b) b):=aD Tryz.func130 (.v .w)
end Go.Proofs.YtlhljbbfckbjpaaGreat
end
section
set_option maxRecDepth 8000
namespace Go.Proofs.YtlhljbbfckbjpaaGreat.Th
open Go Go.Vc Go.Proofs
structure uw where
 st:Int
 pr:Int
 co:Int
 le:Int
 rg:Nat->Int
def oC:cQ uw:=⟨12,fun t=>[.z t.st, .z t.pr, .z t.co, .z t.le, .y (t.rg 0), .y (t.rg 1), .y (t.rg 2), .y (t.rg 3), .y (t.rg 4), .y (t.rg 5), .y (t.rg 6), .y (t.rg 7)],fun _=>rfl,fun x v h=>by
 simp only[List.mem_cons,List.not_mem_nil,or_false] at h;rcases h with rfl|rfl|rfl|rfl|rfl|rfl|rfl|rfl|rfl|rfl|rfl|rfl<;>rfl,by decide⟩
def jH:cQ Nat:=⟨1,fun b=>[.pointer (some ⟨b,0,none⟩)],fun _=>rfl,fun x v h=>by simp at h;subst h;rfl,Nat.le_refl _⟩
structure Mt where
 bA:List uw
 qs:List Qs
 runs:List Int
def aZ (b:Nat) (m:Mt):aA:=pV fun p:(Sl × Sl × Sl)× List Nat=>bh (dX (p.2.length=m.qs.length)::aa b [eT p.1.1,eT p.1.2.1,eT p.1.2.2]::ah oC p.1.1 m.bA::ah jH p.1.2.1 p.2::ah aG p.1.2.2 m.runs::List.zipWith bc p.2 m.qs)
theorem EX {b:Nat} {L':Qs}:∀(bs:List Nat) (qs:List Qs) (c:Nat),bs[c]?=some b->(List.zipWith bc bs qs).set c (bc b L')=List.zipWith bc bs (qs.set c L')
 | [],_,_,h=>by simp at h
 |_::_,[],c,_=>by simp
 |b0::bs,q::qs,0,h=>by simp at h;subst h;rfl
 |b0::bs,q::qs,c+1,h=>by simp[EX bs qs c (by simpa using h)]
section
variable {B:Nat} {w0 w:World} {R L:List aA} {b:Nat} {m:Mt}
theorem _root_.Go.Vc.Ow.yL (h:Ow B w0 w (aZ b m::R)):∃l q r bs,bs.length=m.qs.length/\Ow B w0 w (aa b [eT l,eT q,eT r]::ah oC l m.bA::ah jH q bs::ah aG r m.runs::(List.zipWith bc bs m.qs++R)):=by
 obtain ⟨⟨⟨l,q,r⟩,bs⟩,h⟩:=h.ex;obtain ⟨h1,h⟩:=Ow.pure h.star;exact ⟨l,q,r,bs,h1,h⟩
theorem _root_.Go.Vc.Ow.bu {l q r:Sl} {bs:List Nat} (h1:bs.length=m.qs.length) (h:Ow B w0 w (aa b [eT l,eT q,eT r]::ah oC l m.bA::ah jH q bs::ah aG r m.runs::(List.zipWith bc bs m.qs++R))):Ow B w0 w (aZ b m::R):=
 Ow.eP ((l,q,r),bs) (Ow.aY (Ow.dN h1 h))
theorem _root_.Go.Vc.Ow.Gz {A1 A2 A3 A4:aA} {bs:List Nat} {qs:List Qs} {c b1:Nat} {Q:Qs} (hb:bs[c]?=some b1) (hq:qs[c]?=some Q) (h:Ow B w0 w (A1::A2::A3::A4::(List.zipWith bc bs qs++R))):
  Ow B w0 w (bc b1 Q::A1::A2::A3::A4::(List.zipWith bc bs qs++R).eraseIdx c):=by
 have h1:=(List.getElem?_eq_some_iff.1 hb).1;have h2:=(List.getElem?_eq_some_iff.1 hq).1
 have hz:(List.zipWith bc bs qs++R)[c]?=some (bc b1 Q):=by
  rw[List.getElem?_append_left (by simp;omega),List.getElem?_zipWith,hb,hq]
 exact h.take (c+4) (by simpa using hz)
theorem _root_.Go.Vc.Ow.IV {A1 A2 A3 A4:aA} {bs:List Nat} {qs:List Qs} {c b1:Nat} {Q:Qs} (hb:bs[c]?=some b1) (hc:c<qs.length) (h:Ow B w0 w (bc b1 Q::A1::A2::A3::A4::(List.zipWith bc bs qs++R).eraseIdx c)):
  Ow B w0 w (A1::A2::A3::A4::(List.zipWith bc bs (qs.set c Q)++R)):=by
 have h1:=(List.getElem?_eq_some_iff.1 hb).1
 have h2:Ow B w0 w (bc b1 Q::(A1::A2::A3::A4::(List.zipWith bc bs qs++R)).eraseIdx (c+4)):=by
  simpa only[List.eraseIdx_cons_succ] using h
 have h3:=h2.put (by simp;omega);simp only[List.set_cons_succ] at h3;rw[List.set_append_left _ _ (by simp;omega),EX bs qs c hb] at h3;exact h3
def H8:uw:=⟨0,0,0,0,fun _=>0⟩
def Mt.th (m:Mt) (n:Int):uw:=if n<0 then H8 else (m.bA[n.toNat]?).getD H8
def Mt.q (m:Mt) (n:Int):Qs:=if n<0 then [] else (m.qs[n.toNat]?).getD []
def Mt.run (m:Mt) (n:Int):Int:=if n<0 then -1 else (m.runs[n.toNat]?).getD (-1)
def Mt.aX (m:Mt) (n:Int) (t:uw):Mt:={ m with bA:=m.bA.set n.toNat t}
def Mt.iT (m:Mt) (n:Int) (Q:Qs):Mt:={ m with qs:=m.qs.set n.toNat Q}
def Mt.fX (m:Mt) (n v:Int):Mt:={ m with runs:=m.runs.set n.toNat v}
def Mt.cT (m:Mt) (n:Int):Bool:=decide (0≤n)&&decide (n<m.bA.length)
def Mt.fR (m:Mt) (n:Int):Bool:=decide (0≤n)&&decide (n<m.qs.length)
def Mt.cE (m:Mt) (n:Int):Mt:=(m.aX n { m.th n with st:=1}).iT (m.th n).co (pB (m.q (m.th n).co) (m.th n).pr n).2
def Mt.bP (m:Mt) (n:Int):Mt:=if (m.th n).st=1 then m.iT (m.th n).co (iO (m.q (m.th n).co) n).2 else if (m.th n).st=2 then m.fX (m.th n).co (-1) else m
def Mt.leave (m:Mt) (n s:Int):Mt:=(m.bP n).aX n { m.th n with st:=s}
def Mt.pick (m:Mt) (c:Int):Mt:=match jF (m.q c) with
 |none=>m
 |some n=>if m.run c= -1 then (m.leave n 2).fX c n else
  if (m.th n).pr≤(m.th (m.run c)).pr then m else (((m.leave (m.run c) 1).cE (m.run c)).leave n 2).fX c n
structure bW (m:Mt):Prop where
 gT:m.bA.length≤64
 aO:m.runs.length=m.qs.length
 dR:m.qs.length≤8
 core:∀t∈m.bA,0≤t.co/\t.co<m.qs.length
 left:∀t∈m.bA,t.le=t.le
 run:∀n∈m.runs,n= -1∨(0≤n/\n<m.bA.length)
 line:∀Q∈m.qs,∀x∈Q,0≤x.2/\x.2<m.bA.length
theorem zT:∀(n:Nat) (l:List Int),l.Nodup->(∀x∈l,0≤x/\x<(n:Int))->l.length≤n
 |0,l,_,h=>by
  cases l with
  |nil=>simp
  |cons a l=>have:=h a (by simp);omega
 |n+1,l,hn,h=>by
  have h1:=zT n (l.filter fun x=>x !=(n:Int)) (hn.sublist List.filter_sublist) fun x hx=>by
   have h2:=List.mem_filter.1 hx;have h3:=h x h2.1;have h4:x≠(n:Int):=by simpa using h2.2
   omega
  have h2:l.length≤(l.filter fun x=>x !=(n:Int)).length+1:=by
   clear h1 h
   induction l with
   |nil=>simp
   |cons a l ih=>
    rw[List.nodup_cons] at hn;by_cases e:a=(n:Int)
    ·have:l.filter (fun x=>x !=(n:Int))=l:=by
      rw[List.filter_eq_self];intro x hx;have:x≠(n:Int):=fun e2=>hn.1 (by rw[e,←e2];exact hx)
      simpa using this
     rw[List.filter_cons_of_neg (by simp[e]),this,List.length_cons];exact Nat.le_refl _
    ·rw[List.filter_cons_of_pos (by simpa using e),List.length_cons,List.length_cons]
     have:=ih hn.2;omega
  omega
theorem HT {n:Int} {t:uw} (h0:0≤n) (h:m.bA[n.toNat]?=some t):m.th n=t:=by unfold Mt.th;rw[if_neg om,h];rfl
theorem bX {n:Int} (h:m.cT n=true):0≤n/\n<m.bA.length/\m.bA[n.toNat]?=some (m.th n):=by
 unfold Mt.cT at h;simp only[Bool.and_eq_true,decide_eq_true_eq] at h;obtain ⟨h0,h1⟩:=h;refine ⟨h0,h1, ?_⟩;have e:=gE (l:=m.bA) (i:=n.toNat) om;rw[e,HT h0 e]
theorem yq {n:Int} (h0:0≤n) (h1:n<m.qs.length):m.qs[n.toNat]?=some (m.q n):=by
 have e:=gE (l:=m.qs) (i:=n.toNat) om;unfold Mt.q;rw[if_neg om,e];rfl
theorem td {n:Int} (h0:0≤n) (h1:n<m.runs.length):m.runs[n.toNat]?=some (m.run n):=by
 have e:=gE (l:=m.runs) (i:=n.toNat) om;unfold Mt.run;rw[if_neg om,e];rfl
theorem jq {n:Int} {K:Bool->Pw} (hK:K (decide (0≤n)&&decide (n<256)) w):C.qcG n K w:=by
 apply S.qcG0;refine dD (fun e=>?_) (fun e=>?_)
 ·rw[decide_eq_true (show 0≤n from e),Bool.true_and] at hK;exact hK
 ·rw[decide_eq_false (show ¬0≤n from e),Bool.false_and] at hK;exact hK
theorem bL {so:Bool} {e:Int} {K:Int->Pw} (hK:K (if so then e else 0) w):C.qbD so e K w:=by
 apply S.qbD0;cases so<;>exact hK
theorem ny {l q r:Sl} {bs:List Nat} {n:Int} {A2 A4:aA} {K:Bool->Pw} (hb:bs.length=m.qs.length) (h:Ow B w0 w (aa b [eT l,eT q,eT r]::A2::ah jH q bs::A4::L)) (hK:K (m.fR n) w):C.qZ (some ⟨b,0,none⟩) n K w:=by
 apply S.qZ0;have hl:=h.br q;unfold Mt.fR at hK;refine dD (fun e=>?_) (fun e=>?_)
 ·(repeat (first|(refine h.al fun w h=>?_)|(refine h.dr fun w h=>?_)|(refine h.aL rfl ?_)|(refine h.aV rfl ?_)|(refine ⟨_,h.aq rfl, ?_⟩)|(refine ⟨_,h.ao rfl, ?_⟩)|(refine h.hd rfl ?_)|(refine ⟨h.aq rfl, ?_⟩)|(refine ⟨h.ao rfl, ?_⟩)|(refine h.ax rfl rfl fun w h=>?_)|(refine eC ?_)|(refine _root_.Go.Vc.a2 ?_)|(refine h.dy rfl rfl fun w h=>?_)|(refine h.cC rfl rfl fun w h=>?_)))
  rw[decide_eq_true (show 0≤n from e),Bool.true_and] at hK;rw[hl,hb];exact hK
 ·rw[decide_eq_false (show ¬0≤n from e),Bool.false_and] at hK;exact hK
theorem dU {l q r:Sl} {n:Int} {A3 A4:aA} {K:Option Addr->Pw} (h:Ow B w0 w (aa b [eT l,eT q,eT r]::ah oC l m.bA::A3::A4::L)) (hK0:m.cT n=false->K none w) (hK1:∀a,m.cT n=true->l.a=some a->K (some (a.add (n.toNat*12))) w):C.qx (some ⟨b,0,none⟩) n K w:=by
 apply S.qx0;have hl:=h.br l;unfold Mt.cT at hK0 hK1;intro k hk;refine dD (fun e=>?_) (fun e=>?_)
 ·refine hk _ _ (bN rfl ?_)
  exact hK0 (by rw[decide_eq_false (show ¬0≤n by omega),Bool.false_and])
 ·(repeat (first|(refine h.al fun w h=>?_)|(refine h.dr fun w h=>?_)|(refine h.aL rfl ?_)|(refine h.aV rfl ?_)|(refine ⟨_,h.aq rfl, ?_⟩)|(refine ⟨_,h.ao rfl, ?_⟩)|(refine h.hd rfl ?_)|(refine ⟨h.aq rfl, ?_⟩)|(refine ⟨h.ao rfl, ?_⟩)|(refine h.ax rfl rfl fun w h=>?_)|(refine eC ?_)|(refine _root_.Go.Vc.a2 ?_)|(refine h.dy rfl rfl fun w h=>?_)|(refine h.cC rfl rfl fun w h=>?_)))
  refine hk _ _ ?_;refine dD (fun e2=>?_) (fun e2=>?_)
  ·exact hK0 (by rw[decide_eq_false (show ¬n<(m.bA.length:Int) by omega),Bool.and_false])
  ·(repeat (first|(refine h.al fun w h=>?_)|(refine h.dr fun w h=>?_)|(refine h.aL rfl ?_)|(refine h.aV rfl ?_)|(refine ⟨_,h.aq rfl, ?_⟩)|(refine ⟨_,h.ao rfl, ?_⟩)|(refine h.hd rfl ?_)|(refine ⟨h.aq rfl, ?_⟩)|(refine ⟨h.ao rfl, ?_⟩)|(refine h.ax rfl rfl fun w h=>?_)|(refine eC ?_)|(refine _root_.Go.Vc.a2 ?_)|(refine h.dy rfl rfl fun w h=>?_)|(refine h.cC rfl rfl fun w h=>?_)))
   obtain ⟨x,hx⟩:∃x,m.bA[n.toNat]?=some x:=⟨_,gE om⟩
   refine h.dZ (s:=l) (j:=n.toNat) om hx fun a ha h0 hc=>?_
   exact hK1 a (by rw[decide_eq_true (show 0≤n by omega),decide_eq_true (show n<(m.bA.length:Int) by omega)];rfl) ha
end
section
variable {B:Nat} {w0 w:World} {R L:List aA} {b:Nat} {m:Mt}
theorem bW.aX (hm:bW m) {n:Int} {t:uw} (h1:0≤t.co/\t.co<m.qs.length) (h2:t.le=t.le):bW (m.aX n t):=by
 unfold Mt.aX;refine ⟨by rw[List.length_set];exact hm.gT,hm.aO,hm.dR,fun x hx=>?_,fun x hx=>rfl,by rw[List.length_set];exact hm.run,by rw[List.length_set];exact hm.line⟩;rcases List.mem_or_eq_of_mem_set hx with h|h
 ·exact hm.core x h
 ·rw[h];exact h1
theorem bW.iT (hm:bW m) {n:Int} {Q:Qs} (h1:∀x∈Q,0≤x.2/\x.2<m.bA.length):bW (m.iT n Q):=by
 unfold Mt.iT;refine ⟨hm.gT,by rw[List.length_set];exact hm.aO,by rw[List.length_set];exact hm.dR,by rw[List.length_set];exact hm.core,hm.left,hm.run,fun x hx=>?_⟩;rcases List.mem_or_eq_of_mem_set hx with h|h
 ·exact hm.line x h
 ·rw[h];exact h1
theorem bW.fX (hm:bW m) {n v:Int} (h1:v= -1∨(0≤v/\v<m.bA.length)):bW (m.fX n v):=by
 unfold Mt.fX;refine ⟨hm.gT,by rw[List.length_set];exact hm.aO,hm.dR,hm.core,hm.left,fun x hx=>?_,hm.line⟩;rcases List.mem_or_eq_of_mem_set hx with h|h
 ·exact hm.run x h
 ·rw[h];exact h1
theorem bW.vd (hm:bW m) {c:Int}:∀x∈m.q c,0≤x.2/\x.2<m.bA.length:=fun x hx=>by
 unfold Mt.q at hx;split at hx
 ·simp at hx
 ·cases e:m.qs[c.toNat]? with
  |none=>rw[e] at hx;simp at hx
  |some Q=>rw[e] at hx;exact hm.line Q (List.mem_of_getElem? e) x hx
theorem bW.th (hm:bW m) {n:Int} (hn:m.cT n=true):(0≤(m.th n).co/\(m.th n).co<m.qs.length)/\((m.th n).le=(m.th n).le):=by
 have:=List.mem_of_getElem? (bX hn).2.2;exact ⟨hm.core _ this,hm.left _ this⟩
theorem EU {Q:Qs} {p n:Int} {k:Int} (h:∀x∈Q,0≤x.2/\x.2<k) (hn:0≤n/\n<k):∀x∈(pB Q p n).2,0≤x.2/\x.2<k:=by
 unfold pB;split
 ·exact h
 ·split
  ·exact h
  ·intro x hx
   rcases List.mem_append.1 hx with h2|h2
   ·exact h x h2
   ·simp at h2;subst h2;exact hn
theorem vn {Q:Qs} {n:Int} {k:Int} (h:∀x∈Q,0≤x.2/\x.2<k):∀x∈(iO Q n).2,0≤x.2/\x.2<k:=by
 unfold iO;split
 ·exact fun x hx=>h x (List.mem_filter.1 hx).1
 ·exact h
theorem bW.cE (hm:bW m) {n:Int} (hn:m.cT n=true):bW (m.cE n):=by
 have ht:=hm.th hn;have hb:=bX hn;unfold Mt.cE;refine (hm.aX (t:={ m.th n with st:=1}) ht.1 ht.2).iT ?_;have:(m.aX n { m.th n with st:=1}).bA.length=m.bA.length:=by unfold Mt.aX;simp
 rw[this];exact EU hm.vd ⟨hb.1,hb.2.1⟩
theorem bW.bP (hm:bW m) {n:Int}:bW (m.bP n):=by
 unfold Mt.bP;split
 ·exact hm.iT (vn hm.vd)
 ·split
  ·exact hm.fX (.inl rfl)
  ·exact hm
theorem cD {n:Int}:(m.bP n).bA=m.bA/\(m.bP n).qs.length=m.qs.length:=by
 unfold Mt.bP Mt.iT Mt.fX;split
 ·simp
 ·split<;>simp
theorem bW.leave (hm:bW m) {n s:Int} (hn:m.cT n=true):bW (m.leave n s):=by
 have ht:=hm.th hn;unfold Mt.leave;refine hm.bP.aX (t:={ m.th n with st:=s}) ?_ ht.2;rw[cD.2];exact ht.1
theorem AK {Q:Qs} {k:Nat} (hq:FF Q) (h:∀x∈Q,0≤x.2/\x.2<(k:Int)):Q.length≤k:=by
 have:=zT k (Q.map (·.2)) hq.nodup fun x hx=>by
  obtain ⟨y,hy,e⟩:=List.mem_map.1 hx;rw[←e];exact h y hy
 simpa using this
theorem gu {n k:Int}:(m.cE n).cT k=m.cT k:=by unfold Mt.cE Mt.cT Mt.iT Mt.aX;simp
theorem fe {n s k:Int}:(m.leave n s).cT k=m.cT k:=by unfold Mt.leave Mt.cT Mt.aX;simp[cD.1]
theorem gr {n k:Int}:(m.cE n).fR k=m.fR k:=by unfold Mt.cE Mt.fR Mt.iT Mt.aX;simp
theorem gq {n s k:Int}:(m.leave n s).fR k=m.fR k:=by unfold Mt.leave Mt.fR Mt.aX;simp[cD.2]
theorem yI {l:Sl} {A1 A3 A4:aA} {bA:List uw} {n:Int} {t t':uw} {c:Nat} {v:Value} {a:Addr} {k:Pw} (h:Ow B w0 w (A1::ah oC l bA::A3::A4::L)) (h0:0≤n) (hx:bA[n.toNat]?=some t) (ha:l.a=some a)
  (he:oC.enc t'=(oC.enc t).set c v) (hc:c<12) (hv:v.oneCell'=true) (hk:∀w',Ow B w0 w' (A1::ah oC l (bA.set n.toNat t')::A3::A4::L)->k w'):St w ((a.add (n.toNat*12)).add c) v k:=
 Ow.tp (s:=l) (E:=oC) (xs:=bA) (i:=n) (j:=n.toNat) (c:=c) (x:=t) h t' om hx ha he hc hv fun w' h=>hk w' h.dz
theorem oX {l:Sl} {A1 A3 A4:aA} {bA:List uw} {n:Int} {t:uw} {c:Nat} {v:Value} {a:Addr} (h:Ow B w0 w (A1::ah oC l bA::A3::A4::L)) (h0:0≤n) (hx:bA[n.toNat]?=some t) (ha:l.a=some a)
  (he:(oC.enc t)[c]?=some v):w.cell? ((a.add (n.toNat*12)).add c)=some v:=
 (h.H4 (s:=l) (E:=oC) (i:=n) (j:=n.toNat) om hx ha).2 c v he
theorem fD {n:Int} {K:Pw} (hm:bW m) (hn:m.cT n=true) (h:Ow B w0 w (aZ b m::R)) (hK:∀w',Ow B w0 w' (aZ b (m.cE n)::R)->K w'):C.qH (some ⟨b,0,none⟩) n K w:=by
 apply S.qH0;obtain ⟨l,q,r,bs,hbs,h⟩:=h.yL;obtain ⟨n0,n1,hx⟩:=bX hn;obtain ⟨⟨c0,c1⟩,_⟩:=hm.th hn;obtain ⟨b1,hb1⟩:∃x,bs[(m.th n).co.toNat]?=some x:=⟨_,gE om⟩
 refine dU h (fun e=>by rw[hn] at e;cases e) fun a _ ha=>?_
 refine ⟨_,rfl, ?_⟩;refine yI (c:=0) (t':={ m.th n with st:=1}) h n0 hx ha rfl (by decide) rfl fun w h=>?_
 have hx2:(m.bA.set n.toNat { m.th n with st:=1})[n.toNat]?=some { m.th n with st:=1}:=by rw[List.getElem?_set,if_pos rfl,if_pos om]
 refine h.dr fun w h=>?_
 refine ⟨_,rfl,q,h.ao rfl,_,rfl,_,oX (c:=2) h n0 hx2 ha rfl, ?_⟩;refine h.dZ (s:=q) (j:=(m.th n).co.toNat) (by show (m.th n).co=_;omega) hb1 fun a2 ha2 h0 hc=>⟨_,h0 _ rfl, ?_⟩
 refine ⟨_,rfl,_,oX (c:=1) h n0 hx2 ha rfl,Go.Vc.a2 ?_⟩;have h:=h.Gz hb1 (yq c0 c1);have hqok:FF (m.q (m.th n).co):=by obtain ⟨_,e,_⟩:=h.queue;exact e
 have hlen:=AK hqok hm.vd;have hfew:=hm.gT;refine lL h om fun w h=>?_
 have h:=h.IV (qs:=m.qs) hb1 om;exact hK w (Ow.bu (m:=m.cE n) (bs:=bs) (by unfold Mt.cE Mt.iT Mt.aX;simpa using hbs) h)
theorem eZ {n s:Int} {K:Pw} (hm:bW m) (hn:m.cT n=true) (h:Ow B w0 w (aZ b m::R)) (hK:∀w',Ow B w0 w' (aZ b (m.leave n s)::R)->K w'):C.qi (some ⟨b,0,none⟩) n s K w:=by
 apply S.qi0;obtain ⟨l,q,r,bs,hbs,h⟩:=h.yL;obtain ⟨n0,n1,hx⟩:=bX hn;obtain ⟨⟨c0,c1⟩,_⟩:=hm.th hn;have hcr:=hm.aO;obtain ⟨b1,hb1⟩:∃x,bs[(m.th n).co.toNat]?=some x:=⟨_,gE om⟩
 refine dU h (fun e=>by rw[hn] at e;cases e) fun a _ ha=>?_
 refine ⟨_,rfl,_,oX (c:=0) h n0 hx ha rfl, ?_⟩;intro k hk
 have fin:∀w,Ow B w0 w (aa b [eT l,eT q,eT r]::ah oC l m.bA::ah jH q bs::ah aG r (m.bP n).runs::(List.zipWith bc bs (m.bP n).qs++R))->k w:=fun w h=>by
  apply hk;refine ⟨_,rfl, ?_⟩;refine yI (c:=0) (t':={ m.th n with st:=s}) h n0 hx ha rfl (by decide) rfl fun w h=>?_
  refine hK w (Ow.bu (m:=m.leave n s) (l:=l) (q:=q) (r:=r) (bs:=bs) ?_ ?_)
  ·show bs.length=(m.bP n).qs.length
   rw[cD.2];exact hbs
  ·have e:(m.leave n s).bA=m.bA.set n.toNat { m.th n with st:=s}:=by unfold Mt.leave Mt.aX;rw[cD.1]
   rw[e];exact h
 refine gB (fun e=>?_) (fun e=>?_)
 ·have e1:m.bP n=m.iT (m.th n).co (iO (m.q (m.th n).co) n).2:=by unfold Mt.bP;rw[if_pos e]
  rw[e1] at fin;refine h.dr fun w h=>?_
  refine ⟨_,rfl,q,h.ao rfl,_,rfl,_,oX (c:=2) h n0 hx ha rfl, ?_⟩;refine h.dZ (s:=q) (j:=(m.th n).co.toNat) (by show (m.th n).co=_;omega) hb1 fun a2 ha2 h0 hc=>⟨_,h0 _ rfl,Go.Vc.a2 ?_⟩
  have h:=h.Gz hb1 (yq c0 c1);refine ga h fun w h=>?_
  exact fin w (h.IV (qs:=m.qs) hb1 om)
 refine gB (fun e2=>?_) (fun e2=>?_)
 ·have e1:m.bP n=m.fX (m.th n).co (-1):=by unfold Mt.bP;rw[if_neg e,if_pos e2]
  rw[e1] at fin;refine h.dr fun w h=>?_
  refine ⟨_,rfl,r,h.ao rfl,_,rfl,_,oX (c:=2) h n0 hx ha rfl, ?_⟩;refine h.dZ (s:=r) (j:=(m.th n).co.toNat) (by show (m.th n).co=_;omega) (td (m:=m) c0 om) fun a2 ha2 h0 hc=>Go.Vc.a2 ?_
  refine Ow.wL (s:=r) (E:=aG) (xs:=m.runs) (i:=(m.th n).co) (j:=(m.th n).co.toNat) h (-1) om om ha2 rfl fun w h=>?_
  exact fin w h.vr.vr.vr
 ·have e1:m.bP n=m:=by unfold Mt.bP;rw[if_neg e,if_neg e2]
  rw[e1] at fin;exact fin w h
end
section
variable {B:Nat} {w0 w:World} {R L:List aA} {b:Nat} {m:Mt}
def Mt.cV (m:Mt) (c:Int):Option Int:=if m.fR c=true/\m.run c≠ -1 then some (m.run c) else none
theorem fS {c:Int}:m.fR c=true↔0≤c/\c<m.qs.length:=by unfold Mt.fR;simp
theorem jo {c:Int} {K:Int->Bool->Pw} (hm:bW m) (h:Ow B w0 w (aZ b m::R)) (hK:∀w',Ow B w0 w' (aZ b m::R)->K ((m.cV c).getD 0) (m.cV c).isSome w'):C.qY (some ⟨b,0,none⟩) c K w:=by
 apply S.qY0;have hcr:=hm.aO;obtain ⟨l,q,r,bs,hbs,h⟩:=h.yL;intro k hk;refine ny hbs h ?_;unfold Mt.cV at hK;cases hc:m.fR c with
 |false=>
  rw[if_neg (by rw[hc];simp)] at hK;refine bN rfl (hk _ _ (bN rfl ?_));exact hK w (Ow.bu hbs h)
 |true=>
  obtain ⟨c0,c1⟩:=fS.1 hc;refine bD rfl ?_
  (repeat (first|(refine h.al fun w h=>?_)|(refine h.dr fun w h=>?_)|(refine h.aL rfl ?_)|(refine h.aV rfl ?_)|(refine ⟨_,h.aq rfl, ?_⟩)|(refine ⟨_,h.ao rfl, ?_⟩)|(refine h.hd rfl ?_)|(refine ⟨h.aq rfl, ?_⟩)|(refine ⟨h.ao rfl, ?_⟩)|(refine h.ax rfl rfl fun w h=>?_)|(refine eC ?_)|(refine _root_.Go.Vc.a2 ?_)|(refine h.dy rfl rfl fun w h=>?_)|(refine h.cC rfl rfl fun w h=>?_)))
  refine h.dZ (s:=r) (j:=c.toNat) om (td (m:=m) c0 om) fun a ha h0 hcc=>⟨_,h0 _ rfl, ?_⟩
  refine hk _ _ ?_;refine gB (fun e=>?_) (fun e=>?_)
  ·rw[if_neg (by simp[e])] at hK
   exact hK w (Ow.bu hbs h)
  ·rw[if_pos ⟨hc,e⟩] at hK
   (repeat (first|(refine h.al fun w h=>?_)|(refine h.dr fun w h=>?_)|(refine h.aL rfl ?_)|(refine h.aV rfl ?_)|(refine ⟨_,h.aq rfl, ?_⟩)|(refine ⟨_,h.ao rfl, ?_⟩)|(refine h.hd rfl ?_)|(refine ⟨h.aq rfl, ?_⟩)|(refine ⟨h.ao rfl, ?_⟩)|(refine h.ax rfl rfl fun w h=>?_)|(refine eC ?_)|(refine _root_.Go.Vc.a2 ?_)|(refine h.dy rfl rfl fun w h=>?_)|(refine h.cC rfl rfl fun w h=>?_)))
   refine h.dZ (s:=r) (j:=c.toNat) om (td (m:=m) c0 om) fun a ha h0 hcc=>⟨_,h0 _ rfl, ?_⟩
   exact hK w (Ow.bu hbs h)
theorem oD {n:Int} {K:Int->Int->Int->Int->Int->Int->Int->Int->Int->Int->Int->Int->Int->Pw} (h:Ow B w0 w (aZ b m::R))
  (hK:∀w' t,t=(if m.cT n then m.th n else H8)->Ow B w0 w' (aZ b m::R)->K t.st t.pr t.co t.le (t.rg 0) (t.rg 1) (t.rg 2) (t.rg 3) (t.rg 4) (t.rg 5) (t.rg 6) (t.rg 7) (if m.cT n then 0 else 100) w'):C.qau (some ⟨b,0,none⟩) n K w:=by
 apply S.qau0;refine h.a fun c w1 h=>?_;have h:Ow B w0 w1 (aZ b m::aa c [.z 0, .z 0, .z 0, .z 0, .y 0, .y 0, .y 0, .y 0, .y 0, .y 0, .y 0, .y 0]::R):=h.dz;obtain ⟨l,q,r,bs,hbs,h⟩:=h.yL;have back:∀{w:World} {cs:List Value},Ow B w0 w (aa c cs::aa b [eT l,eT q,eT r]::ah oC l m.bA::ah jH q bs::ah aG r m.runs::(List.zipWith bc bs m.qs++R))->Ow B w0 w (aZ b m::R):=fun h=>Ow.bu hbs h.drop
 have mid:∀{w:World} {A:aA},Ow B w0 w (aa b [eT l,eT q,eT r]::ah oC l m.bA::ah jH q bs::ah aG r m.runs::(List.zipWith bc bs m.qs++A::R))->Ow B w0 w (A::aa b [eT l,eT q,eT r]::ah oC l m.bA::ah jH q bs::ah aG r m.runs::(List.zipWith bc bs m.qs++R)):=fun {w A} h=>by
  refine h.perm ?_;have:List.Perm (List.zipWith bc bs m.qs++A::R) (A::(List.zipWith bc bs m.qs++R)):=List.perm_middle;refine ((((this.cons _).cons _).cons _).cons _).trans ?_;exact (List.perm_middle (l₁:=[aa b [eT l,eT q,eT r],ah oC l m.bA,ah jH q bs,ah aG r m.runs]))
 refine dU h (fun e=>?_) fun a e ha=>?_
 ·have h:=mid h
  refine bN rfl ?_;refine h.ax rfl rfl fun w h=>?_
  refine h.G6 rfl ?_;have:=hK w H8 (by rw[e];rfl) (back h);rw[e] at this;exact this
 ·obtain ⟨n0,n1,hx⟩:=bX e
  have hc:=(h.H4 (s:=l) (E:=oC) (i:=n) (j:=n.toNat) om hx ha).2;have h2:=mid h;refine bD rfl ?_;refine ⟨_,rfl, ?_⟩;refine ⟨_,hc 0 _ rfl,_,hc 1 _ rfl,_,hc 2 _ rfl,_,hc 3 _ rfl,_,hc 4 _ rfl,_,hc 5 _ rfl,_,hc 6 _ rfl,_,hc 7 _ rfl,_,hc 8 _ rfl,_,hc 9 _ rfl,_,hc 10 _ rfl,_,hc 11 _ rfl, ?_⟩;refine h2.ax rfl rfl fun w h=>?_
  refine h.G6 rfl ?_;have:=hK w (m.th n) (by rw[e];rfl) (back h);rw[e] at this;exact this
theorem rG {n:Int} {K:Int->Pw} (hm:bW m) (h:Ow B w0 w (aZ b m::R))
  (hK0:m.cT n=false->∀w',Ow B w0 w' (aZ b m::R)->K 100 w') (hK1:m.cT n=true->(m.th n).st=1∨(m.th n).st=2->∀w',Ow B w0 w' (aZ b m::R)->K 101 w')
  (hK2:m.cT n=true->(m.th n).st≠1->(m.th n).st≠2->∀w',Ow B w0 w' (aZ b (m.cE n)::R)->K 0 w'):C.qG (some ⟨b,0,none⟩) n K w:=by
 apply S.qG0;obtain ⟨l,q,r,bs,hbs,h⟩:=h.yL;refine dU h (fun e=>?_) fun a e ha=>?_
 ·refine bN rfl ?_
  exact hK0 e w (Ow.bu hbs h)
 ·obtain ⟨n0,n1,hx⟩:=bX e
  refine bD rfl ?_;intro k hk;refine ⟨_,rfl,_,oX (c:=0) h n0 hx ha rfl, ?_⟩;refine gB (fun e1=>?_) (fun e1=>?_)
  ·refine hk _ _ (bN rfl ?_)
   exact hK1 e (.inl e1) w (Ow.bu hbs h)
  refine ⟨_,rfl,_,oX (c:=0) h n0 hx ha rfl,hk _ _ ?_⟩;refine gB (fun e2=>?_) (fun e2=>?_)
  ·exact hK1 e (.inr e2) w (Ow.bu hbs h)
  ·refine fD hm e (Ow.bu hbs h) fun w h=>?_
   exact hK2 e e1 e2 w h
theorem tw {n:Int} {K:Int->Pw} (hm:bW m) (h:Ow B w0 w (aZ b m::R))
  (hK0:m.cT n=false->∀w',Ow B w0 w' (aZ b m::R)->K 100 w') (hK1:m.cT n=true->(m.th n).st≠2->∀w',Ow B w0 w' (aZ b m::R)->K 101 w')
  (hK2:m.cT n=true->(m.th n).st=2->∀w',Ow B w0 w' (aZ b (m.leave n 3)::R)->K 0 w'):C.qag (some ⟨b,0,none⟩) n K w:=by
 apply S.qag0;obtain ⟨l,q,r,bs,hbs,h⟩:=h.yL;refine dU h (fun e=>?_) fun a e ha=>?_
 ·refine bN rfl ?_
  exact hK0 e w (Ow.bu hbs h)
 ·obtain ⟨n0,n1,hx⟩:=bX e
  refine bD rfl ?_;refine ⟨_,rfl,_,oX (c:=0) h n0 hx ha rfl, ?_⟩;refine y8 (fun e1=>?_) (fun e1=>?_)
  ·exact hK1 e e1 w (Ow.bu hbs h)
  ·refine eZ hm e (Ow.bu hbs h) fun w h=>?_
   exact hK2 e e1 w h
theorem pJ {n:Int} {K:Int->Pw} (hm:bW m) (h:Ow B w0 w (aZ b m::R))
  (hK0:m.cT n=false->∀w',Ow B w0 w' (aZ b m::R)->K 100 w') (hK1:m.cT n=true->(m.th n).st=0->∀w',Ow B w0 w' (aZ b m::R)->K 101 w')
  (hK2:m.cT n=true->(m.th n).st≠0->∀w',Ow B w0 w' (aZ b (m.leave n 0)::R)->K 0 w'):C.qK (some ⟨b,0,none⟩) n K w:=by
 apply S.qK0;obtain ⟨l,q,r,bs,hbs,h⟩:=h.yL;refine dU h (fun e=>?_) fun a e ha=>?_
 ·refine bN rfl ?_
  exact hK0 e w (Ow.bu hbs h)
 ·obtain ⟨n0,n1,hx⟩:=bX e
  refine bD rfl ?_;refine ⟨_,rfl,_,oX (c:=0) h n0 hx ha rfl, ?_⟩;refine gB (fun e1=>?_) (fun e1=>?_)
  ·exact hK1 e e1 w (Ow.bu hbs h)
  ·refine eZ hm e (Ow.bu hbs h) fun w h=>?_
   exact hK2 e e1 w h
end
section
variable {B:Nat} {w0 w:World} {R L:List aA} {b:Nat} {m:Mt}
theorem yg {Q:Qs} {n:Int} (h:jF Q=some n):∃x∈Q,x.2=n:=by
 unfold jF at h;obtain ⟨p,hp,hl⟩:=Option.bind_eq_some_iff.1 h;have hm:=List.mem_of_head? hl;unfold bZ at hm;obtain ⟨x,hx,e⟩:=List.mem_map.1 hm;exact ⟨x,(List.mem_filter.1 hx).1,e⟩
theorem _root_.Go.Vc.Ow.IF {A1 A2 A3 A4:aA} {bs:List Nat} {c:Int} {b1:Nat} (hb:bs[c.toNat]?=some b1) (c0:0≤c) (c1:c<m.qs.length) (h:Ow B w0 w (bc b1 (m.q c)::A1::A2::A3::A4::(List.zipWith bc bs m.qs++R).eraseIdx c.toNat)):
  Ow B w0 w (A1::A2::A3::A4::(List.zipWith bc bs m.qs++R)):=by
 have h3:=h.IV (qs:=m.qs) hb om
 have e:m.qs.set c.toNat (m.q c)=m.qs:=by
  apply List.ext_getElem?;intro t;rw[List.getElem?_set];by_cases e:c.toNat=t
  ·subst e;rw[if_pos rfl,if_pos om,yq c0 c1]
  ·rw[if_neg e]
 rw[e] at h3;exact h3
def Mt.bK (m:Mt) (c:Int):Mt:=if m.fR c then m.pick c else m
theorem iN {n v k:Int}:(m.fX n v).fR k=m.fR k:=rfl
theorem ow {n v k:Int}:(m.fX n v).cT k=m.cT k:=rfl
theorem bW.runT (hm:bW m) {c o:Int} (h:m.cV c=some o):m.fR c=true/\m.run c=o/\o≠ -1/\m.cT o=true:=by
 unfold Mt.cV at h;split at h
 ·rename_i hc
  cases h;obtain ⟨c0,c1⟩:=fS.1 hc.1;have hcr:=hm.aO;have:=hm.run _ (List.mem_of_getElem? (td (m:=m) c0 om));refine ⟨hc.1,rfl,hc.2, ?_⟩;rcases this with e|e
  ·exact absurd e hc.2
  ·unfold Mt.cT;simp;exact e
 ·cases h
theorem bW.ID (hm:bW m) {c n:Int} (h:jF (m.q c)=some n):0≤n/\m.cT n=true:=by
 obtain ⟨x,hx,e⟩:=yg h;have:=hm.vd x hx;rw[e] at this;refine ⟨this.1, ?_⟩;unfold Mt.cT;simp;exact this
theorem gD {c:Int} {K:Int->Bool->Pw} (hm:bW m) (h:Ow B w0 w (aZ b m::R)) (hK:∀w',Ow B w0 w' (aZ b (m.bK c)::R)->K (((m.bK c).cV c).getD 0) ((m.bK c).cV c).isSome w'):C.qO (some ⟨b,0,none⟩) c K w:=by
 apply S.qO0;have hcr:=hm.aO;obtain ⟨l,q,r,bs,hbs,h⟩:=h.yL;refine ny hbs h ?_;unfold Mt.bK at hK;cases hc:m.fR c with
 |false=>
  rw[hc] at hK;have e:m.cV c=none:=by unfold Mt.cV;rw[if_neg (by rw[hc];simp)]
  refine bN rfl ?_;have:=hK w (Ow.bu hbs h);simp only[Bool.false_eq_true,if_false,e] at this;exact this
 |true=>
  rw[hc] at hK;simp only[if_true] at hK;obtain ⟨c0,c1⟩:=fS.1 hc;refine bD rfl ?_;refine jo (c:=c) hm (Ow.bu hbs h) fun w h=>?_
  obtain ⟨l,q,r,bs,hbs,h⟩:=h.yL;obtain ⟨b1,hb1⟩:∃x,bs[c.toNat]?=some x:=⟨_,gE om⟩
  refine ⟨_,rfl,q,h.ao rfl, ?_⟩;refine h.dZ (s:=q) (j:=c.toNat) om hb1 fun a2 ha2 h0 hcc=>⟨_,h0 _ rfl, ?_⟩
  refine kN (h.Gz hb1 (yq c0 c1)) fun w h=>?_
  have h:=h.IF hb1 c0 c1;intro k15 hk15;refine h.dr fun w h=>?_
  have stay:∀w,m.pick c=m->Ow B w0 w (aZ b m::R)->k15 true w:=fun w e h=>by
   rw[e] at hK;exact hk15 _ _ (bN rfl (hK w h))
  cases hn:jF (m.q c) with
  |none=>
   refine bN rfl ?_;exact stay w (by unfold Mt.pick;rw[hn]) (Ow.bu hbs h)
  |some n=>
   rw[hn] at hk15;obtain ⟨n0,hnT⟩:=hm.ID hn;obtain ⟨_,n1,hnx⟩:=bX hnT;refine bD rfl ?_
   have fin:∀(m1:Mt) (w:World),bW m1->m1.cT n=true->m1.fR c=true->m.pick c=(m1.leave n 2).fX c n->Ow B w0 w (aZ b m1::R)->
     C.qi (some ⟨b,0,none⟩) n 2 (fun w20=>
      ∃a21:Addr,some (⟨b,0,none⟩:Addr)=some a21/\
      ∃runs22:Sl,w20.cell? (a21.add 2)=some (.slice runs22.a runs22.len runs22.cap)/\
      ∃a23:Addr,runs22.a=some a23/\0≤c/\c<(runs22.len:Int)/\
      St w20 (a23.add (c.toNat*1)) (.z n) fun w24=>K n true w24) w:=fun m1 w hm1 hT1 hC1 hp h=>by
    refine eZ hm1 hT1 h fun w h=>?_
    have hm2:=hm1.leave (s:=2) hT1;have hcr2:=hm2.aO;have hC2:(m1.leave n 2).fR c=true:=by rw[gq];exact hC1
    obtain ⟨d0,d1⟩:=fS.1 hC2;obtain ⟨l,q,r,bs,hbs,h⟩:=h.yL;refine ⟨_,rfl,r,h.ao rfl, ?_⟩;refine h.dZ (s:=r) (j:=c.toNat) om (td (m:=m1.leave n 2) c0 om) fun a ha h0 hcc=>?_
    refine Ow.wL (s:=r) (E:=aG) (xs:=(m1.leave n 2).runs) (i:=c) (j:=c.toNat) h n om om ha rfl fun w h=>?_
    have h2:Ow B w0 w (aZ b ((m1.leave n 2).fX c n)::R):=Ow.bu (m:=(m1.leave n 2).fX c n) hbs h.vr.vr.vr
    have hrun:((m1.leave n 2).fX c n).cV c=some n:=by
     unfold Mt.cV
     have e:((m1.leave n 2).fX c n).run c=n:=by
      unfold Mt.run Mt.fX;rw[if_neg om];simp only;rw[List.getElem?_set,if_pos rfl,if_pos om];rfl
     rw[e,if_pos ⟨by rw[iN];exact hC2,om⟩]
    rw[hp] at hK;have:=hK w h2;rw[hrun] at this;exact this
   cases hr:m.cV c with
   |none=>
    have hr1:m.run c= -1:=by
     unfold Mt.cV at hr;split at hr
     ·cases hr
     ·rename_i hh
      by_cases e:m.run c= -1
      ·exact e
      ·exact absurd ⟨hc,e⟩ hh
    rw[hr] at hk15;refine bD rfl (hk15 _ _ (bD rfl ?_));intro k18 hk18;refine bD rfl (hk18 _ ?_);exact fin m w hm hnT hc (by unfold Mt.pick;rw[hn];simp only;rw[if_pos hr1]) (Ow.bu hbs h)
   |some o=>
    obtain ⟨_,hro,ho1,hoT⟩:=hm.runT hr;obtain ⟨o0,o1,hox⟩:=bX hoT;rw[hr] at hk15;refine bN rfl ?_;refine ⟨_,rfl,l,h.aq rfl, ?_⟩;refine h.dZ (s:=l) (i:=n) (j:=n.toNat) om hnx fun a ha h0 hcc=>⟨_,hcc 1 _ rfl,_,rfl,l,h.aq rfl, ?_⟩
    refine h.dZ (s:=l) (i:=o) (j:=o.toNat) om hox fun a ha h0 hcc=>⟨_,hcc 1 _ rfl, ?_⟩
    refine (fun (hstay:(m.th n).pr≤(m.th o).pr->k15 true w) (hgo:¬(m.th n).pr≤(m.th o).pr->k15 false w)=>?_) ?_ ?_
    ·show k15 (decide ((m.th n).pr≤(m.th o).pr)) w
     by_cases e:(m.th n).pr≤(m.th o).pr
     ·rw[decide_eq_true e];exact hstay e
     ·rw[decide_eq_false e];exact hgo e
    ·intro e
     exact stay w (by unfold Mt.pick;rw[hn];simp only;rw[if_neg (by rw[hro];exact ho1),hro,if_pos e]) (Ow.bu hbs h)
    ·intro e
     refine hk15 _ _ (bD rfl ?_);intro k18 hk18;refine bN rfl ?_;refine eZ hm hoT (Ow.bu hbs h) fun w h=>?_
     have hm2:=hm.leave (s:=1) hoT;have hT2:(m.leave o 1).cT o=true:=by rw[fe];exact hoT
     refine fD hm2 hT2 h fun w h=>?_
     refine hk18 _ ?_
     exact fin ((m.leave o 1).cE o) w (hm2.cE hT2) (by rw[gu,fe];exact hnT) (by rw[gr,gq];exact hc) (by
      unfold Mt.pick;rw[hn];simp only;rw[if_neg (by rw[hro];exact ho1),hro,if_neg e]) h
end
section
variable {B:Nat} {w0 w:World} {R:List aA} {b:Nat} {m:Mt}
def Mt.make (m:Mt) (p c:Int):Mt:={ m with bA:=m.bA++ [⟨0,p,c,5,fun _=>0⟩]}
theorem bW.make (hm:bW m) {p c:Int} (hl:m.bA.length<64) (hc:m.fR c=true):bW (m.make p c):=by
 obtain ⟨c0,c1⟩:=fS.1 hc;unfold Mt.make;refine ⟨by simp;omega,hm.aO,hm.dR,fun x hx=>?_,fun x hx=>rfl,fun n hn=>?_,fun Q hQ x hx=>?_⟩
 ·rcases List.mem_append.1 hx with h|h
  ·exact hm.core x h
  ·simp at h;subst h;exact ⟨c0,c1⟩
 ·rcases hm.run n hn with h|h
  ·exact .inl h
  ·exact .inr ⟨h.1,by simp;omega⟩
 ·have:=hm.line Q hQ x hx
  exact ⟨this.1,by simp;omega⟩
theorem mJ {p c:Int} {K:Int->Int->Pw} (hm:bW m) (h:Ow B w0 w (aZ b m::R))
  (hK0:¬(0≤p/\p<256/\m.fR c=true)->∀w',Ow B w0 w' (aZ b m::R)->K 0 1 w')
  (hK1:(0≤p/\p<256/\m.fR c=true)->64≤m.bA.length->∀w',Ow B w0 w' (aZ b m::R)->K 0 2 w')
  (hK2:(0≤p/\p<256/\m.fR c=true)->m.bA.length<64->∀w',Ow B w0 w' (aZ b (m.make p c)::R)->K (m.bA.length:Int) 0 w'):C.qN (some ⟨b,0,none⟩) p c K w:=by
 apply S.qN0;have hfew:=hm.gT;obtain ⟨l,q,r,bs,hbs,h⟩:=h.yL;have hl:=h.br l;intro k hk;refine jq ?_;refine JK (fun e=>?_) (fun e=>?_)
 ·refine hk _ _ (bN rfl ?_)
  exact hK0 (fun hh=>by rw[decide_eq_true hh.1,decide_eq_true hh.2.1] at e;cases e) w (Ow.bu hbs h)
 simp only[Bool.and_eq_true,decide_eq_true_eq] at e;refine ny hbs h ?_;cases hc:m.fR c with
 |false=>
  refine hk _ _ (bN rfl ?_);exact hK0 (fun hh=>by rw[hc] at hh;cases hh.2.2) w (Ow.bu hbs h)
 |true=>
  have hh:=And.intro e.1 (And.intro e.2 hc);refine hk _ _ (bD rfl ?_);refine ⟨_,rfl,l,h.aq rfl, ?_⟩;refine dD (fun e2=>?_) (fun e2=>?_)
  ·exact hK1 hh om w (Ow.bu hbs h)
  ·refine ⟨_,rfl,l,h.aq rfl, ?_⟩
   refine h.a fun d w1 h=>?_
   refine Ow.fy (s:=l) (E:=oC) (xs:=m.bA) (y:=⟨0,p,c,5,fun _=>0⟩) Tryz.underlying173 (show Tryz.prog.info? 172=some Tryz.t172 from by kernel_rfl) (zv:=(Tryz.t172.zero).get (by kernel_rfl)) (by kernel_rfl) (by kernel_rfl) (by kernel_rfl) (by decide) h (by
    have e:Tryz.t172.bytes=96:=by kernel_rfl
    rw[e];omega) fun s' w hs' h=>?_
   refine ⟨_,rfl, ?_⟩;have h:=h.dz;refine h.dy rfl rfl fun w h=>?_
   refine ⟨_,rfl,s',h.aq rfl, ?_⟩;rw[show IntKind.i64.wrap ((s'.len:Int)-1)=(m.bA.length:Int) from by rw[hs',wr om om];omega];exact hK2 hh om w (Ow.bu (m:=m.make p c) (l:=s') (q:=q) (r:=r) (bs:=bs) hbs h)
def Mt.yield (m:Mt) (c:Int):Mt:=match m.cV c with
 |none=>m
 |some o=>(((m.aX o { m.th o with le:=5}).leave o 1).cE o).bK c
theorem dF {n k:Int} {t:uw}:(m.aX n t).cT k=m.cT k:=by unfold Mt.aX Mt.cT;simp
theorem lT {c:Int} {K:Bool->Pw} (hm:bW m) (h:Ow B w0 w (aZ b m::R)) (hK:∀w',Ow B w0 w' (aZ b (m.yield c)::R)->K (m.cV c).isSome w'):C.qaf (some ⟨b,0,none⟩) c K w:=by
 apply S.qaf0;refine jo (c:=c) hm h fun w h=>?_
 unfold Mt.yield at hK;cases hr:m.cV c with
 |none=>
  rw[hr] at hK;exact bN rfl (hK w h)
 |some o=>
  rw[hr] at hK;obtain ⟨hc,hro,ho1,hoT⟩:=hm.runT hr;obtain ⟨o0,o1,hox⟩:=bX hoT;have ht:=hm.th hoT;refine bD rfl ?_;obtain ⟨l,q,r,bs,hbs,h⟩:=h.yL;refine ⟨_,rfl,l,h.aq rfl, ?_⟩;refine h.dZ (s:=l) (i:=o) (j:=o.toNat) om hox fun a ha h0 hcc=>?_
  refine yI (c:=3) (t':={ m.th o with le:=5}) h o0 hox ha rfl (by decide) rfl fun w h=>?_
  have h:Ow B w0 w (aZ b (m.aX o { m.th o with le:=5})::R):=Ow.bu (m:=m.aX o { m.th o with le:=5}) hbs h;have hm1:bW (m.aX o { m.th o with le:=5}):=hm.aX (t:={ m.th o with le:=5}) ht.1 rfl;have hT1:(m.aX o { m.th o with le:=5}).cT o=true:=by rw[dF];exact hoT
  refine eZ hm1 hT1 h fun w h=>?_
  have hT2:((m.aX o { m.th o with le:=5}).leave o 1).cT o=true:=by rw[fe];exact hT1
  refine fD (hm1.leave hT1) hT2 h fun w h=>?_
  refine gD ((hm1.leave hT1).cE hT2) h fun w h=>?_
  exact hK w h
def Mt.tick (m:Mt) (c:Int):Mt:=match m.cV c with
 |none=>m
 |some o=>if IntKind.i64.wrap ((m.th o).le-1)≤0 then (m.aX o { m.th o with le:=IntKind.i64.wrap ((m.th o).le-1)}).yield c else m.aX o { m.th o with le:=IntKind.i64.wrap ((m.th o).le-1)}
theorem um {c:Int} {K:Bool->Pw} (hm:bW m) (h:Ow B w0 w (aZ b m::R)) (hK:∀w',Ow B w0 w' (aZ b (m.tick c)::R)->K (m.cV c).isSome w'):C.qaL (some ⟨b,0,none⟩) c K w:=by
 apply S.qaL0;refine jo (c:=c) hm h fun w h=>?_
 unfold Mt.tick at hK;cases hr:m.cV c with
 |none=>
  rw[hr] at hK;exact bN rfl (hK w h)
 |some o=>
  rw[hr] at hK;obtain ⟨hc,hro,ho1,hoT⟩:=hm.runT hr;obtain ⟨o0,o1,hox⟩:=bX hoT;have ht:=hm.th hoT;refine bD rfl ?_;obtain ⟨l,q,r,bs,hbs,h⟩:=h.yL;refine ⟨_,rfl,l,h.aq rfl, ?_⟩;refine h.dZ (s:=l) (i:=o) (j:=o.toNat) om hox fun a ha h0 hcc=>⟨_,hcc 3 _ rfl, ?_⟩
  refine h.dZ (s:=l) (i:=o) (j:=o.toNat) om hox fun a ha h0 hcc=>?_
  simp only at hK;generalize hv:IntKind.i64.wrap ((m.th o).le-1)=v at hK⊢;refine yI (c:=3) (t':={ m.th o with le:=v}) h o0 hox ha rfl (by decide) rfl fun w h=>?_
  have hx2:(m.bA.set o.toNat { m.th o with le:=v})[o.toNat]?=some { m.th o with le:=v}:=by rw[List.getElem?_set,if_pos rfl,if_pos om]
  refine ⟨_,rfl,l,h.aq rfl, ?_⟩;refine h.dZ (s:=l) (i:=o) (j:=o.toNat) om hx2 fun a ha h0 hcc=>⟨_,hcc 3 _ rfl, ?_⟩
  have h:Ow B w0 w (aZ b (m.aX o { m.th o with le:=v})::R):=Ow.bu (m:=m.aX o { m.th o with le:=v}) hbs h;have hm1:bW (m.aX o { m.th o with le:=v}):=hm.aX (t:={ m.th o with le:=v}) ht.1 rfl;refine dD (fun e=>?_) (fun e=>?_)
  ·rw[if_pos (show v≤0 from e)] at hK
   exact lT hm1 h fun w h=>hK w h
  ·rw[if_neg (show ¬v≤0 from e)] at hK
   exact hK w h
end
section
variable {B:Nat} {w0 w:World} {R:List aA} {b:Nat} {m:Mt}
theorem Di {c:Nat} (h1:1≤c) (h8:c≤8) {K:Int->Int->Pw} (hK:K 0 (c:Int) w):C.qcM (1:Int) (c:Int) K w:=by
 apply S.qcM0;apply S.qcJ0;have:c=1∨c=2∨c=3∨c=4∨c=5∨c=6∨c=7∨c=8:=by omega
 rcases this with rfl|rfl|rfl|rfl|rfl|rfl|rfl|rfl<;>
 ·refine ⟨by decide,by decide,by decide,by decide,by decide, ?_⟩
  refine Eq.mp ?_ hK;kernel_rfl
theorem xf {x:Sl} {c:Nat} {K:Sl->Pw} (h1:1≤c) (h8:c≤8) (hl:x.len=1) (h:Ow B w0 w (ah aG x [-1]::R)) (hK:∀s w',Ow B w0 w' (ah aG s (List.replicate c (-1))::R)->K s w'):C.qaw x (c:Int) K w:=by
 apply S.qaw0;intro k3 hk3;refine aE om (hk3 _ ?_);rw[hl,show IntKind.u64.wrap ((1:Nat):Int)=1 from IM om om,IM (x:=(c:Int)) om om];refine Di h1 h8 ?_;intro k8 hk8;refine aE om (hk8 _ _ ?_);intro k11 hk11;refine aE om (hk11 _ ?_);rw[wr (x:=(c:Int)) om om];have hb:Tryz.t3.bytes=8:=by kernel_rfl
 have hp48:(2:Int)^48=281474976710656:=by decide
 refine Ow.rD (E:=aG) (z0:=(0:Int)) (zv:= .z 0) Tryz.underlying22 (show Tryz.prog.info? 3=some Tryz.t3 from by kernel_rfl) (by kernel_rfl) (by kernel_rfl) rfl (n:=(c:Int)) (inf:=Tryz.t3) h om (by rw[hb,hp48];omega) (by rw[hp48];omega) fun t w ht h=>?_
 rw[Int.toNat_natCast] at ht h;have hx0:([-1]:List Int)[0]?=some (-1):=rfl;obtain ⟨bx,ox,hax,hcx⟩:=h.get 1 rfl hx0;obtain ⟨bt,ot,hat,hct⟩:=h.get 0 rfl (show (List.replicate c (0:Int))[0]?=some 0 from by rw[List.getElem?_replicate,if_pos om])
 have first:∃n w',kz Tryz.prog [22,22] 3 (.slice t.a t.len t.cap) (.slice x.a x.len x.cap) w n w'/\(n=1/\Ow B w0 w' (ah aG t ([-1]++List.replicate (c-1) 0)::ah aG x [-1]::R)):=by
  have e:min x.len t.len=1:=by rw[hl,ht];omega
  have:=Ow.AD (P:=Tryz.prog) (T:=22) (t:=3) (E:=aG) (s:=t) (xs:=List.replicate c (0:Int)) (p:=0) (dl:=t.len) (dc:=t.cap) (sl:=x.len) (sc:=x.cap) (zs:=[-1]) (sa:=⟨bx,ox+(0*aG.z+0),none⟩) (k:=fun n w'=>n=1/\Ow B w0 w' (ah aG t ([-1]++List.replicate (c-1) 0)::ah aG x [-1]::R))
   Tryz.underlying22 (show Tryz.prog.info? 3=some Tryz.t3 from by kernel_rfl) (by kernel_rfl) h hat (by rw[e];rfl) (by simp;omega) (fun j v hv=>by
    cases j with
    |zero=>simp only[List.flatMap_cons,List.flatMap_nil,List.append_nil] at hv;exact hcx 0 v hv
    |succ j=>simp[aG] at hv) fun w' h'=>⟨by rw[e];rfl,by simpa [List.drop_replicate] using h'⟩
  rw[hat,hax];exact this
 obtain ⟨n,w',hcp,rfl,h⟩:=first
 rw[hl] at hcp;refine ⟨_,w',hcp, ?_⟩;intro l17 hl17
 have loop:∀(k n:Nat) (w:World),c≤n+k->1≤n->n≤c->Ow B w0 w (ah aG t (List.replicate n (-1)++List.replicate (c-n) 0)::ah aG x [-1]::R)->l17 (n:Int) w:=by
  intro k
  induction k with
  |zero=>
   intro n w hk hn1 hnc h;obtain rfl:n=c:=by omega
   apply hl17;refine aE om ?_;rw[Nat.sub_self,List.replicate_zero,List.append_nil] at h;exact hK t w h.yy
  |succ k ih=>
   intro n w hk hn1 hnc h;apply hl17;refine dD (fun e=>?_) (fun e=>?_)
   ·refine h.dr fun w h=>?_
    have hcap:=h.jN.fo;have hln:=h.len 0 rfl;refine ⟨om,om,om,om,Go.Vc.a2 ?_⟩;rw[Int.toNat_natCast];have e2:min (n-0) (t.len-n)=min n (c-n):=by rw[ht];rfl
    have hd:∃bt' ot',t.a=some ⟨bt',ot',none⟩/\∀j,j<n->w.cell? ⟨bt',ot'+j,none⟩=some (.z (-1)):=by
     obtain ⟨b0,o0,ha0,_⟩:=h.get 0 rfl (show (List.replicate n (-1:Int)++List.replicate (c-n) 0)[0]?=some (-1) from by rw[List.getElem?_append_left (by simp;omega),List.getElem?_replicate,if_pos om]);refine ⟨b0,o0,ha0,fun j hj=>?_⟩;obtain ⟨b1,o1,ha1,hc1⟩:=h.get 0 rfl (j:=j) (x:=(-1:Int)) (by rw[List.getElem?_append_left (by simp;omega),List.getElem?_replicate,if_pos hj]);rw[ha0] at ha1;cases ha1;have:=hc1 0 _ rfl
     rwa [show o0+(j*aG.z+0)=o0+j from by show o0+(j*1+0)=_;omega] at this
    obtain ⟨b0,o0,ha0,hcells⟩:=hd;have hsl1:dV t.a n t.cap 1=some ⟨b0,o0+n*1,none⟩:=fV ha0 om;have hsl2:dV t.a 0 t.cap 1=some ⟨b0,o0,none⟩:=by rw[fV ha0 om,Nat.zero_mul,Nat.add_zero]
    rw[hsl1,hsl2];have hlenz:(List.replicate (min n (c-n)) (-1:Int)).length=min (n-0) (t.len-n):=by rw[List.length_replicate,e2]
    refine Ow.AD (P:=Tryz.prog) (T:=22) (t:=3) (E:=aG) (s:=t) (xs:=List.replicate n (-1)++List.replicate (c-n) 0) (p:=n) (dl:=t.len-n) (dc:=t.cap-n) (sl:=n-0) (sc:=t.cap-0) (zs:=List.replicate (min n (c-n)) (-1)) (sa:=⟨b0,o0,none⟩)
     Tryz.underlying22 (show Tryz.prog.info? 3=some Tryz.t3 from by kernel_rfl) (by kernel_rfl) h ha0 hlenz (by simp;omega) (fun j v hv=>?_) fun w' h'=>?_
    ·have hfl:(List.replicate (min n (c-n)) (-1:Int)).flatMap aG.enc=List.replicate (min n (c-n)) (.z (-1)):=by
      induction (min n (c-n)) with
      |zero=>rfl
      |succ q ihq=>rw[List.replicate_succ,List.flatMap_cons,ihq,List.replicate_succ];rfl
     rw[hfl,List.getElem?_replicate] at hv;split at hv
     ·cases hv;rw[aI];exact hcells j om
     ·cases hv
    ·rw[e2]
     have hs:IntKind.i64.wrap ((n:Int)+((min n (c-n):Nat):Int))=((n+min n (c-n):Nat):Int):=by rw[wr om om];omega
     rw[hs];refine ih (n+min n (c-n)) w' om om om ?_
     have hx:List.take n (List.replicate n (-1:Int)++List.replicate (c-n) 0)++List.replicate (min n (c-n)) (-1)++List.drop (n+(List.replicate (min n (c-n)) (-1:Int)).length) (List.replicate n (-1:Int)++List.replicate (c-n) 0)=List.replicate (n+min n (c-n)) (-1)++List.replicate (c-(n+min n (c-n))) 0:=by
      rw[List.take_left' (by simp),List.drop_append,List.drop_eq_nil_of_le (by simp),List.nil_append,List.drop_replicate,List.replicate_append_replicate];congr 2;simp;omega
     rw[hx] at h';exact h'
   ·obtain rfl:n=c:=by omega
    rw[Nat.sub_self,List.replicate_zero,List.append_nil] at h;exact hK t w h.yy
 exact loop c 1 w' om om h1 h
theorem Dw {s:Sl} {ys:List Nat} {y:Nat} {c:Nat} {L:List aA} {k:Sl->Pw} [I:bT s L Nat jH ys] [J:dG (ah jH s ys) L R] (h:Ow B w0 w (aa c [.pointer (some ⟨y,0,none⟩)]::L)) (hbig:ys.length≤1000000000)
  (hk:∀s' w',s'.len=ys.length+1->Ow B w0 w' (ah jH s' (ys++ [y])::R)->k s' w'):
  ∃s' w',bo Tryz.prog [174,174] 174 (.slice s.a s.len s.cap) (.slice (some (Addr.mk c 0 none)) 1 1) w s' w'/\k s' w':=
 Ow.fy (E:=jH) (y:=y) Tryz.underlying174 (show Tryz.prog.info? 198=some Tryz.t198 from by kernel_rfl) (zv:= .pointer none) (by kernel_rfl) (by kernel_rfl) rfl (by decide) h (by
  have e:Tryz.t198.bytes=8:=by kernel_rfl
  rw[e];omega) hk
def eh (c:Nat):Mt:=⟨[],List.replicate c [],List.replicate c (-1)⟩
theorem rQ {c:Nat} (h8:c≤8):bW (eh c):=by
 refine ⟨by simp[eh],by simp[eh],by simpa [eh] using h8,fun t h=>?_,fun t h=>rfl,fun n h=>?_,fun Q h x hx=>?_⟩
 ·simp[eh] at h
 ·simp only[eh,List.mem_replicate] at h;exact .inl h.2
 ·simp only[eh,List.mem_replicate] at h;rw[h.2] at hx;simp at hx
theorem wP {n:Int} {K:Option Addr->Int->Pw} (h:Ow B w0 w R) (hK0:¬(1≤n/\n≤8)->∀w',Ow B w0 w' R->K none 1 w') (hK1:∀c:Nat,n=(c:Int)->1≤c->c≤8->∀b w',Ow B w0 w' (aZ b (eh c)::R)->K (some ⟨b,0,none⟩) 0 w'):C.qdp n K w:=by
 apply S.qdp0;intro k2 hk2;refine dD (fun e=>hk2 _ _ (bN rfl (hK0 om w h))) (fun e1=>hk2 _ _ ?_);refine dD (fun e=>hK0 om w h) (fun e2=>?_);obtain ⟨c,rfl⟩:=Int.eq_ofNat_of_zero_le (show 0≤n by omega);refine h.a fun d w1 h=>?_;have h:Ow B w0 w1 (ah aG ⟨some ⟨d,0,none⟩,1,1⟩ [-1]::R):=h.DA [-1] rfl;refine xf om om rfl h fun r w h=>?_
 refine h.a fun t w2 h=>?_;have h:Ow B w0 w2 (ah jH ⟨none,0,0⟩ []::_):=Ow.dK h;have h:Ow B w0 w2 (ah oC ⟨none,0,0⟩ []::_):=Ow.dK h;intro l9 hl9
 have loop:∀(k j:Nat) (q:Sl) (bs:List Nat) (w:World),j+k=c->bs.length=j->Ow B w0 w (aa t [eT ⟨none,0,0⟩,eT q,eT r]::ah oC ⟨none,0,0⟩ []::ah jH q bs::ah aG r (List.replicate c (-1))::(List.zipWith bc bs (List.replicate j [])++R))->l9 (j:Int) w:=by
  intro k
  induction k with
  |zero=>
   intro j q bs w hj hbs h;obtain rfl:j=c:=by omega
   apply hl9;refine aE om ?_;exact hK1 j rfl om om t w (Ow.bu (m:=eh j) (l:=⟨none,0,0⟩) (q:=q) (r:=r) (bs:=bs) (by simp[eh];exact hbs) h)
  |succ k ih=>
   intro j q bs w hj hbs h;apply hl9;refine aR om ?_;refine h.dr fun w h=>?_
   refine ⟨_,rfl,q,h.ao rfl,Go.Vc.a2 ?_⟩;refine tf h fun b1 w h=>?_
   refine ⟨h.ao rfl,Go.Vc.a2 ?_⟩;refine h.a fun d3 w3 h=>?_;refine Go.Vc.a2 ?_;refine Dw (s:=q) (ys:=bs) (y:=b1) h om fun q' w hq' h=>?_
   refine ⟨_,rfl,Go.Vc.a2 ?_⟩;refine h.cC rfl rfl fun w h=>?_
   (try dsimp only[putAt,List.set_cons_zero,List.set_cons_succ] at h)
   rw[wI j om];refine ih (j+1) q' (bs++ [b1]) w om (by simp[hbs]) ?_
   have ez:List.zipWith bc (bs++ [b1]) (List.replicate (j+1) [])=List.zipWith bc bs (List.replicate j [])++ [bc b1 []]:=by
    rw[List.replicate_succ',List.zipWith_append (by simp[hbs])];rfl
   rw[ez,List.append_assoc];have h2:Ow B w0 w (aa t [eT ⟨none,0,0⟩, .slice q'.a q'.len q'.cap,eT r]::ah oC ⟨none,0,0⟩ []::ah jH q' (bs++ [b1])::ah aG r (List.replicate c (-1))::bc b1 []::(List.zipWith bc bs (List.replicate j [])++R)):=h.sub;exact h2.perm ((((List.perm_middle.symm.cons _).cons _).cons _).cons _)
 have h3:Ow B w0 w2 (aa t [eT ⟨none,0,0⟩,eT ⟨none,0,0⟩,eT r]::ah oC ⟨none,0,0⟩ []::ah jH ⟨none,0,0⟩ []::ah aG r (List.replicate c (-1))::R):=h.nC;exact loop c 0 ⟨none,0,0⟩ [] w2 om rfl h3
end
section
variable {w0 w:World}
variable {B:Nat} {R:List aA} {b:Nat} {m:Mt}
theorem bW.II (hm:bW m) {c n:Int} (h:m.cT n=true):bW (m.fX c n):=hm.fX (.inr ⟨(bX h).1,(bX h).2.1⟩)
end
section
variable {B:Nat} {w0 w:World} {R L:List aA} {b:Nat} {m:Mt}
theorem lU {c:Nat} {a e2:Int} {K:Int->Pw} (h:Ow B w0 w (aa c [.z a, .z e2]::L)) (hK:∀w',Ow B w0 w' (aa c [.z a, .z e2]::L)->K (if a≠0 then a else e2) w'):C.qbC ⟨some ⟨c,0,none⟩,2,2⟩ K w:=by
 apply S.qbC0
 have tell:∀(x:Int) (w:World) (Q:Bool->Pw),Q (x !=0) w->C.qcI x Q w:=fun x w Q h=>by
  apply S.qcI0;exact h
 apply S.qz0;intro l3 hl3;refine hl3 _ _ (aR (by show (0:Int)<2;decide) ?_);refine ⟨_,rfl,by decide,by show (0:Int)<2;decide,a,h.ao rfl,aP (tell a w _ ?_)⟩;refine cb (fun e=>?_) (fun e=>?_)
 ·have ea:a≠0:=by simpa using e
  rw[if_pos ea] at hK;refine aE (by decide) ?_;exact ⟨_,rfl,by decide,by show (0:Int)<2;decide,a,h.ao rfl,hK w h⟩
 ·have ea:a=0:=by simpa using e
  rw[if_neg (by simpa using ea)] at hK;rw[show IntKind.i64.wrap ((0:Int)+1)=1 from by decide];refine hl3 _ _ (aR (by show (1:Int)<2;decide) ?_);refine ⟨_,rfl,by decide,by show (1:Int)<2;decide,e2,h.ao rfl,aP (tell e2 w _ ?_)⟩;refine cb (fun e=>?_) (fun e=>?_)
  ·refine aE (by decide) ?_
   exact ⟨_,rfl,by decide,by show (1:Int)<2;decide,e2,h.ao rfl,hK w h⟩
  ·have eb:e2=0:=by simpa using e
   rw[show IntKind.i64.wrap ((1:Int)+1)=2 from by decide];refine hl3 _ _ (aE (by show ¬(2:Int)<2;decide) ?_);refine aR (by decide) ?_;rw[eb] at hK h;exact hK w h
def Mt.z6 (m:Mt) (n:Int) (i:Nat) (v:Int):Mt:=m.aX n { m.th n with rg:=fun j=>if j=i then v else (m.th n).rg j}
theorem bW.z6 (hm:bW m) {n v:Int} {i:Nat} (hn:m.cT n=true):bW (m.z6 n i v):=hm.aX (t:={ m.th n with rg:=fun j=>if j=i then v else (m.th n).rg j}) (hm.th hn).1 rfl
theorem IG {n v:Int} {i:Nat} {K:Int->Pw} (hm:bW m) (hT:m.cT n=true) (hi:i<8) (h:Ow B w0 w (aZ b m::R)) (hK:∀w',Ow B w0 w' (aZ b (m.z6 n i v)::R)->K 0 w'):C.qA (some ⟨b,0,none⟩) n (i:Int) v K w:=by
 apply S.qA0;obtain ⟨l,q,r,bs,hbs,h⟩:=h.yL;obtain ⟨n0,n1,hx⟩:=bX hT;refine dU h (fun e=>by rw[hT] at e;cases e) fun a _ ha=>?_
 intro k7 hk7;refine bL ?_;refine aE om ?_;refine bL ?_;rw[decide_eq_false (show ¬(i:Int)≥8 by omega)];refine h.a fun d w2 h=>?_;refine lU h fun w h=>?_
 have h:=h.drop;refine hk7 _ _ (fP rfl ?_);refine ⟨_,rfl,om,om, ?_⟩
 have e1:((a.add (n.toNat*12)).add 4).add ((i:Int).toNat*1)=(a.add (n.toNat*12)).add (4+i):=by
  have:=h.wH l ha;rw[this,aI,aI,aI,aI,Int.toNat_natCast];congr 1;omega
 rw[e1];refine yI (c:=4+i) (t':={ m.th n with rg:=fun j=>if j=i then v else (m.th n).rg j}) h n0 hx ha ?_ om rfl fun w h=>?_
 ·have:i=0∨i=1∨i=2∨i=3∨i=4∨i=5∨i=6∨i=7:=by omega
  rcases this with rfl|rfl|rfl|rfl|rfl|rfl|rfl|rfl<;>rfl
 ·exact hK w (Ow.bu (m:=m.z6 n i v) hbs h)
theorem yM {l q r:Sl} {bs:List Nat} {n s:Int} {K:Pw} (hm:bW m) (hn:m.cT n=true) (hbs:bs.length=m.qs.length) (h:Ow B w0 w (aa b [eT l,eT q,eT r]::ah oC l m.bA::ah jH q bs::ah aG r m.runs::(List.zipWith bc bs m.qs++R)))
  (hK:∀w',Ow B w0 w' (aa b [eT l,eT q,eT r]::ah oC l (m.leave n s).bA::ah jH q bs::ah aG r (m.leave n s).runs::(List.zipWith bc bs (m.leave n s).qs++R))->K w'):C.qi (some ⟨b,0,none⟩) n s K w:=by
 apply S.qi0;obtain ⟨n0,n1,hx⟩:=bX hn;obtain ⟨⟨c0,c1⟩,_⟩:=hm.th hn;have hcr:=hm.aO;obtain ⟨b1,hb1⟩:∃x,bs[(m.th n).co.toNat]?=some x:=⟨_,gE om⟩
 refine dU h (fun e=>by rw[hn] at e;cases e) fun a _ ha=>?_
 refine ⟨_,rfl,_,oX (c:=0) h n0 hx ha rfl, ?_⟩;intro k hk
 have fin:∀w,Ow B w0 w (aa b [eT l,eT q,eT r]::ah oC l m.bA::ah jH q bs::ah aG r (m.bP n).runs::(List.zipWith bc bs (m.bP n).qs++R))->k w:=fun w h=>by
  apply hk;refine ⟨_,rfl, ?_⟩;refine yI (c:=0) (t':={ m.th n with st:=s}) h n0 hx ha rfl (by decide) rfl fun w h=>?_
  refine hK w ?_;have e:(m.leave n s).bA=m.bA.set n.toNat { m.th n with st:=s}:=by unfold Mt.leave Mt.aX;rw[cD.1]
  rw[e];exact h
 refine gB (fun e=>?_) (fun e=>?_)
 ·have e1:m.bP n=m.iT (m.th n).co (iO (m.q (m.th n).co) n).2:=by unfold Mt.bP;rw[if_pos e]
  rw[e1] at fin;refine h.dr fun w h=>?_
  refine ⟨_,rfl,q,h.ao rfl,_,rfl,_,oX (c:=2) h n0 hx ha rfl, ?_⟩;refine h.dZ (s:=q) (j:=(m.th n).co.toNat) (by show (m.th n).co=_;omega) hb1 fun a2 ha2 h0 hc=>⟨_,h0 _ rfl,Go.Vc.a2 ?_⟩
  have h:=h.Gz hb1 (yq c0 c1);refine ga h fun w h=>?_
  exact fin w (h.IV (qs:=m.qs) hb1 om)
 refine gB (fun e2=>?_) (fun e2=>?_)
 ·have e1:m.bP n=m.fX (m.th n).co (-1):=by unfold Mt.bP;rw[if_neg e,if_pos e2]
  rw[e1] at fin;refine h.dr fun w h=>?_
  refine ⟨_,rfl,r,h.ao rfl,_,rfl,_,oX (c:=2) h n0 hx ha rfl, ?_⟩;refine h.dZ (s:=r) (j:=(m.th n).co.toNat) (by show (m.th n).co=_;omega) (td (m:=m) c0 om) fun a2 ha2 h0 hc=>Go.Vc.a2 ?_
  refine Ow.wL (s:=r) (E:=aG) (xs:=m.runs) (i:=(m.th n).co) (j:=(m.th n).co.toNat) h (-1) om om ha2 rfl fun w h=>?_
  exact fin w h.vr.vr.vr
 ·have e1:m.bP n=m:=by unfold Mt.bP;rw[if_neg e,if_neg e2]
  rw[e1] at fin;exact fin w h
end
section
variable {m:Mt}
theorem eY {n k:Int} {t:uw} (hn:m.cT n=true):(m.aX n t).th k=if k=n then t else m.th k:=by
 obtain ⟨n0,n1,_⟩:=bX hn;unfold Mt.th Mt.aX;by_cases hk:k<0
 ·rw[if_pos hk,if_pos hk,if_neg om]
 ·rw[if_neg hk,if_neg hk]
  simp only;rw[List.getElem?_set];by_cases e:k=n
  ·subst e;rw[if_pos rfl,if_pos om,if_pos rfl];rfl
  ·rw[if_neg om,if_neg e]
theorem wz {c k:Int} {Q:Qs} (hc:m.fR c=true):(m.iT c Q).q k=if k=c then Q else m.q k:=by
 obtain ⟨n0,n1⟩:=fS.1 hc;unfold Mt.q Mt.iT;by_cases hk:k<0
 ·rw[if_pos hk,if_pos hk,if_neg om]
 ·rw[if_neg hk,if_neg hk]
  simp only;rw[List.getElem?_set];by_cases e:k=c
  ·subst e;rw[if_pos rfl,if_pos om,if_pos rfl];rfl
  ·rw[if_neg om,if_neg e]
theorem tj {c k v:Int} (c0:0≤c) (c1:c<m.runs.length):(m.fX c v).run k=if k=c then v else m.run k:=by
 unfold Mt.run Mt.fX;by_cases hk:k<0
 ·rw[if_pos hk,if_pos hk,if_neg om]
 ·rw[if_neg hk,if_neg hk]
  simp only;rw[List.getElem?_set];by_cases e:k=c
  ·subst e;rw[if_pos rfl,if_pos om,if_pos rfl];rfl
  ·rw[if_neg om,if_neg e]
theorem rV {n k:Int} {t:uw}:(m.aX n t).q k=m.q k:=rfl
theorem mr {n k:Int} {t:uw}:(m.aX n t).run k=m.run k:=rfl
theorem wF {n k:Int} {t:Qs}:(m.iT n t).th k=m.th k:=rfl
theorem E8 {n k:Int} {t:Qs}:(m.iT n t).run k=m.run k:=rfl
theorem rU {n k t:Int}:(m.fX n t).th k=m.th k:=rfl
theorem E9 {n k t:Int}:(m.fX n t).q k=m.q k:=rfl
theorem E7 {n k:Int} {t:Qs}:(m.iT n t).cT k=m.cT k:=rfl
theorem yC {n k:Int} {t:Qs}:(m.iT n t).fR k=m.fR k:=by unfold Mt.iT Mt.fR;simp
structure bH (o:Int) (m:Mt):Prop where
 ok:bW m
 pr:∀n,m.cT n=true->0≤(m.th n).pr/\(m.th n).pr<256
 le:∀n,m.cT n=true->1≤(m.th n).le/\(m.th n).le≤5
 CH:∀c,FF (m.q c)
 AO:∀c,m.fR c=true->∀(p:Nat) n,(p,n)∈m.q c↔(m.cT n=true/\n≠o/\(m.th n).co=c/\(m.th n).st=1/\(m.th n).pr=(p:Int))
 inr:∀c,m.fR c=true->∀n,m.cT n=true->(m.run c=n↔(n≠o/\(m.th n).co=c/\(m.th n).st=2))
theorem bH.co {o:Int} (hi:bH o m) {n:Int} (hn:m.cT n=true):m.fR (m.th n).co=true:=fS.2 (hi.ok.th hn).1
theorem Fk {Q:Qs} {n:Int} {p:Nat} {k:Int}:(p,k)∈(iO Q n).2↔(p,k)∈Q/\k≠n:=by
 unfold iO;split
 ·rw[List.mem_filter];simp
 ·rename_i e
  exact ⟨fun h=>⟨h,oG.1 e _ h⟩,fun h=>h.1⟩
theorem GK {Q:Qs} {n:Int} (h:FF Q):FF (iO Q n).2:=by
 unfold iO;split
 ·exact ⟨h.nodup.sublist (List.Sublist.map _ List.filter_sublist),fun x hx=>h.prio x (List.mem_filter.1 hx).1,Nat.le_trans (List.length_filter_le _ _) h.gT⟩
 ·exact h
theorem bH.bP (hi:bH (-1) m) {n:Int} (hn:m.cT n=true):bH n (m.bP n):=by
 have hc:=hi.co hn;have hok:=hi.ok;obtain ⟨c0,c1⟩:=fS.1 hc;have hcr:=hi.ok.aO;obtain ⟨n0,_,_⟩:=bX hn;have neg:∀k,m.cT k=true->k≠ -1:=fun k hk=>by have:=(bX hk).1;omega
 unfold Mt.bP;split
 ·rename_i hs
  refine ⟨hi.ok.iT (vn hok.vd),hi.pr,hi.le,fun c=>?_,fun c hc2 p k=>?_,fun c hc2 k hk=>?_⟩
  ·rw[wz hc];split
   ·exact GK (hi.CH _)
   ·exact hi.CH c
  ·rw[yC] at hc2
   rw[wz hc,wF,E7];split
   ·rename_i e
    subst e;rw[Fk,hi.AO _ hc];constructor
    ·rintro ⟨⟨h1,h2,h3⟩,h4⟩;exact ⟨h1,h4,h3⟩
    ·rintro ⟨h1,h4,h3⟩;exact ⟨⟨h1,neg k h1,h3⟩,h4⟩
   ·rename_i e
    rw[hi.AO _ hc2];constructor
    ·rintro ⟨h1,h2,h3⟩;exact ⟨h1,fun e2=>e (by rw[←h3.1,e2]),h3⟩
    ·rintro ⟨h1,h4,h3⟩;exact ⟨h1,neg k h1,h3⟩
  ·rw[yC] at hc2
   rw[E8,wF,hi.inr c hc2 k hk];constructor
   ·rintro ⟨h1,h2,h3⟩;exact ⟨fun e=>by rw[e,hs] at h3;omega,h2,h3⟩
   ·rintro ⟨h1,h3⟩;exact ⟨neg k hk,h3⟩
 ·rename_i hs1
  split
  ·rename_i hs
   refine ⟨hi.ok.fX (.inl rfl),hi.pr,hi.le,hi.CH,fun c hc2 p k=>?_,fun c hc2 k hk=>?_⟩
   ·rw[iN] at hc2
    rw[E9,rU,ow,hi.AO c hc2];constructor
    ·rintro ⟨h1,h2,h3,h4,h5⟩;exact ⟨h1,fun e=>by rw[e,hs] at h4;omega,h3,h4,h5⟩
    ·rintro ⟨h1,h2,h3⟩;exact ⟨h1,neg k h1,h3⟩
   ·rw[iN] at hc2
    rw[ow] at hk;rw[tj c0 om,rU];split
    ·rename_i e
     constructor
     ·intro e2;exact absurd e2.symm (neg k hk)
     ·rintro ⟨h1,h2,h3⟩
      have a1:=(hi.inr c hc2 k hk).2 ⟨neg k hk,h2,h3⟩;have a2:=(hi.inr c hc2 n hn).2 ⟨neg n hn,e.symm,hs⟩;exact absurd (a1.symm.trans a2) h1
    ·rename_i e
     rw[hi.inr c hc2 k hk];constructor
     ·rintro ⟨h1,h2,h3⟩;exact ⟨fun e2=>e (by rw[←h2,e2]),h2,h3⟩
     ·rintro ⟨h1,h3⟩;exact ⟨neg k hk,h3⟩
  ·rename_i hs2
   refine ⟨hi.ok,hi.pr,hi.le,hi.CH,fun c hc2 p k=>?_,fun c hc2 k hk=>?_⟩
   ·rw[hi.AO c hc2]
    constructor
    ·rintro ⟨h1,h2,h3,h4,h5⟩;exact ⟨h1,fun e=>by rw[e] at h4;exact hs1 h4,h3,h4,h5⟩
    ·rintro ⟨h1,h2,h3⟩;exact ⟨h1,neg k h1,h3⟩
   ·rw[hi.inr c hc2 k hk]
    constructor
    ·rintro ⟨h1,h2,h3⟩;exact ⟨fun e=>by rw[e] at h3;exact hs2 h3,h2,h3⟩
    ·rintro ⟨h1,h3⟩;exact ⟨neg k hk,h3⟩
theorem bH.set {n:Int} (hi:bH n m) (hn:m.cT n=true) {t:uw} (h1:0≤t.co/\t.co<m.qs.length) (h2:0≤t.pr/\t.pr<256) (h3:1≤t.le/\t.le≤5):bH n (m.aX n t):=by
 refine ⟨hi.ok.aX h1 rfl,fun k hk=>?_,fun k hk=>?_,hi.CH,fun c hc p k=>?_,fun c hc k hk=>?_⟩
 ·rw[eY hn];rw[dF] at hk;split
  ·exact h2
  ·exact hi.pr k hk
 ·rw[eY hn];rw[dF] at hk;split
  ·exact h3
  ·exact hi.le k hk
 ·rw[rV,dF,eY hn,hi.AO c hc]
  by_cases e:k=n
  ·subst e;exact ⟨fun h=>absurd rfl h.2.1,fun h=>absurd rfl h.2.1⟩
  ·rw[if_neg e]
 ·rw[dF] at hk
  rw[mr,eY hn,hi.inr c hc k hk];by_cases e:k=n
  ·subst e;exact ⟨fun h=>absurd rfl h.1,fun h=>absurd rfl h.1⟩
  ·rw[if_neg e]
theorem Cj {n k:Int}:(m.bP n).th k=m.th k:=by unfold Mt.th;rw[cD.1]
theorem sN {n k:Int}:(m.bP n).cT k=m.cT k:=by unfold Mt.cT;rw[cD.1]
theorem bH.leave (hi:bH (-1) m) {n s:Int} (hn:m.cT n=true):bH n (m.leave n s):=by
 unfold Mt.leave;have h0:=hi.bP hn;have hn0:(m.bP n).cT n=true:=by rw[sN];exact hn
 refine h0.set hn0 ?_ (hi.pr n hn) (hi.le n hn);rw[cD.2];exact (hi.ok.th hn).1
theorem jO {n s k:Int} (hn:m.cT n=true):(m.leave n s).th k=if k=n then { m.th n with st:=s} else m.th k:=by
 unfold Mt.leave;rw[eY (by rw[sN];exact hn),Cj]
theorem il {n k:Int} (hn:m.cT n=true):(m.cE n).th k=if k=n then { m.th n with st:=1} else m.th k:=by
 unfold Mt.cE;rw[wF,eY hn]
theorem bH.JN {n:Int} (hi:bH n m) {c:Int} (hc:m.fR c=true):wh (m.q c) n=none:=oG.2 fun x hx e=>by
 obtain ⟨p,k⟩:=x;exact ((hi.AO c hc p k).1 hx).2.1 e
theorem bH.up {n:Int} (hi:bH n m) (hn:m.cT n=true):bH (-1) (m.cE n):=by
 have hc:=hi.co hn;have hw:=hi.JN hc;have hp:=hi.pr n hn;have hok:=hi.ok.cE hn;have hids:=AK (hi.CH _) (hi.ok.vd (c:=(m.th n).co));have hfew:=hi.ok.gT;have neg:∀k,m.cT k=true->k≠ -1:=fun k hk=>by have:=(bX hk).1;omega
 have hput:(pB (m.q (m.th n).co) (m.th n).pr n).2=m.q (m.th n).co++ [((m.th n).pr.toNat,n)]:=by
  unfold pB;rw[if_neg om,hw]
 have hpt:((m.th n).pr.toNat:Int)=(m.th n).pr:=by omega
 have hc1:(m.aX n { m.th n with st:=1}).fR (m.th n).co=true:=hc;refine ⟨hok,fun k hk=>?_,fun k hk=>?_,fun c=>?_,fun c hc2 p k=>?_,fun c hc2 k hk=>?_⟩
 ·rw[il hn];rw[gu] at hk;split
  ·exact hp
  ·exact hi.pr k hk
 ·rw[il hn];rw[gu] at hk;split
  ·exact hi.le n hn
  ·exact hi.le k hk
 ·unfold Mt.cE
  rw[wz hc1,hput,rV];split
  ·exact EV (hi.CH _) om hw om
  ·exact hi.CH c
 ·rw[gr] at hc2
  rw[gu,il hn]
  have e0:(m.cE n).q c=if c=(m.th n).co then m.q (m.th n).co++ [((m.th n).pr.toNat,n)] else m.q c:=by
   unfold Mt.cE;rw[wz hc1,hput,rV]
  rw[e0];by_cases e:c=(m.th n).co
  ·subst e
   rw[if_pos rfl,List.mem_append,List.mem_singleton,hi.AO _ hc2];by_cases ek:k=n
   ·subst ek
    rw[if_pos rfl];constructor
    ·rintro (h|h)
     ·exact absurd rfl h.2.1
     ·cases h;exact ⟨hn,neg k hn,rfl,rfl,hpt.symm⟩
    ·rintro ⟨_,_,_,_,h5⟩
     refine .inr ?_;have:(m.th k).pr.toNat=p:=by have h5:(m.th k).pr=p:=h5;omega
     rw[this]
   ·rw[if_neg ek]
    constructor
    ·rintro (⟨h1,h2,h3⟩|h)
     ·exact ⟨h1,neg k h1,h3⟩
     ·cases h;exact absurd rfl ek
    ·rintro ⟨h1,h2,h3⟩;exact .inl ⟨h1,ek,h3⟩
  ·rw[if_neg e,hi.AO _ hc2]
   by_cases ek:k=n
   ·subst ek
    rw[if_pos rfl];exact ⟨fun h=>absurd rfl h.2.1,fun h=>absurd h.2.2.1.symm e⟩
   ·rw[if_neg ek]
    exact ⟨fun h=>⟨h.1,neg k h.1,h.2.2⟩,fun h=>⟨h.1,ek,h.2.2⟩⟩
 ·rw[gr] at hc2
  rw[gu] at hk;rw[il hn];show m.run c=k↔_;rw[hi.inr c hc2 k hk];by_cases ek:k=n
  ·subst ek
   rw[if_pos rfl];exact ⟨fun h=>absurd rfl h.1,fun h=>absurd (show (1:Int)=2 from h.2.2) (by decide)⟩
  ·rw[if_neg ek]
   exact ⟨fun h=>⟨neg k hk,h.2⟩,fun h=>⟨ek,h.2⟩⟩
theorem bH.still {n:Int} (hi:bH n m) (h1:(m.th n).st≠1) (h2:(m.th n).st≠2):bH (-1) m:=by
 have neg:∀k,m.cT k=true->k≠ -1:=fun k hk=>by have:=(bX hk).1;omega
 refine ⟨hi.ok,hi.pr,hi.le,hi.CH,fun c hc p k=>?_,fun c hc k hk=>?_⟩
 ·rw[hi.AO c hc]
  exact ⟨fun h=>⟨h.1,neg k h.1,h.2.2⟩,fun h=>⟨h.1,fun e=>h1 (by rw[←e];exact h.2.2.2.1),h.2.2⟩⟩
 ·rw[hi.inr c hc k hk]
  exact ⟨fun h=>⟨neg k hk,h.2⟩,fun h=>⟨fun e=>h2 (by rw[←e];exact h.2.2),h.2⟩⟩
theorem bH.out {n:Int} (hi:bH (-1) m) (h1:(m.th n).st≠1) (h2:(m.th n).st≠2):bH n m:=by
 have neg:∀k,m.cT k=true->k≠ -1:=fun k hk=>by have:=(bX hk).1;omega
 refine ⟨hi.ok,hi.pr,hi.le,hi.CH,fun c hc p k=>?_,fun c hc k hk=>?_⟩
 ·rw[hi.AO c hc]
  exact ⟨fun h=>⟨h.1,fun e=>h1 (by rw[←e];exact h.2.2.2.1),h.2.2⟩,fun h=>⟨h.1,neg k h.1,h.2.2⟩⟩
 ·rw[hi.inr c hc k hk]
  exact ⟨fun h=>⟨fun e=>h2 (by rw[←e];exact h.2.2),h.2⟩,fun h=>⟨neg k hk,h.2⟩⟩
theorem bH.go {n c:Int} (hi:bH n m) (hn:m.cT n=true) (h1:(m.th n).st=2) (h2:(m.th n).co=c) (hc:m.fR c=true) (hr:m.run c= -1):bH (-1) (m.fX c n):=by
 have neg:∀k,m.cT k=true->k≠ -1:=fun k hk=>by have:=(bX hk).1;omega
 obtain ⟨c0,c1⟩:=fS.1 hc;have hcr:=hi.ok.aO;refine ⟨hi.ok.II hn,hi.pr,hi.le,hi.CH,fun d hd p k=>?_,fun d hd k hk=>?_⟩
 ·rw[iN] at hd
  rw[E9,ow,rU,hi.AO d hd];exact ⟨fun h=>⟨h.1,neg k h.1,h.2.2⟩,fun h=>⟨h.1,fun e=>by rw[e,h1] at h;exact absurd h.2.2.2.1 (by decide),h.2.2⟩⟩
 ·rw[iN] at hd
  rw[ow] at hk;rw[tj c0 om,rU];by_cases e:d=c
  ·subst e
   rw[if_pos rfl];constructor
   ·intro e2;subst e2;exact ⟨neg _ hk,h2,h1⟩
   ·rintro ⟨h3,h4⟩
    by_cases ek:k=n
    ·exact ek.symm
    ·have:=(hi.inr d hd k hk).2 ⟨ek,h4⟩
     rw[hr] at this;exact absurd this.symm (neg k hk)
  ·rw[if_neg e,hi.inr d hd k hk]
   exact ⟨fun h=>⟨neg k hk,h.2⟩,fun h=>⟨fun e2=>e (by rw[←h.2.1,e2,h2]),h.2⟩⟩
theorem bH.Gi (hi:bH (-1) m) {n:Int} (hn:m.cT n=true) {t:uw} (h1:t.co=(m.th n).co) (h2:t.st=(m.th n).st) (h3:(m.th n).st=1->t.pr=(m.th n).pr) (h4:0≤t.pr/\t.pr<256) (h5:1≤t.le/\t.le≤5):bH (-1) (m.aX n t):=by
 refine ⟨hi.ok.aX (by rw[h1];exact (hi.ok.th hn).1) rfl,fun k hk=>?_,fun k hk=>?_,hi.CH,fun c hc p k=>?_,fun c hc k hk=>?_⟩
 ·rw[eY hn];rw[dF] at hk;split
  ·exact h4
  ·exact hi.pr k hk
 ·rw[eY hn];rw[dF] at hk;split
  ·exact h5
  ·exact hi.le k hk
 ·rw[rV,dF,eY hn,hi.AO c hc]
  by_cases e:k=n
  ·subst e
   rw[if_pos rfl,h1,h2];exact ⟨fun h=>⟨h.1,h.2.1,h.2.2.1,h.2.2.2.1,by rw[h3 h.2.2.2.1];exact h.2.2.2.2⟩,fun h=>⟨h.1,h.2.1,h.2.2.1,h.2.2.2.1,by rw[←h3 h.2.2.2.1];exact h.2.2.2.2⟩⟩
  ·rw[if_neg e]
 ·rw[dF] at hk
  rw[mr,eY hn,hi.inr c hc k hk];by_cases e:k=n
  ·subst e;rw[if_pos rfl,h1,h2]
  ·rw[if_neg e]
theorem rY {p c k:Int}:(m.make p c).th k=if k=(m.bA.length:Int) then ⟨0,p,c,5,fun _=>0⟩ else m.th k:=by
 unfold Mt.th Mt.make;by_cases hk:k<0
 ·rw[if_pos hk,if_neg om,if_pos hk]
 ·rw[if_neg hk]
  simp only;by_cases e:k=(m.bA.length:Int)
  ·subst e;rw[if_pos rfl,Int.toNat_natCast,List.getElem?_append_right (Nat.le_refl _),Nat.sub_self];rfl
  ·rw[if_neg e,if_neg hk]
   by_cases e2:k.toNat<m.bA.length
   ·rw[List.getElem?_append_left e2]
   ·rw[List.getElem?_eq_none (by simp;omega),List.getElem?_eq_none om]
theorem oa {p c k:Int}:(m.make p c).cT k=true↔(m.cT k=true∨k=(m.bA.length:Int)):=by
 unfold Mt.cT Mt.make;simp only[List.length_append,List.length_cons,List.length_nil,Bool.and_eq_true,decide_eq_true_eq];omega
theorem bH.make (hi:bH (-1) m) {p c:Int} (hl:m.bA.length<64) (hc:m.fR c=true) (hp:0≤p/\p<256):bH (-1) (m.make p c):=by
 have notT:m.cT (m.bA.length:Int)≠true:=by unfold Mt.cT;simp
 refine ⟨hi.ok.make hl hc,fun k hk=>?_,fun k hk=>?_,hi.CH,fun d hd q k=>?_,fun d hd k hk=>?_⟩
 ·rw[rY]
  rcases oa.1 hk with h|h
  ·split
   ·exact hp
   ·exact hi.pr k h
  ·rw[if_pos h];exact hp
 ·rw[rY]
  rcases oa.1 hk with h|h
  ·split
   ·exact ⟨by show (1:Int)≤5;decide,by show (5:Int)≤5;decide⟩
   ·exact hi.le k h
  ·rw[if_pos h];exact ⟨by show (1:Int)≤5;decide,by show (5:Int)≤5;decide⟩
 ·show (q,k)∈m.q d↔_
  rw[hi.AO d hd,oa,rY];by_cases e:k=(m.bA.length:Int)
  ·rw[if_pos e,e]
   exact ⟨fun h=>absurd h.1 notT,fun h=>absurd (show (0:Int)=1 from h.2.2.2.1) (by decide)⟩
  ·rw[if_neg e]
   exact ⟨fun h=>⟨.inl h.1,h.2⟩,fun h=>⟨h.1.resolve_right e,h.2⟩⟩
 ·show m.run d=k↔_
  rw[rY];by_cases e:k=(m.bA.length:Int)
  ·rw[if_pos e,e]
   refine ⟨fun h=>?_,fun h=>absurd (show (0:Int)=2 from h.2.2) (by decide)⟩;obtain ⟨d0,d1⟩:=fS.1 hd;have d1:d<(m.qs.length:Int):=d1;have hcr:=hi.ok.aO;have:=hi.ok.run _ (List.mem_of_getElem? (td (m:=m) d0 om));omega
  ·rw[if_neg e]
   exact hi.inr d hd k ((oa.1 hk).resolve_right e)
theorem EF {c:Nat} {d:Int}:(eh c).q d= []:=by
 unfold Mt.q eh;split
 ·rfl
 ·simp only
  cases e:(List.replicate c ([]:Qs))[d.toNat]? with
  |none=>rfl
  |some Q=>have:=List.mem_of_getElem? e;rw[List.mem_replicate] at this;rw[this.2];rfl
theorem og {c:Nat} {k:Int}:(eh c).cT k≠true:=by unfold Mt.cT eh;simp
theorem EE {c:Nat} (h8:c≤8):bH (-1) (eh c):=by
 refine ⟨rQ h8,fun k hk=>absurd hk og,fun k hk=>absurd hk og,fun d=>?_,fun d hd p k=>?_,fun d hd k hk=>absurd hk og⟩
 ·rw[EF];exact ⟨by simp,by simp,by simp⟩
 ·rw[EF];exact ⟨fun h=>by simp at h,fun h=>absurd h.1 og⟩
end
section
variable {B:Nat} {w0 w:World} {R L:List aA} {b:Nat} {m:Mt}
def Mt.cI (m:Mt) (n:Int):Int × Mt:=if m.cT n=false then (100,m) else if (m.th n).st=1∨(m.th n).st=2 then (101,m) else (0,m.cE n)
def Mt.cp (m:Mt) (n:Int):Int × Mt:=if m.cT n=false then (100,m) else if (m.th n).st=0 then (101,m) else (0,m.leave n 0)
def Mt.jW (m:Mt) (n:Int):Int × Mt:=if m.cT n=false then (100,m) else if (m.th n).st≠2 then (101,m) else (0,m.leave n 3)
def Mt.iL (m:Mt) (n p:Int):Int × Mt:=if m.cT n=false then (100,m) else if ¬(0≤p/\p<256) then (1,m) else
 if (m.th n).st=1 then (0,((m.leave n 1).aX n {(m.leave n 1).th n with pr:=p}).cE n) else (0,m.aX n { m.th n with pr:=p})
def Mt.rF (m:Mt) (n i v:Int):Int × Mt:=if m.cT n=false then (100,m) else if ¬(0≤i/\i<8) then (1,m) else (0,m.z6 n i.toNat v)
def Mt.cU (m:Mt) (p c:Int):Int × Int × Mt:=if ¬(0≤p/\p<256/\m.fR c=true) then (0,1,m) else if 64≤m.bA.length then (0,2,m) else ((m.bA.length:Int),0,m.make p c)
theorem tg {n:Int} {K:Int->Pw} (hm:bW m) (h:Ow B w0 w (aZ b m::R)) (hK:∀w',Ow B w0 w' (aZ b (m.cI n).2::R)->K (m.cI n).1 w'):C.qG (some ⟨b,0,none⟩) n K w:=by
 unfold Mt.cI at hK;refine rG hm h (fun e w h=>?_) (fun e e1 w h=>?_) (fun e e1 e2 w h=>?_)
 ·rw[if_pos e] at hK;exact hK w h
 ·rw[if_neg (by rw[e];simp),if_pos e1] at hK;exact hK w h
 ·rw[if_neg (by rw[e];simp),if_neg (fun hh=>hh.elim e1 e2)] at hK;exact hK w h
theorem vk {n:Int} {K:Int->Pw} (hm:bW m) (h:Ow B w0 w (aZ b m::R)) (hK:∀w',Ow B w0 w' (aZ b (m.cp n).2::R)->K (m.cp n).1 w'):C.qK (some ⟨b,0,none⟩) n K w:=by
 unfold Mt.cp at hK;refine pJ hm h (fun e w h=>?_) (fun e e1 w h=>?_) (fun e e1 w h=>?_)
 ·rw[if_pos e] at hK;exact hK w h
 ·rw[if_neg (by rw[e];simp),if_pos e1] at hK;exact hK w h
 ·rw[if_neg (by rw[e];simp),if_neg e1] at hK;exact hK w h
theorem F2 {n:Int} {K:Int->Pw} (hm:bW m) (h:Ow B w0 w (aZ b m::R)) (hK:∀w',Ow B w0 w' (aZ b (m.jW n).2::R)->K (m.jW n).1 w'):C.qag (some ⟨b,0,none⟩) n K w:=by
 unfold Mt.jW at hK;refine tw hm h (fun e w h=>?_) (fun e e1 w h=>?_) (fun e e1 w h=>?_)
 ·rw[if_pos e] at hK;exact hK w h
 ·rw[if_neg (by rw[e];simp),if_pos e1] at hK;exact hK w h
 ·rw[if_neg (by rw[e];simp),if_neg (fun hh=>hh e1)] at hK;exact hK w h
theorem HB {p c:Int} {K:Int->Int->Pw} (hm:bW m) (h:Ow B w0 w (aZ b m::R)) (hK:∀w',Ow B w0 w' (aZ b (m.cU p c).2.2::R)->K (m.cU p c).1 (m.cU p c).2.1 w'):C.qN (some ⟨b,0,none⟩) p c K w:=by
 unfold Mt.cU at hK;refine mJ hm h (fun e w h=>?_) (fun e e1 w h=>?_) (fun e e1 w h=>?_)
 ·rw[if_pos e] at hK;exact hK w h
 ·rw[if_neg (fun hh=>hh e),if_pos e1] at hK;exact hK w h
 ·rw[if_neg (fun hh=>hh e),if_neg om] at hK;exact hK w h
theorem oU {x y:Int} {K:Int->Pw} (h:Ow B w0 w L) (hK:∀w',Ow B w0 w' L->K (if x≠0 then x else y) w'):Al w (.cells #[.z x, .z y] 32) fun w12=>C.qbC ⟨some (Addr.mk w.heap.size 0 none),2,2⟩ K w12:=by
 refine h.al fun w2 h=>?_
 generalize w.heap.size=d at h⊢;exact lU h fun w h=>hK w h.drop
theorem Ha {n i v:Int} {K:Int->Pw} (hm:bW m) (h:Ow B w0 w (aZ b m::R)) (hK:∀w',Ow B w0 w' (aZ b (m.rF n i v).2::R)->K (m.rF n i v).1 w'):C.qA (some ⟨b,0,none⟩) n i v K w:=by
 unfold Mt.rF at hK;by_cases hT:m.cT n=true
 ·rw[if_neg (by rw[hT];simp)] at hK
  by_cases hi:0≤i/\i<8
  ·rw[if_neg (fun hh=>hh hi)] at hK
   obtain ⟨k,rfl⟩:=Int.eq_ofNat_of_zero_le hi.1;exact IG hm hT om h hK
  ·rw[if_pos hi] at hK
   apply S.qA0;obtain ⟨l,q,r,bs,hbs,h⟩:=h.yL;refine dU h (fun e=>by rw[hT] at e;cases e) fun a _ ha=>?_
   intro k7 hk7;refine bL ?_;refine dD (fun e=>?_) (fun e=>?_)
   ·refine bL (oU h fun w h=>?_)
    exact hk7 _ _ (lj (by simp) (hK w (Ow.bu hbs h)))
   ·refine bL ?_
    rw[decide_eq_true (show i≥8 by omega)];refine oU h fun w h=>?_
    exact hk7 _ _ (lj (by simp) (hK w (Ow.bu hbs h)))
 ·have hF:m.cT n=false:=by simpa using hT
  rw[if_pos hF] at hK;apply S.qA0;obtain ⟨l,q,r,bs,hbs,h⟩:=h.yL;refine dU h (fun e=>?_) fun a e ha=>by rw[hF] at e;cases e
  intro k7 hk7;refine bL ?_;refine dD (fun e=>?_) (fun e=>?_)
  ·refine bL (oU h fun w h=>?_)
   exact hk7 _ _ (lj (by simp) (hK w (Ow.bu hbs h)))
  ·refine bL (oU h fun w h=>?_)
   exact hk7 _ _ (lj (by simp) (hK w (Ow.bu hbs h)))
theorem HJ {n p:Int} {K:Int->Pw} (hm:bW m) (h:Ow B w0 w (aZ b m::R)) (hK:∀w',Ow B w0 w' (aZ b (m.iL n p).2::R)->K (m.iL n p).1 w'):C.qaQ (some ⟨b,0,none⟩) n p K w:=by
 unfold Mt.iL at hK;apply S.qaQ0;obtain ⟨l,q,r,bs,hbs,h⟩:=h.yL;refine dU h (fun e=>?_) fun a hT ha=>?_
 ·rw[if_pos e] at hK
  refine bL (jq (bL (oU h fun w h=>?_)));exact lj (by simp) (hK w (Ow.bu hbs h))
 ·rw[if_neg (by rw[hT];simp)] at hK
  obtain ⟨n0,n1,hx⟩:=bX hT;refine bL (jq (bL (oU h fun w h=>?_)));by_cases hp:0≤p/\p<256
  ·rw[if_neg (fun hh=>hh hp)] at hK
   rw[decide_eq_true hp.1,decide_eq_true hp.2];refine fP (by simp) ?_;refine ⟨_,rfl,_,oX (c:=0) h n0 hx ha rfl, ?_⟩;refine y8 (fun e=>?_) (fun e=>?_)
   ·rw[if_neg e] at hK
    refine ⟨_,rfl, ?_⟩;refine yI (c:=1) (t':={ m.th n with pr:=p}) h n0 hx ha rfl (by decide) rfl fun w h=>?_
    exact hK w (Ow.bu (m:=m.aX n { m.th n with pr:=p}) hbs h)
   ·rw[if_pos e] at hK
    have hm1:=hm.leave (s:=1) hT;have hT1:(m.leave n 1).cT n=true:=by rw[fe];exact hT
    have hq1:(m.leave n 1).qs.length=m.qs.length:=cD.2;refine yM hm hT hbs h fun w h=>?_
    obtain ⟨_,_,hx1⟩:=bX hT1;generalize m.leave n 1=mb at*
    refine ⟨_,rfl, ?_⟩;refine yI (c:=1) (t':={ mb.th n with pr:=p}) h n0 hx1 ha rfl (by decide) rfl fun w h=>?_
    have h:Ow B w0 w (aZ b (mb.aX n { mb.th n with pr:=p})::R):=Ow.bu (m:=mb.aX n { mb.th n with pr:=p}) (by show bs.length=mb.qs.length;omega) h;have hm2:bW (mb.aX n { mb.th n with pr:=p}):=hm1.aX (t:={ mb.th n with pr:=p}) (hm1.th hT1).1 rfl;have hT2:(mb.aX n { mb.th n with pr:=p}).cT n=true:=by rw[dF];exact hT1
    exact fD hm2 hT2 h hK
  ·rw[if_pos hp] at hK
   have e:(!(decide (0≤p)&&decide (p<256)))=true:=by
    by_cases e1:0≤p
    ·rw[decide_eq_true e1,decide_eq_false om];rfl
    ·rw[decide_eq_false e1];rfl
   rw[e];exact lj (by simp) (hK w (Ow.bu hbs h))
theorem bH.resume (hi:bH (-1) m) (n:Int):bH (-1) (m.cI n).2:=by
 unfold Mt.cI;split
 ·exact hi
 ·rename_i e
  have hT:m.cT n=true:=by simpa using e
  split
  ·exact hi
  ·rename_i e1
   exact (hi.out (fun h=>e1 (.inl h)) (fun h=>e1 (.inr h))).up hT
theorem bH.suspend (hi:bH (-1) m) (n:Int):bH (-1) (m.cp n).2:=by
 unfold Mt.cp;split
 ·exact hi
 ·rename_i e
  have hT:m.cT n=true:=by simpa using e
  split
  ·exact hi
  ·refine (hi.leave hT).still ?_ ?_<;>(rw[jO hT,if_pos rfl];show (0:Int)≠_;decide)
theorem bH.block (hi:bH (-1) m) (n:Int):bH (-1) (m.jW n).2:=by
 unfold Mt.jW;split
 ·exact hi
 ·rename_i e
  have hT:m.cT n=true:=by simpa using e
  split
  ·exact hi
  ·refine (hi.leave hT).still ?_ ?_<;>(rw[jO hT,if_pos rfl];show (3:Int)≠_;decide)
theorem bH.z6 (hi:bH (-1) m) (n i v:Int):bH (-1) (m.rF n i v).2:=by
 unfold Mt.rF;split
 ·exact hi
 ·rename_i e
  have hT:m.cT n=true:=by simpa using e
  split
  ·exact hi
  ·exact hi.Gi hT rfl rfl (fun _=>rfl) (hi.pr n hT) (hi.le n hT)
theorem bH.prio (hi:bH (-1) m) (n p:Int):bH (-1) (m.iL n p).2:=by
 unfold Mt.iL;split
 ·exact hi
 ·rename_i e
  have hT:m.cT n=true:=by simpa using e
  split
  ·exact hi
  ·rename_i hp
   have hp:0≤p/\p<256:=Decidable.not_not.1 hp;split
   ·have h1:=hi.leave (s:=1) hT
    have hT1:(m.leave n 1).cT n=true:=by rw[fe];exact hT
    exact (h1.set (t:={(m.leave n 1).th n with pr:=p}) hT1 (h1.ok.th hT1).1 hp (h1.le n hT1)).up (by rw[dF];exact hT1)
   ·rename_i e1
    exact hi.Gi (t:={ m.th n with pr:=p}) hT rfl rfl (fun h=>absurd h e1) hp (hi.le n hT)
theorem bH.cU (hi:bH (-1) m) (p c:Int):bH (-1) (m.cU p c).2.2:=by
 unfold Mt.cU;split
 ·exact hi
 ·rename_i e
  have e:=Decidable.not_not.1 e;split
  ·exact hi
  ·exact hi.make om e.2.2 ⟨e.1,e.2.1⟩
theorem bH.HF (hi:bH (-1) m) {c n:Int} (hc:m.fR c=true) (h:jF (m.q c)=some n):m.cT n=true/\(m.th n).co=c/\(m.th n).st=1:=by
 obtain ⟨⟨p,k⟩,hx,e⟩:=yg h;have e:k=n:=e;subst e;have:=(hi.AO c hc p k).1 hx;exact ⟨this.1,this.2.2.1,this.2.2.2.1⟩
theorem bH.runIn (hi:bH (-1) m) {c n:Int} (h:m.cV c=some n):m.fR c=true/\m.cT n=true/\(m.th n).co=c/\(m.th n).st=2:=by
 obtain ⟨hc,h1,h2,hT⟩:=hi.ok.runT h;have:=(hi.inr c hc n hT).1 h1;exact ⟨hc,hT,this.2⟩
theorem sO {n s:Int} (h:(m.th n).st≠2) (c:Int):(m.leave n s).run c=m.run c:=by
 unfold Mt.leave Mt.bP;rw[mr];split
 ·rfl
 ·rfl
theorem ui (hi:bH (-1) m) {n s:Int} (hn:m.cT n=true) (h:(m.th n).st=2):(m.leave n s).run (m.th n).co= -1:=by
 obtain ⟨c0,c1⟩:=(hi.ok.th hn).1;have hcr:=hi.ok.aO;unfold Mt.leave Mt.bP;rw[mr,if_neg om,if_pos h,tj c0 om,if_pos rfl]
theorem bH.bK (hi:bH (-1) m) (c:Int):bH (-1) (m.bK c):=by
 unfold Mt.bK;split
 ·rename_i hc
  unfold Mt.pick;cases hn:jF (m.q c) with
  |none=>exact hi
  |some n=>
   obtain ⟨hT,hco,hst⟩:=hi.HF hc hn;simp only
   have last:∀m1:Mt,bH (-1) m1->m1.cT n=true->m1.fR c=true->(m1.th n).co=c->(m1.th n).st=1->m1.run c= -1->bH (-1) ((m1.leave n 2).fX c n):=fun m1 hi hT hc hco hst hr=>by
    refine (hi.leave hT).go (by rw[fe];exact hT) (by rw[jO hT,if_pos rfl]) (by rw[jO hT,if_pos rfl];exact hco) (by rw[gq];exact hc) ?_;rw[sO om];exact hr
   split
   ·rename_i hr
    exact last m hi hT hc hco hst hr
   ·rename_i hr
    split
    ·exact hi
    ·have hr2:m.cV c=some (m.run c):=by unfold Mt.cV;rw[if_pos ⟨hc,hr⟩]
     obtain ⟨_,hoT,hoc,hos⟩:=hi.runIn hr2;have hoT1:(m.leave (m.run c) 1).cT (m.run c)=true:=by rw[fe];exact hoT
     have hne:n≠m.run c:=fun e=>by rw[←e] at hos;omega
     refine last _ ((hi.leave hoT).up hoT1) (by rw[gu,fe];exact hT) (by rw[gr,gq];exact hc) ?_ ?_ ?_
     ·rw[il hoT1,if_neg hne,jO hoT,if_neg hne];exact hco
     ·rw[il hoT1,if_neg hne,jO hoT,if_neg hne];exact hst
     ·show (m.leave (m.run c) 1).run c= -1
      have:=ui (s:=1) hi hoT hos;rw[hoc] at this;exact this
 ·exact hi
theorem bH.yield (hi:bH (-1) m) (c:Int):bH (-1) (m.yield c):=by
 unfold Mt.yield;cases hr:m.cV c with
 |none=>exact hi
 |some o=>
  obtain ⟨_,hT,_,_⟩:=hi.runIn hr;have hT1:(m.aX o { m.th o with le:=5}).cT o=true:=by rw[dF];exact hT
  have h1:=hi.Gi (t:={ m.th o with le:=5}) hT rfl rfl (fun _=>rfl) (hi.pr o hT) ⟨by show (1:Int)≤5;decide,by show (5:Int)≤5;decide⟩;exact ((h1.leave hT1).up (by rw[fe];exact hT1)).bK c
theorem HO {n:Int} {t t':uw}:(m.aX n t).aX n t'=m.aX n t':=by unfold Mt.aX;simp
theorem GM (hi:bH (-1) m) {c:Int}:m.tick c=match m.cV c with
  |none=>m
  |some o=>if (m.th o).le=1 then m.yield c else m.aX o { m.th o with le:=(m.th o).le-1}:=by
 unfold Mt.tick;cases hr:m.cV c with
 |none=>rfl
 |some o=>
  obtain ⟨_,hT,_,_⟩:=hi.runIn hr;have hl:=hi.le o hT;simp only;rw[wr om om];by_cases e:(m.th o).le=1
  ·rw[if_pos om,if_pos e]
   unfold Mt.yield;have hr2:(m.aX o { m.th o with le:=(m.th o).le-1}).cV c=some o:=hr;rw[hr,hr2];simp only;rw[HO,eY hT,if_pos rfl]
  ·rw[if_neg om,if_neg e]
theorem bH.tick (hi:bH (-1) m) (c:Int):bH (-1) (m.tick c):=by
 rw[GM hi];cases hr:m.cV c with
 |none=>exact hi
 |some o=>
  obtain ⟨_,hT,_,_⟩:=hi.runIn hr;have hl:=hi.le o hT;simp only;split
  ·exact hi.yield c
  ·exact hi.Gi (t:={ m.th o with le:=(m.th o).le-1}) hT rfl rfl (fun _=>rfl) (hi.pr o hT) ⟨by show 1≤(m.th o).le-1;omega,by show (m.th o).le-1≤5;omega⟩
end
end Go.Proofs.YtlhljbbfckbjpaaGreat.Th
end
section
set_option maxRecDepth 8000
namespace Go.Proofs.YtlhljbbfckbjpaaGreat.Tb
open Go Go.Vc Go.Proofs
abbrev Pg:=Int × Int
abbrev fq:=List (Int × Pg)
def jU (P:fq):Prop:=P.Pairwise fun x y=>x.1<y.1
def look:fq->Int->Option Pg
 | [],_=>none
 |x::P,k=>if x.1=k then some x.2 else look P k
def jB:fq->Int->Pg->fq
 | [],k,v=>[(k,v)]
 |x::P,k,v=>if k<x.1 then (k,v)::x::P else if x.1=k then (k,v)::P else x::jB P k v
def ll (P:fq) (k:Int):fq:=P.filter fun x=>x.1 !=k
theorem iF {P:fq} {k:Int} {v:Pg} (h:look P k=some v):(k,v)∈P:=by
 induction P with
 |nil=>simp[look] at h
 |cons x P ih=>
  simp only[look] at h;split at h
  ·rename_i e;cases h;rw[←e];exact List.mem_cons_self
  ·exact List.mem_cons_of_mem _ (ih h)
theorem di {P:fq} {k:Int}:look P k=none↔∀x∈P,x.1≠k:=by
 induction P with
 |nil=>simp[look]
 |cons x P ih=>
  simp only[look,List.mem_cons,forall_eq_or_imp];split
  ·rename_i e;simp[e]
  ·rename_i e;rw[ih];simp[e]
theorem jU.inj {P:fq} (h:jU P) {x y:Int × Pg} (hx:x∈P) (hy:y∈P) (e:x.1=y.1):x=y:=by
 induction P with
 |nil=>simp at hx
 |cons a P ih=>
  have h:=List.pairwise_cons.1 h;rcases List.mem_cons.1 hx with hx|hx
  ·rcases List.mem_cons.1 hy with hy|hy
   ·rw[hx,hy]
   ·have:=h.1 y hy;rw[hx] at e;omega
  ·rcases List.mem_cons.1 hy with hy|hy
   ·have:=h.1 x hx;rw[hy] at e;omega
   ·exact ih h.2 hx hy
theorem jU.look {P:fq} (h:jU P) {k:Int} {v:Pg} (hm:(k,v)∈P):look P k=some v:=by
 cases e:Go.Proofs.YtlhljbbfckbjpaaGreat.Tb.look P k with
 |none=>exact absurd rfl (di.1 e _ hm)
 |some u=>have:=h.inj (iF e) hm rfl;cases this;rfl
theorem jU.yb {P:fq} (h:jU P) {k:Int} {v:Pg}:Go.Proofs.YtlhljbbfckbjpaaGreat.Tb.look P k=some v↔(k,v)∈P:=⟨iF,h.look⟩
theorem jU.sub {P Q:fq} (h:jU P) (hs:Q.Sublist P):jU Q:=List.Pairwise.sublist hs h
theorem jU.filter {P:fq} (h:jU P) (f:Int × Pg->Bool):jU (P.filter f):=h.sub List.filter_sublist
theorem jU.nodup {P:fq} (h:jU P):(P.map (·.1)).Nodup:=by
 unfold List.Nodup;rw[List.pairwise_map];exact h.imp fun hab e=>by omega
theorem iX {P:fq} (h:jU P) {k:Int} {v:Pg} (x:Int × Pg):x∈jB P k v↔x=(k,v)∨(x∈P/\x.1≠k):=by
 induction P with
 |nil=>simp[jB]
 |cons a P ih=>
  have h:=List.pairwise_cons.1 h;simp only[jB];split
  ·rename_i e
   rw[List.mem_cons];constructor
   ·rintro (h1|h1)
    ·exact .inl h1
    ·refine .inr ⟨h1, ?_⟩
     rcases List.mem_cons.1 h1 with h2|h2
     ·rw[h2];omega
     ·have:=h.1 x h2;omega
   ·rintro (h1|h1)
    ·exact .inl h1
    ·exact .inr h1.1
  ·rename_i e
   split
   ·rename_i e2
    rw[List.mem_cons,List.mem_cons];constructor
    ·rintro (h1|h1)
     ·exact .inl h1
     ·have:=h.1 x h1;exact .inr ⟨.inr h1,om⟩
    ·rintro (h1|⟨h1|h1,h2⟩)
     ·exact .inl h1
     ·rw[h1] at h2;exact absurd e2 h2
     ·exact .inr h1
   ·rename_i e2
    rw[List.mem_cons,List.mem_cons,ih h.2];constructor
    ·rintro (h1|h1|h1)
     ·rw[h1];exact .inr ⟨.inl rfl,e2⟩
     ·exact .inl h1
     ·exact .inr ⟨.inr h1.1,h1.2⟩
    ·rintro (h1|⟨h1|h1,h2⟩)
     ·exact .inr (.inl h1)
     ·exact .inl h1
     ·exact .inr (.inr ⟨h1,h2⟩)
theorem nY {P:fq} (h:jU P) (k:Int) (v:Pg):jU (jB P k v):=by
 induction P with
 |nil=>simp[jB,jU]
 |cons a P ih=>
  have h':=List.pairwise_cons.1 h;simp only[jB];split
  ·rename_i e
   refine List.pairwise_cons.2 ⟨fun x hx=>?_,h⟩;show k<x.1;rcases List.mem_cons.1 hx with h2|h2
   ·rw[h2];exact e
   ·have:=h'.1 x h2;omega
  ·split
   ·rename_i e2
    refine List.pairwise_cons.2 ⟨fun x hx=>?_,h'.2⟩;show k<x.1;rw[←e2];exact h'.1 x hx
   ·rename_i e e2
    refine List.pairwise_cons.2 ⟨fun x hx=>?_,ih h'.2⟩;rcases (iX (k:=k) (v:=v) h'.2 x).1 hx with h1|h1
    ·rw[h1];show a.1<k;omega
    ·exact h'.1 x h1.1
theorem rN {P:fq} {k:Int} (x:Int × Pg):x∈ll P k↔x∈P/\x.1≠k:=by unfold ll;rw[List.mem_filter];simp
theorem wK {P Q:fq} (hP:jU P) (hQ:jU Q) (h:∀x,x∈P↔x∈Q):P=Q:=by
 refine List.Perm.eq_of_pairwise (le:=fun x y=>x.1≤y.1/\(x.1=y.1->x=y)) ?_ ?_ ?_ ?_
 ·intro a b _ _ h1 h2
  exact h1.2 om
 ·exact hP.imp fun h=>⟨om,fun e=>by omega⟩
 ·exact hQ.imp fun h=>⟨om,fun e=>by omega⟩
 ·refine (List.perm_ext_iff_of_nodup ?_ ?_).2 h
  ·exact hP.imp fun h e=>by rw[e] at h;omega
  ·exact hQ.imp fun h e=>by rw[e] at h;omega
theorem Et {P:fq} (h:jU P) (k:Int) (v:Pg) (x:Int):look (jB P k v) x=if x=k then some v else look P x:=by
 have hs:=nY h k v;by_cases e:x=k
 ·subst e;rw[if_pos rfl];exact hs.look ((iX h _).2 (.inl rfl))
 ·rw[if_neg e]
  cases e2:look P x with
  |none=>
   refine di.2 fun y hy=>?_
   rcases (iX h y).1 hy with h1|h1
   ·rw[h1];exact fun e3=>e e3.symm
   ·exact di.1 e2 y h1.1
  |some u=>exact hs.look ((iX h _).2 (.inr ⟨iF e2,e⟩))
theorem Es {P:fq} (h:jU P) (k x:Int):look (ll P k) x=if x=k then none else look P x:=by
 have hs:jU (ll P k):=h.filter _;by_cases e:x=k
 ·subst e;rw[if_pos rfl];exact di.2 fun y hy=>((rN y).1 hy).2
 ·rw[if_neg e]
  cases e2:look P x with
  |none=>exact di.2 fun y hy=>di.1 e2 y ((rN y).1 hy).1
  |some u=>exact hs.look ((rN _).2 ⟨iF e2,e⟩)
theorem ya {P:fq} (h:jU P) (f:Int × Pg->Bool) (x:Int):look (P.filter f) x=(look P x).filter fun v=>f (x,v):=by
 have hs:=h.filter f;cases e2:look P x with
 |none=>exact di.2 fun y hy=>di.1 e2 y (List.mem_filter.1 hy).1
 |some u=>
  rw[Option.filter_some];by_cases e:f (x,u)=true
  ·rw[if_pos e];exact hs.look (List.mem_filter.2 ⟨iF e2,e⟩)
  ·rw[if_neg e]
   refine di.2 fun y hy e3=>?_
   obtain ⟨h1,h2⟩:=List.mem_filter.1 hy;have:y=(x,u):=h.inj h1 (iF e2) e3;rw[this] at h2;exact e h2
structure dv where
 tb:Nat->Option Int
 pg:fq
structure fO (m:dv):Prop where
 rj:jU m.pg
 kA:∀x∈m.pg,0≤x.1/\x.1<4096/\(m.tb (x.1.toNat / 64)).isSome=true
 gT:∀i,(m.tb i).isSome=true->i<64
def cJ (P:fq) (i:Nat):fq:=P.filter fun x=>x.1.toNat / 64==i
def dv.at (m:dv) (i:Int):Option Int:=if i<0 then none else m.tb i.toNat
def rq (tb:Nat->Option Int) (i:Nat) (v:Option Int):Nat->Option Int:=fun j=>if j=i then v else tb j
def dv.jn (m:dv) (i n:Int):Int × dv:=if ¬(0≤i/\i<64/\0≤n) then (1,m) else
 if (m.tb i.toNat).isSome=true∨(List.range 64).any (fun j=>m.tb j==some n)=true then (140,m) else (0,{ m with tb:=rq m.tb i.toNat (some n)})
def dv.cf (m:dv) (i:Int):fq × Int × dv:=if ¬(0≤i/\i<64) then ([],1,m) else if m.tb i.toNat=none then ([],141,m) else
 (cJ m.pg i.toNat,0,⟨rq m.tb i.toNat none,m.pg.filter fun x=>x.1.toNat / 64 !=i.toNat⟩)
def dv.pf (m:dv) (k:Int) (p:Pg):Int × dv:=if ¬(0≤k/\k<4096/\0≤p.1/\0≤p.2/\p.2≤7) then (1,m) else if m.tb (k.toNat / 64)=none then (141,m) else
 if (look m.pg k).isSome=true then (140,m) else (0,{ m with pg:=jB m.pg k p})
def dv.cH (m:dv) (k:Int):Pg × Int × dv:=if ¬(0≤k/\k<4096) then ((0,0),1,m) else match look m.pg k with
 |none=>((0,0),141,m)
 |some p=>(p,0,{ m with pg:=ll m.pg k})
def kM:dv:=⟨fun _=>none,[]⟩
section
variable {m:dv}
theorem fO.new:fO kM:=⟨List.Pairwise.nil,fun x h=>by simp[kM] at h,fun i h=>by simp[kM] at h⟩
theorem fO.out (h:fO m) {k:Int} (hk:¬(0≤k/\k<4096)):look m.pg k=none:=di.2 fun x hx e=>by
 have:=h.kA x hx;rw[e] at this;exact hk ⟨this.1,this.2.1⟩
theorem fO.JG (h:fO m) {k:Int} {p:Pg} (hl:look m.pg k=some p):0≤k/\k<4096/\(m.tb (k.toNat / 64)).isSome=true:=h.kA _ (iF hl)
theorem fO.table (h:fO m) (i n:Int):fO (m.jn i n).2:=by
 unfold dv.jn;split
 ·exact h
 ·rename_i h1
  have h1:=Decidable.not_not.1 h1;split
  ·exact h
  ·refine ⟨h.rj,fun x hx=>?_,fun j hj=>?_⟩
   ·have:=h.kA x hx
    refine ⟨this.1,this.2.1, ?_⟩;show (rq m.tb i.toNat (some n) (x.1.toNat / 64)).isSome=true;unfold rq;split
    ·rfl
    ·exact this.2.2
   ·have hj:(rq m.tb i.toNat (some n) j).isSome=true:=hj
    unfold rq at hj;split at hj
    ·omega
    ·exact h.gT j hj
theorem fO.drop (h:fO m) (i:Int):fO (m.cf i).2.2:=by
 unfold dv.cf;split
 ·exact h
 ·split
  ·exact h
  ·refine ⟨h.rj.filter _,fun x hx=>?_,fun j hj=>?_⟩
   ·obtain ⟨h1,h2⟩:=List.mem_filter.1 hx
    have:=h.kA x h1;refine ⟨this.1,this.2.1, ?_⟩;show (rq m.tb i.toNat none (x.1.toNat / 64)).isSome=true;unfold rq;rw[if_neg (by simpa using h2)];exact this.2.2
   ·have hj:(rq m.tb i.toNat none j).isSome=true:=hj
    unfold rq at hj;split at hj
    ·cases hj
    ·exact h.gT j hj
theorem fO.ins (h:fO m) {k:Int} (hk:0≤k/\k<4096) (ht:(m.tb (k.toNat / 64)).isSome=true) (p:Pg):fO { m with pg:=jB m.pg k p}:=by
 refine ⟨nY h.rj k p,fun x hx=>?_,h.gT⟩;rcases (iX h.rj x).1 hx with h1|h1
 ·rw[h1];exact ⟨hk.1,hk.2,ht⟩
 ·exact h.kA x h1.1
theorem fO.map (h:fO m) (k:Int) (p:Pg):fO (m.pf k p).2:=by
 unfold dv.pf;split
 ·exact h
 ·rename_i h1
  have h1:=Decidable.not_not.1 h1;split
  ·exact h
  ·rename_i h2
   split
   ·exact h
   ·exact h.ins ⟨h1.1,h1.2.1⟩ (Option.isSome_iff_ne_none.2 h2) p
theorem fO.mL (h:fO m) (k:Int):fO (m.cH k).2.2:=by
 unfold dv.cH;split
 ·exact h
 ·cases e:look m.pg k with
  |none=>exact h
  |some p=>exact ⟨h.rj.filter _,fun x hx=>h.kA x (List.mem_filter.1 hx).1,h.gT⟩
theorem GJ {P:fq} (h:jU P) (k:Int) (p:Pg) (i:Nat):cJ (jB P k p) i=if k.toNat / 64=i then jB (cJ P i) k p else cJ P i:=by
 have hs:jU (cJ (jB P k p) i):=(nY h k p).filter _;have ht:jU (cJ P i):=h.filter _;split
 ·rename_i e
  refine wK hs (nY ht k p) fun x=>?_
  rw[iX ht];unfold cJ;rw[List.mem_filter,List.mem_filter,iX h];simp only[beq_iff_eq];constructor
  ·rintro ⟨h1|h1,h2⟩
   ·exact .inl h1
   ·exact .inr ⟨⟨h1.1,h2⟩,h1.2⟩
  ·rintro (h1|⟨⟨h1,h2⟩,h3⟩)
   ·exact ⟨.inl h1,by rw[h1];exact e⟩
   ·exact ⟨.inr ⟨h1,h3⟩,h2⟩
 ·rename_i e
  refine wK hs ht fun x=>?_
  unfold cJ;rw[List.mem_filter,List.mem_filter,iX h];simp only[beq_iff_eq];constructor
  ·rintro ⟨h1|h1,h2⟩
   ·rw[h1] at h2;exact absurd h2 e
   ·exact ⟨h1.1,h2⟩
  ·rintro ⟨h1,h2⟩
   exact ⟨.inr ⟨h1,fun e2=>by rw[e2] at h2;exact e h2⟩,h2⟩
theorem Bi {P:fq} (k:Int) (i:Nat):cJ (ll P k) i=ll (cJ P i) k:=by
 unfold cJ ll;rw[List.filter_filter,List.filter_filter];congr 1;funext x;exact Bool.and_comm _ _
theorem Ak {P:fq} {k:Int} {i:Nat} (e:k.toNat / 64≠i):cJ (ll P k) i=cJ P i:=by
 rw[Bi];unfold ll;rw[List.filter_eq_self];intro x hx;obtain ⟨_,h2⟩:=List.mem_filter.1 hx;simp only[beq_iff_eq] at h2;simp only[bne_iff_ne,ne_eq];intro e2;rw[e2] at h2;exact e h2
theorem Fh {P:fq} {i j:Nat} (e:j≠i):cJ (P.filter fun x=>x.1.toNat / 64 !=i) j=cJ P j:=by
 unfold cJ;rw[List.filter_filter];refine List.filter_congr fun x _=>?_
 by_cases h:x.1.toNat / 64=j
 ·simp[h,e]
 ·simp[h]
theorem Fi (h:fO m):(List.range 64).flatMap (cJ m.pg)=m.pg:=by
 have key:∀n,(List.range n).flatMap (cJ m.pg)=m.pg.filter fun x=>decide (x.1.toNat / 64<n):=fun n=>by
  induction n with
  |zero=>simp
  |succ n ih=>
   rw[List.range_succ,List.flatMap_append,ih];simp only[List.flatMap_cons,List.flatMap_nil,List.append_nil];refine wK ?_ (h.rj.filter _) fun x=>?_
   ·refine List.pairwise_append.2 ⟨h.rj.filter _,h.rj.filter _,fun x hx y hy=>?_⟩
    obtain ⟨hx1,hx2⟩:=List.mem_filter.1 hx;obtain ⟨hy1,hy2⟩:=List.mem_filter.1 hy;simp only[decide_eq_true_eq] at hx2;simp only[beq_iff_eq] at hy2;have:=h.kA x hx1;have:=h.kA y hy1;omega
   ·unfold cJ
    rw[List.mem_append,List.mem_filter,List.mem_filter,List.mem_filter];simp only[decide_eq_true_eq,beq_iff_eq];constructor
    ·rintro (h1|h1)
     ·exact ⟨h1.1,om⟩
     ·exact ⟨h1.1,om⟩
    ·rintro ⟨h1,h2⟩
     by_cases e:x.1.toNat / 64=n
     ·exact .inr ⟨h1,e⟩
     ·exact .inl ⟨h1,om⟩
 rw[key 64,List.filter_eq_self];intro x hx;have:=h.kA x hx;simp only[decide_eq_true_eq];omega
end
theorem mh {M S:fq} (hp:M.Perm S) (hS:jU S) (k:Int):cF M k=look S k:=by
 have hn:(M.map (·.1)).Nodup:=(hp.map _).nodup_iff.2 hS.nodup;cases e:cF M k with
 |some v=>exact (hS.look (hp.mem_iff.1 (od e))).symm
 |none=>
  refine (di.2 fun x hx e2=>?_).symm;exact ff.1 e (List.mem_map.2 ⟨x,hp.mem_iff.2 hx,e2⟩)
theorem oc {M:fq} (hn:(M.map (·.1)).Nodup) {k:Int} {v:Pg}:(k,v)∈M↔cF M k=some v:=by
 refine ⟨fun h=>?_,od⟩;cases e:cF M k with
 |none=>exact absurd (List.mem_map.2 ⟨_,h,rfl⟩) (ff.1 e)
 |some u=>
  have h2:=od e
  have:∀(M:fq),(M.map (·.1)).Nodup->(k,v)∈M->(k,u)∈M->v=u:=fun M=>by
   induction M with
   |nil=>intro _ h;simp at h
   |cons a M ih=>
    intro hn h1 h2;rw[List.map_cons,List.nodup_cons] at hn;rcases List.mem_cons.1 h1 with h1|h1
    ·rcases List.mem_cons.1 h2 with h2|h2
     ·have:=h1.trans h2.symm;cases this;rfl
     ·exact absurd (List.mem_map.2 ⟨_,h2,by rw[←h1]⟩) hn.1
    ·rcases List.mem_cons.1 h2 with h2|h2
     ·exact absurd (List.mem_map.2 ⟨_,h1,by rw[←h2]⟩) hn.1
     ·exact ih hn.2 h1 h2
  rw[this M hn h h2]
theorem gC {M:fq} (h:(M.map (·.1)).Nodup):M.Nodup:=List.Pairwise.of_map _ (fun a b h e=>h (by rw[e])) h
theorem BX {M S:fq} (hp:M.Perm S) (hS:jU S) (k:Int) (v:Pg):(iQ M k v).Perm (jB S k v):=by
 have hn:(M.map (·.1)).Nodup:=(hp.map _).nodup_iff.2 hS.nodup;have hn2:=nj hn k v;have hS2:=nY hS k v;refine (List.perm_ext_iff_of_nodup (gC hn2) (gC hS2.nodup)).2 fun x=>?_
 obtain ⟨a,b⟩:=x;rw[oc hn2,pk,←hS2.yb,Et hS,mh hp hS];by_cases e:k=a
 ·rw[if_pos e,if_pos e.symm]
 ·rw[if_neg e,if_neg fun h=>e h.symm]
theorem BM {M S:fq} (hp:M.Perm S) (hS:jU S) (k:Int):(kL M k).Perm (ll S k):=by
 have hn:(M.map (·.1)).Nodup:=(hp.map _).nodup_iff.2 hS.nodup;have hn2:=ni hn k;have hS2:jU (ll S k):=hS.filter _;refine (List.perm_ext_iff_of_nodup (gC hn2) (gC hS2.nodup)).2 fun x=>?_
 obtain ⟨a,b⟩:=x;rw[oc hn2,pj hn,←hS2.yb,Es hS,mh hp hS];by_cases e:k=a
 ·rw[if_pos e,if_pos e.symm]
 ·rw[if_neg e,if_neg fun h=>e h.symm]
end Go.Proofs.YtlhljbbfckbjpaaGreat.Tb
end
