/- What the row rests on: the declarations that it needs, out of my texts (part 4). -/
import Derived.Test.YtogmbmdbgkopjaaGreatZs3
set_option linter.unusedVariables false
set_option linter.unusedSimpArgs false
set_option linter.unusedSectionVars false
section
set_option maxRecDepth 8000
namespace Go.Proofs.YtogmbmdbgkopjaaGreat.Th
open Go Go.Vc Go.Proofs
def topB (f:Nat->Bool):Nat->Option Nat
 |0=>none
 |n+1=>if f n then some n else topB f n
theorem topB_skip (f:Nat->Bool) (a:Nat):∀(d:Nat),(∀q,a≤q->q<a+d->f q=false)->topB f (a+d)=topB f a
 |0,_=>rfl
 |d+1,h=>by
  show topB f ((a+d)+1)=_;simp only[topB,h (a+d) (by omega) (by omega),Bool.false_eq_true,if_false];exact topB_skip f a d fun q h1 h2=>h q h1 (by omega)
theorem topB_at {f:Nat->Bool} {p n:Nat} (hp:p<n) (hf:f p=true) (h:∀q,p<q->q<n->f q=false):topB f n=some p:=by
 have:=topB_skip f (p+1) (n-(p+1)) fun q h1 h2=>h q (by omega) (by omega)
 rw[show p+1+(n-(p+1))=n from by omega] at this;rw[this];simp[topB,hf]
theorem topB_out {f:Nat->Bool}:∀{n p:Nat},topB f n=some p->p<n/\f p=true/\∀q,p<q->q<n->f q=false
 |n+1,p,h=>by
  simp only[topB] at h;split at h
  ·rename_i hf;cases h;exact ⟨by omega,hf,fun q h1 h2=>by omega⟩
  ·rename_i hf
   obtain ⟨h1,h2,h3⟩:=topB_out h;refine ⟨by omega,h2,fun q h4 h5=>?_⟩;by_cases e:q=n
   ·subst e;simpa using hf
   ·exact h3 q h4 (by omega)
def topI (f:Nat->Bool):Int:=match topB f 256 with|some p=>(p:Int)|none=> -1
theorem log2_top {x:Nat} (hx:x≠0):x.testBit x.log2=true/\∀j,x.log2<j->x.testBit j=false:=by
 have h:=(Nat.log2_eq_iff hx).1 rfl;refine ⟨?_,fun j hj=>Nat.testBit_lt_two_pow (Nat.lt_of_lt_of_le h.2 (Nat.pow_le_pow_right (by omega) hj))⟩;rw[Nat.testBit_eq_decide_div_mod_eq]
 have:x / 2^x.log2=1:=by
  apply Nat.div_eq_of_lt_le
  ·simpa using h.1
  ·have:=h.2;rw[Nat.pow_succ] at this;omega
 rw[this];rfl
theorem words_Top_spec {B:Nat} {w0 w:World} {R:List Asn} {b1 b2 b3 b4:Int} {f:Nat->Bool} {K:Int->World->Prop} (h:Own B w0 w R) (hb:BitsOk f [b1,b2,b3,b4])
  (hK:∀w',Own B w0 w' R->K (topI f) w'):C.qcI b1 b2 b3 b4 K w:=by
 apply S.qcI0;unfold S.qcI;refine h.al fun w1 h=>?_
 intro l hl
 have key:∀(m t:Nat),t+m=4->topB f 256=topB f (64*m)->l (t:Int) w1:=by
  intro m
  induction m with
  |zero=>
   intro t ht hf;apply hl;rw[show decide ((t:Int)<4)=false from by simp;omega,cond_false];have:topI f= -1:=by unfold topI;rw[hf];rfl
   rw[←this];exact hK _ h.drop
  |succ m ih=>
   intro t ht hf;apply hl;rw[show decide ((t:Int)<4)=true from by simp;omega,cond_true];have hi:IntKind.i64.wrap (3-(t:Int))=(m:Int):=by rw[wr (by omega) (by omega)];omega
   rw[hi];obtain ⟨x,h1,h2,h3⟩:=hb.2 m (by omega)
   have hcell: [Value.int .u64 b1, .int .u64 b2, .int .u64 b3, .int .u64 b4][0+((m:Int).toNat*1)]?=some (.int .u64 (x:Int)):=by
    rw[Int.toNat_natCast,Nat.mul_one,Nat.zero_add];have:=congrArg (Option.map (Value.int .u64)) h1;rw[←List.getElem?_map] at this;exact this
   refine ⟨by omega,by omega,_,h.ld 0 rfl hcell, ?_⟩;by_cases hx:x=0
   ·subst hx
    rw[show (((0:Nat):Int) !=0)=false from rfl,cond_false,wr (by omega) (by omega)]
    have h4:=ih (t+1) (by omega) (by
     rw[hf,show 64*(m+1)=64*m+64 from by omega];refine topB_skip f (64*m) 64 fun q h5 h6=>?_
     have:=h3 (q-64*m) (by omega);rw[show 64*m+(q-64*m)=q from by omega] at this;rw[←this];simp)
    exact h4
   ·rw[show ((x:Int) !=0)=true from by simp[hx],cond_true]
    refine ⟨by omega,by omega,_,h.ld 0 rfl hcell, ?_⟩;apply math_bits_Len64_spec h2;obtain ⟨h4,h5⟩:=log2_top hx;have hlt:x.log2<64:=(Nat.log2_lt hx).2 h2
    have htop:topB f 256=some (64*m+x.log2):=by
     rw[hf];refine topB_at (by omega) (by rw[←h3 _ hlt];exact h4) fun q h6 h7=>?_
     have:=h3 (q-64*m) (by omega);rw[show 64*m+(q-64*m)=q from by omega] at this;rw[←this];exact h5 _ (by omega)
    have hl64:len64 x=x.log2+1:=by unfold len64;rw[if_neg hx]
    rw[hl64,wr (x:=(m:Int)*64) (by omega) (by omega),wr (x:=(m:Int)*64+((x.log2+1:Nat):Int)) (by omega) (by omega),wr (by omega) (by omega)];have:(m:Int)*64+((x.log2+1:Nat):Int)-1=topI f:=by unfold topI;rw[htop];simp;omega
    rw[this];exact hK _ h.drop
 exact key 4 0 rfl rfl
theorem app1_ints {B:Nat} {w0 w:World} {L:List Asn} {s:Sl} {xs:List Int} {y:Int} {c:Nat} {k:Sl->World->Prop} (h:Own B w0 w (BlkA c [.int .i64 y]::L)) (i:Nat) (hL:L[i]?=some (SlT intE s xs))
  (hbig:xs.length≤1000000000000) (hk:∀s' w',s'.len=xs.length+1->Own B w0 w' (L.set i (SlT intE s' (xs++ [y])))->k s' w'):
  ∃s' w',AppR Tryz.prog [26,26] 26 (.slice s.a s.len s.cap) (.slice (some (Addr.mk c 0 none)) 1 1) w s' w'/\k s' w':=
 Own.app1 (E:=intE) (y:=y) Tryz.underlying26 (show Tryz.prog.info? 3=some Tryz.t3 from by kernel_rfl) (zv:= .int .i64 0) (by kernel_rfl) (by kernel_rfl) rfl (by decide) h i hL (by
  have e:Tryz.t3.bytes=8:=by kernel_rfl
  rw[e];omega) hk
def Tells (B:Nat) (w0:World) (L:List Asn) (fv:Value) (p:Int->Bool):Prop:=
 ∀(x:Int) (w:World) (Q:Bool->World->Prop),Own B w0 w L->(∀w',Own B w0 w' L->Q (p x) w')->CallV Tryz.prog fv [.int .i64 x] w fun en w'=>∃r:Bool,en= .returned (.bool r)/\Q r w'
theorem slices_IndexFunc_int_int_spec {B:Nat} {w0 w:World} {L:List Asn} {s:Sl} {xs:List Int} {fv:Value} {p:Int->Bool} {K:Int->World->Prop} (h:Own B w0 w L) (i:Nat) (hi:L[i]?=some (SlT intE s xs))
  (hbig:xs.length≤1000000000000) (hf:Tells B w0 L fv p)
  (hK:∀w',Own B w0 w' L->K (match xs.findIdx? p with|some j=>(j:Int)|none=> -1) w'):C.qp s fv K w:=by
 apply S.qp0;unfold S.qp;intro l hl;have hlen:=h.len i hi
 have key:∀(m j:Nat) (w:World),j+m=xs.length->(∀q,q<j->∀x,xs[q]?=some x->p x=false)->Own B w0 w L->l (j:Int) w:=by
  intro m
  induction m with
  |zero=>
   intro j w hj hno h;apply hl;rw[hlen,show decide ((j:Int)<(xs.length:Int))=false from by simp;omega,cond_false]
   have:xs.findIdx? p=none:=by
    rw[List.findIdx?_eq_none_iff];intro x hx;obtain ⟨q,hq⟩:=List.mem_iff_getElem?.1 hx;exact hno q (by have:=(List.getElem?_eq_some_iff.1 hq).1;omega) x hq
   have:=hK w h
   rwa [‹xs.findIdx? p=none›] at this
  |succ m ih=>
   intro j w hj hno h;apply hl;rw[hlen,show decide ((j:Int)<(xs.length:Int))=true from by simp;omega,cond_true];have hlt:j<xs.length:=by omega
   obtain ⟨a,ha,hc⟩:=h.getI i hi (gE hlt);refine ⟨a,ha,by omega,by omega,_,by rw[Int.toNat_natCast];exact hc, ?_⟩;refine hf _ _ _ h fun w' h=>?_
   cases hp:p xs[j] with
   |true=>
    rw[cond_true]
    have:xs.findIdx? p=some j:=by
     rw[List.findIdx?_eq_some_iff_getElem];refine ⟨hlt,hp,fun q hq=>?_⟩;simp[hno q hq _ (gE (by omega))]
    have h2:=hK w' h
    rwa [this] at h2
   |false=>
    rw[cond_false,wr (by omega) (by omega)];refine ih (j+1) w' (by omega) (fun q hq x hx=>?_) h;by_cases e:q=j
    ·subst e;rw[gE hlt] at hx;cases hx;exact hp
    ·exact hno q (by omega) x hx
 exact key xs.length 0 w (by omega) (fun q hq=>by omega) h
theorem filter_take_succ (xs:List Int) (q:Int->Bool) (j:Nat) (x:Int) (hx:xs[j]?=some x):(xs.take (j+1)).filter q=(xs.take j).filter q++if q x then [x] else []:=by
 rw[List.take_add_one,hx,List.filter_append];congr 1;simp only[Option.toList_some,List.filter_cons,List.filter_nil]
theorem slices_DeleteFunc_int_int_spec {B:Nat} {w0 w:World} {L:List Asn} {s:Sl} {xs:List Int} {fv:Value} {p:Int->Bool} {K:Sl->World->Prop} (h:Own B w0 w L) (i:Nat) (hi:L[i]?=some (SlT intE s xs))
  (hbig:xs.length≤1000000000000) (hf:∀ys,ys.length=xs.length->Tells B w0 (L.set i (SlT intE s ys)) fv p)
  (hK:∀s' w',Own B w0 w' (L.set i (SlT intE s' (xs.filter fun x=> !p x)))->K s' w'):C.qC s fv K w:=by
 apply S.qC0;unfold S.qC
 have hself:∀A,L[i]?=some A->L.set i A=L:=by
  intro A hA;apply List.ext_getElem?;intro j;rw[List.getElem?_set];by_cases e:i=j
  ·subst e;rw[if_pos rfl,if_pos (lt_of_get hA),hA]
  ·simp[e]
 have hf0:Tells B w0 L fv p:=by have:=hf xs rfl;rwa [hself _ hi] at this
 have hlen:=h.len i hi;have hspot:=(h.slO i hi).spot;refine slices_IndexFunc_int_int_spec h i hi hbig hf0 fun w1 h=>?_
 cases hfi:xs.findIdx? p with
 |none=>
  rw[show ((-1:Int)== -1)=true from rfl,cond_true]
  have:xs.filter (fun x=> !p x)=xs:=by
   rw[List.filter_eq_self];intro x hx;rw[List.findIdx?_eq_none_iff] at hfi;simp[hfi x hx]
  have h2:=hK s w1;rw[this,hself _ hi] at h2;exact h2 h
 |some i0=>
  obtain ⟨hi0,hp0,hbefore⟩:=List.findIdx?_eq_some_iff_getElem.1 hfi;rw[show (((i0:Nat):Int)== -1)=false from by simp,cond_false];intro l hl;have hcap:=(h.slO i hi).le_cap
  have key:∀(m j q:Nat) (ys:List Int) (w:World),j+m=xs.length->ys.length=xs.length->ys.take q=(xs.take j).filter (fun x=> !p x)->q<j->q≤ys.length->ys.drop j=xs.drop j->
    Own B w0 w (L.set i (SlT intE s ys))->l (q:Int) (j:Int) w:=by
   intro m
   induction m with
   |zero=>
    intro j q ys w hj hys hq hqj hqy hd h;have hi':(L.set i (SlT intE s ys))[i]?=some (SlT intE s ys):=by rw[List.getElem?_set_self (lt_of_get hi)]
    apply hl;rw[hlen,show decide ((j:Int)<(xs.length:Int))=false from by simp;omega,cond_false];refine ⟨by omega,by omega, ?_⟩;rw[Int.toNat_natCast,←hlen];have hn:q≤ys.length:=hqy;refine h.clear (P:=Tryz.prog) (T:=26) (t:=0) (zv:= .int .i64 0) (z0:=0) Tryz.underlying26 (fun w=>Tryz.zeroValue3 w) rfl i hi' hn fun w2 h=>?_
    refine ⟨by omega,by omega, ?_⟩;have hi2:=List.getElem?_set_self (a:=SlT intE s (ys.take q++List.replicate (ys.length-q) 0)) (lt_of_get hi');have h3:=h.pre i hi2 (n:=q) (by simp;omega);rw[slA0 _ _ _ hspot]
    have e1:(ys.take q++List.replicate (ys.length-q) 0).take q=xs.filter (fun x=> !p x):=by
     rw[List.take_append_of_le_length (by simp;omega),List.take_take,Nat.min_self,hq,List.take_of_length_le (by omega)]
    rw[e1] at h3;simp only[List.set_set] at h3;exact hK _ _ h3
   |succ m ih=>
    intro j q ys w hj hys hq hqj hqy hd h;have hi':(L.set i (SlT intE s ys))[i]?=some (SlT intE s ys):=by rw[List.getElem?_set_self (lt_of_get hi)]
    have hjlt:j<xs.length:=by omega
    have hyj:ys[j]?=some xs[j]:=by
     have:=congrArg (fun l=>l[0]?) hd;simp only[List.getElem?_drop,Nat.add_zero] at this;rw[this,gE hjlt]
    apply hl;rw[hlen,show decide ((j:Int)<(xs.length:Int))=true from by simp;omega,cond_true];obtain ⟨a,ha,hc⟩:=h.getI i hi' hyj;refine ⟨a,ha,by omega,by omega,_,by rw[Int.toNat_natCast];exact hc, ?_⟩;refine hf ys hys _ _ _ h fun w2 h=>?_
    have hft:=filter_take_succ xs (fun x=> !p x) j _ (gE hjlt)
    have hd1:∀zs:List Int,zs.drop j=xs.drop j->zs.drop (j+1)=xs.drop (j+1):=fun zs hz=>by
     rw[←List.drop_drop (i:=1) (j:=j),←List.drop_drop (i:=1) (j:=j),hz]
    cases hp:p xs[j] with
    |true=>
     simp only[Bool.not_true,cond_false];rw[wr (by omega) (by omega)];refine ih (j+1) q ys w2 (by omega) hys ?_ (by omega) hqy (hd1 ys hd) h;rw[hq,hft,hp];simp
    |false=>
     simp only[Bool.not_false,cond_true];obtain ⟨b,o,hb,_⟩:=h.get i hi' hyj;rw[ha] at hb;cases hb;refine ⟨_,ha,by omega,by omega, ?_⟩;rw[Int.toNat_natCast,add_mk];refine h.stE i hi' (j:=q) (by omega) xs[j] ha rfl fun w3 h=>?_
     simp only[List.set_set] at h;rw[wr (by omega) (by omega),wr (by omega) (by omega)];refine ih (j+1) (q+1) _ w3 (by omega) (by simpa using hys) ?_ (by omega) (by simp;omega) ?_ h
     ·rw[hft,hp]
      simp only[Bool.not_false,if_true];rw[List.take_add_one,List.getElem?_set_self (by omega),List.take_set_of_le (by omega),hq];rfl
     ·rw[List.drop_set_of_lt (by omega)]
      exact hd1 ys hd
  refine key (xs.length-(i0+1)) (i0+1) i0 xs w1 (by omega) rfl ?_ (by omega) (by omega) rfl (by rw[hself _ hi];exact h) |> fun h=>?_
  rw[show IntKind.i64.wrap ((i0:Int)+1)=((i0+1:Nat):Int) from by rw[wr (by omega) (by omega)];omega]
  ·exact h
  ·rw[filter_take_succ xs _ i0 _ (gE hi0),hp0]
   simp only[Bool.not_true,Bool.false_eq_true,if_false,List.append_nil]
   symm
   rw[List.filter_eq_self];intro x hx;obtain ⟨q,hq⟩:=List.mem_iff_getElem?.1 hx;rw[List.getElem?_take] at hq;split at hq
   ·rename_i hlt
    obtain ⟨h4,h5⟩:=List.getElem?_eq_some_iff.1 hq;have:=hbefore q hlt;rw[h5] at this;simpa using this
   ·cases hq
end Go.Proofs.YtogmbmdbgkopjaaGreat.Th
end
section
set_option maxRecDepth 8000
namespace Go.Proofs.YtogmbmdbgkopjaaGreat
open Go Go.Vc Go.Proofs
section
variable {B:Nat} {w0 w:World} {R L:List Asn} {b:Nat} {n:Nte}
theorem notify_Cancel_spec {who:Int} {K:Bool->World->Prop} (h:Own B w0 w (NoteA b n::R)) (hK:∀r w',Own B w0 w' (NoteA b (n.cancel who)::R)->K r w'):C.qau (some ⟨b,0,none⟩) who K w:=by
 apply S.qau0;unfold S.qau;obtain ⟨s,hl,h⟩:=h.note;refine h.al fun w1 h=>?_
 generalize w.heap.size=c at h⊢;refine ⟨_,rfl,s,h.ldc rfl,_,rfl,s,h.ldc rfl, ?_⟩;refine Th.slices_DeleteFunc_int_int_spec (p:=fun x=>x==who) h 2 rfl (by omega) (fun ys hys x w Q h hQ=>?_) fun s' w h=>?_
 ·refine callV_mk ?_
  show C.qax x ⟨c,0,none⟩ Q w;apply S.qax0;unfold S.qax;have h2:Own B w0 w (BlkA c [.int .i64 who]::BlkA b [.int .u64 n.word, .bool n.is, .slice s.a s.len s.cap]::SlT intE s ys::R):=h;exact ⟨_,h2.ldc rfl,hQ _ h⟩
 ·have h:Own B w0 w (BlkA c [.int .i64 who]::BlkA b [.int .u64 n.word, .bool n.is, .slice s.a s.len s.cap]::SlT intE s' (n.l.filter fun x=> !(x==who))::R):=h
  refine ⟨_,rfl, ?_⟩;refine h.stc rfl rfl fun w h=>?_
  (try dsimp only[putAt,List.set_cons_zero,List.set_cons_succ] at h)
  refine ⟨_,rfl,s',h.ldc rfl, ?_⟩;exact hK _ w (Own.mk_note (s:=s') (Nat.le_trans (List.length_filter_le _ _) hl) (show Own B w0 w (BlkA b [.int .u64 n.word, .bool n.is, .slice s'.a s'.len s'.cap]::SlT intE s' (n.l.filter fun x=> !(x==who))::R) from h.sub))
end
end Go.Proofs.YtogmbmdbgkopjaaGreat
end
section
set_option maxRecDepth 100000
namespace Go.Proofs.YtogmbmdbgkopjaaGreat
open Go Go.Vc Go.Proofs
def S.qcP (n1:Int) (K:Option Addr->Int->World->Prop) (w:World):Prop:=∀k2:Bool->World->Prop,(∀(t3:Bool) (w4:World),(bif t3 then (K none (1:Int) w4) else (∃(t5:Sl) (w6:World),MkSlR Tryz.prog 198 (.int .i64 n1) (.int .i64 n1) w4 t5 w6/\Al w6 (.cells #[.slice t5.a t5.len t5.cap] 200) fun w7=>K (some (Addr.mk w6.heap.size 0 none)) (0:Int) w7))->k2 t3 w4)->(bif decide (n1<(1:Int)) then (k2 true w) else (k2 (decide (n1>(64:Int))) w))
theorem S.qcP0 (n1:Int) (K:Option Addr->Int->World->Prop) (w:World) (h:S.qcP n1 K w):C.qcP n1 K w:=
 okS Tryz.func45 (.t none (.u) (.t none (.t none (.r (some [(9, .c (.b))]) .done) (.t none (.t none (.u) (.u)) (.u))) (.t none (.u) (.u)))) [(0, .c (.p)),(1, .c (.i .i64))] [.int .i64 n1] K rfl (by kernel_rfl) (by kernel_rfl) h
def S.qbD (l1:Option Addr) (n2:Int) (K:Int->Int->Bool->Int->World->Prop) (w:World):Prop:=C.qbA l1 n2 (fun r3 w4=>bif r3.isNone then (K (0:Int) (0:Int) false (130:Int) w4) else (∃a5,r3=some a5/\∃is6,w4.cell? a5=some (.int .i64 is6)/\∀k7:World->Prop,(∀(w8:World),(∃a9,r3=some a9/\St w8 a9 (.int .i64 3) fun w10=>K (0:Int) (0:Int) false (0:Int) w10)->k7 w8)->(bif is6==(1:Int) then (∃a11,r3=some a11/\St w4 a11 (.int .i64 2) fun w12=>Dr w12 fun w13=>∃a14,r3=some a14/\∃note15,w13.cell? (a14.add 1)=some (.int .i64 note15)/\∃a16,r3=some a16/\∃badge17,w13.cell? (a16.add 2)=some (.int .u64 badge17)/\K note15 badge17 true (0:Int) w13) else (bif is6==(2:Int) then (k7 w4) else (bif is6==(3:Int) then (k7 w4) else (K (0:Int) (0:Int) false (0:Int) w4)))))) w
theorem S.qbD0 (l1:Option Addr) (n2:Int) (K:Int->Int->Bool->Int->World->Prop) (w:World) (h:S.qbD l1 n2 K w):C.qbD l1 n2 K w:=
 okS Tryz.func75 (.t none (.u) (.t none (.u) (.t none (.t none (.u) (.t none (.t none (.u) (.u)) (.u))) (.t none (.t none (.u) (.t none (.t none (.t (some []) (.t none (.t none (.t none (.t none (.t none (.t none (.u) (.t none (.u) (.u))) (.t none (.t none (.u) (.t none (.u) (.u))) (.t none (.u) (.t none (.u) (.u))))) (.u)) (.u)) (.t none (.t none (.u) (.t none (.r none (.one 0 240 (.one 1 240 (.one 2 240 (.one 3 240 (.one 4 256 (.one 5 256 (.one 6 256 (.one 7 256 (.one 8 0 (.one 9 0 (.one 10 0 (.one 11 0 (.done)))))))))))))) (.u))) (.u))) (.u)) (.u)) (.t none (.u) (.u))) (.u))) (.t none (.u) (.u)))))) [(0, .c (.i .i64)),(1, .c (.i .u64)),(2, .c (.b)),(3, .c (.i .i64))] [.pointer l1, .int .i64 n2] K rfl (by kernel_rfl) (by kernel_rfl) h
def S.qbA (l1:Option Addr) (n2:Int) (K:Option Addr->World->Prop) (w:World):Prop:=∀k3:Bool->World->Prop,(∀(t4:Bool) (w5:World),(bif t4 then (K none w5) else (∃a6,l1=some a6/\∃l7:Sl,w5.cell? a6=some (.slice l7.a l7.len l7.cap)/\∃a8,l7.a=some a8/\0≤n2/\n2<(l7.len:Int)/\K (some (a8.add (n2.toNat*3))) w5))->k3 t4 w5)->(bif decide (n2<(0:Int)) then (k3 true w) else (∃a9,l1=some a9/\∃l10:Sl,w.cell? a9=some (.slice l10.a l10.len l10.cap)/\k3 (decide (n2≥(l10.len:Int))) w))
theorem S.qbA0 (l1:Option Addr) (n2:Int) (K:Option Addr->World->Prop) (w:World) (h:S.qbA l1 n2 K w):C.qbA l1 n2 K w:=
 okS Tryz.func146 (.t none (.u) (.t none (.t none (.r (some [(15, .c (.b))]) .done) (.t none (.t none (.u) (.u)) (.u))) (.t none (.u) (.u)))) [(0, .c (.p))] [.pointer l1, .int .i64 n2] K rfl (by kernel_rfl) (by kernel_rfl) h
def S.qbT (l1:Option Addr) (n2:Int) (note3:Int) (badge4:Int) (K:Int->World->Prop) (w:World):Prop:=C.qbA l1 n2 (fun r5 w6=>bif r5.isNone then (K (130:Int) w6) else (bif decide (note3<(0:Int)) then (K (1:Int) w6) else (∃a7,r5=some a7/\∃is8,w6.cell? a7=some (.int .i64 is8)/\bif is8 !=(0:Int) then (K (131:Int) w6) else (∃a9,r5=some a9/\StL w6 a9 0 [.int .i64 1, .int .i64 note3, .int .u64 badge4] fun w10=>K (0:Int) w10)))) w
theorem S.qbT0 (l1:Option Addr) (n2:Int) (note3:Int) (badge4:Int) (K:Int->World->Prop) (w:World) (h:S.qbT l1 n2 note3 badge4 K w):C.qbT l1 n2 note3 badge4 K w:=
 okS Tryz.func225 (.t none (.u) (.t none (.u) (.t none (.t none (.t none (.u) (.t none (.t none (.u) (.u)) (.t none (.u) (.t none (.t none (.u) (.u)) (.t none (.u) (.t none (.t none (.u) (.u)) (.u))))))) (.u)) (.t none (.u) (.t none (.u) (.u)))))) [(0, .c (.i .i64))] [.pointer l1, .int .i64 n2, .int .i64 note3, .int .u64 badge4] K rfl (by kernel_rfl) (by kernel_rfl) h
def S.qcf (l1:Option Addr) (n2:Int) (K:Int->Int->Bool->Int->World->Prop) (w:World):Prop:=C.qbA l1 n2 (fun r3 w4=>bif r3.isNone then (K (0:Int) (0:Int) false (130:Int) w4) else (∃a5,r3=some a5/\∃is6,w4.cell? a5=some (.int .i64 is6)/\bif is6==(3:Int) then (∃a7,r3=some a7/\St w4 a7 (.int .i64 2) fun w8=>Dr w8 fun w9=>∃a10,r3=some a10/\∃note11,w9.cell? (a10.add 1)=some (.int .i64 note11)/\∃a12,r3=some a12/\∃badge13,w9.cell? (a12.add 2)=some (.int .u64 badge13)/\K note11 badge13 true (0:Int) w9) else (bif is6==(2:Int) then (∃a14,r3=some a14/\St w4 a14 (.int .i64 1) fun w15=>K (0:Int) (0:Int) false (0:Int) w15) else (K (0:Int) (0:Int) false (0:Int) w4)))) w
theorem S.qcf0 (l1:Option Addr) (n2:Int) (K:Int->Int->Bool->Int->World->Prop) (w:World) (h:S.qcf l1 n2 K w):C.qcf l1 n2 K w:=
 okS Tryz.func226 (.t none (.u) (.t none (.u) (.t none (.t none (.u) (.t none (.t none (.u) (.u)) (.u))) (.t none (.t none (.u) (.t none (.t none (.u) (.t none (.t none (.u) (.t none (.r none (.one 0 240 (.one 1 240 (.one 2 240 (.one 3 240 (.one 4 256 (.one 5 256 (.one 6 256 (.one 7 256 (.one 8 0 (.one 9 0 (.one 10 0 (.one 11 0 (.done)))))))))))))) (.u))) (.t none (.u) (.t none (.u) (.u))))) (.u))) (.t none (.u) (.u)))))) [(0, .c (.i .i64)),(1, .c (.i .u64)),(2, .c (.b)),(3, .c (.i .i64))] [.pointer l1, .int .i64 n2] K rfl (by kernel_rfl) (by kernel_rfl) h
def S.qbW (b1:Int) (b2:Int) (b3:Int) (b4:Sl) (K:Option Addr->Int->World->Prop) (w:World):Prop:=Al w (.cells #[.int .i64 b1, .int .i64 b2, .int .i64 b3, .slice b4.a b4.len b4.cap] 28) fun w5=>LdL w5 (Addr.mk w.heap.size 0 none) 0 [.i .i64, .i .i64, .i .i64, .s] fun (t6:Int) (t7:Int) (t8:Int) (t9:Sl)=>C.qco t6 t7 t8 t9 (fun r10 w11=>bif !r10 then (K none (1:Int) w11) else (∀k12:Option Addr->World->Prop,(∀(k13:Option Addr) (w14:World),(∃cores15,w14.cell? (Addr.mk w.heap.size 0 none)=some (.int .i64 cores15)/\C.qcu cores15 (fun r16 r17 w18=>∃a19,k13=some a19/\St w18 (a19.add 2) (.pointer r16) fun w20=>C.qcP (8:Int) (fun r21 r22 w23=>∃a24,k13=some a24/\St w23 (a24.add 3) (.pointer r21) fun w25=>∃a26,k13=some a26/\∃n27,w25.cell? a26=some (.pointer n27)/\C.qaR n27 (6:Int) (fun r28 r29 w30=>C.qG k13 (0:Int) (2:Int) (0:Int) (fun r31 w32=>C.qG k13 r31 (1:Int) (0:Int) (fun r33 w34=>∃prios35:Sl,w34.cell? ((Addr.mk w.heap.size 0 none).add 3)=some (.slice prios35.a prios35.len prios35.cap)/\∀l36:Int->Int->World->Prop,(∀(i37:Int) (t38:Int) (w39:World),(bif decide (t38<(prios35.len:Int)) then (∃a40,prios35.a=some a40/\0≤t38/\t38<(prios35.len:Int)/\∃t41,w39.cell? (a40.add (t38.toNat*1))=some (.int .i64 t41)/\∃a42,k13=some a42/\∃t43,w39.cell? (a42.add 2)=some (.pointer t43)/\C.qD t43 t41 t38 (fun r44 r45 w46=>∃a47,k13=some a47/\∃t48,w46.cell? (a47.add 2)=some (.pointer t48)/\C.qw t48 r44 (fun r49 w50=>∃a51,k13=some a51/\∃t52,w50.cell? (a51.add 2)=some (.pointer t52)/\C.qE t52 t38 (fun r53 r54 w55=>C.qG k13 i37 (3:Int) r44 (fun r56 w57=>l36 r56 (IntKind.i64.wrap (t38+(1:Int))) w57) w55) w50) w46) w39) else (C.qG k13 i37 (8:Int) (0:Int) (fun r58 w59=>∃lines60,w59.cell? ((Addr.mk w.heap.size 0 none).add 2)=some (.int .i64 lines60)/\∀l61:Int->Int->World->Prop,(∀(i62:Int) (t63:Int) (w64:World),(bif decide (t63<lines60) then (C.qG k13 i62 (9:Int) t63 (fun r65 w66=>l61 r65 (IntKind.i64.wrap (t63+(1:Int))) w66) w64) else (K k13 (0:Int) w64))->l61 i62 t63 w64)->l61 r58 (0:Int) w59) w39))->l36 i37 t38 w39)->l36 r33 (0:Int) w34) w32) w30) w25) w20) w14)->k12 k13 w14)->(Dr w11 fun w67=>∃bits68,w67.cell? ((Addr.mk w.heap.size 0 none).add 1)=some (.int .i64 bits68)/\∃cores69,w67.cell? (Addr.mk w.heap.size 0 none)=some (.int .i64 cores69)/\(C.qcz (fun r70 w71=>w71.cell? (Addr.mk w.heap.size 0 none)=some (.int .i64 cores69)/\w71.cell? ((Addr.mk w.heap.size 0 none).add 1)=some (.int .i64 bits68)/\(C.qcF (fun r72 w73=>w73.cell? (Addr.mk w.heap.size 0 none)=some (.int .i64 cores69)/\w73.cell? ((Addr.mk w.heap.size 0 none).add 1)=some (.int .i64 bits68)/\(Al w73 (.cells #[.int .u64 0, .int .i64 bits68, .int .u64 0] 86) fun w74=>(C.qbL (fun r75 w76=>w76.cell? (Addr.mk w.heap.size 0 none)=some (.int .i64 cores69)/\(Al w76 (.cells #[.pointer r75] 109) fun w77=>(Al w77 (.cells #[.pointer r70, .pointer r72, .pointer none, .pointer none, .slice (some (Addr.mk w73.heap.size 0 none)) 1 1, .slice none 0 0, .slice none 0 0, .slice (some (Addr.mk w76.heap.size 0 none)) 1 1, .int .i64 0, .int .i64 0, .int .i64 1, .int .i64 cores69] 117) fun w78=>k12 (some (Addr.mk w77.heap.size 0 none)) w78)/\True)/\True) w74)/\True)/\(C.qbL (fun r79 w80=>w80.cell? (Addr.mk w.heap.size 0 none)=some (.int .i64 cores69)/\w80.cell? ((Addr.mk w.heap.size 0 none).add 1)=some (.int .i64 bits68)/\(Al w80 (.cells #[.int .u64 0, .int .i64 bits68, .int .u64 0] 86) fun w81=>(Al w81 (.cells #[.pointer r79] 109) fun w82=>(Al w82 (.cells #[.pointer r70, .pointer r72, .pointer none, .pointer none, .slice (some (Addr.mk w80.heap.size 0 none)) 1 1, .slice none 0 0, .slice none 0 0, .slice (some (Addr.mk w81.heap.size 0 none)) 1 1, .int .i64 0, .int .i64 0, .int .i64 1, .int .i64 cores69] 117) fun w83=>k12 (some (Addr.mk w82.heap.size 0 none)) w83)/\True)/\True)/\(Al w80 (.cells #[.pointer r79] 109) fun w84=>(Al w84 (.cells #[.int .u64 0, .int .i64 bits68, .int .u64 0] 86) fun w85=>(Al w85 (.cells #[.pointer r70, .pointer r72, .pointer none, .pointer none, .slice (some (Addr.mk w84.heap.size 0 none)) 1 1, .slice none 0 0, .slice none 0 0, .slice (some (Addr.mk w80.heap.size 0 none)) 1 1, .int .i64 0, .int .i64 0, .int .i64 1, .int .i64 cores69] 117) fun w86=>k12 (some (Addr.mk w85.heap.size 0 none)) w86)/\True)/\True)/\True) w73)/\True) w71)/\(Al w71 (.cells #[.int .u64 0, .int .i64 bits68, .int .u64 0] 86) fun w87=>(C.qcF (fun r88 w89=>w89.cell? (Addr.mk w.heap.size 0 none)=some (.int .i64 cores69)/\(C.qbL (fun r90 w91=>w91.cell? (Addr.mk w.heap.size 0 none)=some (.int .i64 cores69)/\(Al w91 (.cells #[.pointer r90] 109) fun w92=>(Al w92 (.cells #[.pointer r70, .pointer r88, .pointer none, .pointer none, .slice (some (Addr.mk w71.heap.size 0 none)) 1 1, .slice none 0 0, .slice none 0 0, .slice (some (Addr.mk w91.heap.size 0 none)) 1 1, .int .i64 0, .int .i64 0, .int .i64 1, .int .i64 cores69] 117) fun w93=>k12 (some (Addr.mk w92.heap.size 0 none)) w93)/\True)/\True) w89)/\True) w87)/\True)/\True) w67)/\(Al w67 (.cells #[.int .u64 0, .int .i64 bits68, .int .u64 0] 86) fun w94=>(C.qcz (fun r95 w96=>w96.cell? (Addr.mk w.heap.size 0 none)=some (.int .i64 cores69)/\(C.qcF (fun r97 w98=>w98.cell? (Addr.mk w.heap.size 0 none)=some (.int .i64 cores69)/\(C.qbL (fun r99 w100=>w100.cell? (Addr.mk w.heap.size 0 none)=some (.int .i64 cores69)/\(Al w100 (.cells #[.pointer r99] 109) fun w101=>(Al w101 (.cells #[.pointer r95, .pointer r97, .pointer none, .pointer none, .slice (some (Addr.mk w67.heap.size 0 none)) 1 1, .slice none 0 0, .slice none 0 0, .slice (some (Addr.mk w100.heap.size 0 none)) 1 1, .int .i64 0, .int .i64 0, .int .i64 1, .int .i64 cores69] 117) fun w102=>k12 (some (Addr.mk w101.heap.size 0 none)) w102)/\True)/\True) w98)/\True) w96)/\True) w94)/\True)/\True))) w5
theorem S.qbW0 (b1:Int) (b2:Int) (b3:Int) (b4:Sl) (K:Option Addr->Int->World->Prop) (w:World) (h:S.qbW b1 b2 b3 b4 K w):C.qbW b1 b2 b3 b4 K w:=
 okS Tryz.func14 (.t none (.u) (.t none (.t none (.u) (.t none (.t none (.u) (.u)) (.u))) (.t none (.r (some [(4, .c (.p))]) (.one 2 963 (.one 8 251 (.hold 3 707 6111 (.one 4 707 (.hold 9 227 6143 (.alt 0 (.alt 1 (.alt 5 (.alt 6 (.alt 7 (.one 10 0 (.alt 11 (.one 12 0 (.done)) (.none))) (.none)) (.none)) (.alt 6 (.alt 5 (.alt 7 (.one 10 0 (.alt 11 (.one 12 0 (.done)) (.none))) (.none)) (.alt 7 (.alt 5 (.one 10 0 (.alt 11 (.one 12 0 (.done)) (.none))) (.none)) (.none))) (.none))) (.alt 5 (.alt 1 (.alt 6 (.alt 7 (.one 10 0 (.alt 11 (.one 12 0 (.done)) (.none))) (.none)) (.none)) (.none)) (.none))) (.alt 5 (.alt 0 (.alt 1 (.alt 6 (.alt 7 (.one 10 0 (.alt 11 (.one 12 0 (.done)) (.none))) (.none)) (.none)) (.none)) (.none)) (.none))))))))) (.t none (.u) (.t none (.u) (.t none (.u) (.t none (.u) (.t none (.u) (.t none (.t none (.u) (.t none (.t (some [(5, .c (.i .i64)),(55, .c (.i .i64))]) (.t none (.u) (.t none (.t none (.u) (.u)) (.t none (.t none (.t none (.u) (.t none (.u) (.t none (.u) (.t none (.u) (.u))))) (.u)) (.u)))) (.u)) (.u))) (.t none (.u) (.t none (.t none (.u) (.t none (.t (some [(5, .c (.i .i64)),(92, .c (.i .i64))]) (.t none (.u) (.t none (.t none (.u) (.u)) (.t none (.t none (.t none (.u) (.u)) (.u)) (.u)))) (.u)) (.u))) (.t none (.u) (.u))))))))))))) [(0, .c (.p)),(1, .c (.i .i64))] [.agg #[.int .i64 b1, .int .i64 b2, .int .i64 b3, .slice b4.a b4.len b4.cap]] K rfl (by kernel_rfl) (by kernel_rfl) h
def S.qv (k1:Option Addr) (K:Sl->World->Prop) (w:World):Prop:=∃a2,k1=some a2/\∃n3,w.cell? a2=some (.pointer n3)/\C.qaS n3 (fun r4 w5=>K r4 w5) w
theorem S.qv0 (k1:Option Addr) (K:Sl->World->Prop) (w:World) (h:S.qv k1 K w):C.qv k1 K w:=
 okS Tryz.func15 (.t none (.u) (.t none (.u) (.u))) [(0, .c (.s))] [.pointer k1] K rfl (by kernel_rfl) (by kernel_rfl) h
def S.qo (k1:Option Addr) (core2:Int) (c3:Int) (c4:Int) (c5:Int) (c6:Int) (c7:Int) (c8:Int) (K:Int->Int->Int->Sl->World->Prop) (w:World):Prop:=Al w (.cells #[.int .i64 c3, .int .i64 c4, .int .i64 c5, .int .i64 c6, .int .i64 c7, .int .i64 c8] 37) fun w9=>Al w9 (.cells #[.int .i64 0, .int .u64 0, .int .i64 0, .slice none 0 0] 34) fun w10=>LdL w10 (Addr.mk w.heap.size 0 none) 0 [.i .i64, .i .i64, .i .i64, .i .i64, .i .i64, .i .i64] fun (t11:Int) (t12:Int) (t13:Int) (t14:Int) (t15:Int) (t16:Int)=>Al w10 (.cells #[.pointer k1, .int .i64 core2, .int .i64 0, .int .i64 t11, .int .i64 t12, .int .i64 t13, .int .i64 t14, .int .i64 t15, .int .i64 t16, .int .i64 0, .int .i64 0, .int .i64 0, .int .i64 0, .int .i64 0, .int .u64 0, .int .u64 0, .int .i64 0, .int .i64 0, .int .u64 0, .int .i64 (-1:Int), .slice none 0 0] 127) fun w17=>∃a18,k1=some a18/\∃t19,w17.cell? (a18.add 2)=some (.pointer t19)/\C.qE t19 core2 (fun r20 r21 w22=>∃a23,some (Addr.mk w10.heap.size 0 none)=some a23/\St w22 (a23.add 2) (.int .i64 r20) fun w24=>∀k25:World->Prop,(∀(w26:World),(∃a27,some (Addr.mk w10.heap.size 0 none)=some a27/\LdL w26 (a27.add 17) 0 [.i .i64, .i .u64, .i .i64, .s] fun (out28:Int) (out29:Int) (out30:Int) (out31:Sl)=>StL w26 (Addr.mk w9.heap.size 0 none) 0 [.int .i64 out28, .int .u64 out29, .int .i64 out30, .slice out31.a out31.len out31.cap] fun w32=>LdL w32 (Addr.mk w9.heap.size 0 none) 0 [.i .i64, .i .u64, .i .i64, .s] fun (r33:Int) (r34:Int) (r35:Int) (r36:Sl)=>K r33 r34 r35 r36 w32)->k25 w26)->(bif !r21 then (∃a37,some (Addr.mk w10.heap.size 0 none)=some a37/\St w24 (a37.add 17) (.int .i64 182) fun w38=>k25 w38) else (∀k39:Bool->World->Prop,(∀(t40:Bool) (w41:World),(bif t40 then (∃a42,some (Addr.mk w10.heap.size 0 none)=some a42/\St w41 (a42.add 17) (.int .i64 180) fun w43=>k25 w43) else (∃ask44,w41.cell? (Addr.mk w.heap.size 0 none)=some (.int .i64 ask44)/\bif ask44==(17:Int) then (∃a45,k1=some a45/\∃t46,w41.cell? (a45.add 2)=some (.pointer t46)/\C.qW t46 core2 (fun r47 w48=>k25 w48) w41) else (C.qaM (some (Addr.mk w10.heap.size 0 none)) (fun r49 w50=>∃a51,some (Addr.mk w10.heap.size 0 none)=some a51/\St w50 (a51.add 17) (.int .i64 r49) fun w52=>k25 w52) w41)))->k39 t40 w41)->(∃ask53,w24.cell? (Addr.mk w.heap.size 0 none)=some (.int .i64 ask53)/\bif decide (ask53<(0:Int)) then (k39 true w24) else (∃ask54,w24.cell? (Addr.mk w.heap.size 0 none)=some (.int .i64 ask54)/\k39 (decide (ask54≥(18:Int))) w24))))) w17
theorem S.qo0 (k1:Option Addr) (core2:Int) (c3:Int) (c4:Int) (c5:Int) (c6:Int) (c7:Int) (c8:Int) (K:Int->Int->Int->Sl->World->Prop) (w:World) (h:S.qo k1 core2 c3 c4 c5 c6 c7 c8 K w):C.qo k1 core2 c3 c4 c5 c6 c7 c8 K w:=
 okS Tryz.func16 (.t none (.u) (.t none (.u) (.t none (.u) (.t none (.u) (.t none (.t none (.t none (.u) (.t (some []) (.u) (.t none (.r (some [(42, .c (.b))]) .done) (.t none (.u) (.t none (.u) (.t none (.u) (.u))))))) (.u)) (.t none (.u) (.u))))))) [(0, .a [.i .i64, .i .u64, .i .i64, .s])] [.pointer k1, .int .i64 core2, .agg #[.int .i64 c3, .int .i64 c4, .int .i64 c5, .int .i64 c6, .int .i64 c7, .int .i64 c8]] K rfl (by kernel_rfl) (by kernel_rfl) h
def S.qah (k1:Option Addr) (n2:Int) (K:Sl->World->Prop) (w:World):Prop:=∃a3,k1=some a3/\∃spaces4:Sl,w.cell? (a3.add 7)=some (.slice spaces4.a spaces4.len spaces4.cap)/\C.qaw spaces4 n2 (fun r5 w6=>bif !r5 then (K ⟨none,0,0⟩ w6) else (∃a7,k1=some a7/\∃spaces8:Sl,w6.cell? (a7.add 7)=some (.slice spaces8.a spaces8.len spaces8.cap)/\∃a9,spaces8.a=some a9/\0≤n2/\n2<(spaces8.len:Int)/\∃t10,w6.cell? (a9.add (n2.toNat*1))=some (.pointer t10)/\C.qap t10 (fun r11 w12=>K r11 w12) w6)) w
theorem S.qah0 (k1:Option Addr) (n2:Int) (K:Sl->World->Prop) (w:World) (h:S.qah k1 n2 K w):C.qah k1 n2 K w:=
 okS Tryz.func21 (.t none (.u) (.t none (.t none (.u) (.t none (.t none (.u) (.u)) (.u))) (.t none (.u) (.u)))) [(0, .c (.s))] [.pointer k1, .int .i64 n2] K rfl (by kernel_rfl) (by kernel_rfl) h
def S.qbb (k1:Option Addr) (line2:Int) (K:Int->Int->World->Prop) (w:World):Prop:=∃a3,k1=some a3/\∃lines4,w.cell? (a3.add 3)=some (.pointer lines4)/\C.qbD lines4 line2 (fun r5 r6 r7 r8 w9=>bif !r7 then (K (-1:Int) r8 w9) else (C.qO k1 r5 r6 (fun r10 w11=>K r10 r8 w11) w9)) w
theorem S.qbb0 (k1:Option Addr) (line2:Int) (K:Int->Int->World->Prop) (w:World) (h:S.qbb k1 line2 K w):C.qbb k1 line2 K w:=
 okS Tryz.func26 (.t none (.u) (.t none (.u) (.t none (.t none (.u) (.t none (.t none (.u) (.u)) (.u))) (.t none (.u) (.u))))) [(0, .c (.i .i64)),(1, .c (.i .i64))] [.pointer k1, .int .i64 line2] K rfl (by kernel_rfl) (by kernel_rfl) h
def S.qac (k1:Option Addr) (K:Sl->World->Prop) (w:World):Prop:=∃a2,k1=some a2/\∃tr3,w.cell? (a2.add 1)=some (.pointer tr3)/\C.qcc tr3 (fun r4 w5=>K r4 w5) w
theorem S.qac0 (k1:Option Addr) (K:Sl->World->Prop) (w:World) (h:S.qac k1 K w):C.qac k1 K w:=
 okS Tryz.func29 (.t none (.u) (.t none (.u) (.u))) [(0, .c (.s))] [.pointer k1] K rfl (by kernel_rfl) (by kernel_rfl) h
def S.qB (k1:Option Addr) (n2:Int) (K:Int->Int->Int->Bool->World->Prop) (w:World):Prop:=Al w (.cells #[.int .u64 0, .int .i64 0, .int .u64 0] 86) fun w3=>∃a4,k1=some a4/\∃u5:Sl,w3.cell? (a4.add 4)=some (.slice u5.a u5.len u5.cap)/\C.qaI u5 n2 (fun r6 w7=>bif !r6 then (StL w7 (Addr.mk w.heap.size 0 none) 0 [.int .u64 0, .int .i64 0, .int .u64 0] fun w8=>LdL w8 (Addr.mk w.heap.size 0 none) 0 [.i .u64, .i .i64, .i .u64] fun (r9:Int) (r10:Int) (r11:Int)=>K r9 r10 r11 false w8) else (∃a12,k1=some a12/\∃u13:Sl,w7.cell? (a12.add 4)=some (.slice u13.a u13.len u13.cap)/\∃a14,u13.a=some a14/\0≤n2/\n2<(u13.len:Int)/\LdL w7 (a14.add (n2.toNat*3)) 0 [.i .u64, .i .i64, .i .u64] fun (t15:Int) (t16:Int) (t17:Int)=>StL w7 (Addr.mk w.heap.size 0 none) 0 [.int .u64 t15, .int .i64 t16, .int .u64 t17] fun w18=>LdL w18 (Addr.mk w.heap.size 0 none) 0 [.i .u64, .i .i64, .i .u64] fun (r19:Int) (r20:Int) (r21:Int)=>K r19 r20 r21 true w18)) w3
theorem S.qB0 (k1:Option Addr) (n2:Int) (K:Int->Int->Int->Bool->World->Prop) (w:World) (h:S.qB k1 n2 K w):C.qB k1 n2 K w:=
 okS Tryz.func30 (.t none (.u) (.t none (.t none (.u) (.t none (.t none (.u) (.u)) (.u))) (.t none (.u) (.u)))) [(0, .a [.i .u64, .i .i64, .i .u64]),(1, .c (.b))] [.pointer k1, .int .i64 n2] K rfl (by kernel_rfl) (by kernel_rfl) h
def S.qaL (k1:Option Addr) (core2:Int) (K:Bool->World->Prop) (w:World):Prop:=∃a3,k1=some a3/\∃t4,w.cell? (a3.add 2)=some (.pointer t4)/\C.qaq t4 core2 (fun r5 w6=>K r5 w6) w
theorem S.qaL0 (k1:Option Addr) (core2:Int) (K:Bool->World->Prop) (w:World) (h:S.qaL k1 core2 K w):C.qaL k1 core2 K w:=
 okS Tryz.func37 (.t none (.u) (.t none (.u) (.u))) [(0, .c (.b))] [.pointer k1, .int .i64 core2] K rfl (by kernel_rfl) (by kernel_rfl) h
def S.qco (b1:Int) (b2:Int) (b3:Int) (b4:Sl) (K:Bool->World->Prop) (w:World):Prop:=Al w (.cells #[.int .i64 b1, .int .i64 b2, .int .i64 b3, .slice b4.a b4.len b4.cap] 28) fun w5=>∀k6:Bool->World->Prop,(∀(sizes7:Bool) (w8:World),(bif sizes7 then (∃prios9:Sl,w8.cell? ((Addr.mk w.heap.size 0 none).add 3)=some (.slice prios9.a prios9.len prios9.cap)/\∃cores10,w8.cell? (Addr.mk w.heap.size 0 none)=some (.int .i64 cores10)/\bif (prios9.len:Int)==cores10 then (∃prios11:Sl,w8.cell? ((Addr.mk w.heap.size 0 none).add 3)=some (.slice prios11.a prios11.len prios11.cap)/\C.qU prios11 (.func (.func 102) #[] #[]) (fun r12 w13=>K (!r12) w13) w8) else (K false w8)) else (K false w8))->k6 sizes7 w8)->(∃cores14,w5.cell? (Addr.mk w.heap.size 0 none)=some (.int .i64 cores14)/\bif decide (cores14≥(1:Int)) then (∃cores15,w5.cell? (Addr.mk w.heap.size 0 none)=some (.int .i64 cores15)/\bif decide (cores15≤(8:Int)) then (∃bits16,w5.cell? ((Addr.mk w.heap.size 0 none).add 1)=some (.int .i64 bits16)/\bif decide (bits16≥(4:Int)) then (∃bits17,w5.cell? ((Addr.mk w.heap.size 0 none).add 1)=some (.int .i64 bits17)/\bif decide (bits17≤(20:Int)) then (∃lines18,w5.cell? ((Addr.mk w.heap.size 0 none).add 2)=some (.int .i64 lines18)/\bif decide (lines18≥(0:Int)) then (∃lines19,w5.cell? ((Addr.mk w.heap.size 0 none).add 2)=some (.int .i64 lines19)/\k6 (decide (lines19≤(8:Int))) w5) else (k6 false w5)) else (k6 false w5)) else (k6 false w5)) else (k6 false w5)) else (k6 false w5))
theorem S.qco0 (b1:Int) (b2:Int) (b3:Int) (b4:Sl) (K:Bool->World->Prop) (w:World) (h:S.qco b1 b2 b3 b4 K w):C.qco b1 b2 b3 b4 K w:=
 okS Tryz.func40 (.t none (.u) (.t none (.u) (.t none (.r (some [(4, .c (.b))]) .done) (.t none (.u) (.u))))) [(0, .c (.b))] [.agg #[.int .i64 b1, .int .i64 b2, .int .i64 b3, .slice b4.a b4.len b4.cap]] K rfl (by kernel_rfl) (by kernel_rfl) h
def S.qG (k1:Option Addr) (i2:Int) (kind3:Int) (obj4:Int) (K:Int->World->Prop) (w:World):Prop:=Al w (.cells #[.int .i64 0, .int .i64 0] 40) fun w5=>StL w5 (Addr.mk w.heap.size 0 none) 0 [.int .i64 0, .int .i64 i2] fun w6=>Dr w6 fun w7=>∃a8,k1=some a8/\∃n9,w7.cell? a8=some (.pointer n9)/\LdL w7 (Addr.mk w.heap.size 0 none) 0 [.i .i64, .i .i64] fun (t10:Int) (t11:Int)=>(C.qbo n9 t10 t11 kind3 obj4 (7:Int) (0:Int) (0:Int) (0:Int) (fun r12 w13=>Dr w13 fun w14=>∃a15,k1=some a15/\∃tr16,w14.cell? (a15.add 1)=some (.pointer tr16)/\LdL w14 (Addr.mk w.heap.size 0 none) 0 [.i .i64, .i .i64] fun (t17:Int) (t18:Int)=>(C.qbR tr16 t17 t18 (fun r19 w20=>K (IntKind.i64.wrap (i2+(1:Int))) w20) w14)/\True) w7)/\True
theorem S.qG0 (k1:Option Addr) (i2:Int) (kind3:Int) (obj4:Int) (K:Int->World->Prop) (w:World) (h:S.qG k1 i2 kind3 obj4 K w):C.qG k1 i2 kind3 obj4 K w:=
 okS Tryz.func47 (.t none (.u) (.t none (.u) (.t none (.r none (.one 0 240 (.one 1 240 (.one 2 240 (.one 3 240 (.one 4 224 (.one 5 64 (.one 6 0 (.one 7 0 (.alt 8 (.done) (.none))))))))))) (.t none (.r none (.one 0 16 (.one 1 16 (.one 2 16 (.one 3 16 (.one 4 0 (.alt 5 (.done) (.none)))))))) (.t none (.u) (.u)))))) [(0, .c (.i .i64))] [.pointer k1, .int .i64 i2, .int .i64 kind3, .int .i64 obj4] K rfl (by kernel_rfl) (by kernel_rfl) h
def S.qaM (d1:Option Addr) (K:Int->World->Prop) (w:World):Prop:=∃a2,d1=some a2/\∃ask3,w.cell? (a2.add 3)=some (.int .i64 ask3)/\C.qcp ask3 (fun r4 r5 w6=>Al w6 (.cells #[.int .i64 0, .int .i64 0] 213) fun w7=>StL w7 (Addr.mk w6.heap.size 0 none) 0 [.int .i64 r4, .int .i64 r5] fun w8=>∀k9:Addr->Addr->Bool->World->Prop,(∀(s10:Addr) (c11:Addr) (is12:Bool) (w13:World),(∀k14:Bool->World->Prop,(∀(t15:Bool) (w16:World),(bif t15 then (K (181:Int) w16) else (Dr w16 fun w17=>LdL w17 s10 0 [.i .i64, .i .i64] fun (t18:Int) (t19:Int)=>∃a20,d1=some a20/\LdL w17 c11 0 [.i .i64, .i .i64, .i .i64, .i .u64, .i .u64, .i .i64] fun (t21:Int) (t22:Int) (t23:Int) (t24:Int) (t25:Int) (t26:Int)=>(StL w17 (a20.add 9) 0 [.int .i64 t18, .int .i64 t19] fun w27=>HdL w27 c11 0 [.int .i64 t21, .int .i64 t22, .int .i64 t23, .int .u64 t24, .int .u64 t25, .int .i64 t26] (∃a28,d1=some a28/\(StL w27 (a28.add 11) 0 [.int .i64 t21, .int .i64 t22, .int .i64 t23, .int .u64 t24, .int .u64 t25, .int .i64 t26] fun w29=>Al w29 (.map #[] 0) fun w30=>∃w31:World,UpdR Tryz.prog 217 (.map (some w29.heap.size)) (.int .i64 0) (.func (.func 119) #[.pointer d1] #[]) w30 w31/\∃w32:World,UpdR Tryz.prog 217 (.map (some w29.heap.size)) (.int .i64 1) (.func (.func 120) #[.pointer d1] #[]) w31 w32/\∃w33:World,UpdR Tryz.prog 217 (.map (some w29.heap.size)) (.int .i64 2) (.func (.func 121) #[.pointer d1] #[]) w32 w33/\∃w34:World,UpdR Tryz.prog 217 (.map (some w29.heap.size)) (.int .i64 3) (.func (.func 122) #[.pointer d1] #[]) w33 w34/\∃w35:World,UpdR Tryz.prog 217 (.map (some w29.heap.size)) (.int .i64 4) (.func (.func 123) #[.pointer d1] #[]) w34 w35/\∃w36:World,UpdR Tryz.prog 217 (.map (some w29.heap.size)) (.int .i64 5) (.func (.func 124) #[.pointer d1] #[]) w35 w36/\∃w37:World,UpdR Tryz.prog 217 (.map (some w29.heap.size)) (.int .i64 6) (.func (.func 125) #[.pointer d1] #[]) w36 w37/\∃w38:World,UpdR Tryz.prog 217 (.map (some w29.heap.size)) (.int .i64 7) (.func (.func 126) #[.pointer d1] #[]) w37 w38/\∃w39:World,UpdR Tryz.prog 217 (.map (some w29.heap.size)) (.int .i64 8) (.func (.func 127) #[.pointer d1] #[]) w38 w39/\∃w40:World,UpdR Tryz.prog 217 (.map (some w29.heap.size)) (.int .i64 9) (.func (.func 128) #[.pointer d1] #[]) w39 w40/\∃w41:World,UpdR Tryz.prog 217 (.map (some w29.heap.size)) (.int .i64 10) (.func (.func 129) #[.pointer d1] #[]) w40 w41/\∃w42:World,UpdR Tryz.prog 217 (.map (some w29.heap.size)) (.int .i64 11) (.func (.func 130) #[.pointer d1] #[]) w41 w42/\∃w43:World,UpdR Tryz.prog 217 (.map (some w29.heap.size)) (.int .i64 12) (.func (.func 131) #[.pointer d1] #[]) w42 w43/\∃w44:World,UpdR Tryz.prog 217 (.map (some w29.heap.size)) (.int .i64 13) (.func (.func 132) #[.pointer d1] #[]) w43 w44/\∃w45:World,UpdR Tryz.prog 217 (.map (some w29.heap.size)) (.int .i64 14) (.func (.func 133) #[.pointer d1] #[]) w44 w45/\∃w46:World,UpdR Tryz.prog 217 (.map (some w29.heap.size)) (.int .i64 15) (.func (.func 134) #[.pointer d1] #[]) w45 w46/\∃w47:World,UpdR Tryz.prog 217 (.map (some w29.heap.size)) (.int .i64 16) (.func (.func 135) #[.pointer d1] #[]) w46 w47/\∃a48,d1=some a48/\∃ask49,w47.cell? (a48.add 3)=some (.int .i64 ask49)/\∃t50:Value,Lk1 Tryz.prog 217 (.map (some w29.heap.size)) (.int .i64 ask49) (t50) w47/\CallV Tryz.prog (t50) [] w47 fun enw52 w52=>∃r51,enw52= .returned (.int .i64 r51)/\K r51 w52)/\True))/\True))->k14 t15 w16)->(bif !is12 then (k14 true w13) else (∃rights53,w13.cell? (c11.add 2)=some (.int .i64 rights53)/\∃right54,w13.cell? ((Addr.mk w6.heap.size 0 none).add 1)=some (.int .i64 right54)/\∃right55,w13.cell? ((Addr.mk w6.heap.size 0 none).add 1)=some (.int .i64 right55)/\k14 ((andI .i64 rights53 right54) !=right55) w13)))->k9 s10 c11 is12 w13)->(Dr w8 fun w56=>∃a57,d1=some a57/\∃kernel58,w56.cell? a57=some (.pointer kernel58)/\∃a59,d1=some a59/\∃at60,w56.cell? ((a59.add 3).add 1)=some (.int .i64 at60)/\∃kind61,w56.cell? (Addr.mk w6.heap.size 0 none)=some (.int .i64 kind61)/\(C.qa kernel58 at60 kind61 (fun r62 r63 r64 r65 r66 r67 r68 r69 r70 w71=>(Al w71 (.cells #[.int .i64 0, .int .i64 0] 40) fun w72=>(Al w72 (.cells #[.int .i64 0, .int .i64 0, .int .i64 0, .int .u64 0, .int .u64 0, .int .i64 0] 42) fun w73=>(StL w73 (Addr.mk w71.heap.size 0 none) 0 [.int .i64 r62, .int .i64 r63] fun w74=>(StL w74 (Addr.mk w72.heap.size 0 none) 0 [.int .i64 r64, .int .i64 r65, .int .i64 r66, .int .u64 r67, .int .u64 r68, .int .i64 r69] fun w75=>k9 (Addr.mk w71.heap.size 0 none) (Addr.mk w72.heap.size 0 none) r70 w75)/\True)/\True)/\True)/\(Al w71 (.cells #[.int .i64 0, .int .i64 0, .int .i64 0, .int .u64 0, .int .u64 0, .int .i64 0] 42) fun w76=>(Al w76 (.cells #[.int .i64 0, .int .i64 0] 40) fun w77=>(StL w77 (Addr.mk w76.heap.size 0 none) 0 [.int .i64 r62, .int .i64 r63] fun w78=>(StL w78 (Addr.mk w71.heap.size 0 none) 0 [.int .i64 r64, .int .i64 r65, .int .i64 r66, .int .u64 r67, .int .u64 r68, .int .i64 r69] fun w79=>k9 (Addr.mk w76.heap.size 0 none) (Addr.mk w71.heap.size 0 none) r70 w79)/\True)/\True)/\True)/\True) w56)/\(Al w56 (.cells #[.int .i64 0, .int .i64 0] 40) fun w80=>(C.qa kernel58 at60 kind61 (fun r81 r82 r83 r84 r85 r86 r87 r88 r89 w90=>(Al w90 (.cells #[.int .i64 0, .int .i64 0, .int .i64 0, .int .u64 0, .int .u64 0, .int .i64 0] 42) fun w91=>(StL w91 (Addr.mk w56.heap.size 0 none) 0 [.int .i64 r81, .int .i64 r82] fun w92=>(StL w92 (Addr.mk w90.heap.size 0 none) 0 [.int .i64 r83, .int .i64 r84, .int .i64 r85, .int .u64 r86, .int .u64 r87, .int .i64 r88] fun w93=>k9 (Addr.mk w56.heap.size 0 none) (Addr.mk w90.heap.size 0 none) r89 w93)/\True)/\True)/\True) w80)/\(Al w80 (.cells #[.int .i64 0, .int .i64 0, .int .i64 0, .int .u64 0, .int .u64 0, .int .i64 0] 42) fun w94=>(C.qa kernel58 at60 kind61 (fun r95 r96 r97 r98 r99 r100 r101 r102 r103 w104=>(StL w104 (Addr.mk w56.heap.size 0 none) 0 [.int .i64 r95, .int .i64 r96] fun w105=>(StL w105 (Addr.mk w80.heap.size 0 none) 0 [.int .i64 r97, .int .i64 r98, .int .i64 r99, .int .u64 r100, .int .u64 r101, .int .i64 r102] fun w106=>k9 (Addr.mk w56.heap.size 0 none) (Addr.mk w80.heap.size 0 none) r103 w106)/\True)/\True) w94)/\True)/\True)/\(Al w56 (.cells #[.int .i64 0, .int .i64 0, .int .i64 0, .int .u64 0, .int .u64 0, .int .i64 0] 42) fun w107=>(C.qa kernel58 at60 kind61 (fun r108 r109 r110 r111 r112 r113 r114 r115 r116 w117=>(Al w117 (.cells #[.int .i64 0, .int .i64 0] 40) fun w118=>(StL w118 (Addr.mk w117.heap.size 0 none) 0 [.int .i64 r108, .int .i64 r109] fun w119=>(StL w119 (Addr.mk w56.heap.size 0 none) 0 [.int .i64 r110, .int .i64 r111, .int .i64 r112, .int .u64 r113, .int .u64 r114, .int .i64 r115] fun w120=>k9 (Addr.mk w117.heap.size 0 none) (Addr.mk w56.heap.size 0 none) r116 w120)/\True)/\True)/\True) w107)/\(Al w107 (.cells #[.int .i64 0, .int .i64 0] 40) fun w121=>(C.qa kernel58 at60 kind61 (fun r122 r123 r124 r125 r126 r127 r128 r129 r130 w131=>(StL w131 (Addr.mk w107.heap.size 0 none) 0 [.int .i64 r122, .int .i64 r123] fun w132=>(StL w132 (Addr.mk w56.heap.size 0 none) 0 [.int .i64 r124, .int .i64 r125, .int .i64 r126, .int .u64 r127, .int .u64 r128, .int .i64 r129] fun w133=>k9 (Addr.mk w107.heap.size 0 none) (Addr.mk w56.heap.size 0 none) r130 w133)/\True)/\True) w121)/\True)/\True)/\True)) w
theorem S.qaM0 (d1:Option Addr) (K:Int->World->Prop) (w:World) (h:S.qaM d1 K w):C.qaM d1 K w:=
 okS Tryz.func53 (.t none (.u) (.t none (.u) (.t none (.r (some [(4, .c (.q)),(5, .c (.q)),(6, .c (.b))]) (.one 0 198640 (.one 1 198640 (.one 2 198640 (.one 3 198640 (.one 4 198144 (.one 5 198144 (.one 6 198144 (.one 7 198144 (.one 8 198144 (.one 9 196608 (.one 10 196608 (.alt 11 (.one 12 196608 (.one 13 245760 (.one 14 491520 (.one 15 983040 (.alt 16 (.alt 17 (.alt 18 (.alt 19 (.one 20 0 (.done)) (.none)) (.none)) (.none)) (.alt 17 (.alt 16 (.alt 18 (.alt 19 (.one 20 0 (.done)) (.none)) (.none)) (.none)) (.none))))))) (.alt 16 (.alt 11 (.one 12 131072 (.one 13 180224 (.one 14 425984 (.one 15 917504 (.alt 17 (.alt 18 (.alt 19 (.one 20 0 (.done)) (.none)) (.none)) (.none)))))) (.alt 17 (.alt 11 (.one 12 0 (.one 13 49152 (.one 14 294912 (.one 15 786432 (.alt 18 (.alt 19 (.one 20 0 (.done)) (.none)) (.none)))))) (.none)) (.none))) (.alt 17 (.alt 11 (.one 12 65536 (.one 13 114688 (.one 14 360448 (.one 15 851968 (.alt 16 (.alt 18 (.alt 19 (.one 20 0 (.done)) (.none)) (.none)) (.none)))))) (.alt 16 (.alt 11 (.one 12 0 (.one 13 49152 (.one 14 294912 (.one 15 786432 (.alt 18 (.alt 19 (.one 20 0 (.done)) (.none)) (.none)))))) (.none)) (.none))) (.none)))))))))))))))) (.t none (.t none (.r (some [(41, .c (.b))]) .done) (.t none (.t none (.u) (.u)) (.u))) (.t none (.r none (.one 0 14 (.one 1 124 (.one 2 8 (.one 4 8 (.one 5 8 (.hold 3 64 511 (.alt 6 (.one 7 0 (.one 8 0 (.alt 9 (.done) (.none)))) (.none))))))))) (.t none (.u) (.t none (.u) (.u)))))))) [(0, .c (.i .i64))] [.pointer d1] K rfl (by kernel_rfl) (by kernel_rfl) h
def S.qaw (l1:Sl) (n2:Int) (K:Bool->World->Prop) (w:World):Prop:=bif decide (n2≥(0:Int)) then (K (decide (n2<(l1.len:Int))) w) else (K false w)
theorem S.qaw0 (l1:Sl) (n2:Int) (K:Bool->World->Prop) (w:World) (h:S.qaw l1 n2 K w):C.qaw l1 n2 K w:=
 okS Tryz.func57 (.t none (.u) (.t none (.u) (.u))) [(0, .c (.b))] [.slice l1.a l1.len l1.cap, .int .i64 n2] K rfl (by kernel_rfl) (by kernel_rfl) h
def S.qO (k1:Option Addr) (n2:Int) (badge3:Int) (K:Int->World->Prop) (w:World):Prop:=∃a4,k1=some a4/\∃notes5:Sl,w.cell? (a4.add 6)=some (.slice notes5.a notes5.len notes5.cap)/\∃a6,notes5.a=some a6/\0≤n2/\n2<(notes5.len:Int)/\∃t7,w.cell? (a6.add (n2.toNat*1))=some (.pointer t7)/\C.qas t7 badge3 (fun r8 r9 r10 w11=>bif !r10 then (K (-1:Int) w11) else (∃a12,k1=some a12/\∃t13,w11.cell? (a12.add 2)=some (.pointer t13)/\C.qu t13 r8 (0:Int) r9 (fun r14 w15=>∃a16,k1=some a16/\∃t17,w15.cell? (a16.add 2)=some (.pointer t17)/\C.qw t17 r8 (fun r18 w19=>K r8 w19) w15) w11)) w
theorem S.qO0 (k1:Option Addr) (n2:Int) (badge3:Int) (K:Int->World->Prop) (w:World) (h:S.qO k1 n2 badge3 K w):C.qO k1 n2 badge3 K w:=
 okS Tryz.func76 (.t none (.u) (.t none (.u) (.t none (.t none (.u) (.t none (.t none (.u) (.u)) (.u))) (.t none (.u) (.t none (.u) (.t none (.u) (.u))))))) [(0, .c (.i .i64))] [.pointer k1, .int .i64 n2, .int .u64 badge3] K rfl (by kernel_rfl) (by kernel_rfl) h
def S.qaI (l1:Sl) (n2:Int) (K:Bool->World->Prop) (w:World):Prop:=bif decide (n2≥(0:Int)) then (K (decide (n2<(l1.len:Int))) w) else (K false w)
theorem S.qaI0 (l1:Sl) (n2:Int) (K:Bool->World->Prop) (w:World) (h:S.qaI l1 n2 K w):C.qaI l1 n2 K w:=
 okS Tryz.func80 (.t none (.u) (.t none (.u) (.u))) [(0, .c (.b))] [.slice l1.a l1.len l1.cap, .int .i64 n2] K rfl (by kernel_rfl) (by kernel_rfl) h
def S.qcj (p1:Int) (K:Bool->World->Prop) (w:World):Prop:=bif decide (p1<(0:Int)) then (K true w) else (K (decide (p1≥(256:Int))) w)
theorem S.qcj0 (p1:Int) (K:Bool->World->Prop) (w:World) (h:S.qcj p1 K w):C.qcj p1 K w:=
 okS Tryz.func102 (.t none (.u) (.t none (.u) (.u))) [(0, .c (.b))] [.int .i64 p1] K rfl (by kernel_rfl) (by kernel_rfl) h
def S.qcp (ask1:Int) (K:Int->Int->World->Prop) (w:World):Prop:=Al w (.cells #[.int .i64 0, .int .i64 0] 213) fun w2=>Al w2 (.cells #[.int .i64 0, .int .i64 0, .int .i64 0, .int .i64 0, .int .i64 0, .int .i64 0, .int .i64 0, .int .i64 0, .int .i64 0, .int .i64 0, .int .i64 0, .int .i64 0, .int .i64 0, .int .i64 0, .int .i64 0, .int .i64 0, .int .i64 0, .int .i64 0, .int .i64 0, .int .i64 0, .int .i64 0, .int .i64 0, .int .i64 0, .int .i64 0, .int .i64 0, .int .i64 0, .int .i64 0, .int .i64 0, .int .i64 0, .int .i64 0, .int .i64 0, .int .i64 0, .int .i64 0, .int .i64 0, .int .i64 0, .int .i64 0] 307) fun w3=>StL w3 (Addr.mk w2.heap.size 0 none) 0 [.int .i64 1, .int .i64 0, .int .i64 0, .int .i64 0, .int .i64 0, .int .i64 0, .int .i64 0, .int .i64 0, .int .i64 0, .int .i64 0, .int .i64 3, .int .i64 0, .int .i64 3, .int .i64 0, .int .i64 3, .int .i64 0, .int .i64 4, .int .i64 2, .int .i64 4, .int .i64 1, .int .i64 5, .int .i64 2, .int .i64 5, .int .i64 1, .int .i64 7, .int .i64 0, .int .i64 6, .int .i64 0, .int .i64 8, .int .i64 0, .int .i64 9, .int .i64 0, .int .i64 9, .int .i64 0, .int .i64 0, .int .i64 0] fun w4=>0≤ask1/\ask1<(18:Int)/\LdL w4 ((Addr.mk w2.heap.size 0 none).add (ask1.toNat*2)) 0 [.i .i64, .i .i64] fun (t5:Int) (t6:Int)=>StL w4 (Addr.mk w.heap.size 0 none) 0 [.int .i64 t5, .int .i64 t6] fun w7=>LdL w7 (Addr.mk w.heap.size 0 none) 0 [.i .i64, .i .i64] fun (r8:Int) (r9:Int)=>K r8 r9 w7
theorem S.qcp0 (ask1:Int) (K:Int->Int->World->Prop) (w:World) (h:S.qcp ask1 K w):C.qcp ask1 K w:=
 okS Tryz.func117 (.t none (.u) (.t none (.u) (.t none (.u) (.u)))) [(0, .a [.i .i64, .i .i64])] [.int .i64 ask1] K rfl (by kernel_rfl) (by kernel_rfl) h
def S.qa (k1:Option Addr) (n2:Int) (kind3:Int) (K:Int->Int->Int->Int->Int->Int->Int->Int->Bool->World->Prop) (w:World):Prop:=Al w (.cells #[.int .i64 0, .int .i64 0] 40) fun w4=>Al w4 (.cells #[.int .i64 0, .int .i64 0, .int .i64 0, .int .u64 0, .int .u64 0, .int .i64 0] 42) fun w5=>C.qae k1 n2 (fun r6 r7 r8 w9=>Al w9 (.cells #[.int .i64 0, .int .i64 0] 40) fun w10=>StL w10 (Addr.mk w9.heap.size 0 none) 0 [.int .i64 r6, .int .i64 r7] fun w11=>∀k12:Addr->World->Prop,(∀(c13:Addr) (w14:World),(Dr w14 fun w15=>LdL w15 (Addr.mk w9.heap.size 0 none) 0 [.i .i64, .i .i64] fun (t16:Int) (t17:Int)=>bif r8 then (∃kind18,w15.cell? c13=some (.int .i64 kind18)/\bif kind18 !=(0:Int) then (bif kind3==(0:Int) then (LdL w15 c13 0 [.i .i64, .i .i64, .i .i64, .i .u64, .i .u64, .i .i64] fun (kind19:Int) (kind20:Int) (kind21:Int) (kind22:Int) (kind23:Int) (kind24:Int)=>((StL w15 (Addr.mk w.heap.size 0 none) 0 [.int .i64 t16, .int .i64 t17] fun w25=>HdL w25 c13 0 [.int .i64 kind19, .int .i64 kind20, .int .i64 kind21, .int .u64 kind22, .int .u64 kind23, .int .i64 kind24] ((StL w25 (Addr.mk w4.heap.size 0 none) 0 [.int .i64 kind19, .int .i64 kind20, .int .i64 kind21, .int .u64 kind22, .int .u64 kind23, .int .i64 kind24] fun w26=>LdL w26 (Addr.mk w.heap.size 0 none) 0 [.i .i64, .i .i64] fun (r27:Int) (r28:Int)=>LdL w26 (Addr.mk w4.heap.size 0 none) 0 [.i .i64, .i .i64, .i .i64, .i .u64, .i .u64, .i .i64] fun (r29:Int) (r30:Int) (r31:Int) (r32:Int) (r33:Int) (r34:Int)=>K r27 r28 r29 r30 r31 r32 r33 r34 true w26)/\True))/\True)/\(StL w15 (Addr.mk w.heap.size 0 none) 0 [.int .i64 t16, .int .i64 t17] fun w35=>HdL w35 c13 0 [.int .i64 kind19, .int .i64 kind20, .int .i64 kind21, .int .u64 kind22, .int .u64 kind23, .int .i64 kind24] (((StL w35 (Addr.mk w4.heap.size 0 none) 0 [.int .i64 kind19, .int .i64 kind20, .int .i64 kind21, .int .u64 kind22, .int .u64 kind23, .int .i64 kind24] fun w36=>LdL w36 (Addr.mk w.heap.size 0 none) 0 [.i .i64, .i .i64] fun (r37:Int) (r38:Int)=>LdL w36 (Addr.mk w4.heap.size 0 none) 0 [.i .i64, .i .i64, .i .i64, .i .u64, .i .u64, .i .i64] fun (r39:Int) (r40:Int) (r41:Int) (r42:Int) (r43:Int) (r44:Int)=>K r37 r38 r39 r40 r41 r42 r43 r44 true w36)/\True)/\(StL w35 (Addr.mk w4.heap.size 0 none) 0 [.int .i64 kind19, .int .i64 kind20, .int .i64 kind21, .int .u64 kind22, .int .u64 kind23, .int .i64 kind24] fun w45=>LdL w45 (Addr.mk w.heap.size 0 none) 0 [.i .i64, .i .i64] fun (r46:Int) (r47:Int)=>LdL w45 (Addr.mk w4.heap.size 0 none) 0 [.i .i64, .i .i64, .i .i64, .i .u64, .i .u64, .i .i64] fun (r48:Int) (r49:Int) (r50:Int) (r51:Int) (r52:Int) (r53:Int)=>K r46 r47 r48 r49 r50 r51 r52 r53 true w45)/\True))/\True) else (LdL w15 c13 0 [.i .i64, .i .i64, .i .i64, .i .u64, .i .u64, .i .i64] fun (kind54:Int) (kind55:Int) (kind56:Int) (kind57:Int) (kind58:Int) (kind59:Int)=>(∃kind60,w15.cell? c13=some (.int .i64 kind60)/\(StL w15 (Addr.mk w.heap.size 0 none) 0 [.int .i64 t16, .int .i64 t17] fun w61=>HdL w61 c13 0 [.int .i64 kind54, .int .i64 kind55, .int .i64 kind56, .int .u64 kind57, .int .u64 kind58, .int .i64 kind59] ((StL w61 (Addr.mk w4.heap.size 0 none) 0 [.int .i64 kind54, .int .i64 kind55, .int .i64 kind56, .int .u64 kind57, .int .u64 kind58, .int .i64 kind59] fun w62=>LdL w62 (Addr.mk w.heap.size 0 none) 0 [.i .i64, .i .i64] fun (r63:Int) (r64:Int)=>LdL w62 (Addr.mk w4.heap.size 0 none) 0 [.i .i64, .i .i64, .i .i64, .i .u64, .i .u64, .i .i64] fun (r65:Int) (r66:Int) (r67:Int) (r68:Int) (r69:Int) (r70:Int)=>K r63 r64 r65 r66 r67 r68 r69 r70 (kind60==kind3) w62)/\True))/\True)/\(StL w15 (Addr.mk w.heap.size 0 none) 0 [.int .i64 t16, .int .i64 t17] fun w71=>HdL w71 c13 0 [.int .i64 kind54, .int .i64 kind55, .int .i64 kind56, .int .u64 kind57, .int .u64 kind58, .int .i64 kind59] ((∃kind72,w71.cell? c13=some (.int .i64 kind72)/\(StL w71 (Addr.mk w4.heap.size 0 none) 0 [.int .i64 kind54, .int .i64 kind55, .int .i64 kind56, .int .u64 kind57, .int .u64 kind58, .int .i64 kind59] fun w73=>LdL w73 (Addr.mk w.heap.size 0 none) 0 [.i .i64, .i .i64] fun (r74:Int) (r75:Int)=>LdL w73 (Addr.mk w4.heap.size 0 none) 0 [.i .i64, .i .i64, .i .i64, .i .u64, .i .u64, .i .i64] fun (r76:Int) (r77:Int) (r78:Int) (r79:Int) (r80:Int) (r81:Int)=>K r74 r75 r76 r77 r78 r79 r80 r81 (kind72==kind3) w73)/\True)/\(StL w71 (Addr.mk w4.heap.size 0 none) 0 [.int .i64 kind54, .int .i64 kind55, .int .i64 kind56, .int .u64 kind57, .int .u64 kind58, .int .i64 kind59] fun w82=>∃kind83,w82.cell? c13=some (.int .i64 kind83)/\LdL w82 (Addr.mk w.heap.size 0 none) 0 [.i .i64, .i .i64] fun (r84:Int) (r85:Int)=>LdL w82 (Addr.mk w4.heap.size 0 none) 0 [.i .i64, .i .i64, .i .i64, .i .u64, .i .u64, .i .i64] fun (r86:Int) (r87:Int) (r88:Int) (r89:Int) (r90:Int) (r91:Int)=>K r84 r85 r86 r87 r88 r89 r90 r91 (kind83==kind3) w82)/\True))/\True)) else (LdL w15 c13 0 [.i .i64, .i .i64, .i .i64, .i .u64, .i .u64, .i .i64] fun (kind92:Int) (kind93:Int) (kind94:Int) (kind95:Int) (kind96:Int) (kind97:Int)=>((StL w15 (Addr.mk w.heap.size 0 none) 0 [.int .i64 t16, .int .i64 t17] fun w98=>HdL w98 c13 0 [.int .i64 kind92, .int .i64 kind93, .int .i64 kind94, .int .u64 kind95, .int .u64 kind96, .int .i64 kind97] ((StL w98 (Addr.mk w4.heap.size 0 none) 0 [.int .i64 kind92, .int .i64 kind93, .int .i64 kind94, .int .u64 kind95, .int .u64 kind96, .int .i64 kind97] fun w99=>LdL w99 (Addr.mk w.heap.size 0 none) 0 [.i .i64, .i .i64] fun (r100:Int) (r101:Int)=>LdL w99 (Addr.mk w4.heap.size 0 none) 0 [.i .i64, .i .i64, .i .i64, .i .u64, .i .u64, .i .i64] fun (r102:Int) (r103:Int) (r104:Int) (r105:Int) (r106:Int) (r107:Int)=>K r100 r101 r102 r103 r104 r105 r106 r107 false w99)/\True))/\True)/\(StL w15 (Addr.mk w.heap.size 0 none) 0 [.int .i64 t16, .int .i64 t17] fun w108=>HdL w108 c13 0 [.int .i64 kind92, .int .i64 kind93, .int .i64 kind94, .int .u64 kind95, .int .u64 kind96, .int .i64 kind97] (((StL w108 (Addr.mk w4.heap.size 0 none) 0 [.int .i64 kind92, .int .i64 kind93, .int .i64 kind94, .int .u64 kind95, .int .u64 kind96, .int .i64 kind97] fun w109=>LdL w109 (Addr.mk w.heap.size 0 none) 0 [.i .i64, .i .i64] fun (r110:Int) (r111:Int)=>LdL w109 (Addr.mk w4.heap.size 0 none) 0 [.i .i64, .i .i64, .i .i64, .i .u64, .i .u64, .i .i64] fun (r112:Int) (r113:Int) (r114:Int) (r115:Int) (r116:Int) (r117:Int)=>K r110 r111 r112 r113 r114 r115 r116 r117 false w109)/\True)/\(StL w108 (Addr.mk w4.heap.size 0 none) 0 [.int .i64 kind92, .int .i64 kind93, .int .i64 kind94, .int .u64 kind95, .int .u64 kind96, .int .i64 kind97] fun w118=>LdL w118 (Addr.mk w.heap.size 0 none) 0 [.i .i64, .i .i64] fun (r119:Int) (r120:Int)=>LdL w118 (Addr.mk w4.heap.size 0 none) 0 [.i .i64, .i .i64, .i .i64, .i .u64, .i .u64, .i .i64] fun (r121:Int) (r122:Int) (r123:Int) (r124:Int) (r125:Int) (r126:Int)=>K r119 r120 r121 r122 r123 r124 r125 r126 false w118)/\True))/\True)) else (LdL w15 c13 0 [.i .i64, .i .i64, .i .i64, .i .u64, .i .u64, .i .i64] fun (kind127:Int) (kind128:Int) (kind129:Int) (kind130:Int) (kind131:Int) (kind132:Int)=>((StL w15 (Addr.mk w.heap.size 0 none) 0 [.int .i64 t16, .int .i64 t17] fun w133=>HdL w133 c13 0 [.int .i64 kind127, .int .i64 kind128, .int .i64 kind129, .int .u64 kind130, .int .u64 kind131, .int .i64 kind132] ((StL w133 (Addr.mk w4.heap.size 0 none) 0 [.int .i64 kind127, .int .i64 kind128, .int .i64 kind129, .int .u64 kind130, .int .u64 kind131, .int .i64 kind132] fun w134=>LdL w134 (Addr.mk w.heap.size 0 none) 0 [.i .i64, .i .i64] fun (r135:Int) (r136:Int)=>LdL w134 (Addr.mk w4.heap.size 0 none) 0 [.i .i64, .i .i64, .i .i64, .i .u64, .i .u64, .i .i64] fun (r137:Int) (r138:Int) (r139:Int) (r140:Int) (r141:Int) (r142:Int)=>K r135 r136 r137 r138 r139 r140 r141 r142 false w134)/\True))/\True)/\(StL w15 (Addr.mk w.heap.size 0 none) 0 [.int .i64 t16, .int .i64 t17] fun w143=>HdL w143 c13 0 [.int .i64 kind127, .int .i64 kind128, .int .i64 kind129, .int .u64 kind130, .int .u64 kind131, .int .i64 kind132] (((StL w143 (Addr.mk w4.heap.size 0 none) 0 [.int .i64 kind127, .int .i64 kind128, .int .i64 kind129, .int .u64 kind130, .int .u64 kind131, .int .i64 kind132] fun w144=>LdL w144 (Addr.mk w.heap.size 0 none) 0 [.i .i64, .i .i64] fun (r145:Int) (r146:Int)=>LdL w144 (Addr.mk w4.heap.size 0 none) 0 [.i .i64, .i .i64, .i .i64, .i .u64, .i .u64, .i .i64] fun (r147:Int) (r148:Int) (r149:Int) (r150:Int) (r151:Int) (r152:Int)=>K r145 r146 r147 r148 r149 r150 r151 r152 false w144)/\True)/\(StL w143 (Addr.mk w4.heap.size 0 none) 0 [.int .i64 kind127, .int .i64 kind128, .int .i64 kind129, .int .u64 kind130, .int .u64 kind131, .int .i64 kind132] fun w153=>LdL w153 (Addr.mk w.heap.size 0 none) 0 [.i .i64, .i .i64] fun (r154:Int) (r155:Int)=>LdL w153 (Addr.mk w4.heap.size 0 none) 0 [.i .i64, .i .i64, .i .i64, .i .u64, .i .u64, .i .i64] fun (r156:Int) (r157:Int) (r158:Int) (r159:Int) (r160:Int) (r161:Int)=>K r154 r155 r156 r157 r158 r159 r160 r161 false w153)/\True))/\True))->k12 c13 w14)->(Dr w11 fun w162=>∃a163,k1=some a163/\∃n164,w162.cell? a163=some (.pointer n164)/\LdL w162 (Addr.mk w9.heap.size 0 none) 0 [.i .i64, .i .i64] fun (t165:Int) (t166:Int)=>(C.qL n164 t165 t166 (fun r167 r168 r169 r170 r171 r172 r173 w174=>(Al w174 (.cells #[.int .i64 0, .int .i64 0, .int .i64 0, .int .u64 0, .int .u64 0, .int .i64 0] 42) fun w175=>(StL w175 (Addr.mk w174.heap.size 0 none) 0 [.int .i64 r167, .int .i64 r168, .int .i64 r169, .int .u64 r170, .int .u64 r171, .int .i64 r172] fun w176=>k12 (Addr.mk w174.heap.size 0 none) w176)/\True)/\True) w162)/\(Al w162 (.cells #[.int .i64 0, .int .i64 0, .int .i64 0, .int .u64 0, .int .u64 0, .int .i64 0] 42) fun w177=>(C.qL n164 t165 t166 (fun r178 r179 r180 r181 r182 r183 r184 w185=>(StL w185 (Addr.mk w162.heap.size 0 none) 0 [.int .i64 r178, .int .i64 r179, .int .i64 r180, .int .u64 r181, .int .u64 r182, .int .i64 r183] fun w186=>k12 (Addr.mk w162.heap.size 0 none) w186)/\True) w177)/\True)/\True)) w5
theorem S.qa0 (k1:Option Addr) (n2:Int) (kind3:Int) (K:Int->Int->Int->Int->Int->Int->Int->Int->Bool->World->Prop) (w:World) (h:S.qa k1 n2 kind3 K w):C.qa k1 n2 kind3 K w:=
 okS Tryz.func118 (.t none (.u) (.t none (.u) (.t none (.r (some [(11, .c (.q))]) (.one 0 528 (.one 1 528 (.one 2 528 (.one 3 528 (.one 4 512 (.alt 5 (.one 6 512 (.one 7 768 (.one 8 1536 (.alt 9 (.alt 10 (.one 11 0 (.done)) (.none)) (.none))))) (.alt 9 (.alt 5 (.one 6 0 (.one 7 256 (.one 8 1024 (.alt 10 (.one 11 0 (.done)) (.none))))) (.none)) (.none))))))))) (.t none (.r none (.one 0 262142 (.one 2 2 (.one 3 2 (.one 4 2 (.one 5 2 (.one 6 2 (.one 7 2 (.one 8 2 (.one 9 2 (.one 10 2 (.one 11 2 (.one 12 802818 (.one 14 794626 (.hold 1 499712 1572863 (.alt 13 (.one 15 786432 (.one 16 786432 (.one 17 786432 (.alt 18 (.alt 19 (.one 20 0 (.done)) (.none)) (.none))))) (.alt 18 (.alt 13 (.one 15 524288 (.one 16 524288 (.one 17 524288 (.alt 19 (.one 20 0 (.done)) (.none))))) (.alt 19 (.one 13 0 (.one 15 0 (.one 16 0 (.one 17 0 (.one 20 0 (.done)))))) (.none))) (.none)))))))))))))))))) (.u))))) [(0, .a [.i .i64, .i .i64]),(1, .a [.i .i64, .i .i64, .i .i64, .i .u64, .i .u64, .i .i64]),(2, .c (.b))] [.pointer k1, .int .i64 n2, .int .i64 kind3] K rfl (by kernel_rfl) (by kernel_rfl) h
def S.qay (d1:Option Addr) (K:Int->World->Prop) (w:World):Prop:=∃a2,d1=some a2/\LdL w (a2.add 3) 0 [.i .i64, .i .i64, .i .i64, .i .i64, .i .i64, .i .i64] fun (call3:Int) (call4:Int) (call5:Int) (call6:Int) (call7:Int) (call8:Int)=>Al w (.cells #[.int .i64 0, .int .i64 0, .int .i64 0, .int .i64 0, .int .i64 0, .int .i64 0] 37) fun w9=>StL w9 (Addr.mk w.heap.size 0 none) 0 [.int .i64 call3, .int .i64 call4, .int .i64 call5, .int .i64 call6, .int .i64 call7, .int .i64 call8] fun w10=>∀k11:Sl->Addr->Int->World->Prop,(∀(at12:Sl) (left13:Addr) (e14:Int) (w15:World),(bif e14 !=(0:Int) then (K e14 w15) else (∃c16,w15.cell? ((Addr.mk w.heap.size 0 none).add 5)=some (.int .i64 c16)/\C.qam d1 c16 (fun r17 r18 w19=>bif r18 !=(0:Int) then (K r18 w19) else (∀k20:Bool->World->Prop,(∀(t21:Bool) (w22:World),(bif t21 then (K (2:Int) w22) else (Dr w22 fun w23=>∃a24,d1=some a24/\∃kernel25,w23.cell? a24=some (.pointer kernel25)/\∃a26,kernel25=some a26/\∃u27:Sl,w23.cell? (a26.add 4)=some (.slice u27.a u27.len u27.cap)/\∃a28,d1=some a28/\∃obj29,w23.cell? ((a28.add 11).add 1)=some (.int .i64 obj29)/\LdL w23 left13 0 [.i .u64, .i .i64, .i .u64] fun (t30:Int) (t31:Int) (t32:Int)=>∃a33,u27.a=some a33/\0≤obj29/\obj29<(u27.len:Int)/\(StL w23 (a33.add (obj29.toNat*3)) 0 [.int .u64 t30, .int .i64 t31, .int .u64 t32] fun w34=>∀l35:Int->World->Prop,(∀(t36:Int) (w37:World),(bif decide (t36<(r17.len:Int)) then (∃a38,r17.a=some a38/\0≤t36/\t36<(r17.len:Int)/\LdL w37 (a38.add (t36.toNat*2)) 0 [.i .i64, .i .i64] fun (t39:Int) (t40:Int)=>Al w37 (.cells #[.int .i64 0, .int .i64 0] 40) fun w41=>StL w41 (Addr.mk w37.heap.size 0 none) 0 [.int .i64 t39, .int .i64 t40] fun w42=>Dr w42 fun w43=>∃a44,at12.a=some a44/\0≤t36/\t36<(at12.len:Int)/\∃t45,w43.cell? (a44.add (t36.toNat*1))=some (.int .u64 t45)/\LdL w43 (Addr.mk w37.heap.size 0 none) 0 [.i .i64, .i .i64] fun (t46:Int) (t47:Int)=>∃a48,w43.cell? ((Addr.mk w.heap.size 0 none).add 3)=some (.int .i64 a48)/\(C.qbj d1 t45 (fun r49 w50=>w50.cell? ((Addr.mk w.heap.size 0 none).add 3)=some (.int .i64 a48)/\HdL w50 (Addr.mk w37.heap.size 0 none) 0 [.int .i64 t46, .int .i64 t47] ((C.qaF d1 t46 t47 a48 r49 (7:Int) (0:Int) (0:Int) (0:Int) (fun w51=>l35 (IntKind.i64.wrap (t36+(1:Int))) w51) w50)/\True)) w43)/\True) else (K (0:Int) w37))->l35 t36 w37)->l35 (0:Int) w34)/\True))->k20 t21 w22)->(Dr w19 fun w52=>∃a53,w52.cell? ((Addr.mk w.heap.size 0 none).add 3)=some (.int .i64 a53)/\bif a53==(2:Int) then (∃a54,d1=some a54/\∃kernel55,w52.cell? a54=some (.pointer kernel55)/\∃a56,kernel55=some a56/\∃nodes57,w52.cell? (a56.add 10)=some (.int .i64 nodes57)/\∃c58,w52.cell? ((Addr.mk w.heap.size 0 none).add 5)=some (.int .i64 c58)/\bif decide ((IntKind.i64.wrap (nodes57+c58))>(64:Int)) then (k20 true w52) else (∃a59,w52.cell? ((Addr.mk w.heap.size 0 none).add 3)=some (.int .i64 a59)/\bif a59==(3:Int) then (∃a60,d1=some a60/\∃kernel61,w52.cell? a60=some (.pointer kernel61)/\∃a62,kernel61=some a62/\∃threads63,w52.cell? (a62.add 11)=some (.int .i64 threads63)/\∃c64,w52.cell? ((Addr.mk w.heap.size 0 none).add 5)=some (.int .i64 c64)/\k20 (decide ((IntKind.i64.wrap (threads63+c64))>(64:Int))) w52) else (k20 false w52))) else (∃a65,w52.cell? ((Addr.mk w.heap.size 0 none).add 3)=some (.int .i64 a65)/\bif a65==(3:Int) then (∃a66,d1=some a66/\∃kernel67,w52.cell? a66=some (.pointer kernel67)/\∃a68,kernel67=some a68/\∃threads69,w52.cell? (a68.add 11)=some (.int .i64 threads69)/\∃c70,w52.cell? ((Addr.mk w.heap.size 0 none).add 5)=some (.int .i64 c70)/\k20 (decide ((IntKind.i64.wrap (threads69+c70))>(64:Int))) w52) else (k20 false w52))))) w15))->k11 at12 left13 e14 w15)->(Dr w10 fun w71=>∃a72,d1=some a72/\∃kernel73,w71.cell? a72=some (.pointer kernel73)/\∃a74,kernel73=some a74/\∃u75:Sl,w71.cell? (a74.add 4)=some (.slice u75.a u75.len u75.cap)/\∃a76,d1=some a76/\∃obj77,w71.cell? ((a76.add 11).add 1)=some (.int .i64 obj77)/\∃a78,u75.a=some a78/\0≤obj77/\obj77<(u75.len:Int)/\LdL w71 (a78.add (obj77.toNat*3)) 0 [.i .u64, .i .i64, .i .u64] fun (t79:Int) (t80:Int) (t81:Int)=>∃a82,w71.cell? ((Addr.mk w.heap.size 0 none).add 3)=some (.int .i64 a82)/\∃b83,w71.cell? ((Addr.mk w.heap.size 0 none).add 4)=some (.int .i64 b83)/\∃c84,w71.cell? ((Addr.mk w.heap.size 0 none).add 5)=some (.int .i64 c84)/\(C.qbM t79 t80 t81 a82 b83 c84 (fun r85 r86 r87 r88 r89 w90=>(Al w90 (.cells #[.int .u64 0, .int .i64 0, .int .u64 0] 86) fun w91=>(StL w91 (Addr.mk w90.heap.size 0 none) 0 [.int .u64 r86, .int .i64 r87, .int .u64 r88] fun w92=>k11 r85 (Addr.mk w90.heap.size 0 none) r89 w92)/\True)/\True) w71)/\(Al w71 (.cells #[.int .u64 0, .int .i64 0, .int .u64 0] 86) fun w93=>(C.qbM t79 t80 t81 a82 b83 c84 (fun r94 r95 r96 r97 r98 w99=>(StL w99 (Addr.mk w71.heap.size 0 none) 0 [.int .u64 r95, .int .i64 r96, .int .u64 r97] fun w100=>k11 r94 (Addr.mk w71.heap.size 0 none) r98 w100)/\True) w93)/\True)/\True)
theorem S.qay0 (d1:Option Addr) (K:Int->World->Prop) (w:World) (h:S.qay d1 K w):C.qay d1 K w:=
 okS Tryz.func119 (.t none (.u) (.t none (.u) (.t none (.r (some [(4, .c (.s)),(5, .c (.q)),(6, .c (.i .i64))]) (.one 0 34590592 (.one 1 34590592 (.one 2 34590592 (.one 3 34590592 (.one 4 34590592 (.one 5 34590592 (.one 6 34590592 (.one 7 34586624 (.one 8 34586624 (.one 9 34586624 (.one 10 34586624 (.one 11 34586624 (.one 12 34586624 (.one 13 34586624 (.one 14 34537472 (.one 15 34537472 (.one 16 34340864 (.one 17 34340864 (.one 18 33554432 (.one 19 33554432 (.alt 20 (.one 21 33554432 (.one 22 58720256 (.one 23 117440512 (.one 24 234881024 (.alt 25 (.one 26 0 (.alt 27 (.one 28 0 (.done)) (.none))) (.none)))))) (.alt 25 (.alt 20 (.one 21 0 (.one 22 25165824 (.one 23 83886080 (.one 24 201326592 (.one 26 0 (.alt 27 (.one 28 0 (.done)) (.none))))))) (.none)) (.none)))))))))))))))))))))))) (.t none (.t none (.u) (.t none (.t none (.u) (.u)) (.u))) (.t none (.u) (.t none (.t none (.u) (.t none (.t none (.u) (.u)) (.u))) (.t none (.t none (.r (some [(85, .c (.b))]) (.one 0 0 (.one 1 0 (.one 2 0 (.one 3 0 (.one 4 6144 (.one 5 6144 (.one 6 6144 (.one 7 6144 (.one 8 6144 (.one 9 6144 (.one 10 6144 (.one 11 0 (.one 12 0 (.one 13 0 (.one 14 0 (.one 15 0 (.one 16 0 (.one 17 0 (.one 18 0 (.one 19 0 (.one 20 0 (.one 21 805306368 (.one 22 805306368 (.one 23 805306368 (.one 24 805306368 (.one 25 805306368 (.one 26 805306368 (.one 27 805306368 (.one 28 0 (.one 29 0 (.one 30 0 (.one 31 0 (.one 32 0 (.one 33 0 (.done)))))))))))))))))))))))))))))))))))) (.t none (.t none (.u) (.u)) (.u))) (.t none (.r none (.one 0 8064 (.one 1 8064 (.one 2 8064 (.one 3 8064 (.one 4 8064 (.one 5 8064 (.one 6 8064 (.one 7 4096 (.one 8 4096 (.one 9 4096 (.one 10 4096 (.one 11 4096 (.one 12 0 (.one 13 0 (.alt 14 (.done) (.none))))))))))))))))) (.t none (.t none (.u) (.t none (.t (some [(102, .c (.i .i64))]) (.t none (.u) (.t none (.t none (.u) (.u)) (.t none (.t none (.t none (.u) (.r none (.one 0 2046 (.one 2 1010 (.one 4 490 (.one 5 74 (.one 6 10 (.one 7 10 (.one 8 10 (.hold 1 1544 2047 (.hold 3 512 2047 (.alt 9 (.one 10 0 (.alt 11 (.done) (.none))) (.none))))))))))))) (.u)) (.u)))) (.u)) (.u))) (.t none (.u) (.u))))))))))) [(0, .c (.i .i64))] [.pointer d1] K rfl (by kernel_rfl) (by kernel_rfl) h
def S.qbc (d1:Option Addr) (K:Int->World->Prop) (w:World):Prop:=∃a2,d1=some a2/\∃kind3,w.cell? (a2.add 11)=some (.int .i64 kind3)/\bif kind3==(1:Int) then (K (181:Int) w) else (C.qam d1 (1:Int) (fun r4 r5 w6=>bif r5 !=(0:Int) then (K r5 w6) else (∀k7:Int->Addr->World->Prop,(∀(e8:Int) (c9:Addr) (w10:World),(bif e8 !=(0:Int) then (K e8 w10) else (Dr w10 fun w11=>∃a12,r4.a=some a12/\0≤(0:Int)/\(0:Int)<(r4.len:Int)/\LdL w11 (a12.add ((0:Int).toNat*2)) 0 [.i .i64, .i .i64] fun (t13:Int) (t14:Int)=>LdL w11 c9 0 [.i .i64, .i .i64, .i .i64, .i .u64, .i .u64, .i .i64] fun (t15:Int) (t16:Int) (t17:Int) (t18:Int) (t19:Int) (t20:Int)=>(C.qaF d1 t13 t14 t15 t16 t17 t18 t19 t20 (fun w21=>K (0:Int) w21) w11)/\True))->k7 e8 c9 w10)->(Dr w6 fun w22=>∃a23,d1=some a23/\LdL w22 (a23.add 11) 0 [.i .i64, .i .i64, .i .i64, .i .u64, .i .u64, .i .i64] fun (c24:Int) (c25:Int) (c26:Int) (c27:Int) (c28:Int) (c29:Int)=>∃a30,d1=some a30/\∃a31,w22.cell? ((a30.add 3).add 3)=some (.int .i64 a31)/\∃a32,d1=some a32/\∃b33,w22.cell? ((a32.add 3).add 4)=some (.int .i64 b33)/\(C.qcB c24 c25 c26 c27 c28 c29 a31 (IntKind.u64.wrap b33) (fun r34 r35 r36 r37 r38 r39 r40 w41=>(Al w41 (.cells #[.int .i64 0, .int .i64 0, .int .i64 0, .int .u64 0, .int .u64 0, .int .i64 0] 42) fun w42=>(StL w42 (Addr.mk w41.heap.size 0 none) 0 [.int .i64 r34, .int .i64 r35, .int .i64 r36, .int .u64 r37, .int .u64 r38, .int .i64 r39] fun w43=>k7 r40 (Addr.mk w41.heap.size 0 none) w43)/\True)/\True) w22)/\(Al w22 (.cells #[.int .i64 0, .int .i64 0, .int .i64 0, .int .u64 0, .int .u64 0, .int .i64 0] 42) fun w44=>(C.qcB c24 c25 c26 c27 c28 c29 a31 (IntKind.u64.wrap b33) (fun r45 r46 r47 r48 r49 r50 r51 w52=>(StL w52 (Addr.mk w22.heap.size 0 none) 0 [.int .i64 r45, .int .i64 r46, .int .i64 r47, .int .u64 r48, .int .u64 r49, .int .i64 r50] fun w53=>k7 r51 (Addr.mk w22.heap.size 0 none) w53)/\True) w44)/\True)/\True))) w)
theorem S.qbc0 (d1:Option Addr) (K:Int->World->Prop) (w:World) (h:S.qbc d1 K w):C.qbc d1 K w:=
 okS Tryz.func120 (.t none (.u) (.t none (.t none (.u) (.t none (.t none (.u) (.u)) (.u))) (.t none (.u) (.t none (.t none (.u) (.t none (.t none (.u) (.u)) (.u))) (.t none (.r (some [(4, .c (.i .i64)),(5, .c (.q))]) (.one 0 557040 (.one 1 557040 (.one 2 557040 (.one 3 557040 (.one 4 556544 (.one 5 556544 (.one 6 556544 (.one 7 556544 (.one 8 556544 (.one 9 524288 (.one 10 524288 (.one 11 524288 (.one 12 524288 (.one 13 524288 (.one 14 524288 (.alt 15 (.one 16 524288 (.one 17 786432 (.one 18 1572864 (.alt 19 (.alt 20 (.one 21 0 (.done)) (.none)) (.none))))) (.alt 19 (.alt 15 (.one 16 0 (.one 17 262144 (.one 18 1048576 (.alt 20 (.one 21 0 (.done)) (.none))))) (.none)) (.none))))))))))))))))))) (.t none (.t none (.u) (.t none (.t none (.u) (.u)) (.u))) (.t none (.r none (.one 0 30 (.one 1 16 (.one 2 16 (.one 3 16 (.one 4 0 (.alt 5 (.done) (.none)))))))) (.t none (.u) (.u))))))))) [(0, .c (.i .i64))] [.pointer d1] K rfl (by kernel_rfl) (by kernel_rfl) h
def S.qbd (d1:Option Addr) (K:Int->World->Prop) (w:World):Prop:=C.qam d1 (1:Int) (fun r2 r3 w4=>bif r3 !=(0:Int) then (K r3 w4) else (Dr w4 fun w5=>∃a6,d1=some a6/\∃kernel7,w5.cell? a6=some (.pointer kernel7)/\∃a8,kernel7=some a8/\∃n9,w5.cell? a8=some (.pointer n9)/\∃a10,d1=some a10/\LdL w5 (a10.add 9) 0 [.i .i64, .i .i64] fun (s11:Int) (s12:Int)=>∃a13,r2.a=some a13/\0≤(0:Int)/\(0:Int)<(r2.len:Int)/\LdL w5 (a13.add ((0:Int).toNat*2)) 0 [.i .i64, .i .i64] fun (t14:Int) (t15:Int)=>(C.qbw n9 s11 s12 t14 t15 (fun r16 w17=>Dr w17 fun w18=>∃a19,d1=some a19/\∃kernel20,w18.cell? a19=some (.pointer kernel20)/\∃a21,kernel20=some a21/\∃tr22,w18.cell? (a21.add 1)=some (.pointer tr22)/\∃a23,d1=some a23/\LdL w18 (a23.add 9) 0 [.i .i64, .i .i64] fun (s24:Int) (s25:Int)=>∃a26,r2.a=some a26/\0≤(0:Int)/\(0:Int)<(r2.len:Int)/\LdL w18 (a26.add ((0:Int).toNat*2)) 0 [.i .i64, .i .i64] fun (t27:Int) (t28:Int)=>(C.qbS tr22 s24 s25 t27 t28 (fun r29 w30=>K (0:Int) w30) w18)/\True) w5)/\True)) w
theorem S.qbd0 (d1:Option Addr) (K:Int->World->Prop) (w:World) (h:S.qbd d1 K w):C.qbd d1 K w:=
 okS Tryz.func121 (.t none (.u) (.t none (.u) (.t none (.t none (.u) (.t none (.t none (.u) (.u)) (.u))) (.t none (.r none (.one 0 16256 (.one 1 16256 (.one 2 16256 (.one 3 16256 (.one 4 16256 (.one 5 16256 (.one 6 16256 (.one 7 14336 (.one 8 14336 (.one 9 14336 (.one 10 14336 (.one 11 0 (.one 12 0 (.one 13 0 (.alt 14 (.done) (.none))))))))))))))))) (.t none (.r none (.one 0 16256 (.one 1 16256 (.one 2 16256 (.one 3 16256 (.one 4 16256 (.one 5 16256 (.one 6 16256 (.one 7 14336 (.one 8 14336 (.one 9 14336 (.one 10 14336 (.one 11 0 (.one 12 0 (.one 13 0 (.alt 14 (.done) (.none))))))))))))))))) (.t none (.u) (.u))))))) [(0, .c (.i .i64))] [.pointer d1] K rfl (by kernel_rfl) (by kernel_rfl) h
def S.qaz (d1:Option Addr) (K:Int->World->Prop) (w:World):Prop:=∃a2,d1=some a2/\∃at3,w.cell? ((a2.add 3).add 1)=some (.int .i64 at3)/\bif at3==(0:Int) then (K (181:Int) w) else (∃a4,d1=some a4/\LdL w (a4.add 9) 0 [.i .i64, .i .i64] fun (s5:Int) (s6:Int)=>C.qaG d1 s5 s6 (fun w7=>K (0:Int) w7) w)
theorem S.qaz0 (d1:Option Addr) (K:Int->World->Prop) (w:World) (h:S.qaz d1 K w):C.qaz d1 K w:=
 okS Tryz.func122 (.t none (.u) (.t none (.t none (.u) (.t none (.t none (.u) (.u)) (.u))) (.t none (.u) (.t none (.u) (.u))))) [(0, .c (.i .i64))] [.pointer d1] K rfl (by kernel_rfl) (by kernel_rfl) h
end Go.Proofs.YtogmbmdbgkopjaaGreat
end
section
set_option maxRecDepth 8000
namespace Go.Proofs.YtogmbmdbgkopjaaGreat
open Go Go.Vc Go.Proofs
structure Ln where
 is:Int
 note:Int
 badge:Int
deriving DecidableEq
def lnE:EncT Ln:=⟨3,fun o=>[.int .i64 o.is, .int .i64 o.note, .int .u64 o.badge],fun _=>rfl,fun x v h=>by
 simp only[List.mem_cons,List.not_mem_nil,or_false] at h;rcases h with rfl|rfl|rfl<;>rfl,by decide⟩
abbrev Lns:=List Ln
def lnAt (l:Lns) (n:Int):Option Ln:=if n<0 then none else l[n.toNat]?
def bindL (l:Lns) (n note badge:Int):Int × Lns:=match lnAt l n with
 |none=>(130,l)
 |some x=>if note<0 then (1,l) else if x.is≠0 then (131,l) else (0,l.set n.toNat ⟨1,note,badge⟩)
def raiseL (l:Lns) (n:Int):(Option (Int × Int)× Int)× Lns:=match lnAt l n with
 |none=>((none,130),l)
 |some x=>if x.is=1 then ((some (x.note,x.badge),0),l.set n.toNat { x with is:=2})
  else if x.is=2∨x.is=3 then ((none,0),l.set n.toNat { x with is:=3}) else ((none,0),l)
def ackL (l:Lns) (n:Int):(Option (Int × Int)× Int)× Lns:=match lnAt l n with
 |none=>((none,130),l)
 |some x=>if x.is=3 then ((some (x.note,x.badge),0),l.set n.toNat { x with is:=2})
  else if x.is=2 then ((none,0),l.set n.toNat { x with is:=1}) else ((none,0),l)
def LinesA (b:Nat) (l:Lns):Asn:=ExA fun s:Sl=>StarA [BlkA b [.slice s.a s.len s.cap],SlT lnE s l]
section
variable {B:Nat} {w0 w:World} {L:List Asn} {α:Type} {E:EncT α}
theorem _root_.Go.Vc.Own.elt0 {s:Sl} {xs:List α} [I:SlIn s L α E xs] {i:Int} {j:Nat} {x:α} {a:Addr} (h:Own B w0 w L) (hij:i=(j:Int)) (hj:xs[j]?=some x) (ha:s.a=some a):
  ∀v,(E.enc x)[0]?=some v->w.cell? (a.add (i.toNat*E.z))=some v:=by
 obtain ⟨a',ha',_,_,g⟩:=h.ixc (s:=s) (G:=fun a=>∀v,(E.enc x)[0]?=some v->w.cell? (a.add (i.toNat*E.z))=some v) hij hj (fun a _ h1 h2=>h1);rw[ha] at ha';cases ha';exact g
theorem _root_.Go.Vc.Own.eltc {s:Sl} {xs:List α} [I:SlIn s L α E xs] {i:Int} {j:Nat} {x:α} {a:Addr} (h:Own B w0 w L) (hij:i=(j:Int)) (hj:xs[j]?=some x) (ha:s.a=some a):
  ∀c v,(E.enc x)[c]?=some v->w.cell? ((a.add (i.toNat*E.z)).add c)=some v:=by
 obtain ⟨a',ha',_,_,g⟩:=h.ixc (s:=s) (G:=fun a=>∀c v,(E.enc x)[c]?=some v->w.cell? ((a.add (i.toNat*E.z)).add c)=some v) hij hj (fun a _ h1 h2=>h2);rw[ha] at ha';cases ha';exact g
end
section
variable {B:Nat} {w0 w:World} {R L:List Asn} {b:Nat} {l:Lns}
theorem _root_.Go.Vc.Own.lines (h:Own B w0 w (LinesA b l::R)):∃s:Sl,Own B w0 w (BlkA b [.slice s.a s.len s.cap]::SlT lnE s l::R):=by
 obtain ⟨s,h⟩:=h.ex;exact ⟨s,h.star⟩
theorem _root_.Go.Vc.Own.mk_lines {s:Sl} (h:Own B w0 w (BlkA b [.slice s.a s.len s.cap]::SlT lnE s l::R)):Own B w0 w (LinesA b l::R):=Own.mk_ex s (Own.mk_star h)
theorem mk_lns {L:List Asn} {n:Int} {k:Sl->World->Prop} (h:Own B w0 w L) (h0:0≤n) (hn:n≤1000000) (hk:∀s' w',s'.len=n.toNat->Own B w0 w' (SlT lnE s' (List.replicate n.toNat ⟨0,0,0⟩)::L)->k s' w'):
  ∃s' w',MkSlR Tryz.prog 198 (.int .i64 n) (.int .i64 n) w s' w'/\k s' w':=
 Own.mkSl (E:=lnE) (z0:=⟨0,0,0⟩) Tryz.underlying198 (show Tryz.prog.info? 246=some Tryz.t246 from by kernel_rfl) (zv:= .agg ⟨lnE.enc ⟨0,0,0⟩⟩) (by kernel_rfl) (by kernel_rfl) rfl h h0 (by
  have e:Tryz.t246.bytes=24:=by kernel_rfl
  rw[e];omega) (by omega) hk
theorem irq_New_spec {K:Option Addr->Int->World->Prop} (h:Own B w0 w R) (hK:∀b w',Own B w0 w' (LinesA b (List.replicate 8 ⟨0,0,0⟩)::R)->K (some ⟨b,0,none⟩) 0 w'):C.qcP 8 K w:=by
 apply S.qcP0;unfold S.qcP;intro k2 hk2;refine cdecF (by decide) ?_;rw[show decide ((8:Int)>64)=false from by decide];apply hk2;refine cbF rfl ?_;refine mk_lns h (by decide) (by decide) fun s w hl h=>?_
 refine h.al fun w1 h=>?_
 exact hK _ w1 (Own.mk_lines (s:=s) h)
theorem irq_one_spec {n:Int} {K:Option Addr->World->Prop} {s:Sl} (h:Own B w0 w (BlkA b [.slice s.a s.len s.cap]::SlT lnE s l::R)) (h1:lnAt l n=none->K none w)
  (h2:∀x a,lnAt l n=some x->s.a=some a->0≤n->n<(l.length:Int)->l[n.toNat]?=some x->K (some (a.add (n.toNat*3))) w):C.qbA (some ⟨b,0,none⟩) n K w:=by
 apply S.qbA0;unfold S.qbA;have hlen:=h.lenc s;intro k3 hk3;refine cdec (fun e=>?_) (fun e=>?_)
 ·apply hk3
  refine cbT rfl (h1 ?_);unfold lnAt;rw[if_pos e]
 refine ⟨_,rfl,s,h.ldc rfl, ?_⟩;apply hk3;by_cases e2:(l.length:Int)≤n
 ·rw[decide_eq_true (by omega)]
  refine cbT rfl (h1 ?_);unfold lnAt;rw[if_neg e,List.getElem?_eq_none (by omega)]
 ·rw[decide_eq_false (by omega)]
  refine cbF rfl ?_;have hx:l[n.toNat]?=some l[n.toNat]:=gE (by omega);refine ⟨_,rfl,s,h.ldc rfl, ?_⟩;refine h.ixc (s:=s) (i:=n) (j:=n.toNat) (by omega) hx fun a ha hc0 hc=>?_
  exact h2 _ a (by unfold lnAt;rw[if_neg e];exact hx) ha (by omega) (by omega) hx
theorem irq_Bind_spec {n note g:Int} {K:Int->World->Prop} (h:Own B w0 w (LinesA b l::R)) (hK:∀w',Own B w0 w' (LinesA b (bindL l n note g).2::R)->K (bindL l n note g).1 w'):C.qbT (some ⟨b,0,none⟩) n note g K w:=by
 apply S.qbT0;unfold S.qbT;obtain ⟨s,h⟩:=h.lines;unfold bindL at hK;refine irq_one_spec h (fun e=>?_) (fun x a e ha h0 hlt hx=>?_)
 ·rw[e] at hK
  exact cbT rfl (hK _ (Own.mk_lines (s:=s) h))
 ·rw[e] at hK
  dsimp only at hK;refine cbF rfl ?_;refine cdec (fun e1=>?_) (fun e1=>?_)
  ·rw[if_pos e1] at hK
   exact hK _ (Own.mk_lines (s:=s) h)
  rw[if_neg e1] at hK;have hc:=h.up1.elt0 (s:=s) (i:=n) (j:=n.toNat) (by omega) hx ha;refine ⟨_,rfl,x.is,hc _ rfl, ?_⟩;refine cne (fun e2=>?_) (fun e2=>?_)
  ·rw[if_pos e2] at hK
   exact hK _ (Own.mk_lines (s:=s) h)
  ·rw[if_neg (by omega)] at hK
   refine ⟨_,rfl, ?_⟩;refine h.stELc (s:=s) (xs:=l) (i:=n) (j:=n.toNat) ⟨1,note,g⟩ (by omega) (by omega) ha fun w h=>?_
   exact hK _ (Own.mk_lines (s:=s) h.up1)
end
section
variable {B:Nat} {w0 w:World} {R L:List Asn} {b:Nat} {l:Lns}
theorem lnAt_get {n:Int} {x:Ln} (h:lnAt l n=some x):0≤n/\l[n.toNat]?=some x:=by
 unfold lnAt at h;split at h
 ·cases h
 ·exact ⟨by omega,h⟩
theorem stLn {s:Sl} {n:Int} {x:Ln} {a:Addr} {v:Int} {k:World->Prop} (h:Own B w0 w (BlkA b [.slice s.a s.len s.cap]::SlT lnE s l::R)) (h0:0≤n) (hx:l[n.toNat]?=some x) (ha:s.a=some a)
  (hk:∀w',Own B w0 w' (BlkA b [.slice s.a s.len s.cap]::SlT lnE s (l.set n.toNat { x with is:=v})::R)->k w'):St w (a.add (n.toNat*3)) (.int .i64 v) k:=by
 have e:(a.add (n.toNat*3))=(a.add (n.toNat*3)).add 0:=by
  rw[Addr.add_add];rfl
 rw[e];exact h.stFc (s:=s) (i:=n) (j:=n.toNat) (c:=0) { x with is:=v} (by omega) hx ha rfl (by decide) rfl fun w h=>hk w h.up1
theorem irq_Raise_spec {n:Int} {K:Int->Int->Bool->Int->World->Prop} (h:Own B w0 w (LinesA b l::R))
  (hK:∀w',Own B w0 w' (LinesA b (raiseL l n).2::R)->K ((raiseL l n).1.1.getD (0,0)).1 ((raiseL l n).1.1.getD (0,0)).2 (raiseL l n).1.1.isSome (raiseL l n).1.2 w'):C.qbD (some ⟨b,0,none⟩) n K w:=by
 apply S.qbD0;unfold S.qbD;obtain ⟨s,h⟩:=h.lines;unfold raiseL at hK;refine irq_one_spec h (fun e=>?_) (fun x a e ha h0 hlt hx=>?_)
 ·rw[e] at hK
  exact cbT rfl (hK _ (Own.mk_lines (s:=s) h))
 ·rw[e] at hK
  dsimp only at hK;refine cbF rfl ?_;have hc:=h.up1.elt0 (s:=s) (i:=n) (j:=n.toNat) (by omega) hx ha;refine ⟨_,rfl,x.is,hc _ rfl, ?_⟩;intro k7 hk7
  have again:x.is=2∨x.is=3->∀w,Own B w0 w (BlkA b [.slice s.a s.len s.cap]::SlT lnE s l::R)->k7 w:=fun e2 w h=>by
   apply hk7;refine ⟨_,rfl, ?_⟩;refine stLn h h0 hx ha fun w h=>?_
   rw[if_neg (by omega),if_pos e2] at hK;exact hK w (Own.mk_lines (s:=s) h)
  refine ceq (fun e1=>?_) (fun e1=>?_)
  ·rw[if_pos e1] at hK
   refine ⟨_,rfl, ?_⟩;refine stLn h h0 hx ha fun w h=>?_
   refine h.dr fun w h=>?_
   have hc:=h.up1.eltc (s:=s) (i:=n) (j:=n.toNat) (x:={ x with is:=2}) (by omega) (by rw[List.getElem?_set_self (by omega)]) ha;exact ⟨_,rfl,_,hc 1 _ rfl,_,rfl,_,hc 2 _ rfl,hK w (Own.mk_lines (s:=s) h)⟩
  refine ceq (fun e2=>?_) (fun e2=>?_)
  ·exact again (.inl e2) _ h
  refine ceq (fun e3=>?_) (fun e3=>?_)
  ·exact again (.inr e3) _ h
  ·rw[if_neg e1,if_neg (by omega)] at hK
   exact hK _ (Own.mk_lines (s:=s) h)
theorem irq_Ack_spec {n:Int} {K:Int->Int->Bool->Int->World->Prop} (h:Own B w0 w (LinesA b l::R))
  (hK:∀w',Own B w0 w' (LinesA b (ackL l n).2::R)->K ((ackL l n).1.1.getD (0,0)).1 ((ackL l n).1.1.getD (0,0)).2 (ackL l n).1.1.isSome (ackL l n).1.2 w'):C.qcf (some ⟨b,0,none⟩) n K w:=by
 apply S.qcf0;unfold S.qcf;obtain ⟨s,h⟩:=h.lines;unfold ackL at hK;refine irq_one_spec h (fun e=>?_) (fun x a e ha h0 hlt hx=>?_)
 ·rw[e] at hK
  exact cbT rfl (hK _ (Own.mk_lines (s:=s) h))
 ·rw[e] at hK
  dsimp only at hK;refine cbF rfl ?_;have hc:=h.up1.elt0 (s:=s) (i:=n) (j:=n.toNat) (by omega) hx ha;refine ⟨_,rfl,x.is,hc _ rfl, ?_⟩;refine ceq (fun e1=>?_) (fun e1=>?_)
  ·rw[if_pos e1] at hK
   refine ⟨_,rfl, ?_⟩;refine stLn h h0 hx ha fun w h=>?_
   refine h.dr fun w h=>?_
   have hc:=h.up1.eltc (s:=s) (i:=n) (j:=n.toNat) (x:={ x with is:=2}) (by omega) (by rw[List.getElem?_set_self (by omega)]) ha;exact ⟨_,rfl,_,hc 1 _ rfl,_,rfl,_,hc 2 _ rfl,hK w (Own.mk_lines (s:=s) h)⟩
  refine ceq (fun e2=>?_) (fun e2=>?_)
  ·rw[if_neg e1,if_pos e2] at hK
   refine ⟨_,rfl, ?_⟩;refine stLn h h0 hx ha fun w h=>?_
   exact hK w (Own.mk_lines (s:=s) h)
  ·rw[if_neg e1,if_neg e2] at hK
   exact hK _ (Own.mk_lines (s:=s) h)
end
end Go.Proofs.YtogmbmdbgkopjaaGreat
end
section
set_option maxRecDepth 8000
namespace Go.Proofs.YtogmbmdbgkopjaaGreat.Sl
open Go Go.Vc Go.Proofs
def heldE:EncT (Slot × Cap):=⟨8,fun p=>[.int .i64 p.1.1, .int .i64 p.1.2, .int .i64 p.2.kind, .int .i64 p.2.obj, .int .i64 p.2.rights, .int .u64 p.2.badge, .int .u64 p.2.guard, .int .i64 p.2.bits],fun _=>rfl,fun x v h=>by
 simp only[List.mem_cons,List.not_mem_nil,or_false] at h;rcases h with rfl|rfl|rfl|rfl|rfl|rfl|rfl|rfl<;>rfl,by decide⟩
theorem andle (x:Int) (m:Nat) (hm:m<2^62):∃p:Nat,p≤m/\andI .i64 x (m:Int)=(p:Int):=by
 unfold andI;have e2:(2:Nat)^62=4611686018427387904:=by decide
 have hle:(BitVec.ofInt IntKind.i64.bits x &&& BitVec.ofInt IntKind.i64.bits (m:Int)).toNat≤m:=by
  rw[BitVec.toNat_and];refine Nat.le_trans Nat.and_le_right ?_;have:(BitVec.ofInt IntKind.i64.bits (m:Int)).toNat=m%2^64:=by simp[IntKind.bits,BitVec.toNat_ofInt]
  rw[this];exact Nat.mod_le _ _
 exact ⟨_,hle,wr (by omega) (by omega)⟩
theorem slotX (a c:Slot):eqX Tryz.prog 9 40 [.int .i64 a.1, .int .i64 a.2] [.int .i64 c.1, .int .i64 c.2]=some (decide (a=c)):=by
 have h:eqX Tryz.prog 9 40 [.int .i64 a.1, .int .i64 a.2] [.int .i64 c.1, .int .i64 c.2]=some (a.1==c.1&&(a.2==c.2&&true)):=by kernel_rfl
 rw[h];congr 1;rw[Bool.eq_iff_iff];simp only[Bool.and_true,Bool.and_eq_true,beq_iff_eq,decide_eq_true_eq];cases a;cases c;simp only[Prod.mk.injEq]
theorem slotEq {x y:Operand} (a c:Slot):EqB Tryz.prog .eql 40 x y (.agg #[.int .i64 a.1, .int .i64 a.2]) (.agg #[.int .i64 c.1, .int .i64 c.2]) (decide (a=c)):=eqB_x (by kernel_rfl) (by kernel_rfl) (by kernel_rfl) (slotX a c)
end Go.Proofs.YtogmbmdbgkopjaaGreat.Sl
end
section
set_option maxRecDepth 8000
namespace Go.Proofs.YtogmbmdbgkopjaaGreat.Tr
open Go Go.Vc Go.Proofs
abbrev Slot:=Int × Int
abbrev Leaf:=Slot × Int
abbrev slV (s:Sl):Value:= .slice s.a s.len s.cap
def leafE:EncT Leaf:=⟨3,fun p=>[.int .i64 p.1.1, .int .i64 p.1.2, .int .i64 p.2],fun _=>rfl,fun x v h=>by
 simp only[List.mem_cons,List.not_mem_nil,or_false] at h;rcases h with rfl|rfl|rfl<;>rfl,by decide⟩
def slotE:EncT Slot:=⟨2,fun p=>[.int .i64 p.1, .int .i64 p.2],fun _=>rfl,fun x v h=>by
 simp only[List.mem_cons,List.not_mem_nil,or_false] at h;rcases h with rfl|rfl<;>rfl,by decide⟩
theorem ldLeaf {w:World} {a:Addr} {x:Leaf} {f:Int->Int->Int->Prop} (g:∀c v,(leafE.enc x)[c]?=some v->w.cell? (a.add c)=some v) (hf:f x.1.1 x.1.2 x.2):LdL w a 0 [.i .i64, .i .i64, .i .i64] f:=⟨_,g 0 _ rfl,_,g 1 _ rfl,_,g 2 _ rfl,hf⟩
theorem ldSlot {w:World} {a:Addr} {x:Slot} {f:Int->Int->Prop} (g:∀c v,[Value.int .i64 x.1,Value.int .i64 x.2][c]?=some v->w.cell? (a.add c)=some v) (hf:f x.1 x.2):LdL w a 0 [.i .i64, .i .i64] f:=⟨_,g 0 _ rfl,_,g 1 _ rfl,hf⟩
theorem slotX (a c:Slot):eqX Tryz.prog 9 40 [.int .i64 a.1, .int .i64 a.2] [.int .i64 c.1, .int .i64 c.2]=some (decide (a=c)):=by
 have h:eqX Tryz.prog 9 40 [.int .i64 a.1, .int .i64 a.2] [.int .i64 c.1, .int .i64 c.2]=some (a.1==c.1&&(a.2==c.2&&true)):=by kernel_rfl
 rw[h];congr 1;rw[Bool.eq_iff_iff];simp only[Bool.and_true,Bool.and_eq_true,beq_iff_eq,decide_eq_true_eq];cases a;cases c;simp only[Prod.mk.injEq]
theorem slotEq {x y:Operand} (a c:Slot):EqB Tryz.prog .eql 40 x y (.agg #[.int .i64 a.1, .int .i64 a.2]) (.agg #[.int .i64 c.1, .int .i64 c.2]) (decide (a=c)):=eqB_x (by kernel_rfl) (by kernel_rfl) (by kernel_rfl) (slotX a c)
theorem infoLeaf:Tryz.prog.info? 282=some Tryz.t282:=by kernel_rfl
theorem bytesLeaf:Tryz.t282.bytes=24:=by kernel_rfl
def zLeaf:Leaf:=((0,0),0)
theorem zeroLeaf (w:World):(zeroValue 282).run Tryz.prog w= .ok (.agg ⟨leafE.enc zLeaf⟩) w:=Tryz.zeroValue282 w
def idxI {α:Type} (p:α->Bool) (xs:List α):Int:=match xs.findIdx? p with|some i=>(i:Int)|none=> -1
section
variable {B:Nat} {w0 w:World} {R L:List Asn} {s:Sl} {xs:List Leaf}
theorem IndexFunc_leaf {p:Leaf->Bool} {f:Value} {K:Int->World->Prop} [I:SlIn s L Leaf leafE xs] (h:Own B w0 w L) (hbig:xs.length≤1000000000)
  (hf:∀(y:Leaf) (w:World) (Q:Bool->World->Prop),Own B w0 w L->(∀w',Own B w0 w' L->Q (p y) w')->CallV Tryz.prog f [.agg #[.int .i64 y.1.1, .int .i64 y.1.2, .int .i64 y.2]] w fun en w'=>∃r:Bool,en= .returned (.bool r)/\Q r w')
  (hK:∀w',Own B w0 w' L->K (idxI p xs) w'):C.qn s f K w:=by
 apply S.qn0;unfold S.qn;have hlen:=h.lenc s;intro l hl
 have loop:∀(rest:List Leaf) (j:Nat) (w:World),xs.drop j=rest->j≤xs.length->(∀i,i<j->∀y,xs[i]?=some y->p y=false)->Own B w0 w L->l (j:Int) w:=by
  intro rest
  induction rest with
  |nil=>
   intro j w hj hjl hno h;have:xs.length≤j:=by have:=congrArg List.length hj;simp at this;omega
   apply hl;refine cdecF (by omega) ?_
   have hn:xs.findIdx? p=none:=by
    rw[List.findIdx?_eq_none_iff];intro y hy;obtain ⟨i,hi⟩:=List.mem_iff_getElem?.1 hy;exact hno i (by have:=(List.getElem?_eq_some_iff.1 hi).1;omega) y hi
   have e:idxI p xs= -1:=by unfold idxI;rw[hn]
   rw[←e];exact hK _ h
  |cons y rest ih=>
   intro j w hj hjl hno h;have hjl2:j<xs.length:=by have:=congrArg List.length hj;simp at this;omega
   have hx:xs[j]?=some y:=by
    have:=congrArg (fun l=>l[0]?) hj;simpa using this
   apply hl;refine cdecT (by omega) ?_;refine h.ixc rfl hx fun a ha h0 hc=>?_
   refine ldLeaf hc ?_;refine hf y w _ h fun w h=>?_
   cases hp:p y with
   |true=>
    refine cbT rfl ?_
    have hn:xs.findIdx? p=some j:=by
     rw[List.findIdx?_eq_some_iff_getElem];refine ⟨hjl2, ?_,fun i hi=>?_⟩
     ·rw[gE hjl2] at hx;cases hx;exact hp
     ·have:=hno i hi xs[i] (gE (by omega))
      simp[this]
    have e:idxI p xs=(j:Int):=by unfold idxI;rw[hn]
    rw[←e];exact hK _ h
   |false=>
    refine cbF rfl ?_;rw[wr (by omega) (by omega)];refine ih (j+1) w (by rw[←List.drop_drop,hj];rfl) (by omega) (fun i hi z hz=>?_) h;by_cases e:i=j
    ·subst e;rw[hx] at hz;cases hz;exact hp
    ·exact hno i (by omega) z hz
 exact loop xs 0 w rfl (by omega) (fun i hi=>by omega) h
theorem app1_leaf {y:Leaf} {c:Nat} {k:Sl->World->Prop} [I:SlIn s L Leaf leafE xs] [J:Pick (SlT leafE s xs) L R] (h:Own B w0 w (BlkA c (leafE.enc y)::L)) (hbig:xs.length≤1000000000)
  (hk:∀s' w',s'.len=xs.length+1->Own B w0 w' (SlT leafE s' (xs++ [y])::R)->k s' w'):
  ∃s' w',AppR Tryz.prog [183,183] 183 (.slice s.a s.len s.cap) (.slice (some (Addr.mk c 0 none)) 1 1) w s' w'/\k s' w':=
 Own.app1c (E:=leafE) (y:=y) Tryz.underlying183 infoLeaf (zv:= .agg ⟨leafE.enc zLeaf⟩) (by kernel_rfl) (by kernel_rfl) rfl (by decide) h (by rw[bytesLeaf];omega) hk
theorem app1_slot {ys:List Slot} {y:Slot} {c:Nat} {k:Sl->World->Prop} [I:SlIn s L Slot slotE ys] [J:Pick (SlT slotE s ys) L R] (h:Own B w0 w (BlkA c (slotE.enc y)::L)) (hbig:ys.length≤1000000000)
  (hk:∀s' w',s'.len=ys.length+1->Own B w0 w' (SlT slotE s' (ys++ [y])::R)->k s' w'):
  ∃s' w',AppR Tryz.prog [79,79] 79 (.slice s.a s.len s.cap) (.slice (some (Addr.mk c 0 none)) 1 1) w s' w'/\k s' w':=
 Own.app1c (E:=slotE) (y:=y) Tryz.underlying79 (show Tryz.prog.info? 40=some Tryz.t40 from by kernel_rfl) (zv:= .agg ⟨slotE.enc (0,0)⟩) (by kernel_rfl) (by kernel_rfl) rfl (by decide) h (by
  have e:Tryz.t40.bytes=16:=by kernel_rfl
  rw[e];omega) hk
theorem del_list {α:Type} {xs:List α} {i j:Nat} {z:α} (hij:i<j) (hj:j≤xs.length):
  List.take (i+(xs.length-j)) (List.take (i+(xs.length-j)) (xs.take i++xs.drop j++xs.drop (i+(xs.length-j)))++List.replicate ((xs.take i++xs.drop j++xs.drop (i+(xs.length-j))).length-(i+(xs.length-j))) z)=xs.take i++xs.drop j:=by
 have hl2:(xs.take i++xs.drop j).length=i+(xs.length-j):=by simp;omega
 rw[List.take_append_of_le_length (by simp;omega),List.take_take,Nat.min_self,←hl2,List.take_left]
theorem Delete_leaf {i j:Nat} {K:Sl->World->Prop} (h:Own B w0 w (SlT leafE s xs::R)) (hij:i<j) (hj:j≤xs.length) (hbig:xs.length≤1000000000)
  (hK:∀s' w',Own B w0 w' (SlT leafE s' (xs.take i++xs.drop j)::R)->K s' w'):C.qm s (i:Int) (j:Int) K w:=by
 apply S.qm0;unfold S.qm;have hlen:=h.lenc s;have hcap:=h.slRaw.le_cap;refine ⟨by omega,by omega,by omega,by omega,by omega,by omega, ?_⟩;refine ceqF (by omega) ?_;refine h.dr fun w h=>?_
 refine ⟨by omega,by omega,by omega,by omega,a2 ?_⟩;simp only[Int.toNat_natCast];refine h.appDel (E:=leafE) Tryz.underlying183 infoLeaf (by kernel_rfl) (by omega) hj (by omega) fun w h=>?_
 dsimp only;refine ⟨by omega,by omega,by omega,by omega, ?_⟩;refine Own.clear (E:=leafE) (z0:=zLeaf) (n:=i+(xs.length-j)) Tryz.underlying183 zeroLeaf rfl h 0 rfl (by simp;omega) fun w h=>?_
 have hp:=h.pre 0 rfl (n:=i+(xs.length-j)) (by simp;omega);refine hK _ w ?_;rw[del_list hij hj] at hp;exact hp
end
theorem ins_list {α:Type} {xs:List α} {i:Nat} {y z:α} (hi:i<xs.length):
  (((xs.take i++List.replicate (xs.length+1-i) z).take i++ [y]++(xs.take i++List.replicate (xs.length+1-i) z).drop (i+ [y].length)).take (i+1)++xs.drop i++((xs.take i++List.replicate (xs.length+1-i) z).take i++ [y]++(xs.take i++List.replicate (xs.length+1-i) z).drop (i+ [y].length)).drop (i+1+(xs.drop i).length))=xs.take i++ [y]++xs.drop i:=by
 have h1:(xs.take i).length=i:=by simp;omega
 have h2:(xs.take i++List.replicate (xs.length+1-i) z).take i=xs.take i:=by rw[List.take_append_of_le_length (by omega),List.take_of_length_le (by omega)]
 have h3:(xs.take i++ [y]:List α).length=i+1:=by simp;omega
 rw[h2];generalize hX:(xs.take i++List.replicate (xs.length+1-i) z).drop (i+ [y].length)=X;have hXl:X.length=xs.length-i:=by rw[←hX];simp;omega
 have h4:(xs.take i++ [y]++X).drop (i+1+(xs.drop i).length)= []:=List.drop_eq_nil_of_le (by rw[List.length_append,h3,hXl];simp);rw[h4,List.append_nil,List.take_append_of_le_length (by omega),List.take_of_length_le (by omega)]
theorem ins_cells {α:Type} (E:EncT α) {xs:List α} {i:Nat} {y:α} (hi:i<xs.length) {junk:List Value} (hj:junk.length=1*E.z):
  putAt (putAt (xs.flatMap E.enc++junk) ((i+1)*E.z) ((xs.drop i).flatMap E.enc)) (i*E.z) (E.enc y)=(xs.take i++ [y]++xs.drop i).flatMap E.enc:=by
 have hF:=flat_len E xs;have hD:((xs.drop i).flatMap E.enc).length=(xs.length-i)*E.z:=by rw[flat_len,List.length_drop]
 have hT:((xs.take i).flatMap E.enc).length=i*E.z:=by rw[flat_len,List.length_take,Nat.min_eq_left (by omega)]
 have hsplit:xs.flatMap E.enc=(xs.take i).flatMap E.enc++(xs.drop i).flatMap E.enc:=by rw[←List.flatMap_append,List.take_append_drop]
 have hEy:=E.len y;have e1:xs.length*E.z=i*E.z+(xs.length-i)*E.z:=by rw[←Nat.add_mul];congr 1;omega
 have hl1:(putAt (xs.flatMap E.enc++junk) ((i+1)*E.z) ((xs.drop i).flatMap E.enc)).length=xs.length*E.z+E.z:=by
  rw[putAt_len (by rw[List.length_append,hF,hj,hD,Nat.succ_mul];omega),List.length_append,hF,hj];omega
 rw[List.flatMap_append,List.flatMap_append,List.flatMap_cons,List.flatMap_nil,List.append_nil];generalize hA:(xs.take i).flatMap E.enc=A at*
 generalize hB:(xs.drop i).flatMap E.enc=D at*
 generalize E.enc y=Y at*
 rw[hsplit] at hl1⊢;apply List.ext_getElem?;intro t;rw[putAt_get _ _ _ _ (by omega)];rw[putAt_get _ _ _ _ (by rw[List.length_append,List.length_append,hj,hD,hT,Nat.succ_mul];omega)];rw[Nat.succ_mul];by_cases c1:i*E.z≤t/\t<i*E.z+Y.length
 ·rw[if_pos c1,List.append_assoc,List.getElem?_append_right (by omega),List.getElem?_append_left (by omega),hT]
 ·rw[if_neg c1]
  by_cases c2:i*E.z+E.z≤t/\t<i*E.z+E.z+D.length
  ·rw[if_pos c2,List.getElem?_append_right (by rw[List.length_append];omega),List.length_append,hT,hEy]
  ·rw[if_neg c2]
   by_cases c3:t<i*E.z
   ·rw[List.append_assoc,List.getElem?_append_left (by omega),List.append_assoc,List.getElem?_append_left (by omega)]
   ·rw[List.getElem?_eq_none (by rw[List.length_append,List.length_append];omega),List.getElem?_eq_none (by rw[List.length_append,List.length_append];omega)]
section
variable {B:Nat} {w0 w:World} {R L:List Asn} {s:Sl} {xs:List Leaf}
theorem Insert_leaf {i c:Nat} {y:Leaf} {K:Sl->World->Prop} (h:Own B w0 w (SlT leafE s xs::BlkA c (leafE.enc y)::R)) (hi:i≤xs.length) (hbig:xs.length≤1000000000)
  (hK:∀s' w',Own B w0 w' (SlT leafE s' (xs.take i++ [y]++xs.drop i)::R)->K s' w'):C.ql s (i:Int) ⟨some ⟨c,0,none⟩,1,1⟩ K w:=by
 apply S.ql0;unfold S.ql;have hlen:=h.lenc s;have hcap:=h.slRaw.le_cap;refine ⟨by omega,by omega, ?_⟩;refine cbF rfl ?_;refine ceq (fun e=>?_) (fun e=>?_)
 ·obtain rfl:i=xs.length:=by omega
  refine app1_leaf h.up1 hbig fun s' w hs' h=>?_
  rw[List.take_length,List.drop_length,List.append_nil] at hK;exact hK s' w h
 have hil:i<xs.length:=by omega
 dsimp only;have hspot:=h.slRaw.spot;have hdl:(xs.drop i).length=xs.length-i:=by simp
 rw[show IntKind.i64.wrap ((s.len:Int)+((1:Nat):Int))=((xs.length+1:Nat):Int) from by rw[wr (by omega) (by omega)];omega,
  show IntKind.i64.wrap ((i:Int)+((1:Nat):Int))=((i+1:Nat):Int) from by rw[wr (by omega) (by omega)];omega]
 obtain ⟨b,o,ha,hcells⟩:=h.get 0 rfl (gE hil)
 have hsrc:∀w,Own B w0 w (SlT leafE s xs::BlkA c (leafE.enc y)::R)->∀j v,((xs.drop i).flatMap leafE.enc)[j]?=some v->w.cell? ((Addr.mk b (o+i*3) none).add j)=some v:=fun w h j v hv=>by
  have hs:=h.slRaw
  have hj:(xs.flatMap leafE.enc)[i*3+j]?=some v:=by
   have e1:xs.flatMap leafE.enc=(xs.take i).flatMap leafE.enc++(xs.drop i).flatMap leafE.enc:=by rw[←List.flatMap_append,List.take_append_drop]
   have e2:((xs.take i).flatMap leafE.enc).length=i*3:=by rw[flat_len];show (xs.take i).length*3=_;simp;omega
   rw[e1,List.getElem?_append_right (by omega),e2,Nat.add_sub_cancel_left];exact hv
  obtain ⟨b',o',ha',hc'⟩:=hs.cell hj;rw[ha] at ha';simp only[Option.some.injEq,Addr.mk.injEq,and_true] at ha';rw[add_mk,ha'.1,ha'.2,Nat.add_assoc];exact hc'
 have hsrcY:∀w L,Own B w0 w (BlkA c (leafE.enc y)::L)->∀j v,(([y]:List Leaf).flatMap leafE.enc)[j]?=some v->w.cell? ((Addr.mk c 0 none).add j)=some v:=fun w L h j v hv=>by
  have:([y]:List Leaf).flatMap leafE.enc=leafE.enc y:=by simp
  rw[this] at hv;rw[add_mk,Nat.zero_add,(h.blk 0 rfl).cell];exact hv
 refine cdec (fun e2=>?_) (fun e2=>?_)
 ·refine ⟨by omega,by omega, ?_⟩
  rw[show IntKind.i64.wrap (((xs.length+1:Nat):Int)-(i:Int))=((xs.length+1-i:Nat):Int) from by rw[wr (by omega) (by omega)];omega,Int.toNat_natCast];refine Own.appZ (E:=leafE) (z0:=zLeaf) (i:=i) (m:=xs.length+1-i) Tryz.underlying183 Tryz.underlying3 infoLeaf (zv:= .agg ⟨leafE.enc zLeaf⟩) (by kernel_rfl) (by kernel_rfl) rfl (by decide) h (by omega) (by omega) (by omega) (by rw[bytesLeaf];omega) fun t w ht htc h=>?_
  obtain ⟨b2,o2,ha2,_⟩:=h.get 0 rfl (gE (show i<(xs.take i++List.replicate (xs.length+1-i) zLeaf).length by simp;omega));refine ⟨by omega,by omega, ?_⟩;rw[slA_some (z:=3) ha2 (show t.cap≠i by omega)];refine Own.copyT (E:=leafE) (p:=i) (zs:=[y]) Tryz.underlying183 infoLeaf (by kernel_rfl) h ha2 (by simp;omega) (by simp;omega) (hsrcY w _ h.up2) fun w h=>?_
  refine h.dr fun w h=>?_
  refine ⟨by omega,by omega,by omega,by omega,Go.Vc.a2 ?_⟩;rw[Int.toNat_natCast,slA_some (z:=3) ha2 (show t.cap≠i+1 by omega),slA_some (z:=3) ha (show s.cap≠i by omega)];refine Own.copyT (E:=leafE) (p:=i+1) (zs:=xs.drop i) Tryz.underlying183 infoLeaf (by kernel_rfl) h ha2 (by simp;omega) (by simp;omega) (hsrc w h.drop) fun w h=>?_
  rw[ins_list hil] at h;exact hK _ w h.rm1.rm1
 ·obtain ⟨junk,hj,h⟩:=h.grow (m:=1) (by omega) ha
  have h:Own B w0 w (SlA 3 ⟨s.a,xs.length+1,s.cap⟩ (xs.flatMap leafE.enc++junk)::BlkA c (leafE.enc y)::R):=h;have e0:Vc.slA s.a 0 s.cap 3=s.a:=slA0 _ _ _ hspot;have hF:(xs.flatMap leafE.enc).length=xs.length*3:=flat_len leafE xs;simp only[e0,Nat.sub_zero,Int.toNat_natCast];rw[slA_some (z:=3) ha (show s.cap≠i+1 by omega),slA_some (z:=3) ha (show s.cap≠i by omega)];refine ⟨by omega,by omega,by omega,by omega,false,w, ?_, ?_⟩
  ·exact h.up1.overlaps Tryz.func357 (by kernel_rfl) (by kernel_rfl) (by kernel_rfl) (tS:=183) (tR:=4) (by kernel_rfl) Tryz.underlying183 (size:=3) (fun w=>by rw[run_size infoLeaf w];rfl) ha (by
    intro hn;have:=congrArg List.length hn;rw[List.length_append,hF,hj] at this;simp at this;omega)
  refine cbT rfl ?_;refine h.dr fun w h=>?_
  refine ⟨by omega,by omega,by omega,by omega,Go.Vc.a2 ?_⟩
  refine h.copyA (z:=3) (p:=i+1) (ds:=(xs.drop i).flatMap leafE.enc) Tryz.underlying183 infoLeaf (by kernel_rfl) ha (by
   have:=flat_len leafE (xs.drop i);have hz:leafE.z=3:=rfl;rw[this,hz,hdl];congr 1;omega) (fun v hv=>by
   obtain ⟨x,_,hx⟩:=List.mem_flatMap.1 hv;exact leafE.one x v hx) (by rw[List.length_append,hF,hj];show _≤xs.length*3+1*3;omega) (fun j v hv=>by
   have hs:SlO 3 w ⟨s.a,xs.length+1,s.cap⟩ (xs.flatMap leafE.enc++junk):=h.head fun _ h=>h.2
   have hjj:(xs.flatMap leafE.enc++junk)[i*3+j]?=some v:=by
    have e1:xs.flatMap leafE.enc=(xs.take i).flatMap leafE.enc++(xs.drop i).flatMap leafE.enc:=by rw[←List.flatMap_append,List.take_append_drop]
    have e2:((xs.take i).flatMap leafE.enc).length=i*3:=by rw[flat_len];show (xs.take i).length*3=_;simp;omega
    have hjl:=(List.getElem?_eq_some_iff.1 hv).1;rw[e1,List.append_assoc,List.getElem?_append_right (by omega),e2,Nat.add_sub_cancel_left,List.getElem?_append_left hjl];exact hv
   obtain ⟨b',o',ha',hc'⟩:=hs.cell hjj;have ha':s.a=some ⟨b',o',none⟩:=ha';rw[ha] at ha';simp only[Option.some.injEq,Addr.mk.injEq,and_true] at ha';rw[add_mk,ha'.1,ha'.2,Nat.add_assoc];exact hc') fun w h=>?_
  refine ⟨by omega,by omega, ?_⟩
  refine h.copyA (z:=3) (p:=i) (ds:=leafE.enc y) Tryz.underlying183 infoLeaf (by kernel_rfl) ha (by
   rw[leafE.len];show 3=_;rw[Nat.min_eq_left (by omega)]) (fun v hv=>leafE.one y v hv) (by
   have hD:((xs.drop i).flatMap leafE.enc).length=(xs.length-i)*3:=by rw[←hdl];exact flat_len leafE _
   rw[putAt_len (by rw[List.length_append,hF,hj,hD];show _≤xs.length*3+1*3;omega),List.length_append,hF,hj];show _≤xs.length*3+1*3;omega) (fun j v hv=>by
   rw[add_mk,Nat.zero_add,(h.blk 1 rfl).cell];exact hv) fun w h=>?_
  have h2:Own B w0 w (SlT leafE ⟨s.a,xs.length+1,s.cap⟩ (xs.take i++ [y]++xs.drop i)::BlkA c (leafE.enc y)::R):=Own.ofA (by simp;omega) (ins_cells leafE hil hj) h;exact hK _ w h2.rm1
end
abbrev Tr:=List Leaf
def placeN (T:Tr) (s:Slot):Option Nat:=T.findIdx? fun x=>decide (x.1=s)
def dOf (T:Tr) (i:Nat):Int:=match T[i]? with|some x=>x.2|none=>0
def endN (T:Tr) (i:Nat):Nat:=i+1+((T.drop (i+1)).takeWhile fun x=>decide (dOf T i<x.2)).length
def wfD:Int->Tr->Prop
 |_,[]=>True
 |p,x::T=>0≤x.2/\x.2≤p+1/\wfD x.2 T
structure TOk (T:Tr):Prop where
 few:T.length≤1000000
 wf:wfD (-1) T
 nd:(T.map (·.1)).Nodup
def rootN (T:Tr) (s:Slot):Int × Tr:=match placeN T s with|some _=>(70,T)|none=>(0,T++ [(s,0)])
def addN (T:Tr) (p s:Slot):Int × Tr:=match placeN T p with
 |none=>(71,T)
 |some i=>match placeN T s with|some _=>(70,T)|none=>(0,T.take (i+1)++ [(s,dOf T i+1)]++T.drop (i+1))
def lift1 (l:Tr):Tr:=l.map fun x=>(x.1,x.2-1)
def takeN (T:Tr) (s:Slot):Int × Tr:=match placeN T s with
 |none=>(71,T)
 |some i=>(0,T.take i++(lift1 ((T.drop (i+1)).take (endN T i-(i+1)))++T.drop (endN T i)))
def moveN (T:Tr) (f t:Slot):Int × Tr:=match placeN T f with
 |none=>(71,T)
 |some i=>match placeN T t with|some _=>(70,T)|none=>(0,T.set i (t,dOf T i))
def underN (T:Tr) (s:Slot):List Slot:=match placeN T s with
 |none=>[]
 |some i=>((T.drop (i+1)).take (endN T i-(i+1))).map (·.1)
theorem wfD_rng:∀(T:Tr) (p:Int) (i:Nat) (x:Leaf), -1≤p->wfD p T->T[i]?=some x->0≤x.2/\x.2≤p+1+(i:Int)
 | [],_,i,x,_,_,h=>by simp at h
 |y::T,p,0,x,hp,hw,h=>by
  simp only[List.getElem?_cons_zero,Option.some.injEq] at h;subst h;exact ⟨hw.1,by have:=hw.2.1;omega⟩
 |y::T,p,i+1,x,hp,hw,h=>by
  rw[List.getElem?_cons_succ] at h;have h1:=hw.1;have h2:=hw.2.1;have:=wfD_rng T y.2 i x (by omega) hw.2.2 h;omega
theorem TOk.rng {T:Tr} (h:TOk T) {i:Nat} {x:Leaf} (hx:T[i]?=some x):0≤x.2/\x.2≤1000000:=by
 have h1:=wfD_rng T (-1) i x (by omega) h.wf hx;have h2:=(List.getElem?_eq_some_iff.1 hx).1;have h3:=h.few;omega
theorem place_some {T:Tr} {s:Slot} {i:Nat} (h:placeN T s=some i):∃x,T[i]?=some x/\x.1=s:=by
 unfold placeN at h;obtain ⟨h1,h2,_⟩:=List.findIdx?_eq_some_iff_getElem.1 h;exact ⟨T[i],gE h1,by simpa using h2⟩
theorem place_none {T:Tr} {s:Slot} (h:placeN T s=none):∀x∈T,x.1≠s:=by
 unfold placeN at h;rw[List.findIdx?_eq_none_iff] at h;intro x hx;simpa using h x hx
theorem dOf_get {T:Tr} {i:Nat} {x:Leaf} (h:T[i]?=some x):dOf T i=x.2:=by unfold dOf;rw[h]
theorem end_le (T:Tr) {i:Nat} (hi:i<T.length):i<endN T i/\endN T i≤T.length:=by
 unfold endN;have:((T.drop (i+1)).takeWhile fun x=>decide (dOf T i<x.2)).length≤(T.drop (i+1)).length:=(List.takeWhile_sublist _).length_le;rw[List.length_drop] at this;omega
theorem idx_place (T:Tr) (s:Slot):idxI (fun x:Leaf=>decide (x.1=s)) T=match placeN T s with|some i=>(i:Int)|none=> -1:=rfl
def TreeA (b:Nat) (T:Tr):Asn:=ExA fun s:Sl=>StarA [PureA (TOk T),BlkA b [slV s],SlT leafE s T]
section
variable {B:Nat} {w0 w:World} {R L:List Asn} {b:Nat} {T:Tr}
theorem _root_.Go.Vc.Own.tree (h:Own B w0 w (TreeA b T::R)):∃s,TOk T/\Own B w0 w (SlT leafE s T::BlkA b [slV s]::R):=by
 obtain ⟨s,h⟩:=h.ex;obtain ⟨h1,h⟩:=Own.pure h.star;exact ⟨s,h1,Own.up1 h⟩
theorem _root_.Go.Vc.Own.mk_tree {s:Sl} (h1:TOk T) (h:Own B w0 w (SlT leafE s T::BlkA b [slV s]::R)):Own B w0 w (TreeA b T::R):=
 Own.mk_ex s (Own.mk_star (Own.mk_pure h1 (Own.up1 h)))
theorem _root_.Go.Vc.Own.tok (h:Own B w0 w (TreeA b T::R)):TOk T:=by obtain ⟨_,h,_⟩:=h.tree;exact h
theorem tree_New_spec {K:Option Addr->World->Prop} (h:Own B w0 w R) (hK:∀b w',Own B w0 w' (TreeA b []::R)->K (some ⟨b,0,none⟩) w'):C.qcF K w:=by
 apply S.qcF0;unfold S.qcF;refine h.al fun w1 h=>?_
 exact hK _ w1 (Own.mk_tree (s:=⟨none,0,0⟩) ⟨by simp,trivial,by simp⟩ (Own.nilS h))
theorem tree_place_o {s:Sl} {x:Slot} {K:Int->World->Prop} (hT:TOk T) (h:Own B w0 w (SlT leafE s T::BlkA b [slV s]::R)) (hK:∀w',Own B w0 w' (SlT leafE s T::BlkA b [slV s]::R)->K (match placeN T x with|some i=>(i:Int)|none=> -1) w'):
  C.qK (some ⟨b,0,none⟩) x.1 x.2 K w:=by
 apply S.qK0;unfold S.qK;refine h.al fun w1 h=>?_
 generalize w.heap.size=c at h⊢
 (repeat (first|(refine h.al fun w h=>?_)|(refine h.dr fun w h=>?_)|(refine h.lc_2 rfl ?_)|(refine h.lc_6 rfl ?_)|(refine ⟨_,h.ldc rfl, ?_⟩)|(refine ⟨_,h.ldd rfl, ?_⟩)|(refine h.hd rfl ?_)|(refine ⟨h.ldc rfl, ?_⟩)|(refine ⟨h.ldd rfl, ?_⟩)|(refine h.stLc rfl rfl fun w h=>?_)|(refine exs ?_)|(refine _root_.Go.Vc.a2 ?_)|(refine h.stc rfl rfl fun w h=>?_)|(refine h.std rfl rfl fun w h=>?_)))
 refine IndexFunc_leaf (L:=BlkA c [.int .i64 x.1, .int .i64 x.2]::SlT leafE s T::BlkA b [slV s]::R) (xs:=T) (p:=fun y=>decide (y.1=x)) h (by have:=hT.few;omega) (fun y w Q h hQ=>?_) fun w h=>?_
 ·refine callV_mk ?_
  have hA:C.qbC y.1.1 y.1.2 y.2 (Addr.mk c 0 none) Q w:=by
   apply S.qbC0;unfold S.qbC
   (repeat (first|(refine h.al fun w h=>?_)|(refine h.dr fun w h=>?_)|(refine h.lc_2 rfl ?_)|(refine h.lc_6 rfl ?_)|(refine ⟨_,h.ldc rfl, ?_⟩)|(refine ⟨_,h.ldd rfl, ?_⟩)|(refine h.hd rfl ?_)|(refine ⟨h.ldc rfl, ?_⟩)|(refine ⟨h.ldd rfl, ?_⟩)|(refine h.stLc rfl rfl fun w h=>?_)|(refine exs ?_)|(refine _root_.Go.Vc.a2 ?_)|(refine h.stc rfl rfl fun w h=>?_)|(refine h.std rfl rfl fun w h=>?_)))
   refine ⟨_,slotEq y.1 x, ?_⟩;exact hQ _ h.sub
  exact hA
 ·rw[idx_place]
  exact hK _ h.sub
theorem tree_end_o {s:Sl} {i:Nat} {K:Int->World->Prop} (hT:TOk T) (hi:i<T.length) (h:Own B w0 w (SlT leafE s T::BlkA b [slV s]::R)) (hK:∀w',Own B w0 w' (SlT leafE s T::BlkA b [slV s]::R)->K ((endN T i:Nat):Int) w'):
  C.qbO (some ⟨b,0,none⟩) (i:Int) K w:=by
 apply S.qbO0;unfold S.qbO;have hlen:=h.lenc s;have hfew:=hT.few;obtain ⟨xi,hxi⟩:∃x,T[i]?=some x:=⟨_,gE hi⟩
 intro l hl
 have loop:∀(rest:Tr) (k:Nat) (w:World),T.drop k=rest->k≤T.length->i<k->k+(rest.takeWhile fun x=>decide (dOf T i<x.2)).length=endN T i->Own B w0 w (SlT leafE s T::BlkA b [slV s]::R)->l (k:Int) w:=by
  intro rest
  induction rest with
  |nil=>
   intro k w hk hkl hik he h;have:T.length≤k:=by have:=congrArg List.length hk;simp at this;omega
   apply hl
   (repeat (first|(refine h.al fun w h=>?_)|(refine h.dr fun w h=>?_)|(refine h.lc_2 rfl ?_)|(refine h.lc_6 rfl ?_)|(refine ⟨_,h.ldc rfl, ?_⟩)|(refine ⟨_,h.ldd rfl, ?_⟩)|(refine h.hd rfl ?_)|(refine ⟨h.ldc rfl, ?_⟩)|(refine ⟨h.ldd rfl, ?_⟩)|(refine h.stLc rfl rfl fun w h=>?_)|(refine exs ?_)|(refine _root_.Go.Vc.a2 ?_)|(refine h.stc rfl rfl fun w h=>?_)|(refine h.std rfl rfl fun w h=>?_)))
   refine cdecF (by omega) ?_;have:k=endN T i:=by simpa using he
   rw[this];exact hK _ h
  |cons y rest ih=>
   intro k w hk hkl hik he h;have hkl2:k<T.length:=by have:=congrArg List.length hk;simp at this;omega
   have hx:T[k]?=some y:=by
    have:=congrArg (fun l=>l[0]?) hk;simpa using this
   apply hl
   (repeat (first|(refine h.al fun w h=>?_)|(refine h.dr fun w h=>?_)|(refine h.lc_2 rfl ?_)|(refine h.lc_6 rfl ?_)|(refine ⟨_,h.ldc rfl, ?_⟩)|(refine ⟨_,h.ldd rfl, ?_⟩)|(refine h.hd rfl ?_)|(refine ⟨h.ldc rfl, ?_⟩)|(refine ⟨h.ldd rfl, ?_⟩)|(refine h.stLc rfl rfl fun w h=>?_)|(refine exs ?_)|(refine _root_.Go.Vc.a2 ?_)|(refine h.stc rfl rfl fun w h=>?_)|(refine h.std rfl rfl fun w h=>?_)))
   refine cdecT (by omega) ?_
   (repeat (first|(refine h.al fun w h=>?_)|(refine h.dr fun w h=>?_)|(refine h.lc_2 rfl ?_)|(refine h.lc_6 rfl ?_)|(refine ⟨_,h.ldc rfl, ?_⟩)|(refine ⟨_,h.ldd rfl, ?_⟩)|(refine h.hd rfl ?_)|(refine ⟨h.ldc rfl, ?_⟩)|(refine ⟨h.ldd rfl, ?_⟩)|(refine h.stLc rfl rfl fun w h=>?_)|(refine exs ?_)|(refine _root_.Go.Vc.a2 ?_)|(refine h.stc rfl rfl fun w h=>?_)|(refine h.std rfl rfl fun w h=>?_)))
   refine h.ixc rfl hx fun a ha h0 hc=>⟨_,hc 2 _ rfl, ?_⟩
   (repeat (first|(refine h.al fun w h=>?_)|(refine h.dr fun w h=>?_)|(refine h.lc_2 rfl ?_)|(refine h.lc_6 rfl ?_)|(refine ⟨_,h.ldc rfl, ?_⟩)|(refine ⟨_,h.ldd rfl, ?_⟩)|(refine h.hd rfl ?_)|(refine ⟨h.ldc rfl, ?_⟩)|(refine ⟨h.ldd rfl, ?_⟩)|(refine h.stLc rfl rfl fun w h=>?_)|(refine exs ?_)|(refine _root_.Go.Vc.a2 ?_)|(refine h.stc rfl rfl fun w h=>?_)|(refine h.std rfl rfl fun w h=>?_)))
   refine h.ixc rfl hxi fun a ha h0 hc=>⟨_,hc 2 _ rfl, ?_⟩
   refine cdec (fun e=>?_) (fun e=>?_)
   ·rw[wr (by omega) (by omega)]
    refine ih (k+1) _ (by rw[←List.drop_drop,hk];rfl) (by omega) (by omega) ?_ h;rw[List.takeWhile_cons_of_pos (by rw[dOf_get hxi];simpa using e)] at he;simp at he;omega
   ·rw[List.takeWhile_cons_of_neg (by rw[dOf_get hxi];simpa using e)] at he
    have:k=endN T i:=by simpa using he
    rw[this];exact hK _ h
 rw[show IntKind.i64.wrap ((i:Int)+1)=((i+1:Nat):Int) from by rw[wr (by omega) (by omega)];omega];exact loop _ (i+1) w rfl (by omega) (by omega) rfl h
theorem TOk.root {s:Slot} (hT:TOk T) (hl:T.length<1000000) (h:placeN T s=none):TOk (T++ [(s,0)]):=by
 refine ⟨by simp;omega, ?_, ?_⟩
 ·have:∀(T:Tr) (p:Int), -1≤p->wfD p T->wfD p (T++ [(s,0)]):=by
   intro T
   induction T with
   |nil=>intro p hp _;exact ⟨by simp,by show (0:Int)≤p+1;omega,trivial⟩
   |cons x T ih=>intro p hp hw;exact ⟨hw.1,hw.2.1,ih _ (by have:=hw.1;omega) hw.2.2⟩
  exact this T _ (by omega) hT.wf
 ·rw[List.map_append,List.map_cons,List.map_nil,List.nodup_append]
  refine ⟨hT.nd,by simp,fun a ha c hc=>?_⟩;simp only[List.mem_singleton] at hc;subst hc;obtain ⟨x,hx,rfl⟩:=List.mem_map.1 ha;exact place_none h x hx
theorem tree_Root_spec {s:Slot} {K:Int->World->Prop} (hl:T.length<1000000) (h:Own B w0 w (TreeA b T::R)) (hK:∀w',Own B w0 w' (TreeA b (rootN T s).2::R)->K (rootN T s).1 w'):C.qbR (some ⟨b,0,none⟩) s.1 s.2 K w:=by
 apply S.qbR0;unfold S.qbR;obtain ⟨sl,hT,h⟩:=h.tree;unfold rootN at hK
 (repeat (first|(refine h.al fun w h=>?_)|(refine h.dr fun w h=>?_)|(refine h.lc_2 rfl ?_)|(refine h.lc_6 rfl ?_)|(refine ⟨_,h.ldc rfl, ?_⟩)|(refine ⟨_,h.ldd rfl, ?_⟩)|(refine h.hd rfl ?_)|(refine ⟨h.ldc rfl, ?_⟩)|(refine ⟨h.ldd rfl, ?_⟩)|(refine h.stLc rfl rfl fun w h=>?_)|(refine exs ?_)|(refine _root_.Go.Vc.a2 ?_)|(refine h.stc rfl rfl fun w h=>?_)|(refine h.std rfl rfl fun w h=>?_)))
 refine tree_place_o (x:=s) hT h.up2.up2 fun w h=>?_
 cases hp:placeN T s with
 |some i=>
  rw[hp] at hK;refine cdecT (by show (i:Int)≥0;omega) ?_;exact hK _ (Own.mk_tree hT h.rm2)
 |none=>
  rw[hp] at hK;refine cdecF (by decide) ?_
  (repeat (first|(refine h.al fun w h=>?_)|(refine h.dr fun w h=>?_)|(refine h.lc_2 rfl ?_)|(refine h.lc_6 rfl ?_)|(refine ⟨_,h.ldc rfl, ?_⟩)|(refine ⟨_,h.ldd rfl, ?_⟩)|(refine h.hd rfl ?_)|(refine ⟨h.ldc rfl, ?_⟩)|(refine ⟨h.ldd rfl, ?_⟩)|(refine h.stLc rfl rfl fun w h=>?_)|(refine exs ?_)|(refine _root_.Go.Vc.a2 ?_)|(refine h.stc rfl rfl fun w h=>?_)|(refine h.std rfl rfl fun w h=>?_)))
  refine app1_leaf (xs:=T) (y:=(s,0)) h (by omega) fun s' w hs' h=>?_
  (repeat (first|(refine h.al fun w h=>?_)|(refine h.dr fun w h=>?_)|(refine h.lc_2 rfl ?_)|(refine h.lc_6 rfl ?_)|(refine ⟨_,h.ldc rfl, ?_⟩)|(refine ⟨_,h.ldd rfl, ?_⟩)|(refine h.hd rfl ?_)|(refine ⟨h.ldc rfl, ?_⟩)|(refine ⟨h.ldd rfl, ?_⟩)|(refine h.stLc rfl rfl fun w h=>?_)|(refine exs ?_)|(refine _root_.Go.Vc.a2 ?_)|(refine h.stc rfl rfl fun w h=>?_)|(refine h.std rfl rfl fun w h=>?_)))
  (dsimp only[putAt,List.set_cons_zero,List.set_cons_succ] at h)
  exact hK _ (Own.mk_tree (s:=s') (hT.root hl hp) h.sub)
theorem wfD_app:∀(A:Tr) (p:Int) (Q:Tr),wfD p (A++Q)↔wfD p A/\wfD (match A.getLast? with|some x=>x.2|none=>p) Q
 | [],p,Q=>by simp[wfD]
 |x::A,p,Q=>by
  simp only[List.cons_append,wfD,wfD_app A x.2 Q];cases hA:A with
  |nil=>simp[wfD];constructor<;>(intro h;simp_all)
  |cons y A'=>
   rw[←hA];have:(x::A).getLast?=A.getLast?:=by rw[hA];simp
   rw[this];have h2:∃z,A.getLast?=some z:=by rw[hA];exact ⟨_,List.getLast?_eq_some_getLast (by simp)⟩
   obtain ⟨z,hz⟩:=h2;rw[hz];constructor
   ·rintro ⟨h1,h2,h3,h4⟩;exact ⟨⟨h1,h2,h3⟩,h4⟩
   ·rintro ⟨⟨h1,h2,h3⟩,h4⟩;exact ⟨h1,h2,h3,h4⟩
theorem wfD_mono {p q:Int} (hpq:p≤q):∀{T:Tr},wfD p T->wfD q T
 | [],_=>trivial
 |x::T,h=>⟨h.1,by have:=h.2.1;omega,h.2.2⟩
theorem last_take {T:Tr} {i:Nat} {x:Leaf} (h:T[i]?=some x):(T.take (i+1)).getLast?=some x:=by
 rw[List.getLast?_take,if_neg (by omega),show i+1-1=i from rfl,h];rfl
theorem TOk.add {p s:Slot} {i:Nat} (hT:TOk T) (hl:T.length<1000000) (hp:placeN T p=some i) (h:placeN T s=none):TOk (T.take (i+1)++ [(s,dOf T i+1)]++T.drop (i+1)):=by
 obtain ⟨x,hx,_⟩:=place_some hp;have hi:=(List.getElem?_eq_some_iff.1 hx).1;have hr:=hT.rng hx;refine ⟨by simp;omega, ?_, ?_⟩
 ·have hw:=hT.wf
  have e:T=T.take (i+1)++T.drop (i+1):=(List.take_append_drop _ _).symm;rw[e,wfD_app,last_take hx] at hw;rw[List.append_assoc,wfD_app,last_take hx];refine ⟨hw.1, ?_⟩;rw[dOf_get hx];exact ⟨by show 0≤x.2+1;omega,Int.le_refl _,wfD_mono (by show x.2≤x.2+1;omega) hw.2⟩
 ·have hn:=hT.nd
  have e:T=T.take (i+1)++T.drop (i+1):=(List.take_append_drop _ _).symm;rw[e,List.map_append] at hn;rw[List.append_assoc,List.map_append,List.map_append]
  have hnot:s∉T.map (·.1):=fun hm=>by
   obtain ⟨y,hy,hys⟩:=List.mem_map.1 hm;exact place_none h y hy hys
  rw[e,List.map_append,List.mem_append,not_or] at hnot;rw[List.nodup_append] at hn⊢;refine ⟨hn.1, ?_,fun a ha c hc=>?_⟩
  ·rw[List.map_cons,List.map_nil,List.singleton_append,List.nodup_cons]
   exact ⟨hnot.2,hn.2.1⟩
  ·rw[List.map_cons,List.map_nil,List.singleton_append,List.mem_cons] at hc
   rcases hc with rfl|hc
   ·intro e;subst e;exact hnot.1 ha
   ·exact hn.2.2 a ha c hc
theorem tree_Add_spec {p s:Slot} {K:Int->World->Prop} (hl:T.length<1000000) (h:Own B w0 w (TreeA b T::R)) (hK:∀w',Own B w0 w' (TreeA b (addN T p s).2::R)->K (addN T p s).1 w'):C.qch (some ⟨b,0,none⟩) p.1 p.2 s.1 s.2 K w:=by
 apply S.qch0;unfold S.qch;obtain ⟨sl,hT,h⟩:=h.tree;unfold addN at hK
 (repeat (first|(refine h.al fun w h=>?_)|(refine h.dr fun w h=>?_)|(refine h.lc_2 rfl ?_)|(refine h.lc_6 rfl ?_)|(refine ⟨_,h.ldc rfl, ?_⟩)|(refine ⟨_,h.ldd rfl, ?_⟩)|(refine h.hd rfl ?_)|(refine ⟨h.ldc rfl, ?_⟩)|(refine ⟨h.ldd rfl, ?_⟩)|(refine h.stLc rfl rfl fun w h=>?_)|(refine exs ?_)|(refine _root_.Go.Vc.a2 ?_)|(refine h.stc rfl rfl fun w h=>?_)|(refine h.std rfl rfl fun w h=>?_)))
 refine tree_place_o (x:=p) hT h.up3.up3 fun w h=>?_
 cases hp:placeN T p with
 |none=>
  rw[hp] at hK;refine cdecT (by decide) ?_;exact hK _ (Own.mk_tree hT h.rm3.rm2)
 |some i=>
  obtain ⟨x,hx,hxp⟩:=place_some hp;have hr:=hT.rng hx;have hi:=(List.getElem?_eq_some_iff.1 hx).1;rw[hp] at hK;refine cdecF (by show ¬(i:Int)<0;omega) ?_
  (repeat (first|(refine h.al fun w h=>?_)|(refine h.dr fun w h=>?_)|(refine h.lc_2 rfl ?_)|(refine h.lc_6 rfl ?_)|(refine ⟨_,h.ldc rfl, ?_⟩)|(refine ⟨_,h.ldd rfl, ?_⟩)|(refine h.hd rfl ?_)|(refine ⟨h.ldc rfl, ?_⟩)|(refine ⟨h.ldd rfl, ?_⟩)|(refine h.stLc rfl rfl fun w h=>?_)|(refine exs ?_)|(refine _root_.Go.Vc.a2 ?_)|(refine h.stc rfl rfl fun w h=>?_)|(refine h.std rfl rfl fun w h=>?_)))
  refine tree_place_o (x:=s) hT h fun w h=>?_
  cases hs:placeN T s with
  |some j=>
   simp only[hs] at hK;refine cdecT (by show (j:Int)≥0;omega) ?_;exact hK _ (Own.mk_tree hT h.rm3.rm2)
  |none=>
   simp only[hs] at hK;refine cdecF (by decide) ?_
   (repeat (first|(refine h.al fun w h=>?_)|(refine h.dr fun w h=>?_)|(refine h.lc_2 rfl ?_)|(refine h.lc_6 rfl ?_)|(refine ⟨_,h.ldc rfl, ?_⟩)|(refine ⟨_,h.ldd rfl, ?_⟩)|(refine h.hd rfl ?_)|(refine ⟨h.ldc rfl, ?_⟩)|(refine ⟨h.ldd rfl, ?_⟩)|(refine h.stLc rfl rfl fun w h=>?_)|(refine exs ?_)|(refine _root_.Go.Vc.a2 ?_)|(refine h.stc rfl rfl fun w h=>?_)|(refine h.std rfl rfl fun w h=>?_)))
   refine h.ixc rfl hx fun a ha h0 hc=>⟨_,hc 2 _ rfl, ?_⟩
   rw[show IntKind.i64.wrap (x.2+1)=dOf T i+1 from by rw[dOf_get hx,wr (by omega) (by omega)]]
   (repeat (first|(refine h.al fun w h=>?_)|(refine h.dr fun w h=>?_)|(refine h.lc_2 rfl ?_)|(refine h.lc_6 rfl ?_)|(refine ⟨_,h.ldc rfl, ?_⟩)|(refine ⟨_,h.ldd rfl, ?_⟩)|(refine h.hd rfl ?_)|(refine ⟨h.ldc rfl, ?_⟩)|(refine ⟨h.ldd rfl, ?_⟩)|(refine h.stLc rfl rfl fun w h=>?_)|(refine exs ?_)|(refine _root_.Go.Vc.a2 ?_)|(refine h.stc rfl rfl fun w h=>?_)|(refine h.std rfl rfl fun w h=>?_)))
   show C.ql sl (IntKind.i64.wrap ((i:Int)+1)) _ _ _;rw[show IntKind.i64.wrap ((i:Int)+1)=((i+1:Nat):Int) from by rw[wr (by omega) (by omega)];omega];refine Insert_leaf (y:=(s,dOf T i+1)) h.up1 (by omega) (by omega) fun s' w h=>?_
   (repeat (first|(refine h.al fun w h=>?_)|(refine h.dr fun w h=>?_)|(refine h.lc_2 rfl ?_)|(refine h.lc_6 rfl ?_)|(refine ⟨_,h.ldc rfl, ?_⟩)|(refine ⟨_,h.ldd rfl, ?_⟩)|(refine h.hd rfl ?_)|(refine ⟨h.ldc rfl, ?_⟩)|(refine ⟨h.ldd rfl, ?_⟩)|(refine h.stLc rfl rfl fun w h=>?_)|(refine exs ?_)|(refine _root_.Go.Vc.a2 ?_)|(refine h.stc rfl rfl fun w h=>?_)|(refine h.std rfl rfl fun w h=>?_)))
   (dsimp only[putAt,List.set_cons_zero,List.set_cons_succ] at h)
   exact hK _ (Own.mk_tree (s:=s') (hT.add hl hp hs) h.rm3.rm2)
theorem wfD_set {s:Slot}:∀(T:Tr) (p:Int) (i:Nat) (x:Leaf),T[i]?=some x->wfD p T->wfD p (T.set i (s,x.2))
 | [],_,_,_,h,_=>by simp at h
 |y::T,p,0,x,h,hw=>by
  simp only[List.getElem?_cons_zero,Option.some.injEq] at h;subst h;exact hw
 |y::T,p,i+1,x,h,hw=>⟨hw.1,hw.2.1,wfD_set T y.2 i x (by simpa using h) hw.2.2⟩
theorem nodup_set {α:Type}:∀(l:List α) (i:Nat) (s:α),l.Nodup->s∉l->(l.set i s).Nodup
 | [],_,_,_,_=>by simp
 |a::l,0,s,hn,hs=>by
  rw[List.set_cons_zero,List.nodup_cons];exact ⟨fun h=>hs (List.mem_cons_of_mem _ h),(List.nodup_cons.1 hn).2⟩
 |a::l,i+1,s,hn,hs=>by
  rw[List.set_cons_succ,List.nodup_cons];rw[List.mem_cons,not_or] at hs;refine ⟨fun h=>?_,nodup_set l i s (List.nodup_cons.1 hn).2 hs.2⟩;rcases List.mem_or_eq_of_mem_set h with h|h
  ·exact (List.nodup_cons.1 hn).1 h
  ·exact hs.1 h.symm
theorem TOk.move {f t:Slot} {i:Nat} (hT:TOk T) (hp:placeN T f=some i) (h:placeN T t=none):TOk (T.set i (t,dOf T i)):=by
 obtain ⟨x,hx,_⟩:=place_some hp;refine ⟨by rw[List.length_set];exact hT.few,by rw[dOf_get hx];exact wfD_set T _ i x hx hT.wf, ?_⟩;rw[List.map_set];refine nodup_set _ _ _ hT.nd fun hm=>?_
 obtain ⟨y,hy,hys⟩:=List.mem_map.1 hm;exact place_none h y hy hys
theorem stSlot {s:Sl} {xs:List Leaf} {i:Nat} {a:Addr} {x:Leaf} {t:Slot} {k:World->Prop} (h:Own B w0 w (SlT leafE s xs::R)) (hx:xs[i]?=some x) (ha:s.a=some a) (hk:∀w',Own B w0 w' (SlT leafE s (xs.set i (t,x.2))::R)->k w'):StL w (a.add ((i:Int).toNat*3)) 0 [.int .i64 t.1, .int .i64 t.2] k:=by
 have hi:=(List.getElem?_eq_some_iff.1 hx).1;have e:∀(y:Leaf) (w:World) (k:World->Prop),St w ((a.add ((i:Int).toNat*3)).add 0) (.int .i64 t.1) (fun w'=>St w' ((a.add ((i:Int).toNat*3)).add 1) (.int .i64 t.2) k)->StL w (a.add ((i:Int).toNat*3)) 0 [.int .i64 t.1, .int .i64 t.2] k:=fun _ _ _ h=>h
 refine e x _ _ ?_;refine h.stFc (x:=x) (c:=0) ((t.1,x.1.2),x.2) rfl hx ha rfl (by decide) rfl fun w h=>?_
 refine h.stFc (x:=((t.1,x.1.2),x.2)) (c:=1) (t,x.2) rfl (by rw[List.getElem?_set,if_pos rfl,if_pos hi]) ha rfl (by decide) rfl fun w h=>?_
 rw[List.set_set] at h;exact hk w h
theorem tree_Move_spec {f t:Slot} {K:Int->World->Prop} (h:Own B w0 w (TreeA b T::R)) (hK:∀w',Own B w0 w' (TreeA b (moveN T f t).2::R)->K (moveN T f t).1 w'):C.qbS (some ⟨b,0,none⟩) f.1 f.2 t.1 t.2 K w:=by
 apply S.qbS0;unfold S.qbS;obtain ⟨sl,hT,h⟩:=h.tree;unfold moveN at hK
 (repeat (first|(refine h.al fun w h=>?_)|(refine h.dr fun w h=>?_)|(refine h.lc_2 rfl ?_)|(refine h.lc_6 rfl ?_)|(refine ⟨_,h.ldc rfl, ?_⟩)|(refine ⟨_,h.ldd rfl, ?_⟩)|(refine h.hd rfl ?_)|(refine ⟨h.ldc rfl, ?_⟩)|(refine ⟨h.ldd rfl, ?_⟩)|(refine h.stLc rfl rfl fun w h=>?_)|(refine exs ?_)|(refine _root_.Go.Vc.a2 ?_)|(refine h.stc rfl rfl fun w h=>?_)|(refine h.std rfl rfl fun w h=>?_)))
 refine tree_place_o (x:=f) hT h.up3.up3 fun w h=>?_
 cases hp:placeN T f with
 |none=>
  rw[hp] at hK;refine cdecT (by decide) ?_;exact hK _ (Own.mk_tree hT h.rm3.rm2)
 |some i=>
  obtain ⟨x,hx,hxp⟩:=place_some hp;have hi:=(List.getElem?_eq_some_iff.1 hx).1;rw[hp] at hK;refine cdecF (by show ¬(i:Int)<0;omega) ?_
  (repeat (first|(refine h.al fun w h=>?_)|(refine h.dr fun w h=>?_)|(refine h.lc_2 rfl ?_)|(refine h.lc_6 rfl ?_)|(refine ⟨_,h.ldc rfl, ?_⟩)|(refine ⟨_,h.ldd rfl, ?_⟩)|(refine h.hd rfl ?_)|(refine ⟨h.ldc rfl, ?_⟩)|(refine ⟨h.ldd rfl, ?_⟩)|(refine h.stLc rfl rfl fun w h=>?_)|(refine exs ?_)|(refine _root_.Go.Vc.a2 ?_)|(refine h.stc rfl rfl fun w h=>?_)|(refine h.std rfl rfl fun w h=>?_)))
  refine tree_place_o (x:=t) hT h fun w h=>?_
  cases hs:placeN T t with
  |some j=>
   simp only[hs] at hK;refine cdecT (by show (j:Int)≥0;omega) ?_;exact hK _ (Own.mk_tree hT h.rm3.rm2)
  |none=>
   simp only[hs] at hK;refine cdecF (by decide) ?_
   (repeat (first|(refine h.al fun w h=>?_)|(refine h.dr fun w h=>?_)|(refine h.lc_2 rfl ?_)|(refine h.lc_6 rfl ?_)|(refine ⟨_,h.ldc rfl, ?_⟩)|(refine ⟨_,h.ldd rfl, ?_⟩)|(refine h.hd rfl ?_)|(refine ⟨h.ldc rfl, ?_⟩)|(refine ⟨h.ldd rfl, ?_⟩)|(refine h.stLc rfl rfl fun w h=>?_)|(refine exs ?_)|(refine _root_.Go.Vc.a2 ?_)|(refine h.stc rfl rfl fun w h=>?_)|(refine h.std rfl rfl fun w h=>?_)))
   refine h.ixc rfl hx fun a ha h0 hc=>?_
   refine Go.Vc.a2 ?_;refine stSlot (t:=t) h hx ha fun w h=>?_
   have hm:=hT.move hp hs;rw[dOf_get hx] at hm hK;exact hK _ (Own.mk_tree (s:=sl) hm h.rm3.rm2)
end
theorem TOk.take {T:Tr} {s:Slot} {i:Nat} (hT:TOk T) (hp:placeN T s=some i):TOk (T.take i++(lift1 ((T.drop (i+1)).take (endN T i-(i+1)))++T.drop (endN T i))):=by
 obtain ⟨x,hx,_⟩:=place_some hp;have hi:=(List.getElem?_eq_some_iff.1 hx).1;obtain ⟨e1,e2⟩:=end_le T hi
 have hsub:(((T.take i++(lift1 ((T.drop (i+1)).take (endN T i-(i+1)))++T.drop (endN T i)))).map (·.1)).Sublist (T.map (·.1)):=by
  have h1:T=T.take i++(T.drop i):=(List.take_append_drop _ _).symm
  have h2:T.drop i=x::T.drop (i+1):=by
   rw[List.drop_eq_getElem_cons hi];rw[gE hi] at hx;cases hx;rfl
  have h3:T.drop (i+1)=(T.drop (i+1)).take (endN T i-(i+1))++T.drop (endN T i):=by
   have:=(List.take_append_drop (endN T i-(i+1)) (T.drop (i+1))).symm;rw[List.drop_drop,show i+1+(endN T i-(i+1))=endN T i from by omega] at this;exact this
  have h4:(lift1 ((T.drop (i+1)).take (endN T i-(i+1)))).map (·.1)=((T.drop (i+1)).take (endN T i-(i+1))).map (·.1):=by
   unfold lift1;rw[List.map_map];rfl
  rw[List.map_append,List.map_append,h4,←List.map_append,←h3]
  conv=>rhs;rw[h1,h2]
  rw[List.map_append,List.map_cons];exact (List.sublist_cons_self _ _).append_left _
 refine ⟨?_, ?_,List.Nodup.sublist hsub hT.nd⟩
 ·have:=hsub.length_le
  rw[List.length_map,List.length_map] at this;have:=hT.few;omega
 ·
  have hw:=hT.wf;have h1:T=T.take i++(T.drop i):=(List.take_append_drop _ _).symm
  have h2:T.drop i=x::T.drop (i+1):=by
   rw[List.drop_eq_getElem_cons hi];rw[gE hi] at hx;cases hx;rfl
  have hd:=dOf_get hx;have hend:endN T i-(i+1)=((T.drop (i+1)).takeWhile fun y=>decide (x.2<y.2)).length:=by unfold endN;rw[hd];omega
  have hdrop:T.drop (endN T i)=(T.drop (i+1)).dropWhile fun y=>decide (x.2<y.2):=by
   have e:endN T i=i+1+((T.drop (i+1)).takeWhile fun y=>decide (x.2<y.2)).length:=by unfold endN;rw[hd]
   rw[e,←List.drop_drop]
   conv=>lhs;rw[←List.takeWhile_append_dropWhile (p:=fun y:Leaf=>decide (x.2<y.2)) (l:=T.drop (i+1))]
   rw[List.drop_left' (by rw[List.takeWhile_append_dropWhile])]
  have htake:(T.drop (i+1)).take (endN T i-(i+1))=(T.drop (i+1)).takeWhile fun y=>decide (x.2<y.2):=by
   rw[hend]
   conv=>lhs;rw[←List.takeWhile_append_dropWhile (p:=fun y:Leaf=>decide (x.2<y.2)) (l:=T.drop (i+1))]
   rw[List.take_left' (by rw[List.takeWhile_append_dropWhile])]
  rw[h1,h2,wfD_app] at hw;rw[htake,hdrop,wfD_app];refine ⟨hw.1, ?_⟩;obtain ⟨_,hx0,hx1,hrest⟩:=hw;generalize (match (T.take i).getLast? with|some x=>x.2|none=> -1:Int)=q at hx1⊢;generalize T.drop (i+1)=D at hrest
  have key:∀(D:Tr) (p:Int),x.2≤p->wfD p D->wfD (p-1) (lift1 (D.takeWhile fun y=>decide (x.2<y.2))++D.dropWhile fun y=>decide (x.2<y.2)):=by
   intro D
   induction D with
   |nil=>intro p _ _;exact trivial
   |cons y D ih=>
    intro p hp hw;by_cases e:x.2<y.2
    ·rw[List.takeWhile_cons_of_pos (by simpa using e),List.dropWhile_cons_of_pos (by simpa using e)]
     exact ⟨by show 0≤y.2-1;omega,by show y.2-1≤p-1+1;have:=hw.2.1;omega,ih y.2 (by omega) hw.2.2⟩
    ·rw[List.takeWhile_cons_of_neg (by simpa using e),List.dropWhile_cons_of_neg (by simpa using e)]
     exact ⟨hw.1,by show y.2≤p-1+1;omega,hw.2.2⟩
  exact wfD_mono (by omega) (key D x.2 (Int.le_refl _) hrest)
section
variable {B:Nat} {w0 w:World} {R L:List Asn} {b:Nat} {T:Tr}
theorem slotsOf_spec {s:Sl} {xs:Tr} {K:Sl->World->Prop} (hr:Rd leafE B w0 L s xs) (hbig:xs.length≤1000000) (h:Own B w0 w L) (hK:∀s' w',Own B w0 w' (SlT slotE s' (xs.map (·.1))::L)->K s' w'):C.qbu s K w:=by
 apply S.qbu0;unfold S.qbu;have hlen:=hr.len;intro l hl
 have loop:∀(rest:Tr) (j:Nat) (o:Sl) (w:World),xs.drop j=rest->j≤xs.length->Own B w0 w (SlT slotE o ((xs.take j).map (·.1))::L)->l o (j:Int) w:=by
  intro rest
  induction rest with
  |nil=>
   intro j o w hj hjl h;have:xs.length≤j:=by have:=congrArg List.length hj;simp at this;omega
   apply hl;refine cdecF (by omega) ?_;rw[List.take_of_length_le this] at h;exact hK _ _ h
  |cons x rest ih=>
   intro j o w hj hjl h;have hjl2:j<xs.length:=by have:=congrArg List.length hj;simp at this;omega
   have hx:xs[j]?=some x:=by
    have:=congrArg (fun l=>l[0]?) hj;simpa using this
   apply hl;refine cdecT (by omega) ?_;have hr2:Rd leafE B w0 (SlT slotE o ((xs.take j).map (·.1))::L) s xs:=hr.more;refine hr2.ix h rfl hx fun a ha h0 hc=>?_
   refine ldLeaf hc ?_;refine h.al fun w h=>?_
   refine h.stLc rfl rfl fun w h=>?_
   refine h.lc_2 rfl ?_;refine h.al fun w h=>?_
   have h:=h.rm1;refine app1_slot (ys:=((xs.take j).map fun y:Leaf=>y.1)) (y:=x.1) h (by simp;omega) fun o' w ho' h=>?_
   rw[show IntKind.i64.wrap ((j:Int)+1)=((j+1:Nat):Int) from by rw[wr (by omega) (by omega)];omega];refine ih (j+1) o' w (by rw[←List.drop_drop,hj];rfl) (by omega) ?_;rw[List.take_add_one,hx,List.map_append];exact h
 exact loop xs 0 ⟨none,0,0⟩ w rfl (by omega) (Own.nilS h)
theorem tree_All_spec {K:Sl->World->Prop} (h:Own B w0 w (TreeA b T::R)) (hK:∀s' w',Own B w0 w' (SlT slotE s' (T.map (·.1))::TreeA b T::R)->K s' w'):C.qcc (some ⟨b,0,none⟩) K w:=by
 apply S.qcc0;unfold S.qcc;obtain ⟨sl,hT,h⟩:=h.tree;have hlen:=h.lenc sl
 (repeat (first|(refine h.al fun w h=>?_)|(refine h.dr fun w h=>?_)|(refine h.lc_2 rfl ?_)|(refine h.lc_6 rfl ?_)|(refine ⟨_,h.ldc rfl, ?_⟩)|(refine ⟨_,h.ldd rfl, ?_⟩)|(refine h.hd rfl ?_)|(refine ⟨h.ldc rfl, ?_⟩)|(refine ⟨h.ldd rfl, ?_⟩)|(refine h.stLc rfl rfl fun w h=>?_)|(refine exs ?_)|(refine _root_.Go.Vc.a2 ?_)|(refine h.stc rfl rfl fun w h=>?_)|(refine h.std rfl rfl fun w h=>?_)))
 refine slotsOf_spec (Rd.own hlen) hT.few h fun s' w h=>?_
 have h2:Own B w0 w (TreeA b T::SlT slotE s' (T.map (·.1))::R):=Own.mk_tree (s:=sl) hT h.up2.up2;exact hK _ _ h2.up1
theorem tree_Under_spec {s:Slot} {K:Sl->World->Prop} (h:Own B w0 w (TreeA b T::R)) (hK:∀s' w',Own B w0 w' (SlT slotE s' (underN T s)::TreeA b T::R)->K s' w'):C.qbF (some ⟨b,0,none⟩) s.1 s.2 K w:=by
 apply S.qbF0;unfold S.qbF;obtain ⟨sl,hT,h⟩:=h.tree;have hlen:=h.lenc sl;have hcap:=h.slRaw.le_cap;have hfew:=hT.few;unfold underN at hK
 (repeat (first|(refine h.al fun w h=>?_)|(refine h.dr fun w h=>?_)|(refine h.lc_2 rfl ?_)|(refine h.lc_6 rfl ?_)|(refine ⟨_,h.ldc rfl, ?_⟩)|(refine ⟨_,h.ldd rfl, ?_⟩)|(refine h.hd rfl ?_)|(refine ⟨h.ldc rfl, ?_⟩)|(refine ⟨h.ldd rfl, ?_⟩)|(refine h.stLc rfl rfl fun w h=>?_)|(refine exs ?_)|(refine _root_.Go.Vc.a2 ?_)|(refine h.stc rfl rfl fun w h=>?_)|(refine h.std rfl rfl fun w h=>?_)))
 refine tree_place_o (x:=s) hT h.up2.up2 fun w h=>?_
 cases hp:placeN T s with
 |none=>
  rw[hp] at hK;refine cdecT (by decide) ?_;have h2:Own B w0 w (TreeA b T::R):=Own.mk_tree (s:=sl) hT h.rm2;exact hK _ w (Own.nilS h2)
 |some i=>
  obtain ⟨x,hx,hxp⟩:=place_some hp;have hi:=(List.getElem?_eq_some_iff.1 hx).1;obtain ⟨e1,e2⟩:=end_le T hi;rw[hp] at hK;refine cdecF (by show ¬(i:Int)<0;omega) ?_;have ew:IntKind.i64.wrap ((i:Int)+1)=((i+1:Nat):Int):=by rw[wr (by omega) (by omega)];omega
  have fin:∀w,Own B w0 w (SlT leafE sl T::BlkA b [slV sl]::R)->C.qbu ⟨Vc.slA sl.a (i+1) sl.cap 3,endN T i-(i+1),sl.cap-(i+1)⟩ K w:=fun w h=>by
   refine slotsOf_spec (Rd.part (s:=sl) (xs:=T) (E:=leafE) (p:=i+1) (n:=endN T i-(i+1)) (by omega)) (by simp;omega) h fun s' w h=>?_
   have h2:Own B w0 w (TreeA b T::SlT slotE s' _::R):=Own.mk_tree (s:=sl) hT h.up2.up2;exact hK _ _ h2.up1
  have h:=h.rm2
  (repeat (first|(refine h.al fun w h=>?_)|(refine h.dr fun w h=>?_)|(refine h.lc_2 rfl ?_)|(refine h.lc_6 rfl ?_)|(refine ⟨_,h.ldc rfl, ?_⟩)|(refine ⟨_,h.ldd rfl, ?_⟩)|(refine h.hd rfl ?_)|(refine ⟨h.ldc rfl, ?_⟩)|(refine ⟨h.ldd rfl, ?_⟩)|(refine h.stLc rfl rfl fun w h=>?_)|(refine exs ?_)|(refine _root_.Go.Vc.a2 ?_)|(refine h.stc rfl rfl fun w h=>?_)|(refine h.std rfl rfl fun w h=>?_)))
  refine tree_end_o hT hi h fun w h=>?_
  (repeat (first|(refine h.al fun w h=>?_)|(refine h.dr fun w h=>?_)|(refine h.lc_2 rfl ?_)|(refine h.lc_6 rfl ?_)|(refine ⟨_,h.ldc rfl, ?_⟩)|(refine ⟨_,h.ldd rfl, ?_⟩)|(refine h.hd rfl ?_)|(refine ⟨h.ldc rfl, ?_⟩)|(refine ⟨h.ldd rfl, ?_⟩)|(refine h.stLc rfl rfl fun w h=>?_)|(refine exs ?_)|(refine _root_.Go.Vc.a2 ?_)|(refine h.stc rfl rfl fun w h=>?_)|(refine h.std rfl rfl fun w h=>?_)))
  show _/\_/\0≤IntKind.i64.wrap ((i:Int)+1)/\IntKind.i64.wrap ((i:Int)+1)≤_/\C.qbu ⟨Vc.slA sl.a (IntKind.i64.wrap ((i:Int)+1)).toNat sl.cap 3,_-(IntKind.i64.wrap ((i:Int)+1)).toNat,sl.cap-(IntKind.i64.wrap ((i:Int)+1)).toNat⟩ _ _/\True;rw[ew];refine ⟨by omega,by omega,by omega,by simp only[Int.toNat_natCast];omega,Go.Vc.a2 ?_⟩;exact fin w h
end
def liftN (T:Tr) (i k:Nat):Tr:=T.take (i+1)++(lift1 ((T.drop (i+1)).take k)++T.drop (i+1+k))
theorem lift_len (T:Tr) (i k:Nat):(liftN T i k).length=T.length:=by unfold liftN lift1;simp;omega
theorem lift_get {T:Tr} {i k j:Nat} (hk:k≤j):(liftN T i k)[i+1+j]?=T[i+1+j]?:=by
 unfold liftN lift1;by_cases hl:i+1+k≤T.length
 ·have h1:(T.take (i+1)).length=i+1:=by simp;omega
  have h2:(((T.drop (i+1)).take k).map fun x:Leaf=>(x.1,x.2-1)).length=k:=by simp;omega
  rw[List.getElem?_append_right (by omega),h1,List.getElem?_append_right (by omega),h2,List.getElem?_drop];congr 1;omega
 ·rw[List.getElem?_eq_none (l:=T) (by omega),List.getElem?_eq_none]
  simp;omega
theorem lift_step {T:Tr} {i k:Nat} {x:Leaf} (hx:T[i+1+k]?=some x):(liftN T i k).set (i+1+k) (x.1,x.2-1)=liftN T i (k+1):=by
 have hl:=(List.getElem?_eq_some_iff.1 hx).1;unfold liftN lift1;have h1:(T.take (i+1)).length=i+1:=by simp;omega
 have h2:(((T.drop (i+1)).take k).map fun x:Leaf=>(x.1,x.2-1)).length=k:=by simp;omega
 rw[List.set_append_right _ _ (by omega),h1,List.set_append_right _ _ (by omega),h2,show i+1+k-(i+1)-k=0 from by omega]
 have h3:T.drop (i+1+k)=x::T.drop (i+1+(k+1)):=by
  rw[List.drop_eq_getElem_cons hl];rw[gE hl] at hx;cases hx;rfl
 have h4:(T.drop (i+1)).take (k+1)=(T.drop (i+1)).take k++ [x]:=by
  rw[List.take_add_one,List.getElem?_drop,hx];rfl
 rw[h3,h4,List.set_cons_zero,List.map_append,List.append_assoc];rfl
theorem lift_zero (T:Tr) (i:Nat):liftN T i 0=T:=by unfold liftN lift1;simp
section
variable {B:Nat} {w0 w:World} {R L:List Asn} {b:Nat} {T:Tr}
theorem tree_Take_spec {s:Slot} {K:Int->World->Prop} (h:Own B w0 w (TreeA b T::R)) (hK:∀w',Own B w0 w' (TreeA b (takeN T s).2::R)->K (takeN T s).1 w'):C.qbU (some ⟨b,0,none⟩) s.1 s.2 K w:=by
 apply S.qbU0;unfold S.qbU;obtain ⟨sl,hT,h⟩:=h.tree;have hlen:=h.lenc sl;have hcap:=h.slRaw.le_cap;have hfew:=hT.few;unfold takeN at hK
 (repeat (first|(refine h.al fun w h=>?_)|(refine h.dr fun w h=>?_)|(refine h.lc_2 rfl ?_)|(refine h.lc_6 rfl ?_)|(refine ⟨_,h.ldc rfl, ?_⟩)|(refine ⟨_,h.ldd rfl, ?_⟩)|(refine h.hd rfl ?_)|(refine ⟨h.ldc rfl, ?_⟩)|(refine ⟨h.ldd rfl, ?_⟩)|(refine h.stLc rfl rfl fun w h=>?_)|(refine exs ?_)|(refine _root_.Go.Vc.a2 ?_)|(refine h.stc rfl rfl fun w h=>?_)|(refine h.std rfl rfl fun w h=>?_)))
 refine tree_place_o (x:=s) hT h.up2.up2 fun w h=>?_
 cases hp:placeN T s with
 |none=>
  rw[hp] at hK;refine cdecT (by decide) ?_;exact hK _ (Own.mk_tree (s:=sl) hT h.rm2)
 |some i=>
  obtain ⟨x,hx,hxp⟩:=place_some hp;have hi:=(List.getElem?_eq_some_iff.1 hx).1;obtain ⟨e1,e2⟩:=end_le T hi;rw[hp] at hK;simp only at hK;refine cdecF (by show ¬(i:Int)<0;omega) ?_;have ew:IntKind.i64.wrap ((i:Int)+1)=((i+1:Nat):Int):=by rw[wr (by omega) (by omega)];omega
  generalize hm:endN T i-(i+1)=m at*
  have fin:∀(l:Int->World->Prop),(∀(t15:Int) (w16:World),(bif decide (t15<(m:Int)) then
    (∃a17:Addr,Vc.slA sl.a (i+1) sl.cap 3=some a17/\0≤t15/\t15<(m:Int)/\∃depth18:Int,w16.cell? ((a17.add (t15.toNat*3)).add 2)=some (.int .i64 depth18)/\
     ∃a19:Addr,Vc.slA sl.a (i+1) sl.cap 3=some a19/\0≤t15/\t15<(m:Int)/\
     St w16 ((a19.add (t15.toNat*3)).add 2) (.int .i64 (IntKind.i64.wrap (depth18-(1:Int)))) fun w20=>l (IntKind.i64.wrap (t15+(1:Int))) w20)
    else
    (∃a21:Addr,some (Addr.mk b 0 none)=some a21/\∃l22:Sl,w16.cell? a21=some (.slice l22.a l22.len l22.cap)/\
     C.qm l22 (i:Int) (((i+1:Nat):Int)) (fun r23 w24=>∃a25:Addr,some (Addr.mk b 0 none)=some a25/\St w24 a25 (.slice r23.a r23.len r23.cap) fun w26=>K (0:Int) w26) w16))->l t15 w16)->
    ∀w,Own B w0 w (SlT leafE sl T::BlkA b [slV sl]::R)->l 0 w:=fun l hl w h=>by
   have loop:∀(n k:Nat) (w:World),k+n=m->Own B w0 w (SlT leafE sl (liftN T i k)::BlkA b [slV sl]::R)->l (k:Int) w:=by
    intro n
    induction n with
    |zero=>
     intro k w hk h;obtain rfl:k=m:=by omega
     apply hl;refine cdecF (by omega) ?_
     (repeat (first|(refine h.al fun w h=>?_)|(refine h.dr fun w h=>?_)|(refine h.lc_2 rfl ?_)|(refine h.lc_6 rfl ?_)|(refine ⟨_,h.ldc rfl, ?_⟩)|(refine ⟨_,h.ldd rfl, ?_⟩)|(refine h.hd rfl ?_)|(refine ⟨h.ldc rfl, ?_⟩)|(refine ⟨h.ldd rfl, ?_⟩)|(refine h.stLc rfl rfl fun w h=>?_)|(refine exs ?_)|(refine _root_.Go.Vc.a2 ?_)|(refine h.stc rfl rfl fun w h=>?_)|(refine h.std rfl rfl fun w h=>?_)))
     refine Delete_leaf h (by omega) (by rw[lift_len];omega) (by rw[lift_len];omega) fun s' w h=>?_
     (repeat (first|(refine h.al fun w h=>?_)|(refine h.dr fun w h=>?_)|(refine h.lc_2 rfl ?_)|(refine h.lc_6 rfl ?_)|(refine ⟨_,h.ldc rfl, ?_⟩)|(refine ⟨_,h.ldd rfl, ?_⟩)|(refine h.hd rfl ?_)|(refine ⟨h.ldc rfl, ?_⟩)|(refine ⟨h.ldd rfl, ?_⟩)|(refine h.stLc rfl rfl fun w h=>?_)|(refine exs ?_)|(refine _root_.Go.Vc.a2 ?_)|(refine h.stc rfl rfl fun w h=>?_)|(refine h.std rfl rfl fun w h=>?_)))
     (dsimp only[putAt,List.set_cons_zero,List.set_cons_succ] at h)
     have hd:(liftN T i k).take i++(liftN T i k).drop (i+1)=T.take i++(lift1 ((T.drop (i+1)).take k)++T.drop (endN T i)):=by
      have h1:(T.take (i+1)).length=i+1:=by simp;omega
      have h2:(liftN T i k).take i=T.take i:=by
       unfold liftN;rw[List.take_append_of_le_length (by omega),List.take_take,Nat.min_eq_left (by omega)]
      have h3:(liftN T i k).drop (i+1)=lift1 ((T.drop (i+1)).take k)++T.drop (i+1+k):=by
       unfold liftN;rw[List.drop_left' h1]
      rw[h2,h3,show i+1+k=endN T i from by omega]
     rw[hd] at h;have hok:=hT.take hp;rw[hm] at hok;exact hK _ (Own.mk_tree (s:=s') hok h)
    |succ n ih=>
     intro k w hk h;obtain ⟨y,hy⟩:∃y,T[i+1+k]?=some y:=⟨_,gE (by omega)⟩
     have hy2:(liftN T i k)[i+1+k]?=some y:=by rw[lift_get (Nat.le_refl _)];exact hy
     have hyr:=hT.rng hy;apply hl;refine cdecT (by omega) ?_;obtain ⟨a,a0,ha0,ha,he⟩:=h.partA (s:=sl) (E:=leafE) (xs:=liftN T i k) (p:=i+1) (n:=m) (t:=k) (by rw[lift_len];omega) (by omega);have he:a.add (k*3)=a0.add (((i+1+k:Nat):Int).toNat*3):=by rw[Int.toNat_natCast];exact he
     obtain ⟨_,hc⟩:=h.ixa (s:=sl) (E:=leafE) (i:=((i+1+k:Nat):Int)) (j:=i+1+k) rfl hy2 ha0;have hc:w.cell? ((a0.add (((i+1+k:Nat):Int).toNat*3)).add 2)=some (.int .i64 y.2):=hc 2 _ rfl;refine ⟨a,ha,by omega,by omega,y.2, ?_,a,ha,by omega,by omega, ?_⟩
     ·rw[Int.toNat_natCast,he];exact hc
     ·rw[Int.toNat_natCast,he,wr (by omega) (by omega)]
      refine h.stFc (E:=leafE) (x:=y) (c:=2) (y.1,y.2-1) rfl hy2 ha0 rfl (by decide) rfl fun w h=>?_
      rw[lift_step hy] at h;rw[show IntKind.i64.wrap ((k:Int)+1)=((k+1:Nat):Int) from by rw[wr (by omega) (by omega)];omega];exact ih (k+1) w (by omega) h
   exact loop m 0 w (by omega) (by rw[lift_zero];exact h)
  have h:=h.rm2
  (repeat (first|(refine h.al fun w h=>?_)|(refine h.dr fun w h=>?_)|(refine h.lc_2 rfl ?_)|(refine h.lc_6 rfl ?_)|(refine ⟨_,h.ldc rfl, ?_⟩)|(refine ⟨_,h.ldd rfl, ?_⟩)|(refine h.hd rfl ?_)|(refine ⟨h.ldc rfl, ?_⟩)|(refine ⟨h.ldd rfl, ?_⟩)|(refine h.stLc rfl rfl fun w h=>?_)|(refine exs ?_)|(refine _root_.Go.Vc.a2 ?_)|(refine h.stc rfl rfl fun w h=>?_)|(refine h.std rfl rfl fun w h=>?_)))
  refine tree_end_o hT hi h fun w h=>?_
  (repeat (first|(refine h.al fun w h=>?_)|(refine h.dr fun w h=>?_)|(refine h.lc_2 rfl ?_)|(refine h.lc_6 rfl ?_)|(refine ⟨_,h.ldc rfl, ?_⟩)|(refine ⟨_,h.ldd rfl, ?_⟩)|(refine h.hd rfl ?_)|(refine ⟨h.ldc rfl, ?_⟩)|(refine ⟨h.ldd rfl, ?_⟩)|(refine h.stLc rfl rfl fun w h=>?_)|(refine exs ?_)|(refine _root_.Go.Vc.a2 ?_)|(refine h.stc rfl rfl fun w h=>?_)|(refine h.std rfl rfl fun w h=>?_)))
  dsimp only;rw[ew];refine ⟨by omega,by omega,by omega,by simp only[Int.toNat_natCast];omega, ?_⟩;intro l hl;subst hm;exact fin l hl w h
end
end Go.Proofs.YtogmbmdbgkopjaaGreat.Tr
end
section
set_option maxRecDepth 100000
namespace Go.Proofs.YtogmbmdbgkopjaaGreat
open Go Go.Vc Go.Proofs
def S.qcH (K:Option Addr->World->Prop) (w:World):Prop:=Al w (.map #[] 0) fun w1=>Al w1 (.cells #[.slice none 0 0, .slice none 0 0, .slice none 0 0, .slice none 0 0, .slice none 0 0, .slice none 0 0, .slice none 0 0, .slice none 0 0, .slice none 0 0, .slice none 0 0, .slice none 0 0, .slice none 0 0, .slice none 0 0, .slice none 0 0, .slice none 0 0, .slice none 0 0, .slice none 0 0, .slice none 0 0, .slice none 0 0, .slice none 0 0, .slice none 0 0, .slice none 0 0, .slice none 0 0, .slice none 0 0, .slice none 0 0, .slice none 0 0, .slice none 0 0, .slice none 0 0, .slice none 0 0, .slice none 0 0, .slice none 0 0, .slice none 0 0, .slice none 0 0, .slice none 0 0, .slice none 0 0, .slice none 0 0, .slice none 0 0, .slice none 0 0, .slice none 0 0, .slice none 0 0, .slice none 0 0, .slice none 0 0, .slice none 0 0, .slice none 0 0, .slice none 0 0, .slice none 0 0, .slice none 0 0, .slice none 0 0, .slice none 0 0, .slice none 0 0, .slice none 0 0, .slice none 0 0, .slice none 0 0, .slice none 0 0, .slice none 0 0, .slice none 0 0, .slice none 0 0, .slice none 0 0, .slice none 0 0, .slice none 0 0, .slice none 0 0, .slice none 0 0, .slice none 0 0, .slice none 0 0, .slice none 0 0, .slice none 0 0, .slice none 0 0, .slice none 0 0, .slice none 0 0, .slice none 0 0, .slice none 0 0, .slice none 0 0, .slice none 0 0, .slice none 0 0, .slice none 0 0, .slice none 0 0, .slice none 0 0, .slice none 0 0, .slice none 0 0, .slice none 0 0, .slice none 0 0, .slice none 0 0, .slice none 0 0, .slice none 0 0, .slice none 0 0, .slice none 0 0, .slice none 0 0, .slice none 0 0, .slice none 0 0, .slice none 0 0, .slice none 0 0, .slice none 0 0, .slice none 0 0, .slice none 0 0, .slice none 0 0, .slice none 0 0, .slice none 0 0, .slice none 0 0, .slice none 0 0, .slice none 0 0, .slice none 0 0, .slice none 0 0, .slice none 0 0, .slice none 0 0, .slice none 0 0, .slice none 0 0, .slice none 0 0, .slice none 0 0, .slice none 0 0, .slice none 0 0, .slice none 0 0, .slice none 0 0, .slice none 0 0, .slice none 0 0, .slice none 0 0, .slice none 0 0, .slice none 0 0, .slice none 0 0, .slice none 0 0, .slice none 0 0, .slice none 0 0, .slice none 0 0, .slice none 0 0, .slice none 0 0, .slice none 0 0, .slice none 0 0, .slice none 0 0, .slice none 0 0, .slice none 0 0, .slice none 0 0, .slice none 0 0, .slice none 0 0, .slice none 0 0, .slice none 0 0, .slice none 0 0, .slice none 0 0, .slice none 0 0, .slice none 0 0, .slice none 0 0, .slice none 0 0, .slice none 0 0, .slice none 0 0, .slice none 0 0, .slice none 0 0, .slice none 0 0, .slice none 0 0, .slice none 0 0, .slice none 0 0, .slice none 0 0, .slice none 0 0, .slice none 0 0, .slice none 0 0, .slice none 0 0, .slice none 0 0, .slice none 0 0, .slice none 0 0, .slice none 0 0, .slice none 0 0, .slice none 0 0, .slice none 0 0, .slice none 0 0, .slice none 0 0, .slice none 0 0, .slice none 0 0, .slice none 0 0, .slice none 0 0, .slice none 0 0, .slice none 0 0, .slice none 0 0, .slice none 0 0, .slice none 0 0, .slice none 0 0, .slice none 0 0, .slice none 0 0, .slice none 0 0, .slice none 0 0, .slice none 0 0, .slice none 0 0, .slice none 0 0, .slice none 0 0, .slice none 0 0, .slice none 0 0, .slice none 0 0, .slice none 0 0, .slice none 0 0, .slice none 0 0, .slice none 0 0, .slice none 0 0, .slice none 0 0, .slice none 0 0, .slice none 0 0, .slice none 0 0, .slice none 0 0, .slice none 0 0, .slice none 0 0, .slice none 0 0, .slice none 0 0, .slice none 0 0, .slice none 0 0, .slice none 0 0, .slice none 0 0, .slice none 0 0, .slice none 0 0, .slice none 0 0, .slice none 0 0, .slice none 0 0, .slice none 0 0, .slice none 0 0, .slice none 0 0, .slice none 0 0, .slice none 0 0, .slice none 0 0, .slice none 0 0, .slice none 0 0, .slice none 0 0, .slice none 0 0, .slice none 0 0, .slice none 0 0, .slice none 0 0, .slice none 0 0, .slice none 0 0, .slice none 0 0, .slice none 0 0, .slice none 0 0, .slice none 0 0, .slice none 0 0, .slice none 0 0, .slice none 0 0, .slice none 0 0, .slice none 0 0, .slice none 0 0, .slice none 0 0, .slice none 0 0, .slice none 0 0, .slice none 0 0, .slice none 0 0, .slice none 0 0, .slice none 0 0, .slice none 0 0, .slice none 0 0, .slice none 0 0, .slice none 0 0, .slice none 0 0, .slice none 0 0, .slice none 0 0, .slice none 0 0, .slice none 0 0, .slice none 0 0, .slice none 0 0, .slice none 0 0, .slice none 0 0, .slice none 0 0, .slice none 0 0, .slice none 0 0, .slice none 0 0, .slice none 0 0, .map (some w.heap.size), .int .u64 0, .int .u64 0, .int .u64 0, .int .u64 0] 297) fun w2=>K (some (Addr.mk w1.heap.size 0 none)) w2
theorem S.qcH0 (K:Option Addr->World->Prop) (w:World) (h:S.qcH K w):C.qcH K w:=
 okS Tryz.func105 (.t none (.u) (.t none (.u) (.u))) [(0, .c (.p))] [] K rfl (by kernel_rfl) (by kernel_rfl) h
def S.qbs (q1:Option Addr) (K:Int->Bool->World->Prop) (w:World):Prop:=∃a2,q1=some a2/\LdL w (a2.add 257) 0 [.i .u64, .i .u64, .i .u64, .i .u64] fun (b3:Int) (b4:Int) (b5:Int) (b6:Int)=>C.qcI b3 b4 b5 b6 (fun r7 w8=>bif decide (r7<(0:Int)) then (K (0:Int) false w8) else (∃a9,q1=some a9/\0≤r7/\r7<(256:Int)/\∃t10:Sl,w8.cell? (a9.add (r7.toNat*1))=some (.slice t10.a t10.len t10.cap)/\∃a11,t10.a=some a11/\0≤(0:Int)/\(0:Int)<(t10.len:Int)/\∃t12,w8.cell? (a11.add ((0:Int).toNat*1))=some (.int .i64 t12)/\K t12 true w8)) w
theorem S.qbs0 (q1:Option Addr) (K:Int->Bool->World->Prop) (w:World) (h:S.qbs q1 K w):C.qbs q1 K w:=
 okS Tryz.func112 (.t none (.u) (.t none (.u) (.t none (.t none (.u) (.t none (.t none (.u) (.u)) (.u))) (.t none (.u) (.u))))) [(0, .c (.i .i64)),(1, .c (.b))] [.pointer q1] K rfl (by kernel_rfl) (by kernel_rfl) h
def S.qbE (q1:Option Addr) (prio2:Int) (n3:Int) (K:Int->World->Prop) (w:World):Prop:=∀k4:Bool->World->Prop,(∀(t5:Bool) (w6:World),(bif t5 then (K (1:Int) w6) else (∃a7,q1=some a7/\∃by8,w6.cell? (a7.add 256)=some (.map by8)/\∃t9,∃is10,LkB Tryz.prog 291 (.map by8) (.int .i64 n3) (.int .i64 t9) is10 w6/\bif is10 then (K (90:Int) w6) else (Dr w6 fun w11=>∃a12,q1=some a12/\0≤prio2/\prio2<(256:Int)/\∃t13:Sl,w11.cell? (a12.add (prio2.toNat*1))=some (.slice t13.a t13.len t13.cap)/\∃a14,q1=some a14/\(Al w11 (.cells #[.int .i64 n3] 3) fun w15=>(∃(t16:Sl) (w17:World),AppR Tryz.prog [26,26] 26 (.slice t13.a t13.len t13.cap) (.slice (some (Addr.mk w11.heap.size 0 none)) 1 1) w15 t16 w17/\0≤prio2/\prio2<(256:Int)/\(St w17 (a14.add (prio2.toNat*1)) (.slice t16.a t16.len t16.cap) fun w18=>∃a19,q1=some a19/\∃by20,w18.cell? (a19.add 256)=some (.map by20)/\∃w21:World,UpdR Tryz.prog 291 (.map by20) (.int .i64 n3) (.int .i64 prio2) w18 w21/\∃a22,q1=some a22/\C.qaV (some a22) prio2 (fun w23=>K (0:Int) w23) w21)/\True)/\True)/\True)))->k4 t5 w6)->(bif decide (prio2<(0:Int)) then (k4 true w) else (k4 (decide (prio2≥(256:Int))) w))
theorem S.qbE0 (q1:Option Addr) (prio2:Int) (n3:Int) (K:Int->World->Prop) (w:World) (h:S.qbE q1 prio2 n3 K w):C.qbE q1 prio2 n3 K w:=
 okS Tryz.func191 (.t none (.u) (.t none (.t none (.r (some [(14, .c (.b))]) .done) (.t none (.t none (.u) (.u)) (.u))) (.t none (.t none (.u) (.t none (.u) (.t none (.t none (.u) (.u)) (.u)))) (.t none (.r none (.one 0 4094 (.one 1 32764 (.one 2 30216 (.one 3 30320 (.one 4 30208 (.one 5 30208 (.one 6 30208 (.one 7 30208 (.one 8 30208 (.one 9 28672 (.one 12 3072 (.one 13 3072 (.one 14 3072 (.alt 10 (.alt 11 (.one 15 0 (.alt 16 (.done) (.none))) (.none)) (.none)))))))))))))))) (.t none (.u) (.t none (.u) (.t none (.u) (.u)))))))) [(0, .c (.i .i64))] [.pointer q1, .int .i64 prio2, .int .i64 n3] K rfl (by kernel_rfl) (by kernel_rfl) h
def S.qbv (q1:Option Addr) (n2:Int) (K:Int->World->Prop) (w:World):Prop:=Al w (.cells #[.int .i64 n2] 3) fun w3=>Dr w3 fun w4=>∃a5,q1=some a5/\∃by6,w4.cell? (a5.add 256)=some (.map by6)/\∃t7,w4.cell? (Addr.mk w.heap.size 0 none)=some (.int .i64 t7)/\(∃t8,∃is9,LkB Tryz.prog 291 (.map by6) (.int .i64 t7) (.int .i64 t8) is9 w4/\bif !is9 then (K (91:Int) w4) else (Dr w4 fun w10=>∃a11,q1=some a11/\0≤t8/\t8<(256:Int)/\∃t12:Sl,w10.cell? (a11.add (t8.toNat*1))=some (.slice t12.a t12.len t12.cap)/\∃a13,q1=some a13/\(C.qC t12 (.func (.func 270) #[] #[.pointer (some (Addr.mk w.heap.size 0 none))]) (fun r14 w15=>0≤t8/\t8<(256:Int)/\(St w15 (a13.add (t8.toNat*1)) (.slice r14.a r14.len r14.cap) fun w16=>Dr w16 fun w17=>∃a18,q1=some a18/\∃by19,w17.cell? (a18.add 256)=some (.map by19)/\∃t20,w17.cell? (Addr.mk w.heap.size 0 none)=some (.int .i64 t20)/\(∃w21:World,DelR Tryz.prog [291,3] 0 (.map by19) (.int .i64 t20) w17 w21/\∃a22,q1=some a22/\C.qaV (some a22) t8 (fun w23=>K (0:Int) w23) w21)/\True)/\True) w10)/\True))/\True
theorem S.qbv0 (q1:Option Addr) (n2:Int) (K:Int->World->Prop) (w:World) (h:S.qbv q1 n2 K w):C.qbv q1 n2 K w:=
 okS Tryz.func193 (.t none (.u) (.t none (.r none (.one 0 32 (.one 1 32 (.one 2 32 (.one 3 32 (.one 4 32 (.one 5 0 (.alt 6 (.one 7 0 (.one 8 512 (.one 9 1024 (.one 10 0 (.one 11 0 (.done)))))) (.none))))))))) (.t none (.t none (.u) (.t none (.t none (.u) (.u)) (.u))) (.t none (.r none (.one 0 2046 (.one 1 16380 (.one 2 14856 (.one 3 14960 (.one 4 14848 (.one 5 14848 (.one 6 14848 (.one 7 14848 (.one 8 14848 (.one 9 14336 (.one 11 1024 (.one 12 1024 (.one 13 1024 (.alt 10 (.one 14 0 (.alt 15 (.done) (.none))) (.none)))))))))))))))) (.t none (.r none (.one 0 32 (.one 1 32 (.one 2 32 (.one 3 32 (.one 4 32 (.one 5 0 (.alt 6 (.done) (.none))))))))) (.t none (.u) (.t none (.u) (.u)))))))) [(0, .c (.i .i64))] [.pointer q1, .int .i64 n2] K rfl (by kernel_rfl) (by kernel_rfl) h
def S.qaV (q1:Option Addr) (prio2:Int) (K:World->Prop) (w:World):Prop:=Dr w fun w3=>∃a4,q1=some a4/\LdL w3 (a4.add 257) 0 [.i .u64, .i .u64, .i .u64, .i .u64] fun (b5:Int) (b6:Int) (b7:Int) (b8:Int)=>∃a9,q1=some a9/\0≤prio2/\prio2<(256:Int)/\∃t10:Sl,w3.cell? (a9.add (prio2.toNat*1))=some (.slice t10.a t10.len t10.cap)/\(C.qcK b5 b6 b7 b8 prio2 (decide ((t10.len:Int)>(0:Int))) (fun r11 r12 r13 r14 r15 w16=>∃a17,q1=some a17/\(StL w16 (a17.add 257) 0 [.int .u64 r11, .int .u64 r12, .int .u64 r13, .int .u64 r14] fun w18=>K w18)/\True) w3)/\True
theorem S.qaV0 (q1:Option Addr) (prio2:Int) (K:World->Prop) (w:World) (h:S.qaV q1 prio2 K w):C.qaV q1 prio2 K w:=
 okS Tryz.func267 (.r none (.one 0 262142 (.one 1 16352 (.one 2 16352 (.one 3 16352 (.one 4 16352 (.one 5 16320 (.one 6 128 (.one 7 768 (.one 8 0 (.one 9 0 (.one 10 0 (.one 11 0 (.one 12 0 (.one 13 0 (.alt 14 (.one 15 0 (.one 16 131072 (.one 17 1835008 (.one 18 0 (.one 19 0 (.alt 20 (.done) (.none))))))) (.none))))))))))))))))) [] [.pointer q1, .int .i64 prio2] K rfl (by kernel_rfl) (by kernel_rfl) h
def S.qbx (x1:Int) (t2:Addr) (K:Bool->World->Prop) (w:World):Prop:=∃t3,w.cell? t2=some (.int .i64 t3)/\K (x1==t3) w
theorem S.qbx0 (x1:Int) (t2:Addr) (K:Bool->World->Prop) (w:World) (h:S.qbx x1 t2 K w):C.qbx x1 t2 K w:=
 okS Tryz.func270 (.t none (.u) (.t none (.u) (.u))) [(0, .c (.b))] [.int .i64 x1, .pointer (some t2)] K rfl (by kernel_rfl) (by kernel_rfl) h
end Go.Proofs.YtogmbmdbgkopjaaGreat
end
section
set_option maxRecDepth 8000
namespace Go.Proofs.YtogmbmdbgkopjaaGreat.Th
open Go Go.Vc Go.Proofs
abbrev Qs:=List (Nat × Int)
def lineOf (L:Qs) (p:Nat):List Int:=(L.filter fun x=>x.1==p).map (·.2)
def wh (L:Qs) (n:Int):Option Nat:=(L.find? fun x=>x.2==n).map (·.1)
def some1 (L:Qs) (p:Nat):Bool:= !(lineOf L p).isEmpty
structure QOk (L:Qs):Prop where
 nodup:(L.map (·.2)).Nodup
 prio:∀x∈L,x.1<256
 few:L.length≤1000000
theorem four {α:Type} (ws:List α) (h:ws.length=4):∃a b c d,ws= [a,b,c,d]:=by
 rcases ws with _|⟨a,_|⟨b,_|⟨c,_|⟨d,_|⟨e,ws⟩⟩⟩⟩⟩
 ·simp at h
 ·simp at h
 ·simp at h
 ·simp at h
 ·exact ⟨a,b,c,d,rfl⟩
 ·simp at h
def slV (s:Sl):Value:= .slice s.a s.len s.cap
def qcells (sl:Nat->Sl) (m:Nat) (ws:List Int):List Value:=(List.range 256).map (fun p=>slV (sl p))++Value.map (some m)::ws.map (Value.int .u64)
def updF (sl:Nat->Sl) (p:Nat) (s:Sl):Nat->Sl:=fun q=>if q=p then s else sl q
theorem qcells_line {sl:Nat->Sl} {m:Nat} {ws:List Int} {p:Nat} (hp:p<256):(qcells sl m ws)[p]?=some (slV (sl p)):=by
 unfold qcells;rw[List.getElem?_append_left (by simpa using hp),List.getElem?_map,List.getElem?_range hp];rfl
theorem qcells_map {sl:Nat->Sl} {m:Nat} {ws:List Int}:(qcells sl m ws)[256]?=some (.map (some m)):=by
 unfold qcells;rw[List.getElem?_append_right (by simp)];simp
theorem qcells_word {sl:Nat->Sl} {m:Nat} {ws:List Int} (j:Nat):(qcells sl m ws)[257+j]?=(ws[j]?).map (Value.int .u64):=by
 unfold qcells;rw[List.getElem?_append_right (by simp;omega)];simp only[List.length_map,List.length_range];rw[show 257+j-256=j+1 from by omega,List.getElem?_cons_succ,List.getElem?_map]
theorem qcells_set {sl:Nat->Sl} {m:Nat} {ws:List Int} {p:Nat} (hp:p<256) (s:Sl):(qcells sl m ws).set p (slV s)=qcells (updF sl p s) m ws:=by
 unfold qcells;rw[List.set_append_left _ _ (by simpa using hp)];congr 1;apply List.ext_getElem?;intro i;rw[List.getElem?_set];simp only[List.getElem?_map,List.length_map,List.length_range];by_cases hi:i<256
 ·rw[List.getElem?_range hi]
  by_cases e:p=i
  ·subst e;simp[hp,updF]
  ·have e':¬i=p:=fun h=>e h.symm
   simp[e,e',updF]
 ·rw[List.getElem?_eq_none (l:=List.range 256) (by simpa using hi),if_neg (by omega)];rfl
theorem qcells_setw {sl:Nat->Sl} {m:Nat} {ws:List Int} (j:Nat) (x:Int):(qcells sl m ws).set (257+j) (.int .u64 x)=qcells sl m (ws.set j x):=by
 unfold qcells;rw[List.set_append_right _ _ (by simp;omega)];simp only[List.length_map,List.length_range];rw[show 257+j-256=j+1 from by omega,List.set_cons_succ,List.map_set]
def ByOk (L:Qs) (M:List (Int × Int)):Prop:=∀n,mget M n=(wh L n).map fun p:Nat=>(p:Int)
structure Qx where
 m:Nat
 M:List (Int × Int)
 sl:Nat->Sl
 ws:List Int
def linesA (sl:Nat->Sl) (L:Qs):List Asn:=(List.range 256).map fun p=>SlT intE (sl p) (lineOf L p)
abbrev mapA (m:Nat) (M:List (Int × Int)):Asn:=MapA (Value.int .i64) (Value.int .i64) m M
def QueueA (b:Nat) (L:Qs):Asn:=ExA fun x:Qx=>StarA (PureA (QOk L/\ByOk L x.M/\BitsOk (some1 L) x.ws)::BlkA b (qcells x.sl x.m x.ws)::mapA x.m x.M::linesA x.sl L)
section
variable {B:Nat} {w0 w:World} {R:List Asn} {b:Nat} {L:Qs}
theorem _root_.Go.Vc.Own.queue (h:Own B w0 w (QueueA b L::R)):∃x:Qx,QOk L/\ByOk L x.M/\BitsOk (some1 L) x.ws/\Own B w0 w (BlkA b (qcells x.sl x.m x.ws)::mapA x.m x.M::(linesA x.sl L++R)):=by
 obtain ⟨x,h⟩:=h.ex;have h:=h.star;obtain ⟨⟨h1,h2,h3⟩,h⟩:=Own.pure h;exact ⟨x,h1,h2,h3,h⟩
theorem _root_.Go.Vc.Own.mk_queue {m:Nat} {M:List (Int × Int)} {sl:Nat->Sl} {ws:List Int} (h1:QOk L) (h2:ByOk L M) (h3:BitsOk (some1 L) ws) (h:Own B w0 w (BlkA b (qcells sl m ws)::mapA m M::(linesA sl L++R))):Own B w0 w (QueueA b L::R):=
 Own.mk_ex ⟨m,M,sl,ws⟩ (Own.mk_star (Own.mk_pure ⟨h1,h2,h3⟩ h))
theorem lines_get {sl:Nat->Sl} {p:Nat} (hp:p<256) (A B:Asn) (R:List Asn):(A::B::(linesA sl L++R))[2+p]?=some (SlT intE (sl p) (lineOf L p)):=by
 rw[show 2+p=p+1+1 from by omega,List.getElem?_cons_succ,List.getElem?_cons_succ,List.getElem?_append_left (by simpa [linesA] using hp)];simp only[linesA,List.getElem?_map,List.getElem?_range hp,Option.map_some]
theorem lines_set {sl:Nat->Sl} {p:Nat} (hp:p<256) {s:Sl} {ns:List Int} {L':Qs} (hL:∀q,q<256->lineOf L' q=if q=p then ns else lineOf L q) (A B:Asn) (R:List Asn):
  (A::B::(linesA sl L++R)).set (2+p) (SlT intE s ns)=A::B::(linesA (updF sl p s) L'++R):=by
 rw[show 2+p=p+1+1 from by omega,List.set_cons_succ,List.set_cons_succ,List.set_append_left _ _ (by simpa [linesA] using hp)];congr 3;apply List.ext_getElem?;intro i;rw[List.getElem?_set];simp only[linesA,List.getElem?_map,List.length_map,List.length_range];by_cases hi:i<256
 ·rw[List.getElem?_range hi]
  by_cases e:p=i
  ·subst e;simp[hp,updF,hL p hp]
  ·have e':¬i=p:=fun h=>e h.symm
   simp[e,e',updF,hL i hi]
 ·rw[List.getElem?_eq_none (l:=List.range 256) (by simpa using hi),if_neg (by omega)];rfl
theorem ready_lines_note_spec {sl:Nat->Sl} {m:Nat} {ws:List Int} {p:Nat} {K:World->Prop} (h:Own B w0 w (BlkA b (qcells sl m ws)::R)) (hp:p<256) (hw:ws.length=4)
  (hK:∀w',Own B w0 w' (BlkA b (qcells sl m (setBits ws p (decide (0<(sl p).len))))::R)->K w'):C.qaV (some ⟨b,0,none⟩) (p:Int) K w:=by
 apply S.qaV0;unfold S.qaV;obtain ⟨b1,b2,b3,b4,rfl⟩:=four ws hw;refine h.dr fun w1 h=>?_
 refine ⟨_,rfl, ?_⟩;simp only[add_mk]
 have hwd:∀j v,([b1,b2,b3,b4].map (Value.int .u64))[j]?=some v->(qcells sl m [b1,b2,b3,b4])[257+j]?=some v:=fun j v hv=>by
  rw[qcells_word,←List.getElem?_map];exact hv
 refine ⟨_,h.ld0 0 rfl (hwd 0 _ rfl),_,h.ld0 0 rfl (hwd 1 _ rfl),_,h.ld0 0 rfl (hwd 2 _ rfl),_,h.ld0 0 rfl (hwd 3 _ rfl),_,rfl,by omega,by omega, ?_⟩;simp only[add_mk,Int.toNat_natCast,Nat.mul_one,Nat.zero_add];refine ⟨sl p,h.ld0 0 rfl (qcells_line hp), ?_,trivial⟩;refine words_Set_spec h (by omega) (by omega) fun r1 r2 r3 r4 w2 h hr=>?_
 refine ⟨_,rfl, ?_,trivial⟩;simp only[add_mk,Nat.zero_add]
 have hlen:∀(ws:List Int) (j:Nat),j<ws.length->((qcells sl m ws)[257+j]?).isSome=true:=fun ws j hj=>by
  rw[qcells_word,gE hj];rfl
 refine h.st 0 rfl (hlen _ 0 (by simp)) rfl fun w3 h=>?_
 refine h.st 0 rfl (by rw[qcells_setw 0];exact hlen _ 1 (by simp)) rfl fun w4 h=>?_
 refine h.st 0 rfl (by rw[qcells_setw 0,qcells_setw 1];exact hlen _ 2 (by simp)) rfl fun w5 h=>?_
 refine h.st 0 rfl (by rw[qcells_setw 0,qcells_setw 1,qcells_setw 2];exact hlen _ 3 (by simp)) rfl fun w6 h=>?_
 have hd:decide (((sl p).len:Int)>0)=decide (0<(sl p).len):=by simp
 rw[hd,Int.toNat_natCast] at hr;refine hK _ ?_;rw[←hr]
 have e:((((qcells sl m [b1,b2,b3,b4]).set 257 (.int .u64 r1)).set 258 (.int .u64 r2)).set 259 (.int .u64 r3)).set 260 (.int .u64 r4)=qcells sl m [r1,r2,r3,r4]:=by
  rw[qcells_setw 0,qcells_setw 1,qcells_setw 2,qcells_setw 3];rfl
 rw[←e];exact h
theorem wh_mem {L:Qs} {n:Int} {p:Nat} (h:wh L n=some p):(p,n)∈L:=by
 unfold wh at h;obtain ⟨x,h1,rfl⟩:=Option.map_eq_some_iff.1 h;have h2:=List.find?_some h1;have h3:x.2=n:=by simpa using h2
 have:=List.mem_of_find?_eq_some h1;rw[←h3];exact this
theorem wh_none {L:Qs} {n:Int}:wh L n=none↔∀x∈L,x.2≠n:=by
 unfold wh;rw[Option.map_eq_none_iff,List.find?_eq_none];simp
theorem nodup_inj {L:Qs} (h:(L.map (·.2)).Nodup) {x y:Nat × Int} (hx:x∈L) (hy:y∈L) (e:x.2=y.2):x=y:=by
 induction L with
 |nil=>cases hx
 |cons a L ih=>
  simp only[List.map_cons,List.nodup_cons,List.mem_map,not_exists,not_and] at h;rcases List.mem_cons.1 hx with hx'|hx'
  ·rcases List.mem_cons.1 hy with hy'|hy'
   ·rw[hx',hy']
   ·rw[hx'] at e;exact absurd e.symm (h.1 y hy')
  ·rcases List.mem_cons.1 hy with hy'|hy'
   ·rw[hy'] at e;exact absurd e (h.1 x hx')
   ·exact ih h.2 hx' hy'
theorem wh_of_mem {L:Qs} (h:(L.map (·.2)).Nodup) {n:Int} {p:Nat} (hm:(p,n)∈L):wh L n=some p:=by
 cases hw:wh L n with
 |none=>exact absurd rfl (wh_none.1 hw _ hm)
 |some q=>have:=nodup_inj h (wh_mem hw) hm rfl;cases this;rfl
theorem mem_line {L:Qs} {p:Nat} {n:Int}:n∈lineOf L p↔(p,n)∈L:=by
 unfold lineOf;rw[List.mem_map];constructor
 ·rintro ⟨⟨a,b⟩,h1,h2⟩
  rw[List.mem_filter] at h1;have:a=p:=by simpa using h1.2
  subst this;have h2:b=n:=h2;subst h2;exact h1.1
 ·intro h;exact ⟨(p,n),List.mem_filter.2 ⟨h,by simp⟩,rfl⟩
theorem line_put (L:Qs) (p:Nat) (n:Int) (q:Nat):lineOf (L++ [(p,n)]) q=if q=p then lineOf L p++ [n] else lineOf L q:=by
 unfold lineOf;rw[List.filter_append,List.map_append];by_cases e:q=p
 ·subst e;simp
 ·have:(p==q)=false:=by simpa using fun h=>e h.symm
  simp[e,this]
theorem line_len (L:Qs) (p:Nat):(lineOf L p).length≤L.length:=by
 unfold lineOf;rw[List.length_map];exact List.length_filter_le _ _
theorem wh_put {L:Qs} {p:Nat} {n:Int} (hn:wh L n=none) (x:Int):wh (L++ [(p,n)]) x=if n=x then some p else wh L x:=by
 unfold wh;rw[List.find?_append];by_cases e:n=x
 ·subst e
  have:L.find? (fun y=>y.2==n)=none:=by have h:=hn;unfold wh at h;rwa [Option.map_eq_none_iff] at h
  rw[this];simp
 ·have:(n==x)=false:=by simpa using e
  rw[if_neg e];cases L.find? (fun y=>y.2==x)<;>simp[this]
theorem put_ok {L:Qs} {p:Nat} {n:Int} (h:QOk L) (hp:p<256) (hn:wh L n=none) (hf:L.length<1000000):QOk (L++ [(p,n)]):=by
 refine ⟨?_,fun x hx=>?_,by simp;omega⟩
 ·rw[List.map_append,List.nodup_append]
  refine ⟨h.nodup,by simp,fun a ha b hb=>?_⟩;simp only[List.map_cons,List.map_nil,List.mem_singleton] at hb;subst hb;obtain ⟨y,hy,rfl⟩:=List.mem_map.1 ha;exact wh_none.1 hn y hy
 ·rcases List.mem_append.1 hx with hx|hx
  ·exact h.prio x hx
  ·simp at hx;subst hx;exact hp
def putR (L:Qs) (p n:Int):Int × Qs:=if p<0∨256≤p then (1,L) else match wh L n with|some _=>(90,L)|none=>(0,L++ [(p.toNat,n)])
theorem ready_Queue_Put_spec {p n:Int} {K:Int->World->Prop} (h:Own B w0 w (QueueA b L::R)) (hf:L.length<1000000)
  (hK:∀w',Own B w0 w' (QueueA b (putR L p n).2::R)->K (putR L p n).1 w'):C.qbE (some ⟨b,0,none⟩) p n K w:=by
 apply S.qbE0;unfold S.qbE;intro k hk;by_cases h0:p<0
 ·rw[show decide (p<0)=true from by simp[h0],cond_true]
  apply hk;rw[cond_true];have e:putR L p n=(1,L):=by unfold putR;rw[if_pos (.inl h0)]
  rw[e] at hK;exact hK w h
 rw[show decide (p<0)=false from by simp;omega,cond_false];apply hk;by_cases h1:256≤p
 ·rw[show decide (p≥256)=true from by simp;omega,cond_true]
  have e:putR L p n=(1,L):=by unfold putR;rw[if_pos (.inr h1)]
  rw[e] at hK;exact hK w h
 rw[show decide (p≥256)=false from by simp;omega,cond_false];obtain ⟨m,rfl⟩:=Int.eq_ofNat_of_zero_le (by omega:0≤p);have hm:m<256:=by omega
 have e:putR L (m:Int) n=match wh L n with|some _=>(90,L)|none=>(0,L++ [(m,n)]):=by
  unfold putR;rw[if_neg (by omega)];simp
 obtain ⟨x,hq,hby,hbits,h⟩:=h.queue;refine ⟨_,rfl,some x.m,h.ld 0 rfl qcells_map, ?_⟩;cases hw:wh L n with
 |some q=>
  have hg:=hby n;rw[hw] at hg;refine ⟨(q:Int),true,(h.mlook Tryz.underlying291 (keyOk_int .i64 Tryz.underlying3) 1 rfl hg).1, ?_⟩;rw[cond_true];rw[e,hw] at hK;exact hK w (h.mk_queue hq hby hbits)
 |none=>
  have hg:=hby n;rw[hw] at hg;refine ⟨0,false,(h.mlook0 Tryz.underlying291 (keyOk_int .i64 Tryz.underlying3) (fun w=>Tryz.zeroValue3 w) 1 rfl hg).1, ?_⟩;rw[cond_false];rw[e,hw] at hK;refine h.dr fun w1 h=>?_
  refine ⟨_,rfl,by omega,by omega, ?_⟩;simp only[add_mk,Int.toNat_natCast,Nat.mul_one,Nat.zero_add];refine ⟨x.sl m,h.ld0 0 rfl (qcells_line hm),_,rfl,h.al fun w2 h=>⟨?_,trivial⟩,trivial⟩;have hll:=line_len L m;refine app1_ints h (2+m) (lines_get hm _ _ _) (by omega) fun s' w3 hs' h=>?_
  rw[lines_set hm (line_put L m n · |> fun e=>fun _=>e) _ _ _] at h;refine ⟨by omega,by omega, ?_,trivial⟩;simp only[add_mk,Nat.zero_add];refine h.st 0 rfl (by rw[qcells_line hm];rfl) rfl fun w4 h=>?_
  have h:Own B w0 w4 (BlkA b ((qcells x.sl x.m x.ws).set m (slV s'))::mapA x.m x.M::(linesA (updF x.sl m s') (L++ [(m,n)])++R)):=h;rw[qcells_set hm] at h;refine ⟨_,rfl,some x.m,h.ld 0 rfl qcells_map, ?_⟩;refine h.mput Tryz.underlying291 (keyOk_int .i64 Tryz.underlying3) 1 rfl fun w5 h=>?_
  refine ⟨_,rfl, ?_⟩;refine ready_lines_note_spec h hm hbits.1 fun w6 h=>?_
  refine hK w6 (Own.mk_queue (put_ok hq hm hw hf) ?_ ?_ h)
  ·intro y
   rw[mget_aput,wh_put hw,hby y];split<;>rfl
  ·have hlen:(updF x.sl m s' m).len=(lineOf L m).length+1:=by simp[updF,hs']
   rw[hlen,show decide (0<(lineOf L m).length+1)=true from by simp];refine (hbits.set hm true).congr fun i hi=>?_
   show (if i=m then true else some1 L i)=some1 (L++ [(m,n)]) i;unfold some1;rw[line_put];by_cases e:i=m
   ·simp[e]
   ·simp[e]
theorem linesP_get {sl:Nat->Sl} {p:Nat} (hp:p<256) (pre R:List Asn):(pre++(linesA sl L++R))[p+pre.length]?=some (SlT intE (sl p) (lineOf L p)):=by
 rw[Nat.add_comm,List.getElem?_append_right (by omega),Nat.add_sub_cancel_left,List.getElem?_append_left (by simpa [linesA] using hp)];simp only[linesA,List.getElem?_map,List.getElem?_range hp,Option.map_some]
theorem linesP_set {sl:Nat->Sl} {p:Nat} (hp:p<256) {s:Sl} {ns:List Int} {L':Qs} (hL:∀q,q<256->lineOf L' q=if q=p then ns else lineOf L q) (pre R:List Asn):
  (pre++(linesA sl L++R)).set (p+pre.length) (SlT intE s ns)=pre++(linesA (updF sl p s) L'++R):=by
 have h:=lines_set (L:=L) (L':=L') (sl:=sl) (s:=s) (ns:=ns) hp hL (PureA True) (PureA True) R;rw[show 2+p=p+1+1 from by omega,List.set_cons_succ,List.set_cons_succ] at h;rw[Nat.add_comm p pre.length,List.set_append_right _ _ (by omega),Nat.add_sub_cancel_left];congr 1;simp only[List.cons.injEq,true_and] at h;exact h
theorem ready_New_spec {K:Option Addr->World->Prop} (h:Own B w0 w R) (hK:∀b w',Own B w0 w' (QueueA b []::R)->K (some ⟨b,0,none⟩) w'):C.qcH K w:=by
 apply S.qcH0;unfold S.qcH;refine h.alMap (Value.int .i64) (Value.int .i64) fun w1 h=>?_
 refine h.al fun w2 h=>?_
 refine hK _ w2 ?_
 have hlines:∀(n:Nat) (w:World) (R:List Asn),Own B w0 w R->Own B w0 w ((List.range n).map (fun p=>SlT intE ⟨none,0,0⟩ (lineOf [] p))++R):=by
  intro n
  induction n with
  |zero=>intro w R h;exact h
  |succ n ih=>
   intro w R h;rw[List.range_succ,List.map_append,List.append_assoc];exact ih w _ (Own.nilS h)
 have h:=h.blk_eq (l':=qcells (fun _=>⟨none,0,0⟩) w.heap.size [0,0,0,0]) (by kernel_rfl);refine Own.mk_queue (m:=w.heap.size) (M:=[]) (sl:=fun _=>⟨none,0,0⟩) (ws:=[0,0,0,0]) ⟨by simp,by simp,by simp⟩ (fun n=>rfl) (BitsOk.zero.congr fun i _=>rfl) ?_;exact ((hlines 256 w2 _ h).perm List.perm_middle).perm ((List.perm_middle).cons _)
theorem line_filter (L:Qs) (n:Int) (q:Nat):lineOf (L.filter fun x=>x.2 !=n) q=(lineOf L q).filter fun x=>x !=n:=by
 unfold lineOf;rw[List.filter_map,List.filter_filter,List.filter_filter];congr 1;apply List.filter_congr;intro x _;simp[Function.comp,Bool.and_comm]
theorem line_take {L:Qs} (h:(L.map (·.2)).Nodup) {n:Int} {p:Nat} (hw:wh L n=some p) (q:Nat):lineOf (L.filter fun x=>x.2 !=n) q=if q=p then (lineOf L p).filter (fun x=>x !=n) else lineOf L q:=by
 rw[line_filter];by_cases e:q=p
 ·subst e;simp
 ·rw[if_neg e,List.filter_eq_self]
  intro x hx;rw[mem_line] at hx;simp only[bne_iff_ne,ne_eq];intro e';subst e';have:=wh_of_mem h hx;rw[hw] at this;cases this;exact e rfl
theorem wh_take {L:Qs} (n x:Int):wh (L.filter fun y=>y.2 !=n) x=if n=x then none else wh L x:=by
 by_cases e:n=x
 ·subst e
  rw[if_pos rfl,wh_none];intro y hy;have:=(List.mem_filter.1 hy).2;simpa using this
 ·rw[if_neg e]
  unfold wh;congr 1;rw[List.find?_filter];congr 1;funext y;by_cases e2:y.2=x
  ·have:¬y.2=n:=fun h=>e (h.symm.trans e2)
   simp[e2,this];rw[e2] at this;exact this
  ·simp[e2]
def takeR (L:Qs) (n:Int):Int × Qs:=match wh L n with|some _=>(0,L.filter fun x=>x.2 !=n)|none=>(91,L)
theorem ready_Queue_Take_spec {n:Int} {K:Int->World->Prop} (h:Own B w0 w (QueueA b L::R))
  (hK:∀w',Own B w0 w' (QueueA b (takeR L n).2::R)->K (takeR L n).1 w'):C.qbv (some ⟨b,0,none⟩) n K w:=by
 apply S.qbv0;unfold S.qbv;obtain ⟨x,hq,hby,hbits,h⟩:=h.queue;refine h.al fun w1 h=>?_
 refine h.dr fun w2 h=>?_
 refine ⟨_,rfl,some x.m,h.ld 1 rfl qcells_map,n,h.ld0 0 rfl rfl, ?_,trivial⟩;cases hw:wh L n with
 |none=>
  have hg:=hby n;rw[hw] at hg;refine ⟨0,false,(h.mlook0 Tryz.underlying291 (keyOk_int .i64 Tryz.underlying3) (fun w=>Tryz.zeroValue3 w) 2 rfl hg).1, ?_⟩;simp only[Bool.not_false,cond_true];have e:takeR L n=(91,L):=by unfold takeR;rw[hw]
  rw[e] at hK;exact hK w2 (h.drop.mk_queue hq hby hbits)
 |some p=>
  have hg:=hby n;rw[hw] at hg;have hp:p<256:=hq.prio _ (wh_mem hw);refine ⟨(p:Int),true,(h.mlook Tryz.underlying291 (keyOk_int .i64 Tryz.underlying3) 2 rfl hg).1, ?_⟩;simp only[Bool.not_true,cond_false];have e:takeR L n=(0,L.filter fun x=>x.2 !=n):=by unfold takeR;rw[hw]
  rw[e] at hK;refine h.dr fun w3 h=>?_
  refine ⟨_,rfl,by omega,by omega, ?_⟩;simp only[add_mk,Int.toNat_natCast,Nat.mul_one,Nat.zero_add];refine ⟨x.sl p,h.ld0 1 rfl (qcells_line hp),_,rfl, ?_,trivial⟩;have hll:=line_len L p;have hfew:=hq.few;refine slices_DeleteFunc_int_int_spec (p:=fun y=>y==n) h (p+3) (linesP_get hp [_,_,_] R) (by omega) ?_ fun s' w4 h=>?_
  ·intro ys hys y w5 Q h hQ
   refine callV_mk ?_
   have hA:C.qbx y (Addr.mk w.heap.size 0 none) Q w5:=by
    apply S.qbx0;unfold S.qbx;exact ⟨n,h.ld0 0 rfl rfl,hQ _ h⟩
   exact hA
  ·have h:Own B w0 w4 ([BlkA w.heap.size [.int .i64 n],BlkA b (qcells x.sl x.m x.ws),mapA x.m x.M]++(linesA (updF x.sl p s') (L.filter fun x=>x.2 !=n)++R)):=by
    have:=linesP_set (L:=L) (sl:=x.sl) hp (fun q _=>line_take hq.nodup hw q) [BlkA w.heap.size [.int .i64 n],BlkA b (qcells x.sl x.m x.ws),mapA x.m x.M] R (s:=s');rw[←this];exact h
   have hlen:=h.len (p+3) (linesP_get hp [_,_,_] R);have hMn:(x.M.map (·.1)).Nodup:=(h.take 2 rfl).head fun _ hG=>hG.2.nodup
   refine ⟨by omega,by omega, ?_,trivial⟩;simp only[add_mk,Nat.zero_add];refine h.st 1 rfl (by rw[qcells_line hp];rfl) rfl fun w6 h=>?_
   have h:Own B w0 w6 (BlkA w.heap.size [.int .i64 n]::BlkA b ((qcells x.sl x.m x.ws).set p (slV s'))::mapA x.m x.M::(linesA (updF x.sl p s') (L.filter fun x=>x.2 !=n)++R)):=h;rw[qcells_set hp] at h;refine h.dr fun w7 h=>?_
   refine ⟨_,rfl,some x.m,h.ld 1 rfl qcells_map,n,h.ld0 0 rfl rfl, ?_,trivial⟩;refine h.mdel Tryz.underlying291 (keyOk_int .i64 Tryz.underlying3) 2 rfl fun w8 h=>?_
   refine ⟨_,rfl, ?_⟩;refine ready_lines_note_spec h.drop hp hbits.1 fun w9 h=>?_
   refine hK w9 (Own.mk_queue ⟨?_,fun y hy=>hq.prio y (List.mem_filter.1 hy).1,Nat.le_trans (List.length_filter_le _ _) hq.few⟩ ?_ ?_ h)
   ·exact List.Nodup.sublist (List.filter_sublist.map _) hq.nodup
   ·intro y
    rw[mget_adel hMn,wh_take,hby y];split<;>rfl
   ·rw[hlen]
    refine (hbits.set hp _).congr fun i hi=>?_
    show (if i=p then decide (0<(lineOf (L.filter fun x=>x.2 !=n) p).length) else some1 L i)=some1 (L.filter fun x=>x.2 !=n) i;unfold some1;by_cases e:i=p
    ·subst e
     rw[if_pos rfl];cases lineOf (L.filter fun x=>x.2 !=n) i<;>simp
    ·rw[if_neg e,line_take hq.nodup hw i,if_neg e]
def topO (L:Qs):Option Nat:=topB (some1 L) 256
def nextR (L:Qs):Option Int:=(topO L).bind fun p=>(lineOf L p).head?
theorem topO_out {L:Qs} {p:Nat} (h:topO L=some p):p<256/\∃n l,lineOf L p=n::l:=by
 obtain ⟨h1,h2,_⟩:=topB_out h;refine ⟨h1, ?_⟩;unfold some1 at h2;cases hl:lineOf L p with
 |nil=>rw[hl] at h2;cases h2
 |cons n l=>exact ⟨n,l,rfl⟩
theorem ready_Queue_Next_spec {K:Int->Bool->World->Prop} (h:Own B w0 w (QueueA b L::R))
  (hK:∀w',Own B w0 w' (QueueA b L::R)->K ((nextR L).getD 0) (nextR L).isSome w'):C.qbs (some ⟨b,0,none⟩) K w:=by
 apply S.qbs0;unfold S.qbs;obtain ⟨x,hq,hby,hbits,h⟩:=h.queue;obtain ⟨b1,b2,b3,b4,hws⟩:=four x.ws hbits.1
 have hwd:∀j v,([b1,b2,b3,b4].map (Value.int .u64))[j]?=some v->(qcells x.sl x.m x.ws)[257+j]?=some v:=fun j v hv=>by
  rw[qcells_word,←List.getElem?_map,hws];exact hv
 refine ⟨_,rfl, ?_⟩;simp only[add_mk,Nat.zero_add];refine ⟨_,h.ld0 0 rfl (hwd 0 _ rfl),_,h.ld0 0 rfl (hwd 1 _ rfl),_,h.ld0 0 rfl (hwd 2 _ rfl),_,h.ld0 0 rfl (hwd 3 _ rfl), ?_⟩;refine words_Top_spec h (by rw[←hws];exact hbits) fun w1 h=>?_
 unfold topI;cases ht:topB (some1 L) 256 with
 |none=>
  simp only;rw[show decide ((-1:Int)<0)=true from rfl,cond_true];have e:nextR L=none:=by unfold nextR topO;rw[ht];rfl
  rw[e] at hK;exact hK w1 (h.mk_queue hq hby hbits)
 |some p=>
  simp only;obtain ⟨hp,n,l,hl⟩:=topO_out ht;rw[show decide ((p:Int)<0)=false from by simp,cond_false];refine ⟨_,rfl,by omega,by omega, ?_⟩;simp only[add_mk,Int.toNat_natCast,Nat.mul_one,Nat.zero_add];have hL:=linesP_get (L:=L) (sl:=x.sl) hp [BlkA b (qcells x.sl x.m x.ws),mapA x.m x.M] R;rw[hl] at hL;obtain ⟨a,ha,hc⟩:=h.getI (p+2) hL (j:=0) rfl;have hlen:=h.len (p+2) hL;refine ⟨x.sl p,h.ld0 0 rfl (qcells_line hp),a,ha,by omega,by rw[hlen];simp,n,hc, ?_⟩;have e:nextR L=some n:=by unfold nextR topO;rw[ht];simp[hl]
  rw[e] at hK;exact hK w1 (h.mk_queue hq hby hbits)
end
end Go.Proofs.YtogmbmdbgkopjaaGreat.Th
end
section
set_option maxRecDepth 100000
namespace Go.Proofs.YtogmbmdbgkopjaaGreat
open Go Go.Vc Go.Proofs
def S.qcu (cores1:Int) (K:Option Addr->Int->World->Prop) (w:World):Prop:=∀k2:Bool->World->Prop,(∀(t3:Bool) (w4:World),(bif t3 then (K none (1:Int) w4) else (Al w4 (.cells #[.int .i64 (-1:Int)] 3) fun w5=>C.qaj ⟨some (Addr.mk w4.heap.size 0 none),1,1⟩ cores1 (fun r6 w7=>Al w7 (.cells #[.slice none 0 0, .slice none 0 0, .slice r6.a r6.len r6.cap] 195) fun w8=>∀l9:Int->World->Prop,(∀(t10:Int) (w11:World),(bif decide (t10<cores1) then (Dr w11 fun w12=>∃a13,some (Addr.mk w7.heap.size 0 none)=some a13/\∃q14:Sl,w12.cell? (a13.add 1)=some (.slice q14.a q14.len q14.cap)/\(C.qcH (fun r15 w16=>w16.cell? (a13.add 1)=some (.slice q14.a q14.len q14.cap)/\(Al w16 (.cells #[.pointer r15] 196) fun w17=>(∃(t18:Sl) (w19:World),AppR Tryz.prog [193,193] 193 (.slice q14.a q14.len q14.cap) (.slice (some (Addr.mk w16.heap.size 0 none)) 1 1) w17 t18 w19/\∃a20,some (Addr.mk w7.heap.size 0 none)=some a20/\(St w19 (a20.add 1) (.slice t18.a t18.len t18.cap) fun w21=>l9 (IntKind.i64.wrap (t10+(1:Int))) w21)/\True)/\True)/\True) w12)/\True) else (K (some (Addr.mk w7.heap.size 0 none)) (0:Int) w11))->l9 t10 w11)->l9 (0:Int) w8) w5))->k2 t3 w4)->(bif decide (cores1<(1:Int)) then (k2 true w) else (k2 (decide (cores1>(8:Int))) w))
theorem S.qcu0 (cores1:Int) (K:Option Addr->Int->World->Prop) (w:World) (h:S.qcu cores1 K w):C.qcu cores1 K w:=
 okS Tryz.func44 (.t none (.u) (.t none (.t none (.r (some [(10, .c (.b))]) .done) (.t none (.t none (.u) (.u)) (.u))) (.t none (.u) (.t none (.t none (.u) (.t none (.t (some [(17, .c (.i .i64))]) (.t none (.u) (.t none (.t none (.u) (.u)) (.t none (.t none (.r none (.one 0 254 (.one 1 96 (.one 2 96 (.one 3 96 (.hold 4 96 895 (.alt 5 (.alt 6 (.alt 7 (.one 8 0 (.one 9 0 (.alt 10 (.done) (.none)))) (.none)) (.none)) (.none)))))))) (.u)) (.u)))) (.u)) (.u))) (.t none (.u) (.u)))))) [(0, .c (.p)),(1, .c (.i .i64))] [.int .i64 cores1] K rfl (by kernel_rfl) (by kernel_rfl) h
def S.qD (t1:Option Addr) (p2:Int) (core3:Int) (K:Int->Int->World->Prop) (w:World):Prop:=∀k4:Bool->World->Prop,(∀(t5:Bool) (w6:World),(bif t5 then (K (0:Int) (1:Int) w6) else (∃a7,t1=some a7/\∃l8:Sl,w6.cell? a7=some (.slice l8.a l8.len l8.cap)/\bif decide ((l8.len:Int)≥(64:Int)) then (K (0:Int) (2:Int) w6) else (∃a9,t1=some a9/\∃l10:Sl,w6.cell? a9=some (.slice l10.a l10.len l10.cap)/\Al w6 (.cells #[.int .i64 0, .int .i64 p2, .int .i64 core3, .int .i64 5, .int .u64 0, .int .u64 0, .int .u64 0, .int .u64 0, .int .u64 0, .int .u64 0, .int .u64 0, .int .u64 0] 53) fun w11=>∃(t12:Sl) (w13:World),AppR Tryz.prog [149,149] 149 (.slice l10.a l10.len l10.cap) (.slice (some (Addr.mk w6.heap.size 0 none)) 1 1) w11 t12 w13/\∃a14,t1=some a14/\St w13 a14 (.slice t12.a t12.len t12.cap) fun w15=>∃a16,t1=some a16/\∃l17:Sl,w15.cell? a16=some (.slice l17.a l17.len l17.cap)/\K (IntKind.i64.wrap ((l17.len:Int)-(1:Int))) (0:Int) w15)))->k4 t5 w6)->(C.qbY p2 (fun r18 w19=>bif !r18 then (k4 true w19) else (C.qP t1 core3 (fun r20 w21=>k4 (!r20) w21) w19)) w)
theorem S.qD0 (t1:Option Addr) (p2:Int) (core3:Int) (K:Int->Int->World->Prop) (w:World) (h:S.qD t1 p2 core3 K w):C.qD t1 p2 core3 K w:=
 okS Tryz.func48 (.t none (.u) (.t none (.t none (.t none (.r (some [(8, .c (.b))]) .done) (.t none (.t none (.u) (.u)) (.t none (.u) (.t none (.t none (.u) (.u)) (.u))))) (.u)) (.t none (.u) (.t none (.u) (.u))))) [(0, .c (.i .i64)),(1, .c (.i .i64))] [.pointer t1, .int .i64 p2, .int .i64 core3] K rfl (by kernel_rfl) (by kernel_rfl) h
def S.qw (t1:Option Addr) (id2:Int) (K:Int->World->Prop) (w:World):Prop:=C.qs t1 id2 (fun r3 w4=>bif r3.isNone then (K (100:Int) w4) else (∀k5:Bool->World->Prop,(∀(t6:Bool) (w7:World),(bif t6 then (K (101:Int) w7) else (C.qx t1 id2 (fun w8=>K (0:Int) w8) w7))->k5 t6 w7)->(∃a9,r3=some a9/\∃state10,w4.cell? a9=some (.int .i64 state10)/\bif state10==(1:Int) then (k5 true w4) else (∃a11,r3=some a11/\∃state12,w4.cell? a11=some (.int .i64 state12)/\k5 (state12==(2:Int)) w4)))) w
theorem S.qw0 (t1:Option Addr) (id2:Int) (K:Int->World->Prop) (w:World) (h:S.qw t1 id2 K w):C.qw t1 id2 K w:=
 okS Tryz.func49 (.t none (.u) (.t none (.u) (.t none (.t none (.t none (.u) (.t none (.t none (.u) (.u)) (.t none (.r (some [(12, .c (.b))]) .done) (.t none (.t none (.u) (.u)) (.u))))) (.u)) (.t none (.u) (.t none (.u) (.u)))))) [(0, .c (.i .i64))] [.pointer t1, .int .i64 id2] K rfl (by kernel_rfl) (by kernel_rfl) h
def S.qE (t1:Option Addr) (core2:Int) (K:Int->Bool->World->Prop) (w:World):Prop:=C.qP t1 core2 (fun r3 w4=>bif !r3 then (K (0:Int) false w4) else (C.qN t1 core2 (fun r5 r6 w7=>∃a8,t1=some a8/\∃q9:Sl,w7.cell? (a8.add 1)=some (.slice q9.a q9.len q9.cap)/\∃a10,q9.a=some a10/\0≤core2/\core2<(q9.len:Int)/\∃t11,w7.cell? (a10.add (core2.toNat*1))=some (.pointer t11)/\C.qbs t11 (fun r12 r13 w14=>∀k15:Bool->World->Prop,(∀(t16:Bool) (w17:World),(bif t16 then (K r5 r6 w17) else (∀k18:World->Prop,(∀(w19:World),(C.qg t1 r12 (2:Int) (fun w20=>∃a21,t1=some a21/\∃runs22:Sl,w20.cell? (a21.add 2)=some (.slice runs22.a runs22.len runs22.cap)/\∃a23,runs22.a=some a23/\0≤core2/\core2<(runs22.len:Int)/\St w20 (a23.add (core2.toNat*1)) (.int .i64 r12) fun w24=>K r12 true w24) w19)->k18 w19)->(bif r6 then (C.qg t1 r5 (1:Int) (fun w25=>C.qx t1 r5 (fun w26=>k18 w26) w25) w17) else (k18 w17))))->k15 t16 w17)->(Dr w14 fun w27=>bif !r13 then (k15 true w27) else (bif r6 then (∃a28,t1=some a28/\∃l29:Sl,w27.cell? a28=some (.slice l29.a l29.len l29.cap)/\∃a30,l29.a=some a30/\0≤r12/\r12<(l29.len:Int)/\∃prio31,w27.cell? ((a30.add (r12.toNat*12)).add 1)=some (.int .i64 prio31)/\∃a32,t1=some a32/\∃l33:Sl,w27.cell? a32=some (.slice l33.a l33.len l33.cap)/\∃a34,l33.a=some a34/\0≤r5/\r5<(l33.len:Int)/\∃prio35,w27.cell? ((a34.add (r5.toNat*12)).add 1)=some (.int .i64 prio35)/\k15 (decide (prio31≤prio35)) w27) else (k15 false w27)))) w7) w4)) w
theorem S.qE0 (t1:Option Addr) (core2:Int) (K:Int->Bool->World->Prop) (w:World) (h:S.qE t1 core2 K w):C.qE t1 core2 K w:=
 okS Tryz.func50 (.t none (.u) (.t none (.t none (.u) (.t none (.t none (.u) (.u)) (.u))) (.t none (.u) (.t none (.u) (.t none (.t none (.r (some [(54, .c (.b))]) (.one 0 0 (.one 1 0 (.one 2 0 (.one 3 0 (.one 4 0 (.one 5 2089472 (.one 6 2089472 (.one 7 2089472 (.one 8 2089472 (.one 9 2088960 (.one 10 2088960 (.one 11 2088960 (.one 12 2088960 (.one 13 131072 (.one 14 131072 (.one 15 131072 (.one 16 131072 (.one 17 0 (.one 18 0 (.one 19 0 (.one 20 0 (.one 21 0 (.one 22 0 (.one 23 0 (.done)))))))))))))))))))))))))) (.t none (.t none (.u) (.u)) (.u))) (.t none (.t none (.u) (.t (some []) (.t none (.u) (.u)) (.u))) (.t none (.u) (.t none (.u) (.t none (.u) (.u)))))))))) [(0, .c (.i .i64)),(1, .c (.b))] [.pointer t1, .int .i64 core2] K rfl (by kernel_rfl) (by kernel_rfl) h
def S.qW (t1:Option Addr) (core2:Int) (K:Bool->World->Prop) (w:World):Prop:=C.qN t1 core2 (fun r3 r4 w5=>bif !r4 then (K false w5) else (∃a6,t1=some a6/\∃l7:Sl,w5.cell? a6=some (.slice l7.a l7.len l7.cap)/\∃a8,l7.a=some a8/\0≤r3/\r3<(l7.len:Int)/\St w5 ((a8.add (r3.toNat*12)).add 3) (.int .i64 5) fun w9=>C.qg t1 r3 (1:Int) (fun w10=>C.qx t1 r3 (fun w11=>C.qE t1 core2 (fun r12 r13 w14=>K true w14) w11) w10) w9)) w
theorem S.qW0 (t1:Option Addr) (core2:Int) (K:Bool->World->Prop) (w:World) (h:S.qW t1 core2 K w):C.qW t1 core2 K w:=
 okS Tryz.func52 (.t none (.u) (.t none (.u) (.t none (.t none (.u) (.t none (.t none (.u) (.u)) (.u))) (.t none (.u) (.t none (.u) (.t none (.u) (.t none (.u) (.t none (.u) (.u))))))))) [(0, .c (.b))] [.pointer t1, .int .i64 core2] K rfl (by kernel_rfl) (by kernel_rfl) h
def S.qN (t1:Option Addr) (core2:Int) (K:Int->Bool->World->Prop) (w:World):Prop:=∀k3:Bool->World->Prop,(∀(t4:Bool) (w5:World),(bif t4 then (K (0:Int) false w5) else (∃a6,t1=some a6/\∃runs7:Sl,w5.cell? (a6.add 2)=some (.slice runs7.a runs7.len runs7.cap)/\∃a8,runs7.a=some a8/\0≤core2/\core2<(runs7.len:Int)/\∃t9,w5.cell? (a8.add (core2.toNat*1))=some (.int .i64 t9)/\K t9 true w5))->k3 t4 w5)->(C.qP t1 core2 (fun r10 w11=>bif !r10 then (k3 true w11) else (∃a12,t1=some a12/\∃runs13:Sl,w11.cell? (a12.add 2)=some (.slice runs13.a runs13.len runs13.cap)/\∃a14,runs13.a=some a14/\0≤core2/\core2<(runs13.len:Int)/\∃t15,w11.cell? (a14.add (core2.toNat*1))=some (.int .i64 t15)/\k3 (t15==(-1:Int)) w11)) w)
theorem S.qN0 (t1:Option Addr) (core2:Int) (K:Int->Bool->World->Prop) (w:World) (h:S.qN t1 core2 K w):C.qN t1 core2 K w:=
 okS Tryz.func55 (.t none (.u) (.t none (.t none (.r (some [(19, .c (.b))]) .done) (.t none (.t none (.u) (.u)) (.u))) (.t none (.u) (.u)))) [(0, .c (.i .i64)),(1, .c (.b))] [.pointer t1, .int .i64 core2] K rfl (by kernel_rfl) (by kernel_rfl) h
def S.qai (t1:Option Addr) (id2:Int) (K:Int->Int->Int->Int->Int->Int->Int->Int->Int->Int->Int->Int->Int->World->Prop) (w:World):Prop:=Al w (.cells #[.int .i64 0, .int .i64 0, .int .i64 0, .int .i64 0, .int .u64 0, .int .u64 0, .int .u64 0, .int .u64 0, .int .u64 0, .int .u64 0, .int .u64 0, .int .u64 0] 53) fun w3=>C.qs t1 id2 (fun r4 w5=>bif r4.isNone then (StL w5 (Addr.mk w.heap.size 0 none) 0 [.int .i64 0, .int .i64 0, .int .i64 0, .int .i64 0, .int .u64 0, .int .u64 0, .int .u64 0, .int .u64 0, .int .u64 0, .int .u64 0, .int .u64 0, .int .u64 0] fun w6=>LdL w6 (Addr.mk w.heap.size 0 none) 0 [.i .i64, .i .i64, .i .i64, .i .i64, .i .u64, .i .u64, .i .u64, .i .u64, .i .u64, .i .u64, .i .u64, .i .u64] fun (r7:Int) (r8:Int) (r9:Int) (r10:Int) (r11:Int) (r12:Int) (r13:Int) (r14:Int) (r15:Int) (r16:Int) (r17:Int) (r18:Int)=>K r7 r8 r9 r10 r11 r12 r13 r14 r15 r16 r17 r18 (100:Int) w6) else (∃a19,r4=some a19/\LdL w5 a19 0 [.i .i64, .i .i64, .i .i64, .i .i64, .i .u64, .i .u64, .i .u64, .i .u64, .i .u64, .i .u64, .i .u64, .i .u64] fun (t20:Int) (t21:Int) (t22:Int) (t23:Int) (t24:Int) (t25:Int) (t26:Int) (t27:Int) (t28:Int) (t29:Int) (t30:Int) (t31:Int)=>StL w5 (Addr.mk w.heap.size 0 none) 0 [.int .i64 t20, .int .i64 t21, .int .i64 t22, .int .i64 t23, .int .u64 t24, .int .u64 t25, .int .u64 t26, .int .u64 t27, .int .u64 t28, .int .u64 t29, .int .u64 t30, .int .u64 t31] fun w32=>LdL w32 (Addr.mk w.heap.size 0 none) 0 [.i .i64, .i .i64, .i .i64, .i .i64, .i .u64, .i .u64, .i .u64, .i .u64, .i .u64, .i .u64, .i .u64, .i .u64] fun (r33:Int) (r34:Int) (r35:Int) (r36:Int) (r37:Int) (r38:Int) (r39:Int) (r40:Int) (r41:Int) (r42:Int) (r43:Int) (r44:Int)=>K r33 r34 r35 r36 r37 r38 r39 r40 r41 r42 r43 r44 (0:Int) w32)) w3
theorem S.qai0 (t1:Option Addr) (id2:Int) (K:Int->Int->Int->Int->Int->Int->Int->Int->Int->Int->Int->Int->Int->World->Prop) (w:World) (h:S.qai t1 id2 K w):C.qai t1 id2 K w:=
 okS Tryz.func56 (.t none (.u) (.t none (.u) (.t none (.t none (.u) (.t none (.t none (.u) (.u)) (.u))) (.t none (.u) (.u))))) [(0, .a [.i .i64, .i .i64, .i .i64, .i .i64, .i .u64, .i .u64, .i .u64, .i .u64, .i .u64, .i .u64, .i .u64, .i .u64]),(1, .c (.i .i64))] [.pointer t1, .int .i64 id2] K rfl (by kernel_rfl) (by kernel_rfl) h
def S.qaq (t1:Option Addr) (core2:Int) (K:Bool->World->Prop) (w:World):Prop:=C.qN t1 core2 (fun r3 r4 w5=>bif !r4 then (K false w5) else (∃a6,t1=some a6/\∃l7:Sl,w5.cell? a6=some (.slice l7.a l7.len l7.cap)/\∃a8,l7.a=some a8/\0≤r3/\r3<(l7.len:Int)/\∃left9,w5.cell? ((a8.add (r3.toNat*12)).add 3)=some (.int .i64 left9)/\∃a10,l7.a=some a10/\0≤r3/\r3<(l7.len:Int)/\St w5 ((a10.add (r3.toNat*12)).add 3) (.int .i64 (IntKind.i64.wrap (left9-(1:Int)))) fun w11=>∃a12,t1=some a12/\∃l13:Sl,w11.cell? a12=some (.slice l13.a l13.len l13.cap)/\∃a14,l13.a=some a14/\0≤r3/\r3<(l13.len:Int)/\∃left15,w11.cell? ((a14.add (r3.toNat*12)).add 3)=some (.int .i64 left15)/\bif decide (left15≤(0:Int)) then (C.qW t1 core2 (fun r16 w17=>K true w17) w11) else (K true w11))) w
theorem S.qaq0 (t1:Option Addr) (core2:Int) (K:Bool->World->Prop) (w:World) (h:S.qaq t1 core2 K w):C.qaq t1 core2 K w:=
 okS Tryz.func90 (.t none (.u) (.t none (.u) (.t none (.t none (.u) (.t none (.t none (.u) (.u)) (.u))) (.t none (.u) (.t none (.t none (.u) (.t none (.u) (.u))) (.t none (.u) (.u))))))) [(0, .c (.b))] [.pointer t1, .int .i64 core2] K rfl (by kernel_rfl) (by kernel_rfl) h
def S.qbY (n1:Int) (K:Bool->World->Prop) (w:World):Prop:=bif decide (n1≥(0:Int)) then (K (decide (n1<(256:Int))) w) else (K false w)
theorem S.qbY0 (n1:Int) (K:Bool->World->Prop) (w:World) (h:S.qbY n1 K w):C.qbY n1 K w:=
 okS Tryz.func108 (.t none (.u) (.t none (.u) (.u))) [(0, .c (.b))] [.int .i64 n1] K rfl (by kernel_rfl) (by kernel_rfl) h
def S.qP (t1:Option Addr) (n2:Int) (K:Bool->World->Prop) (w:World):Prop:=bif decide (n2≥(0:Int)) then (∃a3,t1=some a3/\∃q4:Sl,w.cell? (a3.add 1)=some (.slice q4.a q4.len q4.cap)/\K (decide (n2<(q4.len:Int))) w) else (K false w)
theorem S.qP0 (t1:Option Addr) (n2:Int) (K:Bool->World->Prop) (w:World) (h:S.qP t1 n2 K w):C.qP t1 n2 K w:=
 okS Tryz.func109 (.t none (.u) (.t none (.u) (.u))) [(0, .c (.b))] [.pointer t1, .int .i64 n2] K rfl (by kernel_rfl) (by kernel_rfl) h
def S.qs (t1:Option Addr) (id2:Int) (K:Option Addr->World->Prop) (w:World):Prop:=∀k3:Bool->World->Prop,(∀(t4:Bool) (w5:World),(bif t4 then (K none w5) else (∃a6,t1=some a6/\∃l7:Sl,w5.cell? a6=some (.slice l7.a l7.len l7.cap)/\∃a8,l7.a=some a8/\0≤id2/\id2<(l7.len:Int)/\K (some (a8.add (id2.toNat*12))) w5))->k3 t4 w5)->(bif decide (id2<(0:Int)) then (k3 true w) else (∃a9,t1=some a9/\∃l10:Sl,w.cell? a9=some (.slice l10.a l10.len l10.cap)/\k3 (decide (id2≥(l10.len:Int))) w))
theorem S.qs0 (t1:Option Addr) (id2:Int) (K:Option Addr->World->Prop) (w:World) (h:S.qs t1 id2 K w):C.qs t1 id2 K w:=
 okS Tryz.func110 (.t none (.u) (.t none (.t none (.r (some [(15, .c (.b))]) .done) (.t none (.t none (.u) (.u)) (.u))) (.t none (.u) (.u)))) [(0, .c (.p))] [.pointer t1, .int .i64 id2] K rfl (by kernel_rfl) (by kernel_rfl) h
def S.qx (t1:Option Addr) (id2:Int) (K:World->Prop) (w:World):Prop:=C.qs t1 id2 (fun r3 w4=>∃a5,r3=some a5/\St w4 a5 (.int .i64 1) fun w6=>Dr w6 fun w7=>∃a8,t1=some a8/\∃q9:Sl,w7.cell? (a8.add 1)=some (.slice q9.a q9.len q9.cap)/\∃a10,r3=some a10/\∃core11,w7.cell? (a10.add 2)=some (.int .i64 core11)/\∃a12,q9.a=some a12/\0≤core11/\core11<(q9.len:Int)/\∃t13,w7.cell? (a12.add (core11.toNat*1))=some (.pointer t13)/\∃a14,r3=some a14/\∃prio15,w7.cell? (a14.add 1)=some (.int .i64 prio15)/\(C.qbE t13 prio15 id2 (fun r16 w17=>K w17) w7)/\True) w
theorem S.qx0 (t1:Option Addr) (id2:Int) (K:World->Prop) (w:World) (h:S.qx t1 id2 K w):C.qx t1 id2 K w:=
 okS Tryz.func111 (.t none (.u) (.t none (.u) (.r none (.one 0 31984 (.one 1 31984 (.one 2 31984 (.one 3 31984 (.one 4 31744 (.one 5 31744 (.one 6 31744 (.one 7 31744 (.one 8 31744 (.one 9 31744 (.one 10 16384 (.one 11 16384 (.one 12 16384 (.one 13 16384 (.one 14 0 (.alt 15 (.done) (.none)))))))))))))))))))) [] [.pointer t1, .int .i64 id2] K rfl (by kernel_rfl) (by kernel_rfl) h
def S.qg (t1:Option Addr) (id2:Int) (state3:Int) (K:World->Prop) (w:World):Prop:=C.qs t1 id2 (fun r4 w5=>∃a6,r4=some a6/\∃state7,w5.cell? a6=some (.int .i64 state7)/\∀k8:World->Prop,(∀(w9:World),(∃a10,r4=some a10/\St w9 a10 (.int .i64 state3) fun w11=>K w11)->k8 w9)->(bif state7==(1:Int) then (Dr w5 fun w12=>∃a13,t1=some a13/\∃q14:Sl,w12.cell? (a13.add 1)=some (.slice q14.a q14.len q14.cap)/\∃a15,r4=some a15/\∃core16,w12.cell? (a15.add 2)=some (.int .i64 core16)/\∃a17,q14.a=some a17/\0≤core16/\core16<(q14.len:Int)/\∃t18,w12.cell? (a17.add (core16.toNat*1))=some (.pointer t18)/\(C.qbv t18 id2 (fun r19 w20=>k8 w20) w12)/\True) else (bif state7==(2:Int) then (Dr w5 fun w21=>∃a22,t1=some a22/\∃runs23:Sl,w21.cell? (a22.add 2)=some (.slice runs23.a runs23.len runs23.cap)/\∃a24,r4=some a24/\∃core25,w21.cell? (a24.add 2)=some (.int .i64 core25)/\∃a26,runs23.a=some a26/\0≤core25/\core25<(runs23.len:Int)/\(St w21 (a26.add (core25.toNat*1)) (.int .i64 (-1:Int)) fun w27=>k8 w27)/\True) else (k8 w5)))) w
theorem S.qg0 (t1:Option Addr) (id2:Int) (state3:Int) (K:World->Prop) (w:World) (h:S.qg t1 id2 state3 K w):C.qg t1 id2 state3 K w:=
 okS Tryz.func113 (.t none (.u) (.t none (.t none (.u) (.t none (.t none (.u) (.t (some []) (.r none (.one 0 1264 (.one 1 1264 (.one 2 1264 (.one 3 1264 (.one 4 1024 (.one 5 1024 (.one 6 1024 (.one 7 1024 (.one 8 1024 (.one 9 1024 (.one 10 0 (.alt 11 (.done) (.none)))))))))))))) (.t none (.u) (.t none (.r none (.one 0 240 (.one 1 240 (.one 2 240 (.one 3 240 (.one 4 0 (.one 5 0 (.one 6 0 (.one 7 0 (.one 8 0 (.alt 9 (.done) (.none)))))))))))) (.u))))) (.u))) (.u))) [] [.pointer t1, .int .i64 id2, .int .i64 state3] K rfl (by kernel_rfl) (by kernel_rfl) h
def S.qu (t1:Option Addr) (id2:Int) (i3:Int) (v4:Int) (K:Int->World->Prop) (w:World):Prop:=C.qs t1 id2 (fun r5 w6=>∀k7:Int->World->Prop,(∀(e8:Int) (w9:World),(bif e8 !=(0:Int) then (K e8 w9) else (∃a10,r5=some a10/\0≤i3/\i3<(8:Int)/\St w9 ((a10.add 4).add (i3.toNat*1)) (.int .u64 v4) fun w11=>K (0:Int) w11))->k7 e8 w9)->(C.qaZ r5.isNone (100:Int) (fun r12 w13=>bif decide (i3<(0:Int)) then (C.qaZ true (1:Int) (fun r14 w15=>Al w15 (.cells #[.int .i64 r12, .int .i64 r14] 23) fun w16=>C.qaY ⟨some (Addr.mk w15.heap.size 0 none),2,2⟩ (fun r17 w18=>k7 r17 w18) w16) w13) else (C.qaZ (decide (i3≥(8:Int))) (1:Int) (fun r19 w20=>Al w20 (.cells #[.int .i64 r12, .int .i64 r19] 23) fun w21=>C.qaY ⟨some (Addr.mk w20.heap.size 0 none),2,2⟩ (fun r22 w23=>k7 r22 w23) w21) w13)) w6)) w
theorem S.qu0 (t1:Option Addr) (id2:Int) (i3:Int) (v4:Int) (K:Int->World->Prop) (w:World) (h:S.qu t1 id2 i3 v4 K w):C.qu t1 id2 i3 v4 K w:=
 okS Tryz.func148 (.t none (.u) (.t none (.u) (.t none (.t none (.r (some [(10, .c (.i .i64))]) .done) (.t none (.u) (.t none (.t none (.u) (.u)) (.u)))) (.t none (.u) (.t none (.u) (.u)))))) [(0, .c (.i .i64))] [.pointer t1, .int .i64 id2, .int .i64 i3, .int .u64 v4] K rfl (by kernel_rfl) (by kernel_rfl) h
def S.qA (t1:Option Addr) (id2:Int) (K:Int->World->Prop) (w:World):Prop:=C.qs t1 id2 (fun r3 w4=>bif r3.isNone then (K (100:Int) w4) else (∃a5,r3=some a5/\∃state6,w4.cell? a5=some (.int .i64 state6)/\bif state6==(0:Int) then (K (101:Int) w4) else (C.qg t1 id2 (0:Int) (fun w7=>K (0:Int) w7) w4))) w
theorem S.qA0 (t1:Option Addr) (id2:Int) (K:Int->World->Prop) (w:World) (h:S.qA t1 id2 K w):C.qA t1 id2 K w:=
 okS Tryz.func214 (.t none (.u) (.t none (.u) (.t none (.t none (.t none (.u) (.t none (.t none (.u) (.u)) (.t none (.u) (.t none (.t none (.u) (.u)) (.u))))) (.u)) (.t none (.u) (.t none (.u) (.u)))))) [(0, .c (.i .i64))] [.pointer t1, .int .i64 id2] K rfl (by kernel_rfl) (by kernel_rfl) h
def S.qat (t1:Option Addr) (id2:Int) (p3:Int) (K:Int->World->Prop) (w:World):Prop:=C.qs t1 id2 (fun r4 w5=>C.qaZ r4.isNone (100:Int) (fun r6 w7=>C.qbY p3 (fun r8 w9=>C.qaZ (!r8) (1:Int) (fun r10 w11=>Al w11 (.cells #[.int .i64 r6, .int .i64 r10] 23) fun w12=>C.qaY ⟨some (Addr.mk w11.heap.size 0 none),2,2⟩ (fun r13 w14=>bif r13 !=(0:Int) then (K r13 w14) else (∃a15,r4=some a15/\∃state16,w14.cell? a15=some (.int .i64 state16)/\bif state16 !=(1:Int) then (∃a17,r4=some a17/\St w14 (a17.add 1) (.int .i64 p3) fun w18=>K (0:Int) w18) else (C.qg t1 id2 (1:Int) (fun w19=>∃a20,r4=some a20/\St w19 (a20.add 1) (.int .i64 p3) fun w21=>C.qx t1 id2 (fun w22=>K (0:Int) w22) w21) w14))) w12) w9) w7) w5) w
theorem S.qat0 (t1:Option Addr) (id2:Int) (p3:Int) (K:Int->World->Prop) (w:World) (h:S.qat t1 id2 p3 K w):C.qat t1 id2 p3 K w:=
 okS Tryz.func215 (.t none (.u) (.t none (.u) (.t none (.t none (.u) (.t none (.u) (.t none (.t none (.u) (.u)) (.u)))) (.t none (.t none (.u) (.t none (.t none (.u) (.t none (.u) (.u))) (.u))) (.t none (.u) (.t none (.u) (.t none (.u) (.t none (.u) (.u))))))))) [(0, .c (.i .i64))] [.pointer t1, .int .i64 id2, .int .i64 p3] K rfl (by kernel_rfl) (by kernel_rfl) h
def S.qaY (l1:Sl) (K:Int->World->Prop) (w:World):Prop:=C.qt l1 (.func (.func 312) #[] #[]) (fun r2 w3=>bif decide (r2<(0:Int)) then (K (0:Int) w3) else (∃a4,l1.a=some a4/\0≤r2/\r2<(l1.len:Int)/\∃t5,w3.cell? (a4.add (r2.toNat*1))=some (.int .i64 t5)/\K t5 w3)) w
theorem S.qaY0 (l1:Sl) (K:Int->World->Prop) (w:World) (h:S.qaY l1 K w):C.qaY l1 K w:=
 okS Tryz.func237 (.t none (.u) (.t none (.u) (.t none (.t none (.u) (.t none (.t none (.u) (.u)) (.u))) (.t none (.u) (.u))))) [(0, .c (.i .i64))] [.slice l1.a l1.len l1.cap] K rfl (by kernel_rfl) (by kernel_rfl) h
def S.qaZ (so1:Bool) (e2:Int) (K:Int->World->Prop) (w:World):Prop:=bif so1 then (K e2 w) else (K (0:Int) w)
theorem S.qaZ0 (so1:Bool) (e2:Int) (K:Int->World->Prop) (w:World) (h:S.qaZ so1 e2 K w):C.qaZ so1 e2 K w:=
 okS Tryz.func238 (.t none (.u) (.t none (.t none (.u) (.t none (.t none (.u) (.u)) (.u))) (.t none (.u) (.u)))) [(0, .c (.i .i64))] [.bool so1, .int .i64 e2] K rfl (by kernel_rfl) (by kernel_rfl) h
def S.qX (t1:Option Addr) (id2:Int) (K:Int->World->Prop) (w:World):Prop:=C.qs t1 id2 (fun r3 w4=>bif r3.isNone then (K (100:Int) w4) else (∃a5,r3=some a5/\∃state6,w4.cell? a5=some (.int .i64 state6)/\bif state6 !=(2:Int) then (K (101:Int) w4) else (C.qg t1 id2 (3:Int) (fun w7=>K (0:Int) w7) w4))) w
theorem S.qX0 (t1:Option Addr) (id2:Int) (K:Int->World->Prop) (w:World) (h:S.qX t1 id2 K w):C.qX t1 id2 K w:=
 okS Tryz.func297 (.t none (.u) (.t none (.u) (.t none (.t none (.t none (.u) (.t none (.t none (.u) (.u)) (.t none (.u) (.t none (.t none (.u) (.u)) (.u))))) (.u)) (.t none (.u) (.t none (.u) (.u)))))) [(0, .c (.i .i64))] [.pointer t1, .int .i64 id2] K rfl (by kernel_rfl) (by kernel_rfl) h
def S.qcb (e1:Int) (K:Bool->World->Prop) (w:World):Prop:=K (e1 !=(0:Int)) w
theorem S.qcb0 (e1:Int) (K:Bool->World->Prop) (w:World) (h:S.qcb e1 K w):C.qcb e1 K w:=
 okS Tryz.func312 (.t none (.u) (.t none (.u) (.u))) [(0, .c (.b))] [.int .i64 e1] K rfl (by kernel_rfl) (by kernel_rfl) h
end Go.Proofs.YtogmbmdbgkopjaaGreat
end
section
set_option maxRecDepth 8000
namespace Go.Proofs.YtogmbmdbgkopjaaGreat.Th
open Go Go.Vc Go.Proofs
structure Thd where
 st:Int
 pr:Int
 co:Int
 le:Int
 rg:Nat->Int
def thE:EncT Thd:=⟨12,fun t=>[.int .i64 t.st, .int .i64 t.pr, .int .i64 t.co, .int .i64 t.le, .int .u64 (t.rg 0), .int .u64 (t.rg 1), .int .u64 (t.rg 2), .int .u64 (t.rg 3), .int .u64 (t.rg 4), .int .u64 (t.rg 5), .int .u64 (t.rg 6), .int .u64 (t.rg 7)],fun _=>rfl,fun x v h=>by
 simp only[List.mem_cons,List.not_mem_nil,or_false] at h;rcases h with rfl|rfl|rfl|rfl|rfl|rfl|rfl|rfl|rfl|rfl|rfl|rfl<;>rfl,by decide⟩
def ptrE:EncT Nat:=⟨1,fun b=>[.pointer (some ⟨b,0,none⟩)],fun _=>rfl,fun x v h=>by simp at h;subst h;rfl,Nat.le_refl _⟩
structure Mt where
 ths:List Thd
 qs:List Qs
 runs:List Int
def ThrA (b:Nat) (m:Mt):Asn:=ExA fun p:(Sl × Sl × Sl)× List Nat=>StarA (PureA (p.2.length=m.qs.length)::BlkA b [slV p.1.1,slV p.1.2.1,slV p.1.2.2]::SlT thE p.1.1 m.ths::SlT ptrE p.1.2.1 p.2::SlT intE p.1.2.2 m.runs::List.zipWith QueueA p.2 m.qs)
theorem qz_set {b:Nat} {L':Qs}:∀(bs:List Nat) (qs:List Qs) (c:Nat),bs[c]?=some b->(List.zipWith QueueA bs qs).set c (QueueA b L')=List.zipWith QueueA bs (qs.set c L')
 | [],_,_,h=>by simp at h
 |_::_,[],c,_=>by simp
 |b0::bs,q::qs,0,h=>by simp at h;subst h;rfl
 |b0::bs,q::qs,c+1,h=>by simp[qz_set bs qs c (by simpa using h)]
section
variable {B:Nat} {w0 w:World} {R L:List Asn} {b:Nat} {m:Mt}
theorem _root_.Go.Vc.Own.thr (h:Own B w0 w (ThrA b m::R)):∃l q r bs,bs.length=m.qs.length/\Own B w0 w (BlkA b [slV l,slV q,slV r]::SlT thE l m.ths::SlT ptrE q bs::SlT intE r m.runs::(List.zipWith QueueA bs m.qs++R)):=by
 obtain ⟨⟨⟨l,q,r⟩,bs⟩,h⟩:=h.ex;obtain ⟨h1,h⟩:=Own.pure h.star;exact ⟨l,q,r,bs,h1,h⟩
theorem _root_.Go.Vc.Own.mk_thr {l q r:Sl} {bs:List Nat} (h1:bs.length=m.qs.length) (h:Own B w0 w (BlkA b [slV l,slV q,slV r]::SlT thE l m.ths::SlT ptrE q bs::SlT intE r m.runs::(List.zipWith QueueA bs m.qs++R))):Own B w0 w (ThrA b m::R):=
 Own.mk_ex ((l,q,r),bs) (Own.mk_star (Own.mk_pure h1 h))
theorem _root_.Go.Vc.Own.qout {A1 A2 A3 A4:Asn} {bs:List Nat} {qs:List Qs} {c b1:Nat} {Q:Qs} (hb:bs[c]?=some b1) (hq:qs[c]?=some Q) (h:Own B w0 w (A1::A2::A3::A4::(List.zipWith QueueA bs qs++R))):
  Own B w0 w (QueueA b1 Q::A1::A2::A3::A4::(List.zipWith QueueA bs qs++R).eraseIdx c):=by
 have h1:=(List.getElem?_eq_some_iff.1 hb).1;have h2:=(List.getElem?_eq_some_iff.1 hq).1
 have hz:(List.zipWith QueueA bs qs++R)[c]?=some (QueueA b1 Q):=by
  rw[List.getElem?_append_left (by simp;omega),List.getElem?_zipWith,hb,hq]
 exact h.take (c+4) (by simpa using hz)
theorem _root_.Go.Vc.Own.qin {A1 A2 A3 A4:Asn} {bs:List Nat} {qs:List Qs} {c b1:Nat} {Q:Qs} (hb:bs[c]?=some b1) (hc:c<qs.length) (h:Own B w0 w (QueueA b1 Q::A1::A2::A3::A4::(List.zipWith QueueA bs qs++R).eraseIdx c)):
  Own B w0 w (A1::A2::A3::A4::(List.zipWith QueueA bs (qs.set c Q)++R)):=by
 have h1:=(List.getElem?_eq_some_iff.1 hb).1
 have h2:Own B w0 w (QueueA b1 Q::(A1::A2::A3::A4::(List.zipWith QueueA bs qs++R)).eraseIdx (c+4)):=by
  simpa only[List.eraseIdx_cons_succ] using h
 have h3:=h2.put (by simp;omega);simp only[List.set_cons_succ] at h3;rw[List.set_append_left _ _ (by simp;omega),qz_set bs qs c hb] at h3;exact h3
def zTh:Thd:=⟨0,0,0,0,fun _=>0⟩
def Mt.th (m:Mt) (n:Int):Thd:=if n<0 then zTh else (m.ths[n.toNat]?).getD zTh
def Mt.q (m:Mt) (n:Int):Qs:=if n<0 then [] else (m.qs[n.toNat]?).getD []
def Mt.run (m:Mt) (n:Int):Int:=if n<0 then -1 else (m.runs[n.toNat]?).getD (-1)
def Mt.setTh (m:Mt) (n:Int) (t:Thd):Mt:={ m with ths:=m.ths.set n.toNat t}
def Mt.setQ (m:Mt) (n:Int) (Q:Qs):Mt:={ m with qs:=m.qs.set n.toNat Q}
def Mt.setR (m:Mt) (n v:Int):Mt:={ m with runs:=m.runs.set n.toNat v}
def Mt.isT (m:Mt) (n:Int):Bool:=decide (0≤n)&&decide (n<m.ths.length)
def Mt.isC (m:Mt) (n:Int):Bool:=decide (0≤n)&&decide (n<m.qs.length)
def Mt.lineUp (m:Mt) (n:Int):Mt:=(m.setTh n { m.th n with st:=1}).setQ (m.th n).co (putR (m.q (m.th n).co) (m.th n).pr n).2
def Mt.leave0 (m:Mt) (n:Int):Mt:=if (m.th n).st=1 then m.setQ (m.th n).co (takeR (m.q (m.th n).co) n).2 else if (m.th n).st=2 then m.setR (m.th n).co (-1) else m
def Mt.leave (m:Mt) (n s:Int):Mt:=(m.leave0 n).setTh n { m.th n with st:=s}
def Mt.pick (m:Mt) (c:Int):Mt:=match nextR (m.q c) with
 |none=>m
 |some n=>if m.run c= -1 then (m.leave n 2).setR c n else
  if (m.th n).pr≤(m.th (m.run c)).pr then m else (((m.leave (m.run c) 1).lineUp (m.run c)).leave n 2).setR c n
structure MOk (m:Mt):Prop where
 few:m.ths.length≤64
 cores:m.runs.length=m.qs.length
 most:m.qs.length≤8
 core:∀t∈m.ths,0≤t.co/\t.co<m.qs.length
 left:∀t∈m.ths,t.le=t.le
 run:∀n∈m.runs,n= -1∨(0≤n/\n<m.ths.length)
 line:∀Q∈m.qs,∀x∈Q,0≤x.2/\x.2<m.ths.length
theorem pigeon:∀(n:Nat) (l:List Int),l.Nodup->(∀x∈l,0≤x/\x<(n:Int))->l.length≤n
 |0,l,_,h=>by
  cases l with
  |nil=>simp
  |cons a l=>have:=h a (by simp);omega
 |n+1,l,hn,h=>by
  have h1:=pigeon n (l.filter fun x=>x !=(n:Int)) (hn.sublist List.filter_sublist) fun x hx=>by
   have h2:=List.mem_filter.1 hx;have h3:=h x h2.1;have h4:x≠(n:Int):=by simpa using h2.2
   omega
  have h2:l.length≤(l.filter fun x=>x !=(n:Int)).length+1:=by
   clear h1 h
   induction l with
   |nil=>simp
   |cons a l ih=>
    rw[List.nodup_cons] at hn;by_cases e:a=(n:Int)
    ·have:l.filter (fun x=>x !=(n:Int))=l:=by
      rw[List.filter_eq_self];intro x hx;have:x≠(n:Int):=fun e2=>hn.1 (by rw[e,←e2];exact hx)
      simpa using this
     rw[List.filter_cons_of_neg (by simp[e]),this,List.length_cons];exact Nat.le_refl _
    ·rw[List.filter_cons_of_pos (by simpa using e),List.length_cons,List.length_cons]
     have:=ih hn.2;omega
  omega
theorem th_get {n:Int} {t:Thd} (h0:0≤n) (h:m.ths[n.toNat]?=some t):m.th n=t:=by unfold Mt.th;rw[if_neg (by omega),h];rfl
theorem isT_get {n:Int} (h:m.isT n=true):0≤n/\n<m.ths.length/\m.ths[n.toNat]?=some (m.th n):=by
 unfold Mt.isT at h;simp only[Bool.and_eq_true,decide_eq_true_eq] at h;obtain ⟨h0,h1⟩:=h;refine ⟨h0,h1, ?_⟩;have e:=gE (l:=m.ths) (i:=n.toNat) (by omega);rw[e,th_get h0 e]
theorem q_get {n:Int} (h0:0≤n) (h1:n<m.qs.length):m.qs[n.toNat]?=some (m.q n):=by
 have e:=gE (l:=m.qs) (i:=n.toNat) (by omega);unfold Mt.q;rw[if_neg (by omega),e];rfl
theorem r_get {n:Int} (h0:0≤n) (h1:n<m.runs.length):m.runs[n.toNat]?=some (m.run n):=by
 have e:=gE (l:=m.runs) (i:=n.toNat) (by omega);unfold Mt.run;rw[if_neg (by omega),e];rfl
theorem thr_prio_spec {n:Int} {K:Bool->World->Prop} (hK:K (decide (0≤n)&&decide (n<256)) w):C.qbY n K w:=by
 apply S.qbY0;unfold S.qbY;refine cdec (fun e=>?_) (fun e=>?_)
 ·rw[decide_eq_true (show 0≤n from e),Bool.true_and] at hK;exact hK
 ·rw[decide_eq_false (show ¬0≤n from e),Bool.false_and] at hK;exact hK
theorem thr_when_spec {so:Bool} {e:Int} {K:Int->World->Prop} (hK:K (if so then e else 0) w):C.qaZ so e K w:=by
 apply S.qaZ0;unfold S.qaZ;cases so<;>exact hK
theorem thr_core_o {l q r:Sl} {bs:List Nat} {n:Int} {A2 A4:Asn} {K:Bool->World->Prop} (hb:bs.length=m.qs.length) (h:Own B w0 w (BlkA b [slV l,slV q,slV r]::A2::SlT ptrE q bs::A4::L)) (hK:K (m.isC n) w):C.qP (some ⟨b,0,none⟩) n K w:=by
 apply S.qP0;unfold S.qP;have hl:=h.lenc q;unfold Mt.isC at hK;refine cdec (fun e=>?_) (fun e=>?_)
 ·(repeat (first|(refine h.al fun w h=>?_)|(refine h.dr fun w h=>?_)|(refine h.lc_2 rfl ?_)|(refine h.lc_6 rfl ?_)|(refine ⟨_,h.ldc rfl, ?_⟩)|(refine ⟨_,h.ldd rfl, ?_⟩)|(refine h.hd rfl ?_)|(refine ⟨h.ldc rfl, ?_⟩)|(refine ⟨h.ldd rfl, ?_⟩)|(refine h.stLc rfl rfl fun w h=>?_)|(refine exs ?_)|(refine _root_.Go.Vc.a2 ?_)|(refine h.stc rfl rfl fun w h=>?_)|(refine h.std rfl rfl fun w h=>?_)))
  rw[decide_eq_true (show 0≤n from e),Bool.true_and] at hK;rw[hl,hb];exact hK
 ·rw[decide_eq_false (show ¬0≤n from e),Bool.false_and] at hK;exact hK
theorem thr_one_o {l q r:Sl} {n:Int} {A3 A4:Asn} {K:Option Addr->World->Prop} (h:Own B w0 w (BlkA b [slV l,slV q,slV r]::SlT thE l m.ths::A3::A4::L)) (hK0:m.isT n=false->K none w) (hK1:∀a,m.isT n=true->l.a=some a->K (some (a.add (n.toNat*12))) w):C.qs (some ⟨b,0,none⟩) n K w:=by
 apply S.qs0;unfold S.qs;have hl:=h.lenc l;unfold Mt.isT at hK0 hK1;intro k hk;refine cdec (fun e=>?_) (fun e=>?_)
 ·refine hk _ _ (cbT rfl ?_)
  exact hK0 (by rw[decide_eq_false (show ¬0≤n by omega),Bool.false_and])
 ·(repeat (first|(refine h.al fun w h=>?_)|(refine h.dr fun w h=>?_)|(refine h.lc_2 rfl ?_)|(refine h.lc_6 rfl ?_)|(refine ⟨_,h.ldc rfl, ?_⟩)|(refine ⟨_,h.ldd rfl, ?_⟩)|(refine h.hd rfl ?_)|(refine ⟨h.ldc rfl, ?_⟩)|(refine ⟨h.ldd rfl, ?_⟩)|(refine h.stLc rfl rfl fun w h=>?_)|(refine exs ?_)|(refine _root_.Go.Vc.a2 ?_)|(refine h.stc rfl rfl fun w h=>?_)|(refine h.std rfl rfl fun w h=>?_)))
  refine hk _ _ ?_;refine cdec (fun e2=>?_) (fun e2=>?_)
  ·exact hK0 (by rw[decide_eq_false (show ¬n<(m.ths.length:Int) by omega),Bool.and_false])
  ·(repeat (first|(refine h.al fun w h=>?_)|(refine h.dr fun w h=>?_)|(refine h.lc_2 rfl ?_)|(refine h.lc_6 rfl ?_)|(refine ⟨_,h.ldc rfl, ?_⟩)|(refine ⟨_,h.ldd rfl, ?_⟩)|(refine h.hd rfl ?_)|(refine ⟨h.ldc rfl, ?_⟩)|(refine ⟨h.ldd rfl, ?_⟩)|(refine h.stLc rfl rfl fun w h=>?_)|(refine exs ?_)|(refine _root_.Go.Vc.a2 ?_)|(refine h.stc rfl rfl fun w h=>?_)|(refine h.std rfl rfl fun w h=>?_)))
   obtain ⟨x,hx⟩:∃x,m.ths[n.toNat]?=some x:=⟨_,gE (by omega)⟩
   refine h.ixc (s:=l) (j:=n.toNat) (by omega) hx fun a ha h0 hc=>?_
   exact hK1 a (by rw[decide_eq_true (show 0≤n by omega),decide_eq_true (show n<(m.ths.length:Int) by omega)];rfl) ha
end
section
variable {B:Nat} {w0 w:World} {R L:List Asn} {b:Nat} {m:Mt}
theorem MOk.setTh (hm:MOk m) {n:Int} {t:Thd} (h1:0≤t.co/\t.co<m.qs.length) (h2:t.le=t.le):MOk (m.setTh n t):=by
 unfold Mt.setTh;refine ⟨by rw[List.length_set];exact hm.few,hm.cores,hm.most,fun x hx=>?_,fun x hx=>rfl,by rw[List.length_set];exact hm.run,by rw[List.length_set];exact hm.line⟩;rcases List.mem_or_eq_of_mem_set hx with h|h
 ·exact hm.core x h
 ·rw[h];exact h1
theorem MOk.setQ (hm:MOk m) {n:Int} {Q:Qs} (h1:∀x∈Q,0≤x.2/\x.2<m.ths.length):MOk (m.setQ n Q):=by
 unfold Mt.setQ;refine ⟨hm.few,by rw[List.length_set];exact hm.cores,by rw[List.length_set];exact hm.most,by rw[List.length_set];exact hm.core,hm.left,hm.run,fun x hx=>?_⟩;rcases List.mem_or_eq_of_mem_set hx with h|h
 ·exact hm.line x h
 ·rw[h];exact h1
theorem MOk.setR (hm:MOk m) {n v:Int} (h1:v= -1∨(0≤v/\v<m.ths.length)):MOk (m.setR n v):=by
 unfold Mt.setR;refine ⟨hm.few,by rw[List.length_set];exact hm.cores,hm.most,hm.core,hm.left,fun x hx=>?_,hm.line⟩;rcases List.mem_or_eq_of_mem_set hx with h|h
 ·exact hm.run x h
 ·rw[h];exact h1
theorem MOk.qline (hm:MOk m) {c:Int}:∀x∈m.q c,0≤x.2/\x.2<m.ths.length:=fun x hx=>by
 unfold Mt.q at hx;split at hx
 ·simp at hx
 ·cases e:m.qs[c.toNat]? with
  |none=>rw[e] at hx;simp at hx
  |some Q=>rw[e] at hx;exact hm.line Q (List.mem_of_getElem? e) x hx
theorem MOk.th (hm:MOk m) {n:Int} (hn:m.isT n=true):(0≤(m.th n).co/\(m.th n).co<m.qs.length)/\((m.th n).le=(m.th n).le):=by
 have:=List.mem_of_getElem? (isT_get hn).2.2;exact ⟨hm.core _ this,hm.left _ this⟩
theorem putR_ids {Q:Qs} {p n:Int} {k:Int} (h:∀x∈Q,0≤x.2/\x.2<k) (hn:0≤n/\n<k):∀x∈(putR Q p n).2,0≤x.2/\x.2<k:=by
 unfold putR;split
 ·exact h
 ·split
  ·exact h
  ·intro x hx
   rcases List.mem_append.1 hx with h2|h2
   ·exact h x h2
   ·simp at h2;subst h2;exact hn
theorem takeR_ids {Q:Qs} {n:Int} {k:Int} (h:∀x∈Q,0≤x.2/\x.2<k):∀x∈(takeR Q n).2,0≤x.2/\x.2<k:=by
 unfold takeR;split
 ·exact fun x hx=>h x (List.mem_filter.1 hx).1
 ·exact h
theorem MOk.lineUp (hm:MOk m) {n:Int} (hn:m.isT n=true):MOk (m.lineUp n):=by
 have ht:=hm.th hn;have hb:=isT_get hn;unfold Mt.lineUp;refine (hm.setTh (t:={ m.th n with st:=1}) ht.1 ht.2).setQ ?_;have:(m.setTh n { m.th n with st:=1}).ths.length=m.ths.length:=by unfold Mt.setTh;simp
 rw[this];exact putR_ids hm.qline ⟨hb.1,hb.2.1⟩
theorem MOk.leave0 (hm:MOk m) {n:Int}:MOk (m.leave0 n):=by
 unfold Mt.leave0;split
 ·exact hm.setQ (takeR_ids hm.qline)
 ·split
  ·exact hm.setR (.inl rfl)
  ·exact hm
theorem leave0_len {n:Int}:(m.leave0 n).ths=m.ths/\(m.leave0 n).qs.length=m.qs.length:=by
 unfold Mt.leave0 Mt.setQ Mt.setR;split
 ·simp
 ·split<;>simp
theorem MOk.leave (hm:MOk m) {n s:Int} (hn:m.isT n=true):MOk (m.leave n s):=by
 have ht:=hm.th hn;unfold Mt.leave;refine hm.leave0.setTh (t:={ m.th n with st:=s}) ?_ ht.2;rw[leave0_len.2];exact ht.1
theorem ids_len {Q:Qs} {k:Nat} (hq:QOk Q) (h:∀x∈Q,0≤x.2/\x.2<(k:Int)):Q.length≤k:=by
 have:=pigeon k (Q.map (·.2)) hq.nodup fun x hx=>by
  obtain ⟨y,hy,e⟩:=List.mem_map.1 hx;rw[←e];exact h y hy
 simpa using this
theorem lineUp_isT {n k:Int}:(m.lineUp n).isT k=m.isT k:=by unfold Mt.lineUp Mt.isT Mt.setQ Mt.setTh;simp
theorem leave_isT {n s k:Int}:(m.leave n s).isT k=m.isT k:=by unfold Mt.leave Mt.isT Mt.setTh;simp[leave0_len.1]
theorem lineUp_isC {n k:Int}:(m.lineUp n).isC k=m.isC k:=by unfold Mt.lineUp Mt.isC Mt.setQ Mt.setTh;simp
theorem leave_isC {n s k:Int}:(m.leave n s).isC k=m.isC k:=by unfold Mt.leave Mt.isC Mt.setTh;simp[leave0_len.2]
theorem stTh {l:Sl} {A1 A3 A4:Asn} {ths:List Thd} {n:Int} {t t':Thd} {c:Nat} {v:Value} {a:Addr} {k:World->Prop} (h:Own B w0 w (A1::SlT thE l ths::A3::A4::L)) (h0:0≤n) (hx:ths[n.toNat]?=some t) (ha:l.a=some a)
  (he:thE.enc t'=(thE.enc t).set c v) (hc:c<12) (hv:v.oneCell'=true) (hk:∀w',Own B w0 w' (A1::SlT thE l (ths.set n.toNat t')::A3::A4::L)->k w'):St w ((a.add (n.toNat*12)).add c) v k:=
 Own.stFc (s:=l) (E:=thE) (xs:=ths) (i:=n) (j:=n.toNat) (c:=c) (x:=t) h t' (by omega) hx ha he hc hv fun w' h=>hk w' h.up1
theorem ldTh {l:Sl} {A1 A3 A4:Asn} {ths:List Thd} {n:Int} {t:Thd} {c:Nat} {v:Value} {a:Addr} (h:Own B w0 w (A1::SlT thE l ths::A3::A4::L)) (h0:0≤n) (hx:ths[n.toNat]?=some t) (ha:l.a=some a)
  (he:(thE.enc t)[c]?=some v):w.cell? ((a.add (n.toNat*12)).add c)=some v:=
 (h.ixa (s:=l) (E:=thE) (i:=n) (j:=n.toNat) (by omega) hx ha).2 c v he
theorem thr_lineUp_spec {n:Int} {K:World->Prop} (hm:MOk m) (hn:m.isT n=true) (h:Own B w0 w (ThrA b m::R)) (hK:∀w',Own B w0 w' (ThrA b (m.lineUp n)::R)->K w'):C.qx (some ⟨b,0,none⟩) n K w:=by
 apply S.qx0;unfold S.qx;obtain ⟨l,q,r,bs,hbs,h⟩:=h.thr;obtain ⟨n0,n1,hx⟩:=isT_get hn;obtain ⟨⟨c0,c1⟩,_⟩:=hm.th hn;obtain ⟨b1,hb1⟩:∃x,bs[(m.th n).co.toNat]?=some x:=⟨_,gE (by omega)⟩
 refine thr_one_o h (fun e=>by rw[hn] at e;cases e) fun a _ ha=>?_
 refine ⟨_,rfl, ?_⟩;refine stTh (c:=0) (t':={ m.th n with st:=1}) h n0 hx ha rfl (by decide) rfl fun w h=>?_
 have hx2:(m.ths.set n.toNat { m.th n with st:=1})[n.toNat]?=some { m.th n with st:=1}:=by rw[List.getElem?_set,if_pos rfl,if_pos (by omega)]
 refine h.dr fun w h=>?_
 refine ⟨_,rfl,q,h.ldd rfl,_,rfl,_,ldTh (c:=2) h n0 hx2 ha rfl, ?_⟩;refine h.ixc (s:=q) (j:=(m.th n).co.toNat) (by show (m.th n).co=_;omega) hb1 fun a2 ha2 h0 hc=>⟨_,h0 _ rfl, ?_⟩
 refine ⟨_,rfl,_,ldTh (c:=1) h n0 hx2 ha rfl,Go.Vc.a2 ?_⟩;have h:=h.qout hb1 (q_get c0 c1);have hqok:QOk (m.q (m.th n).co):=by obtain ⟨_,e,_⟩:=h.queue;exact e
 have hlen:=ids_len hqok hm.qline;have hfew:=hm.few;refine ready_Queue_Put_spec h (by omega) fun w h=>?_
 have h:=h.qin (qs:=m.qs) hb1 (by omega);exact hK w (Own.mk_thr (m:=m.lineUp n) (bs:=bs) (by unfold Mt.lineUp Mt.setQ Mt.setTh;simpa using hbs) h)
theorem thr_leave_spec {n s:Int} {K:World->Prop} (hm:MOk m) (hn:m.isT n=true) (h:Own B w0 w (ThrA b m::R)) (hK:∀w',Own B w0 w' (ThrA b (m.leave n s)::R)->K w'):C.qg (some ⟨b,0,none⟩) n s K w:=by
 apply S.qg0;unfold S.qg;obtain ⟨l,q,r,bs,hbs,h⟩:=h.thr;obtain ⟨n0,n1,hx⟩:=isT_get hn;obtain ⟨⟨c0,c1⟩,_⟩:=hm.th hn;have hcr:=hm.cores;obtain ⟨b1,hb1⟩:∃x,bs[(m.th n).co.toNat]?=some x:=⟨_,gE (by omega)⟩
 refine thr_one_o h (fun e=>by rw[hn] at e;cases e) fun a _ ha=>?_
 refine ⟨_,rfl,_,ldTh (c:=0) h n0 hx ha rfl, ?_⟩;intro k hk
 have fin:∀w,Own B w0 w (BlkA b [slV l,slV q,slV r]::SlT thE l m.ths::SlT ptrE q bs::SlT intE r (m.leave0 n).runs::(List.zipWith QueueA bs (m.leave0 n).qs++R))->k w:=fun w h=>by
  apply hk;refine ⟨_,rfl, ?_⟩;refine stTh (c:=0) (t':={ m.th n with st:=s}) h n0 hx ha rfl (by decide) rfl fun w h=>?_
  refine hK w (Own.mk_thr (m:=m.leave n s) (l:=l) (q:=q) (r:=r) (bs:=bs) ?_ ?_)
  ·show bs.length=(m.leave0 n).qs.length
   rw[leave0_len.2];exact hbs
  ·have e:(m.leave n s).ths=m.ths.set n.toNat { m.th n with st:=s}:=by unfold Mt.leave Mt.setTh;rw[leave0_len.1]
   rw[e];exact h
 refine ceq (fun e=>?_) (fun e=>?_)
 ·have e1:m.leave0 n=m.setQ (m.th n).co (takeR (m.q (m.th n).co) n).2:=by unfold Mt.leave0;rw[if_pos e]
  rw[e1] at fin;refine h.dr fun w h=>?_
  refine ⟨_,rfl,q,h.ldd rfl,_,rfl,_,ldTh (c:=2) h n0 hx ha rfl, ?_⟩;refine h.ixc (s:=q) (j:=(m.th n).co.toNat) (by show (m.th n).co=_;omega) hb1 fun a2 ha2 h0 hc=>⟨_,h0 _ rfl,Go.Vc.a2 ?_⟩
  have h:=h.qout hb1 (q_get c0 c1);refine ready_Queue_Take_spec h fun w h=>?_
  exact fin w (h.qin (qs:=m.qs) hb1 (by omega))
 refine ceq (fun e2=>?_) (fun e2=>?_)
 ·have e1:m.leave0 n=m.setR (m.th n).co (-1):=by unfold Mt.leave0;rw[if_neg e,if_pos e2]
  rw[e1] at fin;refine h.dr fun w h=>?_
  refine ⟨_,rfl,r,h.ldd rfl,_,rfl,_,ldTh (c:=2) h n0 hx ha rfl, ?_⟩;refine h.ixc (s:=r) (j:=(m.th n).co.toNat) (by show (m.th n).co=_;omega) (r_get (m:=m) c0 (by omega)) fun a2 ha2 h0 hc=>Go.Vc.a2 ?_
  refine Own.stEc (s:=r) (E:=intE) (xs:=m.runs) (i:=(m.th n).co) (j:=(m.th n).co.toNat) h (-1) (by omega) (by omega) ha2 rfl fun w h=>?_
  exact fin w h.up3.up3.up3
 ·have e1:m.leave0 n=m:=by unfold Mt.leave0;rw[if_neg e,if_neg e2]
  rw[e1] at fin;exact fin w h
end
section
variable {B:Nat} {w0 w:World} {R L:List Asn} {b:Nat} {m:Mt}
def Mt.runs? (m:Mt) (c:Int):Option Int:=if m.isC c=true/\m.run c≠ -1 then some (m.run c) else none
theorem isC_iff {c:Int}:m.isC c=true↔0≤c/\c<m.qs.length:=by unfold Mt.isC;simp
theorem thr_Runs_spec {c:Int} {K:Int->Bool->World->Prop} (hm:MOk m) (h:Own B w0 w (ThrA b m::R)) (hK:∀w',Own B w0 w' (ThrA b m::R)->K ((m.runs? c).getD 0) (m.runs? c).isSome w'):C.qN (some ⟨b,0,none⟩) c K w:=by
 apply S.qN0;unfold S.qN;have hcr:=hm.cores;obtain ⟨l,q,r,bs,hbs,h⟩:=h.thr;intro k hk;refine thr_core_o hbs h ?_;unfold Mt.runs? at hK;cases hc:m.isC c with
 |false=>
  rw[if_neg (by rw[hc];simp)] at hK;refine cbT rfl (hk _ _ (cbT rfl ?_));exact hK w (Own.mk_thr hbs h)
 |true=>
  obtain ⟨c0,c1⟩:=isC_iff.1 hc;refine cbF rfl ?_
  (repeat (first|(refine h.al fun w h=>?_)|(refine h.dr fun w h=>?_)|(refine h.lc_2 rfl ?_)|(refine h.lc_6 rfl ?_)|(refine ⟨_,h.ldc rfl, ?_⟩)|(refine ⟨_,h.ldd rfl, ?_⟩)|(refine h.hd rfl ?_)|(refine ⟨h.ldc rfl, ?_⟩)|(refine ⟨h.ldd rfl, ?_⟩)|(refine h.stLc rfl rfl fun w h=>?_)|(refine exs ?_)|(refine _root_.Go.Vc.a2 ?_)|(refine h.stc rfl rfl fun w h=>?_)|(refine h.std rfl rfl fun w h=>?_)))
  refine h.ixc (s:=r) (j:=c.toNat) (by omega) (r_get (m:=m) c0 (by omega)) fun a ha h0 hcc=>⟨_,h0 _ rfl, ?_⟩
  refine hk _ _ ?_;refine ceq (fun e=>?_) (fun e=>?_)
  ·rw[if_neg (by simp[e])] at hK
   exact hK w (Own.mk_thr hbs h)
  ·rw[if_pos ⟨hc,e⟩] at hK
   (repeat (first|(refine h.al fun w h=>?_)|(refine h.dr fun w h=>?_)|(refine h.lc_2 rfl ?_)|(refine h.lc_6 rfl ?_)|(refine ⟨_,h.ldc rfl, ?_⟩)|(refine ⟨_,h.ldd rfl, ?_⟩)|(refine h.hd rfl ?_)|(refine ⟨h.ldc rfl, ?_⟩)|(refine ⟨h.ldd rfl, ?_⟩)|(refine h.stLc rfl rfl fun w h=>?_)|(refine exs ?_)|(refine _root_.Go.Vc.a2 ?_)|(refine h.stc rfl rfl fun w h=>?_)|(refine h.std rfl rfl fun w h=>?_)))
   refine h.ixc (s:=r) (j:=c.toNat) (by omega) (r_get (m:=m) c0 (by omega)) fun a ha h0 hcc=>⟨_,h0 _ rfl, ?_⟩
   exact hK w (Own.mk_thr hbs h)
theorem thr_Get_spec {n:Int} {K:Int->Int->Int->Int->Int->Int->Int->Int->Int->Int->Int->Int->Int->World->Prop} (h:Own B w0 w (ThrA b m::R))
  (hK:∀w' t,t=(if m.isT n then m.th n else zTh)->Own B w0 w' (ThrA b m::R)->K t.st t.pr t.co t.le (t.rg 0) (t.rg 1) (t.rg 2) (t.rg 3) (t.rg 4) (t.rg 5) (t.rg 6) (t.rg 7) (if m.isT n then 0 else 100) w'):C.qai (some ⟨b,0,none⟩) n K w:=by
 apply S.qai0;unfold S.qai;refine h.al fun w1 h=>?_
 generalize w.heap.size=c at h⊢;have h:Own B w0 w1 (ThrA b m::BlkA c [.int .i64 0, .int .i64 0, .int .i64 0, .int .i64 0, .int .u64 0, .int .u64 0, .int .u64 0, .int .u64 0, .int .u64 0, .int .u64 0, .int .u64 0, .int .u64 0]::R):=h.up1;obtain ⟨l,q,r,bs,hbs,h⟩:=h.thr;have back:∀{w:World} {cs:List Value},Own B w0 w (BlkA c cs::BlkA b [slV l,slV q,slV r]::SlT thE l m.ths::SlT ptrE q bs::SlT intE r m.runs::(List.zipWith QueueA bs m.qs++R))->Own B w0 w (ThrA b m::R):=fun h=>Own.mk_thr hbs h.drop
 have mid:∀{w:World} {A:Asn},Own B w0 w (BlkA b [slV l,slV q,slV r]::SlT thE l m.ths::SlT ptrE q bs::SlT intE r m.runs::(List.zipWith QueueA bs m.qs++A::R))->Own B w0 w (A::BlkA b [slV l,slV q,slV r]::SlT thE l m.ths::SlT ptrE q bs::SlT intE r m.runs::(List.zipWith QueueA bs m.qs++R)):=fun {w A} h=>by
  refine h.perm ?_;have:List.Perm (List.zipWith QueueA bs m.qs++A::R) (A::(List.zipWith QueueA bs m.qs++R)):=List.perm_middle;refine ((((this.cons _).cons _).cons _).cons _).trans ?_;exact (List.perm_middle (l₁:=[BlkA b [slV l,slV q,slV r],SlT thE l m.ths,SlT ptrE q bs,SlT intE r m.runs]))
 refine thr_one_o h (fun e=>?_) fun a e ha=>?_
 ·have h:=mid h
  refine cbT rfl ?_;refine h.stLc rfl rfl fun w h=>?_
  refine h.lc_12 rfl ?_;have:=hK w zTh (by rw[e];rfl) (back h);rw[e] at this;exact this
 ·obtain ⟨n0,n1,hx⟩:=isT_get e
  have hc:=(h.ixa (s:=l) (E:=thE) (i:=n) (j:=n.toNat) (by omega) hx ha).2;have h2:=mid h;refine cbF rfl ?_;refine ⟨_,rfl, ?_⟩;refine ⟨_,hc 0 _ rfl,_,hc 1 _ rfl,_,hc 2 _ rfl,_,hc 3 _ rfl,_,hc 4 _ rfl,_,hc 5 _ rfl,_,hc 6 _ rfl,_,hc 7 _ rfl,_,hc 8 _ rfl,_,hc 9 _ rfl,_,hc 10 _ rfl,_,hc 11 _ rfl, ?_⟩;refine h2.stLc rfl rfl fun w h=>?_
  refine h.lc_12 rfl ?_;have:=hK w (m.th n) (by rw[e];rfl) (back h);rw[e] at this;exact this
theorem thr_Resume_spec {n:Int} {K:Int->World->Prop} (hm:MOk m) (h:Own B w0 w (ThrA b m::R))
  (hK0:m.isT n=false->∀w',Own B w0 w' (ThrA b m::R)->K 100 w') (hK1:m.isT n=true->(m.th n).st=1∨(m.th n).st=2->∀w',Own B w0 w' (ThrA b m::R)->K 101 w')
  (hK2:m.isT n=true->(m.th n).st≠1->(m.th n).st≠2->∀w',Own B w0 w' (ThrA b (m.lineUp n)::R)->K 0 w'):C.qw (some ⟨b,0,none⟩) n K w:=by
 apply S.qw0;unfold S.qw;obtain ⟨l,q,r,bs,hbs,h⟩:=h.thr;refine thr_one_o h (fun e=>?_) fun a e ha=>?_
 ·refine cbT rfl ?_
  exact hK0 e w (Own.mk_thr hbs h)
 ·obtain ⟨n0,n1,hx⟩:=isT_get e
  refine cbF rfl ?_;intro k hk;refine ⟨_,rfl,_,ldTh (c:=0) h n0 hx ha rfl, ?_⟩;refine ceq (fun e1=>?_) (fun e1=>?_)
  ·refine hk _ _ (cbT rfl ?_)
   exact hK1 e (.inl e1) w (Own.mk_thr hbs h)
  refine ⟨_,rfl,_,ldTh (c:=0) h n0 hx ha rfl,hk _ _ ?_⟩;refine ceq (fun e2=>?_) (fun e2=>?_)
  ·exact hK1 e (.inr e2) w (Own.mk_thr hbs h)
  ·refine thr_lineUp_spec hm e (Own.mk_thr hbs h) fun w h=>?_
   exact hK2 e e1 e2 w h
theorem thr_Block_spec {n:Int} {K:Int->World->Prop} (hm:MOk m) (h:Own B w0 w (ThrA b m::R))
  (hK0:m.isT n=false->∀w',Own B w0 w' (ThrA b m::R)->K 100 w') (hK1:m.isT n=true->(m.th n).st≠2->∀w',Own B w0 w' (ThrA b m::R)->K 101 w')
  (hK2:m.isT n=true->(m.th n).st=2->∀w',Own B w0 w' (ThrA b (m.leave n 3)::R)->K 0 w'):C.qX (some ⟨b,0,none⟩) n K w:=by
 apply S.qX0;unfold S.qX;obtain ⟨l,q,r,bs,hbs,h⟩:=h.thr;refine thr_one_o h (fun e=>?_) fun a e ha=>?_
 ·refine cbT rfl ?_
  exact hK0 e w (Own.mk_thr hbs h)
 ·obtain ⟨n0,n1,hx⟩:=isT_get e
  refine cbF rfl ?_;refine ⟨_,rfl,_,ldTh (c:=0) h n0 hx ha rfl, ?_⟩;refine cne (fun e1=>?_) (fun e1=>?_)
  ·exact hK1 e e1 w (Own.mk_thr hbs h)
  ·refine thr_leave_spec hm e (Own.mk_thr hbs h) fun w h=>?_
   exact hK2 e e1 w h
theorem thr_Suspend_spec {n:Int} {K:Int->World->Prop} (hm:MOk m) (h:Own B w0 w (ThrA b m::R))
  (hK0:m.isT n=false->∀w',Own B w0 w' (ThrA b m::R)->K 100 w') (hK1:m.isT n=true->(m.th n).st=0->∀w',Own B w0 w' (ThrA b m::R)->K 101 w')
  (hK2:m.isT n=true->(m.th n).st≠0->∀w',Own B w0 w' (ThrA b (m.leave n 0)::R)->K 0 w'):C.qA (some ⟨b,0,none⟩) n K w:=by
 apply S.qA0;unfold S.qA;obtain ⟨l,q,r,bs,hbs,h⟩:=h.thr;refine thr_one_o h (fun e=>?_) fun a e ha=>?_
 ·refine cbT rfl ?_
  exact hK0 e w (Own.mk_thr hbs h)
 ·obtain ⟨n0,n1,hx⟩:=isT_get e
  refine cbF rfl ?_;refine ⟨_,rfl,_,ldTh (c:=0) h n0 hx ha rfl, ?_⟩;refine ceq (fun e1=>?_) (fun e1=>?_)
  ·exact hK1 e e1 w (Own.mk_thr hbs h)
  ·refine thr_leave_spec hm e (Own.mk_thr hbs h) fun w h=>?_
   exact hK2 e e1 w h
end
section
variable {B:Nat} {w0 w:World} {R L:List Asn} {b:Nat} {m:Mt}
theorem next_mem {Q:Qs} {n:Int} (h:nextR Q=some n):∃x∈Q,x.2=n:=by
 unfold nextR at h;obtain ⟨p,hp,hl⟩:=Option.bind_eq_some_iff.1 h;have hm:=List.mem_of_head? hl;unfold lineOf at hm;obtain ⟨x,hx,e⟩:=List.mem_map.1 hm;exact ⟨x,(List.mem_filter.1 hx).1,e⟩
theorem _root_.Go.Vc.Own.qsame {A1 A2 A3 A4:Asn} {bs:List Nat} {c:Int} {b1:Nat} (hb:bs[c.toNat]?=some b1) (c0:0≤c) (c1:c<m.qs.length) (h:Own B w0 w (QueueA b1 (m.q c)::A1::A2::A3::A4::(List.zipWith QueueA bs m.qs++R).eraseIdx c.toNat)):
  Own B w0 w (A1::A2::A3::A4::(List.zipWith QueueA bs m.qs++R)):=by
 have h3:=h.qin (qs:=m.qs) hb (by omega)
 have e:m.qs.set c.toNat (m.q c)=m.qs:=by
  apply List.ext_getElem?;intro t;rw[List.getElem?_set];by_cases e:c.toNat=t
  ·subst e;rw[if_pos rfl,if_pos (by omega),q_get c0 c1]
  ·rw[if_neg e]
 rw[e] at h3;exact h3
def Mt.pickC (m:Mt) (c:Int):Mt:=if m.isC c then m.pick c else m
theorem setR_isC {n v k:Int}:(m.setR n v).isC k=m.isC k:=rfl
theorem setR_isT {n v k:Int}:(m.setR n v).isT k=m.isT k:=rfl
theorem MOk.runT (hm:MOk m) {c o:Int} (h:m.runs? c=some o):m.isC c=true/\m.run c=o/\o≠ -1/\m.isT o=true:=by
 unfold Mt.runs? at h;split at h
 ·rename_i hc
  cases h;obtain ⟨c0,c1⟩:=isC_iff.1 hc.1;have hcr:=hm.cores;have:=hm.run _ (List.mem_of_getElem? (r_get (m:=m) c0 (by omega)));refine ⟨hc.1,rfl,hc.2, ?_⟩;rcases this with e|e
  ·exact absurd e hc.2
  ·unfold Mt.isT;simp;exact e
 ·cases h
theorem MOk.nextT (hm:MOk m) {c n:Int} (h:nextR (m.q c)=some n):0≤n/\m.isT n=true:=by
 obtain ⟨x,hx,e⟩:=next_mem h;have:=hm.qline x hx;rw[e] at this;refine ⟨this.1, ?_⟩;unfold Mt.isT;simp;exact this
theorem thr_Pick_spec {c:Int} {K:Int->Bool->World->Prop} (hm:MOk m) (h:Own B w0 w (ThrA b m::R)) (hK:∀w',Own B w0 w' (ThrA b (m.pickC c)::R)->K (((m.pickC c).runs? c).getD 0) ((m.pickC c).runs? c).isSome w'):C.qE (some ⟨b,0,none⟩) c K w:=by
 apply S.qE0;unfold S.qE;have hcr:=hm.cores;obtain ⟨l,q,r,bs,hbs,h⟩:=h.thr;refine thr_core_o hbs h ?_;unfold Mt.pickC at hK;cases hc:m.isC c with
 |false=>
  rw[hc] at hK;have e:m.runs? c=none:=by unfold Mt.runs?;rw[if_neg (by rw[hc];simp)]
  refine cbT rfl ?_;have:=hK w (Own.mk_thr hbs h);simp only[Bool.false_eq_true,if_false,e] at this;exact this
 |true=>
  rw[hc] at hK;simp only[if_true] at hK;obtain ⟨c0,c1⟩:=isC_iff.1 hc;refine cbF rfl ?_;refine thr_Runs_spec (c:=c) hm (Own.mk_thr hbs h) fun w h=>?_
  obtain ⟨l,q,r,bs,hbs,h⟩:=h.thr;obtain ⟨b1,hb1⟩:∃x,bs[c.toNat]?=some x:=⟨_,gE (by omega)⟩
  refine ⟨_,rfl,q,h.ldd rfl, ?_⟩;refine h.ixc (s:=q) (j:=c.toNat) (by omega) hb1 fun a2 ha2 h0 hcc=>⟨_,h0 _ rfl, ?_⟩
  refine ready_Queue_Next_spec (h.qout hb1 (q_get c0 c1)) fun w h=>?_
  have h:=h.qsame hb1 c0 c1;intro k15 hk15;refine h.dr fun w h=>?_
  have stay:∀w,m.pick c=m->Own B w0 w (ThrA b m::R)->k15 true w:=fun w e h=>by
   rw[e] at hK;exact hk15 _ _ (cbT rfl (hK w h))
  cases hn:nextR (m.q c) with
  |none=>
   refine cbT rfl ?_;exact stay w (by unfold Mt.pick;rw[hn]) (Own.mk_thr hbs h)
  |some n=>
   rw[hn] at hk15;obtain ⟨n0,hnT⟩:=hm.nextT hn;obtain ⟨_,n1,hnx⟩:=isT_get hnT;refine cbF rfl ?_
   have fin:∀(m1:Mt) (w:World),MOk m1->m1.isT n=true->m1.isC c=true->m.pick c=(m1.leave n 2).setR c n->Own B w0 w (ThrA b m1::R)->
     C.qg (some ⟨b,0,none⟩) n 2 (fun w20=>
      ∃a21:Addr,some (⟨b,0,none⟩:Addr)=some a21/\
      ∃runs22:Sl,w20.cell? (a21.add 2)=some (.slice runs22.a runs22.len runs22.cap)/\
      ∃a23:Addr,runs22.a=some a23/\0≤c/\c<(runs22.len:Int)/\
      St w20 (a23.add (c.toNat*1)) (.int .i64 n) fun w24=>K n true w24) w:=fun m1 w hm1 hT1 hC1 hp h=>by
    refine thr_leave_spec hm1 hT1 h fun w h=>?_
    have hm2:=hm1.leave (s:=2) hT1;have hcr2:=hm2.cores;have hC2:(m1.leave n 2).isC c=true:=by rw[leave_isC];exact hC1
    obtain ⟨d0,d1⟩:=isC_iff.1 hC2;obtain ⟨l,q,r,bs,hbs,h⟩:=h.thr;refine ⟨_,rfl,r,h.ldd rfl, ?_⟩;refine h.ixc (s:=r) (j:=c.toNat) (by omega) (r_get (m:=m1.leave n 2) c0 (by omega)) fun a ha h0 hcc=>?_
    refine Own.stEc (s:=r) (E:=intE) (xs:=(m1.leave n 2).runs) (i:=c) (j:=c.toNat) h n (by omega) (by omega) ha rfl fun w h=>?_
    have h2:Own B w0 w (ThrA b ((m1.leave n 2).setR c n)::R):=Own.mk_thr (m:=(m1.leave n 2).setR c n) hbs h.up3.up3.up3
    have hrun:((m1.leave n 2).setR c n).runs? c=some n:=by
     unfold Mt.runs?
     have e:((m1.leave n 2).setR c n).run c=n:=by
      unfold Mt.run Mt.setR;rw[if_neg (by omega)];simp only;rw[List.getElem?_set,if_pos rfl,if_pos (by omega)];rfl
     rw[e,if_pos ⟨by rw[setR_isC];exact hC2,by omega⟩]
    rw[hp] at hK;have:=hK w h2;rw[hrun] at this;exact this
   cases hr:m.runs? c with
   |none=>
    have hr1:m.run c= -1:=by
     unfold Mt.runs? at hr;split at hr
     ·cases hr
     ·rename_i hh
      by_cases e:m.run c= -1
      ·exact e
      ·exact absurd ⟨hc,e⟩ hh
    rw[hr] at hk15;refine cbF rfl (hk15 _ _ (cbF rfl ?_));intro k18 hk18;refine cbF rfl (hk18 _ ?_);exact fin m w hm hnT hc (by unfold Mt.pick;rw[hn];simp only;rw[if_pos hr1]) (Own.mk_thr hbs h)
   |some o=>
    obtain ⟨_,hro,ho1,hoT⟩:=hm.runT hr;obtain ⟨o0,o1,hox⟩:=isT_get hoT;rw[hr] at hk15;refine cbT rfl ?_;refine ⟨_,rfl,l,h.ldc rfl, ?_⟩;refine h.ixc (s:=l) (i:=n) (j:=n.toNat) (by omega) hnx fun a ha h0 hcc=>⟨_,hcc 1 _ rfl,_,rfl,l,h.ldc rfl, ?_⟩
    refine h.ixc (s:=l) (i:=o) (j:=o.toNat) (by omega) hox fun a ha h0 hcc=>⟨_,hcc 1 _ rfl, ?_⟩
    refine (fun (hstay:(m.th n).pr≤(m.th o).pr->k15 true w) (hgo:¬(m.th n).pr≤(m.th o).pr->k15 false w)=>?_) ?_ ?_
    ·show k15 (decide ((m.th n).pr≤(m.th o).pr)) w
     by_cases e:(m.th n).pr≤(m.th o).pr
     ·rw[decide_eq_true e];exact hstay e
     ·rw[decide_eq_false e];exact hgo e
    ·intro e
     exact stay w (by unfold Mt.pick;rw[hn];simp only;rw[if_neg (by rw[hro];exact ho1),hro,if_pos e]) (Own.mk_thr hbs h)
    ·intro e
     refine hk15 _ _ (cbF rfl ?_);intro k18 hk18;refine cbT rfl ?_;refine thr_leave_spec hm hoT (Own.mk_thr hbs h) fun w h=>?_
     have hm2:=hm.leave (s:=1) hoT;have hT2:(m.leave o 1).isT o=true:=by rw[leave_isT];exact hoT
     refine thr_lineUp_spec hm2 hT2 h fun w h=>?_
     refine hk18 _ ?_
     exact fin ((m.leave o 1).lineUp o) w (hm2.lineUp hT2) (by rw[lineUp_isT,leave_isT];exact hnT) (by rw[lineUp_isC,leave_isC];exact hc) (by
      unfold Mt.pick;rw[hn];simp only;rw[if_neg (by rw[hro];exact ho1),hro,if_neg e]) h
end
section
variable {B:Nat} {w0 w:World} {R:List Asn} {b:Nat} {m:Mt}
def Mt.make (m:Mt) (p c:Int):Mt:={ m with ths:=m.ths++ [⟨0,p,c,5,fun _=>0⟩]}
theorem MOk.make (hm:MOk m) {p c:Int} (hl:m.ths.length<64) (hc:m.isC c=true):MOk (m.make p c):=by
 obtain ⟨c0,c1⟩:=isC_iff.1 hc;unfold Mt.make;refine ⟨by simp;omega,hm.cores,hm.most,fun x hx=>?_,fun x hx=>rfl,fun n hn=>?_,fun Q hQ x hx=>?_⟩
 ·rcases List.mem_append.1 hx with h|h
  ·exact hm.core x h
  ·simp at h;subst h;exact ⟨c0,c1⟩
 ·rcases hm.run n hn with h|h
  ·exact .inl h
  ·exact .inr ⟨h.1,by simp;omega⟩
 ·have:=hm.line Q hQ x hx
  exact ⟨this.1,by simp;omega⟩
theorem thr_Make_spec {p c:Int} {K:Int->Int->World->Prop} (hm:MOk m) (h:Own B w0 w (ThrA b m::R))
  (hK0:¬(0≤p/\p<256/\m.isC c=true)->∀w',Own B w0 w' (ThrA b m::R)->K 0 1 w')
  (hK1:(0≤p/\p<256/\m.isC c=true)->64≤m.ths.length->∀w',Own B w0 w' (ThrA b m::R)->K 0 2 w')
  (hK2:(0≤p/\p<256/\m.isC c=true)->m.ths.length<64->∀w',Own B w0 w' (ThrA b (m.make p c)::R)->K (m.ths.length:Int) 0 w'):C.qD (some ⟨b,0,none⟩) p c K w:=by
 apply S.qD0;unfold S.qD;have hfew:=hm.few;obtain ⟨l,q,r,bs,hbs,h⟩:=h.thr;have hl:=h.lenc l;intro k hk;refine thr_prio_spec ?_;refine cnb (fun e=>?_) (fun e=>?_)
 ·refine hk _ _ (cbT rfl ?_)
  exact hK0 (fun hh=>by rw[decide_eq_true hh.1,decide_eq_true hh.2.1] at e;cases e) w (Own.mk_thr hbs h)
 simp only[Bool.and_eq_true,decide_eq_true_eq] at e;refine thr_core_o hbs h ?_;cases hc:m.isC c with
 |false=>
  refine hk _ _ (cbT rfl ?_);exact hK0 (fun hh=>by rw[hc] at hh;cases hh.2.2) w (Own.mk_thr hbs h)
 |true=>
  have hh:=And.intro e.1 (And.intro e.2 hc);refine hk _ _ (cbF rfl ?_);refine ⟨_,rfl,l,h.ldc rfl, ?_⟩;refine cdec (fun e2=>?_) (fun e2=>?_)
  ·exact hK1 hh (by omega) w (Own.mk_thr hbs h)
  ·refine ⟨_,rfl,l,h.ldc rfl, ?_⟩
   refine h.al fun w1 h=>?_
   generalize w.heap.size=d at h⊢
   refine Own.app1c (s:=l) (E:=thE) (xs:=m.ths) (y:=⟨0,p,c,5,fun _=>0⟩) Tryz.underlying149 (show Tryz.prog.info? 53=some Tryz.t53 from by kernel_rfl) (zv:=(Tryz.t53.zero).get (by kernel_rfl)) (by kernel_rfl) (by kernel_rfl) (by kernel_rfl) (by decide) h (by
    have e:Tryz.t53.bytes=96:=by kernel_rfl
    rw[e];omega) fun s' w hs' h=>?_
   refine ⟨_,rfl, ?_⟩;have h:=h.up1;refine h.stc rfl rfl fun w h=>?_
   refine ⟨_,rfl,s',h.ldc rfl, ?_⟩;rw[show IntKind.i64.wrap ((s'.len:Int)-1)=(m.ths.length:Int) from by rw[hs',wr (by omega) (by omega)];omega];exact hK2 hh (by omega) w (Own.mk_thr (m:=m.make p c) (l:=s') (q:=q) (r:=r) (bs:=bs) hbs h)
def Mt.yield (m:Mt) (c:Int):Mt:=match m.runs? c with
 |none=>m
 |some o=>(((m.setTh o { m.th o with le:=5}).leave o 1).lineUp o).pickC c
theorem setTh_isT {n k:Int} {t:Thd}:(m.setTh n t).isT k=m.isT k:=by unfold Mt.setTh Mt.isT;simp
theorem thr_Yield_spec {c:Int} {K:Bool->World->Prop} (hm:MOk m) (h:Own B w0 w (ThrA b m::R)) (hK:∀w',Own B w0 w' (ThrA b (m.yield c)::R)->K (m.runs? c).isSome w'):C.qW (some ⟨b,0,none⟩) c K w:=by
 apply S.qW0;unfold S.qW;refine thr_Runs_spec (c:=c) hm h fun w h=>?_
 unfold Mt.yield at hK;cases hr:m.runs? c with
 |none=>
  rw[hr] at hK;exact cbT rfl (hK w h)
 |some o=>
  rw[hr] at hK;obtain ⟨hc,hro,ho1,hoT⟩:=hm.runT hr;obtain ⟨o0,o1,hox⟩:=isT_get hoT;have ht:=hm.th hoT;refine cbF rfl ?_;obtain ⟨l,q,r,bs,hbs,h⟩:=h.thr;refine ⟨_,rfl,l,h.ldc rfl, ?_⟩;refine h.ixc (s:=l) (i:=o) (j:=o.toNat) (by omega) hox fun a ha h0 hcc=>?_
  refine stTh (c:=3) (t':={ m.th o with le:=5}) h o0 hox ha rfl (by decide) rfl fun w h=>?_
  have h:Own B w0 w (ThrA b (m.setTh o { m.th o with le:=5})::R):=Own.mk_thr (m:=m.setTh o { m.th o with le:=5}) hbs h;have hm1:MOk (m.setTh o { m.th o with le:=5}):=hm.setTh (t:={ m.th o with le:=5}) ht.1 rfl;have hT1:(m.setTh o { m.th o with le:=5}).isT o=true:=by rw[setTh_isT];exact hoT
  refine thr_leave_spec hm1 hT1 h fun w h=>?_
  have hT2:((m.setTh o { m.th o with le:=5}).leave o 1).isT o=true:=by rw[leave_isT];exact hT1
  refine thr_lineUp_spec (hm1.leave hT1) hT2 h fun w h=>?_
  refine thr_Pick_spec ((hm1.leave hT1).lineUp hT2) h fun w h=>?_
  exact hK w h
def Mt.tick (m:Mt) (c:Int):Mt:=match m.runs? c with
 |none=>m
 |some o=>if IntKind.i64.wrap ((m.th o).le-1)≤0 then (m.setTh o { m.th o with le:=IntKind.i64.wrap ((m.th o).le-1)}).yield c else m.setTh o { m.th o with le:=IntKind.i64.wrap ((m.th o).le-1)}
theorem thr_Tick_spec {c:Int} {K:Bool->World->Prop} (hm:MOk m) (h:Own B w0 w (ThrA b m::R)) (hK:∀w',Own B w0 w' (ThrA b (m.tick c)::R)->K (m.runs? c).isSome w'):C.qaq (some ⟨b,0,none⟩) c K w:=by
 apply S.qaq0;unfold S.qaq;refine thr_Runs_spec (c:=c) hm h fun w h=>?_
 unfold Mt.tick at hK;cases hr:m.runs? c with
 |none=>
  rw[hr] at hK;exact cbT rfl (hK w h)
 |some o=>
  rw[hr] at hK;obtain ⟨hc,hro,ho1,hoT⟩:=hm.runT hr;obtain ⟨o0,o1,hox⟩:=isT_get hoT;have ht:=hm.th hoT;refine cbF rfl ?_;obtain ⟨l,q,r,bs,hbs,h⟩:=h.thr;refine ⟨_,rfl,l,h.ldc rfl, ?_⟩;refine h.ixc (s:=l) (i:=o) (j:=o.toNat) (by omega) hox fun a ha h0 hcc=>⟨_,hcc 3 _ rfl, ?_⟩
  refine h.ixc (s:=l) (i:=o) (j:=o.toNat) (by omega) hox fun a ha h0 hcc=>?_
  simp only at hK;generalize hv:IntKind.i64.wrap ((m.th o).le-1)=v at hK⊢;refine stTh (c:=3) (t':={ m.th o with le:=v}) h o0 hox ha rfl (by decide) rfl fun w h=>?_
  have hx2:(m.ths.set o.toNat { m.th o with le:=v})[o.toNat]?=some { m.th o with le:=v}:=by rw[List.getElem?_set,if_pos rfl,if_pos (by omega)]
  refine ⟨_,rfl,l,h.ldc rfl, ?_⟩;refine h.ixc (s:=l) (i:=o) (j:=o.toNat) (by omega) hx2 fun a ha h0 hcc=>⟨_,hcc 3 _ rfl, ?_⟩
  have h:Own B w0 w (ThrA b (m.setTh o { m.th o with le:=v})::R):=Own.mk_thr (m:=m.setTh o { m.th o with le:=v}) hbs h;have hm1:MOk (m.setTh o { m.th o with le:=v}):=hm.setTh (t:={ m.th o with le:=v}) ht.1 rfl;refine cdec (fun e=>?_) (fun e=>?_)
  ·rw[if_pos (show v≤0 from e)] at hK
   exact thr_Yield_spec hm1 h fun w h=>hK w h
  ·rw[if_neg (show ¬v≤0 from e)] at hK
   exact hK w h
end
section
variable {B:Nat} {w0 w:World} {R:List Asn} {b:Nat} {m:Mt}
theorem Mul_spec {c:Nat} (h1:1≤c) (h8:c≤8) {K:Int->Int->World->Prop} (hK:K 0 (c:Int) w):C.qcd (1:Int) (c:Int) K w:=by
 apply S.qcd0;unfold S.qcd;apply S.qbZ0;unfold S.qbZ;have:c=1∨c=2∨c=3∨c=4∨c=5∨c=6∨c=7∨c=8:=by omega
 rcases this with rfl|rfl|rfl|rfl|rfl|rfl|rfl|rfl<;>
 ·refine ⟨by decide,by decide,by decide,by decide,by decide, ?_⟩
  refine Eq.mp ?_ hK;kernel_rfl
theorem Repeat_spec {x:Sl} {c:Nat} {K:Sl->World->Prop} (h1:1≤c) (h8:c≤8) (hl:x.len=1) (h:Own B w0 w (SlT intE x [-1]::R)) (hK:∀s w',Own B w0 w' (SlT intE s (List.replicate c (-1))::R)->K s w'):C.qaj x (c:Int) K w:=by
 apply S.qaj0;unfold S.qaj;intro k3 hk3;refine cdecF (by omega) (hk3 _ ?_);rw[hl,show IntKind.u64.wrap ((1:Nat):Int)=1 from wru (by omega) (by omega),wru (x:=(c:Int)) (by omega) (by omega)];refine Mul_spec h1 h8 ?_;intro k8 hk8;refine cdecF (by omega) (hk8 _ _ ?_);intro k11 hk11;refine cdecF (by omega) (hk11 _ ?_);rw[wr (x:=(c:Int)) (by omega) (by omega)];have hb:Tryz.t3.bytes=8:=by kernel_rfl
 have hp48:(2:Int)^48=281474976710656:=by decide
 refine Own.mkSl (E:=intE) (z0:=(0:Int)) (zv:= .int .i64 0) Tryz.underlying26 (show Tryz.prog.info? 3=some Tryz.t3 from by kernel_rfl) (by kernel_rfl) (by kernel_rfl) rfl (n:=(c:Int)) (inf:=Tryz.t3) h (by omega) (by rw[hb,hp48];omega) (by rw[hp48];omega) fun t w ht h=>?_
 rw[Int.toNat_natCast] at ht h;have hx0:([-1]:List Int)[0]?=some (-1):=rfl;obtain ⟨bx,ox,hax,hcx⟩:=h.get 1 rfl hx0;obtain ⟨bt,ot,hat,hct⟩:=h.get 0 rfl (show (List.replicate c (0:Int))[0]?=some 0 from by rw[List.getElem?_replicate,if_pos (by omega)])
 have first:∃n w',CopyR Tryz.prog [26,26] 3 (.slice t.a t.len t.cap) (.slice x.a x.len x.cap) w n w'/\(n=1/\Own B w0 w' (SlT intE t ([-1]++List.replicate (c-1) 0)::SlT intE x [-1]::R)):=by
  have e:min x.len t.len=1:=by rw[hl,ht];omega
  have:=Own.copyT (P:=Tryz.prog) (T:=26) (t:=3) (E:=intE) (s:=t) (xs:=List.replicate c (0:Int)) (p:=0) (dl:=t.len) (dc:=t.cap) (sl:=x.len) (sc:=x.cap) (zs:=[-1]) (sa:=⟨bx,ox+(0*intE.z+0),none⟩) (k:=fun n w'=>n=1/\Own B w0 w' (SlT intE t ([-1]++List.replicate (c-1) 0)::SlT intE x [-1]::R))
   Tryz.underlying26 (show Tryz.prog.info? 3=some Tryz.t3 from by kernel_rfl) (by kernel_rfl) h hat (by rw[e];rfl) (by simp;omega) (fun j v hv=>by
    cases j with
    |zero=>simp only[List.flatMap_cons,List.flatMap_nil,List.append_nil] at hv;exact hcx 0 v hv
    |succ j=>simp[intE] at hv) fun w' h'=>⟨by rw[e];rfl,by simpa [List.drop_replicate] using h'⟩
  rw[hat,hax];exact this
 obtain ⟨n,w',hcp,rfl,h⟩:=first
 rw[hl] at hcp;refine ⟨_,w',hcp, ?_⟩;intro l17 hl17
 have loop:∀(k n:Nat) (w:World),c≤n+k->1≤n->n≤c->Own B w0 w (SlT intE t (List.replicate n (-1)++List.replicate (c-n) 0)::SlT intE x [-1]::R)->l17 (n:Int) w:=by
  intro k
  induction k with
  |zero=>
   intro n w hk hn1 hnc h;obtain rfl:n=c:=by omega
   apply hl17;refine cdecF (by omega) ?_;rw[Nat.sub_self,List.replicate_zero,List.append_nil] at h;exact hK t w h.rm1
  |succ k ih=>
   intro n w hk hn1 hnc h;apply hl17;refine cdec (fun e=>?_) (fun e=>?_)
   ·refine h.dr fun w h=>?_
    have hcap:=h.slRaw.le_cap;have hln:=h.len 0 rfl;refine ⟨by omega,by omega,by omega,by omega,Go.Vc.a2 ?_⟩;rw[Int.toNat_natCast];have e2:min (n-0) (t.len-n)=min n (c-n):=by rw[ht];rfl
    have hd:∃bt' ot',t.a=some ⟨bt',ot',none⟩/\∀j,j<n->w.cell? ⟨bt',ot'+j,none⟩=some (.int .i64 (-1)):=by
     obtain ⟨b0,o0,ha0,_⟩:=h.get 0 rfl (show (List.replicate n (-1:Int)++List.replicate (c-n) 0)[0]?=some (-1) from by rw[List.getElem?_append_left (by simp;omega),List.getElem?_replicate,if_pos (by omega)]);refine ⟨b0,o0,ha0,fun j hj=>?_⟩;obtain ⟨b1,o1,ha1,hc1⟩:=h.get 0 rfl (j:=j) (x:=(-1:Int)) (by rw[List.getElem?_append_left (by simp;omega),List.getElem?_replicate,if_pos hj]);rw[ha0] at ha1;cases ha1;have:=hc1 0 _ rfl
     rwa [show o0+(j*intE.z+0)=o0+j from by show o0+(j*1+0)=_;omega] at this
    obtain ⟨b0,o0,ha0,hcells⟩:=hd;have hsl1:slA t.a n t.cap 1=some ⟨b0,o0+n*1,none⟩:=slA_some ha0 (by omega);have hsl2:slA t.a 0 t.cap 1=some ⟨b0,o0,none⟩:=by rw[slA_some ha0 (by omega),Nat.zero_mul,Nat.add_zero]
    rw[hsl1,hsl2];have hlenz:(List.replicate (min n (c-n)) (-1:Int)).length=min (n-0) (t.len-n):=by rw[List.length_replicate,e2]
    refine Own.copyT (P:=Tryz.prog) (T:=26) (t:=3) (E:=intE) (s:=t) (xs:=List.replicate n (-1)++List.replicate (c-n) 0) (p:=n) (dl:=t.len-n) (dc:=t.cap-n) (sl:=n-0) (sc:=t.cap-0) (zs:=List.replicate (min n (c-n)) (-1)) (sa:=⟨b0,o0,none⟩)
     Tryz.underlying26 (show Tryz.prog.info? 3=some Tryz.t3 from by kernel_rfl) (by kernel_rfl) h ha0 hlenz (by simp;omega) (fun j v hv=>?_) fun w' h'=>?_
    ·have hfl:(List.replicate (min n (c-n)) (-1:Int)).flatMap intE.enc=List.replicate (min n (c-n)) (.int .i64 (-1)):=by
      induction (min n (c-n)) with
      |zero=>rfl
      |succ q ihq=>rw[List.replicate_succ,List.flatMap_cons,ihq,List.replicate_succ];rfl
     rw[hfl,List.getElem?_replicate] at hv;split at hv
     ·cases hv;rw[add_mk];exact hcells j (by omega)
     ·cases hv
    ·rw[e2]
     have hs:IntKind.i64.wrap ((n:Int)+((min n (c-n):Nat):Int))=((n+min n (c-n):Nat):Int):=by rw[wr (by omega) (by omega)];omega
     rw[hs];refine ih (n+min n (c-n)) w' (by omega) (by omega) (by omega) ?_
     have hx:List.take n (List.replicate n (-1:Int)++List.replicate (c-n) 0)++List.replicate (min n (c-n)) (-1)++List.drop (n+(List.replicate (min n (c-n)) (-1:Int)).length) (List.replicate n (-1:Int)++List.replicate (c-n) 0)=List.replicate (n+min n (c-n)) (-1)++List.replicate (c-(n+min n (c-n))) 0:=by
      rw[List.take_left' (by simp),List.drop_append,List.drop_eq_nil_of_le (by simp),List.nil_append,List.drop_replicate,List.replicate_append_replicate];congr 2;simp;omega
     rw[hx] at h';exact h'
   ·obtain rfl:n=c:=by omega
    rw[Nat.sub_self,List.replicate_zero,List.append_nil] at h;exact hK t w h.rm1
 exact loop c 1 w' (by omega) (by omega) h1 h
theorem app1_ptr {s:Sl} {ys:List Nat} {y:Nat} {c:Nat} {L:List Asn} {k:Sl->World->Prop} [I:SlIn s L Nat ptrE ys] [J:Pick (SlT ptrE s ys) L R] (h:Own B w0 w (BlkA c [.pointer (some ⟨y,0,none⟩)]::L)) (hbig:ys.length≤1000000000)
  (hk:∀s' w',s'.len=ys.length+1->Own B w0 w' (SlT ptrE s' (ys++ [y])::R)->k s' w'):
  ∃s' w',AppR Tryz.prog [193,193] 193 (.slice s.a s.len s.cap) (.slice (some (Addr.mk c 0 none)) 1 1) w s' w'/\k s' w':=
 Own.app1c (E:=ptrE) (y:=y) Tryz.underlying193 (show Tryz.prog.info? 196=some Tryz.t196 from by kernel_rfl) (zv:= .pointer none) (by kernel_rfl) (by kernel_rfl) rfl (by decide) h (by
  have e:Tryz.t196.bytes=8:=by kernel_rfl
  rw[e];omega) hk
def newM (c:Nat):Mt:=⟨[],List.replicate c [],List.replicate c (-1)⟩
theorem newM_ok {c:Nat} (h8:c≤8):MOk (newM c):=by
 refine ⟨by simp[newM],by simp[newM],by simpa [newM] using h8,fun t h=>?_,fun t h=>rfl,fun n h=>?_,fun Q h x hx=>?_⟩
 ·simp[newM] at h
 ·simp only[newM,List.mem_replicate] at h;exact .inl h.2
 ·simp only[newM,List.mem_replicate] at h;rw[h.2] at hx;simp at hx
theorem thr_New_spec {n:Int} {K:Option Addr->Int->World->Prop} (h:Own B w0 w R) (hK0:¬(1≤n/\n≤8)->∀w',Own B w0 w' R->K none 1 w') (hK1:∀c:Nat,n=(c:Int)->1≤c->c≤8->∀b w',Own B w0 w' (ThrA b (newM c)::R)->K (some ⟨b,0,none⟩) 0 w'):C.qcu n K w:=by
 apply S.qcu0;unfold S.qcu;intro k2 hk2;refine cdec (fun e=>hk2 _ _ (cbT rfl (hK0 (by omega) w h))) (fun e1=>hk2 _ _ ?_);refine cdec (fun e=>hK0 (by omega) w h) (fun e2=>?_);obtain ⟨c,rfl⟩:=Int.eq_ofNat_of_zero_le (show 0≤n by omega);refine h.al fun w1 h=>?_
 generalize w.heap.size=d at h⊢;have h:Own B w0 w1 (SlT intE ⟨some ⟨d,0,none⟩,1,1⟩ [-1]::R):=h.asSl [-1] rfl;refine Repeat_spec (by omega) (by omega) rfl h fun r w h=>?_
 refine h.al fun w2 h=>?_
 generalize w.heap.size=t at h⊢;have h:Own B w0 w2 (SlT ptrE ⟨none,0,0⟩ []::_):=Own.nilS h;have h:Own B w0 w2 (SlT thE ⟨none,0,0⟩ []::_):=Own.nilS h;intro l9 hl9
 have loop:∀(k j:Nat) (q:Sl) (bs:List Nat) (w:World),j+k=c->bs.length=j->Own B w0 w (BlkA t [slV ⟨none,0,0⟩,slV q,slV r]::SlT thE ⟨none,0,0⟩ []::SlT ptrE q bs::SlT intE r (List.replicate c (-1))::(List.zipWith QueueA bs (List.replicate j [])++R))->l9 (j:Int) w:=by
  intro k
  induction k with
  |zero=>
   intro j q bs w hj hbs h;obtain rfl:j=c:=by omega
   apply hl9;refine cdecF (by omega) ?_;exact hK1 j rfl (by omega) (by omega) t w (Own.mk_thr (m:=newM j) (l:=⟨none,0,0⟩) (q:=q) (r:=r) (bs:=bs) (by simp[newM];exact hbs) h)
  |succ k ih=>
   intro j q bs w hj hbs h;apply hl9;refine cdecT (by omega) ?_;refine h.dr fun w h=>?_
   refine ⟨_,rfl,q,h.ldd rfl,Go.Vc.a2 ?_⟩;refine ready_New_spec h fun b1 w h=>?_
   refine ⟨h.ldd rfl,Go.Vc.a2 ?_⟩;refine h.al fun w3 h=>?_
   generalize w.heap.size=d3 at h⊢;refine Go.Vc.a2 ?_;refine app1_ptr (s:=q) (ys:=bs) (y:=b1) h (by omega) fun q' w hq' h=>?_
   refine ⟨_,rfl,Go.Vc.a2 ?_⟩;refine h.std rfl rfl fun w h=>?_
   (try dsimp only[putAt,List.set_cons_zero,List.set_cons_succ] at h)
   rw[show IntKind.i64.wrap ((j:Int)+1)=((j+1:Nat):Int) from by rw[wr (by omega) (by omega)];omega];refine ih (j+1) q' (bs++ [b1]) w (by omega) (by simp[hbs]) ?_
   have ez:List.zipWith QueueA (bs++ [b1]) (List.replicate (j+1) [])=List.zipWith QueueA bs (List.replicate j [])++ [QueueA b1 []]:=by
    rw[List.replicate_succ',List.zipWith_append (by simp[hbs])];rfl
   rw[ez,List.append_assoc];have h2:Own B w0 w (BlkA t [slV ⟨none,0,0⟩, .slice q'.a q'.len q'.cap,slV r]::SlT thE ⟨none,0,0⟩ []::SlT ptrE q' (bs++ [b1])::SlT intE r (List.replicate c (-1))::QueueA b1 []::(List.zipWith QueueA bs (List.replicate j [])++R)):=h.sub;exact h2.perm ((((List.perm_middle.symm.cons _).cons _).cons _).cons _)
 have h3:Own B w0 w2 (BlkA t [slV ⟨none,0,0⟩,slV ⟨none,0,0⟩,slV r]::SlT thE ⟨none,0,0⟩ []::SlT ptrE ⟨none,0,0⟩ []::SlT intE r (List.replicate c (-1))::R):=h.up2;exact loop c 0 ⟨none,0,0⟩ [] w2 (by omega) rfl h3
end
section
variable {w0 w:World}
theorem and7 {n:Int}:∃q:Nat,andI .i64 n (7:Int)=(q:Int)/\q<8:=by
 have h:∃p:Nat,p≤7/\andI .i64 n (7:Int)=(p:Int):=by
  unfold andI
  have hle:(BitVec.ofInt IntKind.i64.bits n &&& BitVec.ofInt IntKind.i64.bits (7:Int)).toNat≤7:=by
   rw[BitVec.toNat_and];refine Nat.le_trans Nat.and_le_right ?_;have:(BitVec.ofInt IntKind.i64.bits (7:Int)).toNat=7:=by decide
   omega
  exact ⟨_,hle,wr (by omega) (by omega)⟩
 obtain ⟨p,hp,e⟩:=h;exact ⟨p,e,by omega⟩
variable {B:Nat} {R:List Asn} {b:Nat} {m:Mt}
theorem MOk.setRT (hm:MOk m) {c n:Int} (h:m.isT n=true):MOk (m.setR c n):=hm.setR (.inr ⟨(isT_get h).1,(isT_get h).2.1⟩)
theorem MOk.pickC (hm:MOk m) {c:Int}:MOk (m.pickC c):=by
 unfold Mt.pickC;split
 ·rename_i hc
  unfold Mt.pick;cases hn:nextR (m.q c) with
  |none=>exact hm
  |some n=>
   obtain ⟨n0,hnT⟩:=hm.nextT hn;simp only;split
   ·exact (hm.leave hnT).setRT (by rw[leave_isT];exact hnT)
   ·rename_i h1
    split
    ·exact hm
    ·have hr:m.runs? c=some (m.run c):=by unfold Mt.runs?;rw[if_pos ⟨hc,h1⟩]
     have hoT:=(hm.runT hr).2.2.2;have hT2:(m.leave (m.run c) 1).isT (m.run c)=true:=by rw[leave_isT];exact hoT
     have hT3:((m.leave (m.run c) 1).lineUp (m.run c)).isT n=true:=by rw[lineUp_isT,leave_isT];exact hnT
     exact (((hm.leave (s:=1) hoT).lineUp hT2).leave hT3).setRT (by rw[leave_isT];exact hT3)
 ·exact hm
theorem MOk.yield (hm:MOk m) {c:Int}:MOk (m.yield c):=by
 unfold Mt.yield;cases hr:m.runs? c with
 |none=>exact hm
 |some o=>
  have hoT:=(hm.runT hr).2.2.2;have hT1:(m.setTh o { m.th o with le:=5}).isT o=true:=by rw[setTh_isT];exact hoT
  exact (((hm.setTh (t:={ m.th o with le:=5}) (hm.th hoT).1 rfl).leave hT1).lineUp (by rw[leave_isT];exact hT1)).pickC
theorem MOk.tick (hm:MOk m) {c:Int}:MOk (m.tick c):=by
 unfold Mt.tick;cases hr:m.runs? c with
 |none=>exact hm
 |some o=>
  have hoT:=(hm.runT hr).2.2.2;have hm1:=hm.setTh (n:=o) (t:={ m.th o with le:=IntKind.i64.wrap ((m.th o).le-1)}) (hm.th hoT).1 rfl;simp only;split
  ·exact hm1.yield
  ·exact hm1
end
section
variable {B:Nat} {w0 w:World} {R L:List Asn} {b:Nat} {m:Mt}
theorem thr_first_spec {c:Nat} {a e2:Int} {K:Int->World->Prop} (h:Own B w0 w (BlkA c [.int .i64 a, .int .i64 e2]::L)) (hK:∀w',Own B w0 w' (BlkA c [.int .i64 a, .int .i64 e2]::L)->K (if a≠0 then a else e2) w'):C.qaY ⟨some ⟨c,0,none⟩,2,2⟩ K w:=by
 apply S.qaY0;unfold S.qaY
 have tell:∀(x:Int) (w:World) (Q:Bool->World->Prop),Q (x !=0) w->C.qcb x Q w:=fun x w Q h=>by
  apply S.qcb0;unfold S.qcb;exact h
 apply S.qt0;unfold S.qt;intro l3 hl3;refine hl3 _ _ (cdecT (by show (0:Int)<2;decide) ?_);refine ⟨_,rfl,by decide,by show (0:Int)<2;decide,a,h.ldd rfl,callV_mk (tell a w _ ?_)⟩;refine cb (fun e=>?_) (fun e=>?_)
 ·have ea:a≠0:=by simpa using e
  rw[if_pos ea] at hK;refine cdecF (by decide) ?_;exact ⟨_,rfl,by decide,by show (0:Int)<2;decide,a,h.ldd rfl,hK w h⟩
 ·have ea:a=0:=by simpa using e
  rw[if_neg (by simpa using ea)] at hK;rw[show IntKind.i64.wrap ((0:Int)+1)=1 from by decide];refine hl3 _ _ (cdecT (by show (1:Int)<2;decide) ?_);refine ⟨_,rfl,by decide,by show (1:Int)<2;decide,e2,h.ldd rfl,callV_mk (tell e2 w _ ?_)⟩;refine cb (fun e=>?_) (fun e=>?_)
  ·refine cdecF (by decide) ?_
   exact ⟨_,rfl,by decide,by show (1:Int)<2;decide,e2,h.ldd rfl,hK w h⟩
  ·have eb:e2=0:=by simpa using e
   rw[show IntKind.i64.wrap ((1:Int)+1)=2 from by decide];refine hl3 _ _ (cdecF (by show ¬(2:Int)<2;decide) ?_);refine cdecT (by decide) ?_;rw[eb] at hK h;exact hK w h
def Mt.reg (m:Mt) (n:Int) (i:Nat) (v:Int):Mt:=m.setTh n { m.th n with rg:=fun j=>if j=i then v else (m.th n).rg j}
theorem MOk.reg (hm:MOk m) {n v:Int} {i:Nat} (hn:m.isT n=true):MOk (m.reg n i v):=hm.setTh (t:={ m.th n with rg:=fun j=>if j=i then v else (m.th n).rg j}) (hm.th hn).1 rfl
theorem out {l q r:Sl} {bs:List Nat} {A:Asn} (h:Own B w0 w (A::BlkA b [slV l,slV q,slV r]::SlT thE l m.ths::SlT ptrE q bs::SlT intE r m.runs::(List.zipWith QueueA bs m.qs++R))):Own B w0 w (BlkA b [slV l,slV q,slV r]::SlT thE l m.ths::SlT ptrE q bs::SlT intE r m.runs::(List.zipWith QueueA bs m.qs++R)):=h.drop
theorem reg_p {n v:Int} {i:Nat} {K:Int->World->Prop} (hm:MOk m) (hT:m.isT n=true) (hi:i<8) (h:Own B w0 w (ThrA b m::R)) (hK:∀w',Own B w0 w' (ThrA b (m.reg n i v)::R)->K 0 w'):C.qu (some ⟨b,0,none⟩) n (i:Int) v K w:=by
 apply S.qu0;unfold S.qu;obtain ⟨l,q,r,bs,hbs,h⟩:=h.thr;obtain ⟨n0,n1,hx⟩:=isT_get hT;refine thr_one_o h (fun e=>by rw[hT] at e;cases e) fun a _ ha=>?_
 intro k7 hk7;refine thr_when_spec ?_;refine cdecF (by omega) ?_;refine thr_when_spec ?_;rw[decide_eq_false (show ¬(i:Int)≥8 by omega)];refine h.al fun w2 h=>?_
 generalize w.heap.size=d at h⊢;refine thr_first_spec h fun w h=>?_
 have h:=h.drop;refine hk7 _ _ (cneF rfl ?_);refine ⟨_,rfl,by omega,by omega, ?_⟩
 have e1:((a.add (n.toNat*12)).add 4).add ((i:Int).toNat*1)=(a.add (n.toNat*12)).add (4+i):=by
  have:=h.slAddr l ha;rw[this,add_mk,add_mk,add_mk,add_mk,Int.toNat_natCast];congr 1;omega
 rw[e1];refine stTh (c:=4+i) (t':={ m.th n with rg:=fun j=>if j=i then v else (m.th n).rg j}) h n0 hx ha ?_ (by omega) rfl fun w h=>?_
 ·have:i=0∨i=1∨i=2∨i=3∨i=4∨i=5∨i=6∨i=7:=by omega
  rcases this with rfl|rfl|rfl|rfl|rfl|rfl|rfl|rfl<;>rfl
 ·exact hK w (Own.mk_thr (m:=m.reg n i v) hbs h)
theorem thr_leave_o {l q r:Sl} {bs:List Nat} {n s:Int} {K:World->Prop} (hm:MOk m) (hn:m.isT n=true) (hbs:bs.length=m.qs.length) (h:Own B w0 w (BlkA b [slV l,slV q,slV r]::SlT thE l m.ths::SlT ptrE q bs::SlT intE r m.runs::(List.zipWith QueueA bs m.qs++R)))
  (hK:∀w',Own B w0 w' (BlkA b [slV l,slV q,slV r]::SlT thE l (m.leave n s).ths::SlT ptrE q bs::SlT intE r (m.leave n s).runs::(List.zipWith QueueA bs (m.leave n s).qs++R))->K w'):C.qg (some ⟨b,0,none⟩) n s K w:=by
 apply S.qg0;unfold S.qg;obtain ⟨n0,n1,hx⟩:=isT_get hn;obtain ⟨⟨c0,c1⟩,_⟩:=hm.th hn;have hcr:=hm.cores;obtain ⟨b1,hb1⟩:∃x,bs[(m.th n).co.toNat]?=some x:=⟨_,gE (by omega)⟩
 refine thr_one_o h (fun e=>by rw[hn] at e;cases e) fun a _ ha=>?_
 refine ⟨_,rfl,_,ldTh (c:=0) h n0 hx ha rfl, ?_⟩;intro k hk
 have fin:∀w,Own B w0 w (BlkA b [slV l,slV q,slV r]::SlT thE l m.ths::SlT ptrE q bs::SlT intE r (m.leave0 n).runs::(List.zipWith QueueA bs (m.leave0 n).qs++R))->k w:=fun w h=>by
  apply hk;refine ⟨_,rfl, ?_⟩;refine stTh (c:=0) (t':={ m.th n with st:=s}) h n0 hx ha rfl (by decide) rfl fun w h=>?_
  refine hK w ?_;have e:(m.leave n s).ths=m.ths.set n.toNat { m.th n with st:=s}:=by unfold Mt.leave Mt.setTh;rw[leave0_len.1]
  rw[e];exact h
 refine ceq (fun e=>?_) (fun e=>?_)
 ·have e1:m.leave0 n=m.setQ (m.th n).co (takeR (m.q (m.th n).co) n).2:=by unfold Mt.leave0;rw[if_pos e]
  rw[e1] at fin;refine h.dr fun w h=>?_
  refine ⟨_,rfl,q,h.ldd rfl,_,rfl,_,ldTh (c:=2) h n0 hx ha rfl, ?_⟩;refine h.ixc (s:=q) (j:=(m.th n).co.toNat) (by show (m.th n).co=_;omega) hb1 fun a2 ha2 h0 hc=>⟨_,h0 _ rfl,Go.Vc.a2 ?_⟩
  have h:=h.qout hb1 (q_get c0 c1);refine ready_Queue_Take_spec h fun w h=>?_
  exact fin w (h.qin (qs:=m.qs) hb1 (by omega))
 refine ceq (fun e2=>?_) (fun e2=>?_)
 ·have e1:m.leave0 n=m.setR (m.th n).co (-1):=by unfold Mt.leave0;rw[if_neg e,if_pos e2]
  rw[e1] at fin;refine h.dr fun w h=>?_
  refine ⟨_,rfl,r,h.ldd rfl,_,rfl,_,ldTh (c:=2) h n0 hx ha rfl, ?_⟩;refine h.ixc (s:=r) (j:=(m.th n).co.toNat) (by show (m.th n).co=_;omega) (r_get (m:=m) c0 (by omega)) fun a2 ha2 h0 hc=>Go.Vc.a2 ?_
  refine Own.stEc (s:=r) (E:=intE) (xs:=m.runs) (i:=(m.th n).co) (j:=(m.th n).co.toNat) h (-1) (by omega) (by omega) ha2 rfl fun w h=>?_
  exact fin w h.up3.up3.up3
 ·have e1:m.leave0 n=m:=by unfold Mt.leave0;rw[if_neg e,if_neg e2]
  rw[e1] at fin;exact fin w h
end
end Go.Proofs.YtogmbmdbgkopjaaGreat.Th
end
