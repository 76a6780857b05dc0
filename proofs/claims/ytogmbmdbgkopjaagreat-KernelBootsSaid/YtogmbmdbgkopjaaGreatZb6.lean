/- What the row rests on: the declarations that it needs, out of my texts (part 6). -/
import Derived.Test.YtogmbmdbgkopjaaGreatZb5
set_option linter.unusedVariables false
set_option linter.unusedSimpArgs false
set_option linter.unusedSectionVars false
section
set_option maxRecDepth 8000
namespace Go.Proofs.YtogmbmdbgkopjaaGreat.Th
open Go Go.Vc Go.Proofs
theorem take_len {L:Qs} (h:(L.map (·.2)).Nodup) {p:Nat} {n:Int} (hm:(p,n)∈L):(L.filter fun x=>x.2 !=n).length+1=L.length:=by
 induction L with
 |nil=>cases hm
 |cons a L ih=>
  simp only[List.map_cons,List.nodup_cons,List.mem_map,not_exists,not_and] at h;rw[List.filter_cons];by_cases e:a.2=n
  ·have e':(a.2 !=n)=false:=by simpa using e
   rw[e']
   have:L.filter (fun x=>x.2 !=n)=L:=List.filter_eq_self.2 fun x hx=>by
    simp only[bne_iff_ne,ne_eq];intro e2;exact h.1 x hx (e2.trans e.symm)
   simp[this]
  ·have e':(a.2 !=n)=true:=by simpa using e
   rw[e']
   have:(p,n)∈L:=by
    rcases List.mem_cons.1 hm with rfl|hm
    ·exact absurd rfl e
    ·exact hm
   simp only[if_true,List.length_cons];rw[ih h.2 this]
theorem lineI_nat (L:Qs) {p:Nat} (hp:p<256):lineI L (p:Int)=lineOf L p:=by
 unfold lineI;rw[if_neg (by omega)];simp
theorem next_none {L:Qs} (ht:topO L=none):nextR L=none:=by unfold nextR;rw[ht];rfl
theorem QOk.filter {L:Qs} (h:QOk L) (n:Int):QOk (L.filter fun x=>x.2 !=n):=
 ⟨List.Nodup.sublist (List.filter_sublist.map _) h.nodup,fun y hy=>h.prio y (List.mem_filter.1 hy).1,Nat.le_trans (List.length_filter_le _ _) h.few⟩
theorem ldIn {w:World} {a:Addr} {x y:Int} {f:Int->Int->Prop} (g1:w.cell? a=some (.z x)) (g2:w.cell? (a.add 1)=some (.z y)) (hf:f x y):LdL w a 0 [.o, .o] f:=⟨_,g1,_,g2,hf⟩
def inE:EncT (Nat × Int):=⟨2,fun x=>[.z (x.1:Int), .z x.2],fun _=>rfl,fun x v h=>by
 simp only[List.mem_cons,List.not_mem_nil,or_false] at h;rcases h with rfl|rfl<;>rfl,by decide⟩
def RefA (k:Nat) (L:Qs):Asn:=ExA fun s:Sl=>StarA [PureA (QOk L),BlkA k [slV s],SlT inE s L]
section
variable {B:Nat} {w0 w:World} {R:List Asn} {k:Nat} {L:Qs}
theorem _root_.Go.Vc.Own.refq (h:Own B w0 w (RefA k L::R)):∃s:Sl,QOk L/\Own B w0 w (BlkA k [slV s]::SlT inE s L::R):=by
 obtain ⟨s,h⟩:=h.ex;obtain ⟨h1,h2⟩:=Own.pure h.star;exact ⟨s,h1,h2⟩
theorem _root_.Go.Vc.Own.mk_refq {s:Sl} (h1:QOk L) (h:Own B w0 w (BlkA k [slV s]::SlT inE s L::R)):Own B w0 w (RefA k L::R):=Own.mk_ex s (Own.mk_star (Own.mk_pure h1 h))
theorem app1_in {s:Sl} {xs:Qs} {y:Nat × Int} {c:Nat} {C:Sl->Pw} (h:Own B w0 w (BlkA c (inE.enc y)::R)) (i:Nat) (hL:R[i]?=some (SlT inE s xs))
  (hbig:xs.length≤100000000000) (hk:∀s' w',s'.len=xs.length+1->Own B w0 w' (R.set i (SlT inE s' (xs++ [y])))->C s' w'):
  ∃s' w',AppR Tryz.prog [227,227] 227 (.slice s.a s.len s.cap) (.slice (some (Addr.mk c 0 none)) 1 1) w s' w'/\C s' w':=
 Own.app1 (E:=inE) (y:=y) Tryz.underlying227 (show Tryz.prog.info? 374=some Tryz.t374 from by kernel_rfl) (zv:= .agg #[.z 0, .z 0]) (by kernel_rfl) (by kernel_rfl) rfl (by decide) h i hL (by
  have e:Tryz.t374.bytes=16:=by kernel_rfl
  rw[e];omega) hk
theorem _root_.Go.Vc.Own.getIn {s:Sl} {xs:Qs} (h:Own B w0 w R) (i:Nat) (hi:R[i]?=some (SlT inE s xs)) {j:Nat} {x:Nat × Int} (hj:xs[j]?=some x):
  ∃a,s.a=some a/\w.cell? (a.add (j*2))=some (.z (x.1:Int))/\w.cell? ((a.add (j*2)).add 1)=some (.z x.2):=by
 obtain ⟨b,o,ha,hc⟩:=h.get i hi hj;exact ⟨_,ha,by rw[add_mk];exact hc 0 _ rfl,by rw[add_mk,add_mk];exact hc 1 _ rfl⟩
theorem ref09_Queue_Where_spec {n:Int} {K:Int->Bool->Pw} (h:Own B w0 w (RefA k L::R))
  (hK:K (((wh L n).map fun p:Nat=>(p:Int)).getD 0) (wh L n).isSome w):C.qbu (some ⟨k,0,none⟩) n K w:=by
 apply S.qbu0;obtain ⟨s,hq,h⟩:=h.refq;have hlen:=h.len 1 rfl;have hfew:=hq.few;intro l3 hl3
 have loop:∀(m i:Nat),i+m=L.length->wh (L.drop i) n=wh L n->l3 (i:Int) w:=by
  intro m
  induction m with
  |zero=>
   intro i him hw;apply hl3;refine ⟨_,rfl,s,h.ld0 0 rfl rfl,?_⟩;rw[show decide ((i:Int)<(s.len:Int))=false from by simp;omega,cond_false];rw[List.drop_eq_nil_of_le (by omega)] at hw;rw[←hw] at hK;exact hK
  |succ m ih=>
   intro i him hw;apply hl3;refine ⟨_,rfl,s,h.ld0 0 rfl rfl,?_⟩;rw[show decide ((i:Int)<(s.len:Int))=true from by simp;omega,cond_true];have hx:L[i]?=some L[i]:=gE (by omega);obtain ⟨a,ha,h1,h2⟩:=h.getIn 1 rfl hx;refine ⟨_,rfl,s,h.ld0 0 rfl rfl,a,ha,by omega,by omega,_,h2,?_⟩;rw[List.drop_eq_getElem_cons (by omega)] at hw;by_cases e:L[i].2=n
   ·rw[show (L[i].2==n)=true from by simpa using e,cond_true]
    refine ⟨_,rfl,s,h.ld0 0 rfl rfl,a,ha,by omega,by omega,_,h1,?_⟩
    have:wh L n=some L[i].1:=by
     rw[←hw];unfold wh;rw[List.find?_cons,show (L[i].2==n)=true from by simpa using e];rfl
    rw[this] at hK;exact hK
   ·rw[show (L[i].2==n)=false from by simpa using e,cond_false,wr (by omega) (by omega)]
    refine ih (i+1) (by omega) ?_;rw[←hw];unfold wh;rw[List.find?_cons,show (L[i].2==n)=false from by simpa using e]
 exact loop L.length 0 (by omega) rfl
theorem lineI_filter {L:Qs} (h:QOk L) (p:Int):lineI L p=(L.filter fun x=>((x.1:Int)==p)).map (·.2):=by
 unfold lineI;split
 ·rename_i e
  rw[List.filter_eq_nil_iff.2]
  ·rfl
  ·intro x hx
   have:=h.prio x hx;simp only[beq_iff_eq];omega
 ·rename_i e
  unfold lineOf;congr 1;apply List.filter_congr;intro x _;by_cases e2:x.1=p.toNat
  ·rw[show (x.1==p.toNat)=true from by simpa using e2];symm;simp;omega
  ·rw[show (x.1==p.toNat)=false from by simpa using e2];symm;simp;omega
theorem ref09_Queue_Line_spec {p:Int} {K:Sl->Pw} (h:Own B w0 w (RefA k L::R))
  (hK:∀s w',Own B w0 w' (SlT intE s (lineI L p)::RefA k L::R)->K s w'):C.qbI (some ⟨k,0,none⟩) p K w:=by
 apply S.qbI0;refine h.al fun w1 h=>?_
 obtain ⟨s,hq,h⟩:=(h.perm (List.Perm.swap _ _ _)).refq;have hlen:=h.len 1 rfl;have hfew:=hq.few;intro l4 hl4
 have h:Own B w0 w1 (SlT intE ⟨some (Addr.mk w.heap.size 0 none),0,0⟩ []::BlkA k [slV s]::SlT inE s L::R):=by
  have h1:Own B w0 w1 (BlkA w.heap.size []::BlkA k [slV s]::SlT inE s L::R):=h.take 2 rfl;exact h1.empty
 have loop:∀(m i:Nat) (o:Sl) (w:World),i+m=L.length->Own B w0 w (SlT intE o (((L.take i).filter fun x=>((x.1:Int)==p)).map (·.2))::BlkA k [slV s]::SlT inE s L::R)->l4 o (i:Int) w:=by
  intro m
  induction m with
  |zero=>
   intro i o w him h;apply hl4;refine ⟨_,rfl,s,h.ld0 1 rfl rfl,?_⟩;rw[show decide ((i:Int)<(s.len:Int))=false from by simp;omega,cond_false];rw[List.take_of_length_le (by omega),←lineI_filter hq] at h;have h1:=Own.mk_refq hq ((h.perm (List.Perm.swap _ _ _)).perm ((List.Perm.swap _ _ _).cons _));exact hK o w (h1.perm (List.Perm.swap _ _ _))
  |succ m ih=>
   intro i o w him h;apply hl4;refine ⟨_,rfl,s,h.ld0 1 rfl rfl,?_⟩;rw[show decide ((i:Int)<(s.len:Int))=true from by simp;omega,cond_true];have hx:L[i]?=some L[i]:=gE (by omega);obtain ⟨a,ha,h1,h2⟩:=h.getIn 2 rfl hx;have ht:L.take (i+1)=L.take i++ [L[i]]:=by rw[List.take_add_one,hx];rfl
   refine ⟨_,rfl,s,h.ld0 1 rfl rfl,a,ha,by omega,by omega,_,h1,?_⟩;rw[wr (by omega) (by omega)];by_cases e:((L[i].1:Nat):Int)=p
   ·rw[show (((L[i].1:Nat):Int)==p)=true from by simpa using e,cond_true]
    refine ⟨_,rfl,s,h.ld0 1 rfl rfl,a,ha,by omega,by omega,_,h2,?_⟩;refine h.al fun w2 h=>?_
    refine app1_ints h 0 rfl (by rw[List.length_map];exact Nat.le_trans (List.length_filter_le _ _) (by rw[List.length_take];omega)) fun s' w3 hs' h=>?_
    refine ih (i+1) s' w3 (by omega) ?_;rw[ht,List.filter_append,List.map_append,List.filter_cons,show (((L[i].1:Nat):Int)==p)=true from by simpa using e];exact h
   ·rw[show (((L[i].1:Nat):Int)==p)=false from by simpa using e,cond_false]
    refine ih (i+1) o w (by omega) ?_;rw[ht,List.filter_append,List.map_append,List.filter_cons,show (((L[i].1:Nat):Int)==p)=false from by simpa using e];simpa using h
 exact loop L.length 0 _ w1 (by omega) h
theorem ref09_Queue_Next_spec {K:Int->Bool->Pw} (h:Own B w0 w (RefA k L::R))
  (hK:∀w',Own B w0 w' (RefA k L::R)->K ((nextR L).getD 0) (nextR L).isSome w'):C.qbD (some ⟨k,0,none⟩) K w:=by
 apply S.qbD0;intro l2 hl2
 have loop:∀(m:Nat) (w:World),m≤256->topO L=topB (some1 L) m->Own B w0 w (RefA k L::R)->l2 ((m:Int)-1) w:=by
  intro m
  induction m with
  |zero=>
   intro w _ ht h;apply hl2;rw[show decide (((0:Nat):Int)-1≥0)=false from rfl,cond_false];have:=hK w h;rw[next_none ht] at this;exact this
  |succ m ih=>
   intro w hm ht h;have e:((m+1:Nat):Int)-1=(m:Int):=by omega
   rw[e];apply hl2;rw[show decide ((m:Int)≥0)=true from by simp,cond_true];refine ref09_Queue_Line_spec h fun s w1 h=>?_
   rw[lineI_nat L (by omega)] at h;have hlen:=h.len 0 rfl;simp only[topB] at ht;cases hl:lineOf L m with
   |nil=>
    rw[hl] at hlen;simp only[List.length_nil] at hlen;rw[show decide ((s.len:Int)>0)=false from by simp;omega,cond_false,wr (by omega) (by omega)];have hs:some1 L m=false:=by unfold some1;rw[hl];rfl
    rw[hs,if_neg (by simp)] at ht;exact ih w1 (by omega) ht h.drop
   |cons n l=>
    rw[hl] at hlen h;simp only[List.length_cons] at hlen;rw[show decide ((s.len:Int)>0)=true from by simp;omega,cond_true];have hs:some1 L m=true:=by unfold some1;rw[hl];rfl
    rw[hs,if_pos rfl] at ht;obtain ⟨a,ha,hc⟩:=h.getI 0 rfl (j:=0) rfl;refine ⟨a,ha,by omega,by omega,n,hc,?_⟩;have:=hK w1 h.drop;have en:nextR L=some n:=by unfold nextR;rw[ht];simp[hl]
    rw[en] at this;exact this
 exact loop 256 w (Nat.le_refl _) rfl h
theorem ref09_Queue_Put_spec {p n:Int} {K:Int->Pw} (h:Own B w0 w (RefA k L::R)) (hf:L.length<1000000)
  (hK:∀w',Own B w0 w' (RefA k (putR L p n).2::R)->K (putR L p n).1 w'):C.qbU (some ⟨k,0,none⟩) p n K w:=by
 apply S.qbU0;intro k4 hk4;by_cases h0:p<0
 ·rw[show decide (p<0)=true from by simpa using h0,cond_true]
  apply hk4;rw[cond_true];have e:putR L p n=(1,L):=by unfold putR;rw[if_pos (.inl h0)]
  rw[e] at hK;exact hK w h
 rw[show decide (p<0)=false from by simpa using h0,cond_false];apply hk4;by_cases h1:256≤p
 ·rw[show decide (p>255)=true from by simp;omega,cond_true]
  have e:putR L p n=(1,L):=by unfold putR;rw[if_pos (.inr h1)]
  rw[e] at hK;exact hK w h
 rw[show decide (p>255)=false from by simp;omega,cond_false];refine ref09_Queue_Where_spec h ?_;cases hw:wh L n with
 |some q=>
  have e:putR L p n=(90,L):=by unfold putR;rw[if_neg (by omega),hw]
  rw[Option.isSome_some,cond_true];rw[e] at hK;exact hK w h
 |none=>
  have e:putR L p n=(0,L++ [(p.toNat,n)]):=by unfold putR;rw[if_neg (by omega),hw]
  rw[Option.isSome_none,cond_false];rw[e] at hK;obtain ⟨s,hq,h⟩:=h.refq;refine ⟨_,rfl,s,h.ld0 0 rfl rfl,?_⟩;refine h.al fun w1 h=>?_
  have h:=h.blk_eq (l':=inE.enc (p.toNat,n)) (by show _= [Value.z ((p.toNat:Nat):Int), .z n];rw[Int.toNat_of_nonneg (by omega)]);refine app1_in h 1 rfl (by omega) fun s' w2 hs' h=>?_
  refine ⟨_,rfl,?_⟩;refine h.st 0 rfl rfl rfl fun w3 h=>?_
  exact hK w3 (Own.mk_refq (put_ok hq (by omega) hw hf) h)
theorem ref09_Queue_Take_spec {n:Int} {K:Int->Pw} (h:Own B w0 w (RefA k L::R))
  (hK:∀w',Own B w0 w' (RefA k (takeR L n).2::R)->K (takeR L n).1 w'):C.qbJ (some ⟨k,0,none⟩) n K w:=by
 apply S.qbJ0;refine h.al fun w1 h=>?_
 obtain ⟨s,hq,h⟩:=(h.perm (List.Perm.swap _ _ _)).refq;have hlen:=h.len 1 rfl;have hfew:=hq.few;intro l4 hl4
 have h:Own B w0 w1 (SlT inE ⟨some (Addr.mk w.heap.size 0 none),0,0⟩ []::BlkA k [slV s]::SlT inE s L::R):=by
  have h1:Own B w0 w1 (BlkA w.heap.size []::BlkA k [slV s]::SlT inE s L::R):=h.take 2 rfl;exact h1.empty
 have loop:∀(m i:Nat) (o:Sl) (w:World),i+m=L.length->Own B w0 w (SlT inE o ((L.take i).filter fun x=>x.2 !=n)::BlkA k [slV s]::SlT inE s L::R)->l4 o (i:Int) w:=by
  intro m
  induction m with
  |zero=>
   intro i o w him h;apply hl4;refine ⟨_,rfl,s,h.ld0 1 rfl rfl,?_⟩;rw[show decide ((i:Int)<(s.len:Int))=false from by simp;omega,cond_false];rw[List.take_of_length_le (by omega)] at h;have hol:=h.len 0 rfl;refine ⟨_,rfl,s,h.ld0 1 rfl rfl,?_⟩;cases hw:wh L n with
   |none=>
    have e:takeR L n=(91,L):=by unfold takeR;rw[hw]
    have hs:(L.filter fun x=>x.2 !=n)=L:=List.filter_eq_self.2 fun x hx=>by
     have:=wh_none.1 hw x hx;simpa using this
    rw[hs] at hol;rw[show ((o.len:Int)==(s.len:Int))=true from by simp;omega,cond_true];rw[e] at hK;exact hK w (Own.mk_refq hq h.drop)
   |some p=>
    have e:takeR L n=(0,L.filter fun x=>x.2 !=n):=by unfold takeR;rw[hw]
    have:=take_len hq.nodup (wh_mem hw);rw[show ((o.len:Int)==(s.len:Int))=false from by simp;omega,cond_false];rw[e] at hK;refine ⟨_,rfl,?_⟩;refine h.st 1 rfl rfl rfl fun w2 h=>?_
    have h:Own B w0 w2 (SlT inE o (L.filter fun x=>x.2 !=n)::BlkA k [slV o]::SlT inE s L::R):=h;have h1:Own B w0 w2 (SlT inE s L::SlT inE o (L.filter fun x=>x.2 !=n)::BlkA k [slV o]::R):=h.take 2 rfl;exact hK w2 (Own.mk_refq (hq.filter n) (h1.drop.perm (List.Perm.swap _ _ _)))
  |succ m ih=>
   intro i o w him h;apply hl4;refine ⟨_,rfl,s,h.ld0 1 rfl rfl,?_⟩;rw[show decide ((i:Int)<(s.len:Int))=true from by simp;omega,cond_true];have hx:L[i]?=some L[i]:=gE (by omega);obtain ⟨a,ha,h1,h2⟩:=h.getIn 2 rfl hx;have ht:L.take (i+1)=L.take i++ [L[i]]:=by rw[List.take_add_one,hx];rfl
   refine ⟨_,rfl,s,h.ld0 1 rfl rfl,a,ha,by omega,by omega,_,h2,?_⟩;rw[wr (by omega) (by omega)];by_cases e:L[i].2=n
   ·rw[show (L[i].2 !=n)=false from by simpa using e,cond_false]
    refine ih (i+1) o w (by omega) ?_;rw[ht,List.filter_append,List.filter_cons,show (L[i].2 !=n)=false from by simpa using e];simpa using h
   ·rw[show (L[i].2 !=n)=true from by simpa using e,cond_true]
    refine ⟨_,rfl,s,h.ld0 1 rfl rfl,a,ha,by omega,by omega,ldIn h1 h2 ?_⟩;refine h.al fun w2 h=>?_
    refine app1_in (y:=L[i]) h 0 rfl (Nat.le_trans (List.length_filter_le _ _) (by rw[List.length_take];omega)) fun s' w3 hs' h=>?_
    refine ih (i+1) s' w3 (by omega) ?_;rw[ht,List.filter_append,List.filter_cons,show (L[i].2 !=n)=true from by simpa using e];exact h
 exact loop L.length 0 _ w1 (by omega) h
end
def RthA (b:Nat) (m:Mt):Asn:=ExA fun p:(Sl × Sl)× List Nat=>StarA (PureA (p.2.length=m.qs.length)::BlkA b [slV p.1.1,slV p.1.2]::SlT thE p.1.1 m.ths::SlT ptrE p.1.2 p.2::List.zipWith RefA p.2 m.qs)
theorem rz_set {b:Nat} {L':Qs}:∀(bs:List Nat) (qs:List Qs) (c:Nat),bs[c]?=some b->(List.zipWith RefA bs qs).set c (RefA b L')=List.zipWith RefA bs (qs.set c L')
 | [],_,_,h=>by simp at h
 |_::_,[],c,_=>by simp
 |b0::bs,q::qs,0,h=>by simp at h;subst h;rfl
 |b0::bs,q::qs,c+1,h=>by simp[rz_set bs qs c (by simpa using h)]
section
variable {B:Nat} {w0 w:World} {R L:List Asn} {b:Nat} {m m1:Mt}
theorem rth_eq (h1:m1.ths=m.ths) (h2:m1.qs=m.qs):RthA b m1=RthA b m:=by unfold RthA;rw[h1,h2]
theorem _root_.Go.Vc.Own.rth (h:Own B w0 w (RthA b m::R)):∃l q bs,bs.length=m.qs.length/\Own B w0 w (BlkA b [slV l,slV q]::SlT thE l m.ths::SlT ptrE q bs::(List.zipWith RefA bs m.qs++R)):=by
 obtain ⟨⟨⟨l,q⟩,bs⟩,h⟩:=h.ex;obtain ⟨h1,h⟩:=Own.pure h.star;exact ⟨l,q,bs,h1,h⟩
theorem _root_.Go.Vc.Own.mk_rth {l q:Sl} {bs:List Nat} (h1:bs.length=m.qs.length) (h:Own B w0 w (BlkA b [slV l,slV q]::SlT thE l m.ths::SlT ptrE q bs::(List.zipWith RefA bs m.qs++R))):Own B w0 w (RthA b m::R):=
 Own.mk_ex ((l,q),bs) (Own.mk_star (Own.mk_pure h1 h))
theorem _root_.Go.Vc.Own.rqout {A1 A2 A3:Asn} {bs:List Nat} {qs:List Qs} {c b1:Nat} {Q:Qs} (hb:bs[c]?=some b1) (hq:qs[c]?=some Q) (h:Own B w0 w (A1::A2::A3::(List.zipWith RefA bs qs++R))):
  Own B w0 w (RefA b1 Q::A1::A2::A3::(List.zipWith RefA bs qs++R).eraseIdx c):=by
 have h1:=(List.getElem?_eq_some_iff.1 hb).1;have h2:=(List.getElem?_eq_some_iff.1 hq).1
 have hz:(List.zipWith RefA bs qs++R)[c]?=some (RefA b1 Q):=by
  rw[List.getElem?_append_left (by simp;omega),List.getElem?_zipWith,hb,hq]
 exact h.take (c+3) (by simpa using hz)
theorem _root_.Go.Vc.Own.rqin {A1 A2 A3:Asn} {bs:List Nat} {qs:List Qs} {c b1:Nat} {Q:Qs} (hb:bs[c]?=some b1) (hc:c<qs.length) (h:Own B w0 w (RefA b1 Q::A1::A2::A3::(List.zipWith RefA bs qs++R).eraseIdx c)):
  Own B w0 w (A1::A2::A3::(List.zipWith RefA bs (qs.set c Q)++R)):=by
 have h1:=(List.getElem?_eq_some_iff.1 hb).1
 have h2:Own B w0 w (RefA b1 Q::(A1::A2::A3::(List.zipWith RefA bs qs++R)).eraseIdx (c+3)):=by
  simpa only[List.eraseIdx_cons_succ] using h
 have h3:=h2.put (by simp;omega);simp only[List.set_cons_succ] at h3;rw[List.set_append_left _ _ (by simp;omega),rz_set bs qs c hb] at h3;exact h3
theorem set_same {c:Int} (c0:0≤c) (c1:c<m.qs.length):m.qs.set c.toNat (m.q c)=m.qs:=by
 apply List.ext_getElem?;intro t;rw[List.getElem?_set];by_cases e:c.toNat=t
 ·subst e;rw[if_pos rfl,if_pos (by omega),q_get c0 c1]
 ·rw[if_neg e]
theorem stR {l:Sl} {A1:Asn} {ths:List Thd} {n:Int} {t t':Thd} {c:Nat} {v:Value} {a:Addr} {k:Pw} (h:Own B w0 w (A1::SlT thE l ths::L)) (h0:0≤n) (hx:ths[n.toNat]?=some t) (ha:l.a=some a)
  (he:thE.enc t'=(thE.enc t).set c v) (hc:c<12) (hv:v.oneCell'=true) (hk:∀w',Own B w0 w' (A1::SlT thE l (ths.set n.toNat t')::L)->k w'):St w ((a.add (n.toNat*12)).add c) v k:=
 Own.stFc (s:=l) (E:=thE) (xs:=ths) (i:=n) (j:=n.toNat) (c:=c) (x:=t) h t' (by omega) hx ha he hc hv fun w' h=>hk w' h.up1
theorem ref10_is_spec {n:Int} {K:Bool->Pw} (h:Own B w0 w (RthA b m::R)) (hK:K (m.isT n) w):C.qaZ (some ⟨b,0,none⟩) n K w:=by
 apply S.qaZ0;obtain ⟨l,q,bs,hbs,h⟩:=h.rth;have hl:=h.lenc l;unfold Mt.isT at hK;refine cdec (fun e=>?_) (fun e=>?_)
 ·refine ⟨_,rfl,l,h.ldc rfl,?_⟩
  rw[decide_eq_true (show 0≤n from e),Bool.true_and] at hK;rw[hl];exact hK
 ·rw[decide_eq_false (show ¬0≤n from e),Bool.false_and] at hK;exact hK
theorem ref10_core_spec {n:Int} {K:Bool->Pw} (h:Own B w0 w (RthA b m::R)) (hK:K (m.isC n) w):C.qav (some ⟨b,0,none⟩) n K w:=by
 apply S.qav0;obtain ⟨l,q,bs,hbs,h⟩:=h.rth;have hl:=h.lenc q;unfold Mt.isC at hK;refine cdec (fun e=>?_) (fun e=>?_)
 ·refine ⟨_,rfl,q,h.ldd rfl,?_⟩
  rw[decide_eq_true (show 0≤n from e),Bool.true_and] at hK;rw[hl,hbs];exact hK
 ·rw[decide_eq_false (show ¬0≤n from e),Bool.false_and] at hK;exact hK
theorem ref10_prio_spec {n:Int} {K:Bool->Pw} (hK:K (decide (0≤n/\n<256)) w):C.qcY n K w:=by
 apply S.qcY0;refine cdec (fun e=>?_) (fun e=>?_)
 ·rw[show decide (0≤n/\n<256)=decide (n≤255) from decide_eq_decide.2 (by omega)] at hK;exact hK
 ·rw[decide_eq_false (by omega)] at hK;exact hK
theorem ref10_Get_spec {n:Int} {K:Int->Int->Int->Int->Int->Int->Int->Int->Int->Int->Int->Int->Int->Pw} (h:Own B w0 w (RthA b m::R))
  (hK:∀w' t,t=(if m.isT n then m.th n else zTh)->Own B w0 w' (RthA b m::R)->K t.st t.pr t.co t.le (t.rg 0) (t.rg 1) (t.rg 2) (t.rg 3) (t.rg 4) (t.rg 5) (t.rg 6) (t.rg 7) (if m.isT n then 0 else 100) w'):C.qbi (some ⟨b,0,none⟩) n K w:=by
 apply S.qbi0;refine h.al fun w1 h=>?_
 generalize w.heap.size=c at h⊢;have h:Own B w0 w1 (RthA b m::BlkA c [.z 0, .z 0, .z 0, .z 0, .y 0, .y 0, .y 0, .y 0, .y 0, .y 0, .y 0, .y 0]::R):=h.up1;refine ref10_is_spec h ?_;cases e:m.isT n with
 |false=>
  have h:Own B w0 w1 (BlkA c [.z 0, .z 0, .z 0, .z 0, .y 0, .y 0, .y 0, .y 0, .y 0, .y 0, .y 0, .y 0]::RthA b m::R):=h.up1;refine cbT rfl ?_;refine h.stLc rfl rfl fun w h=>?_
  refine h.lc_12 rfl ?_;have:=hK w zTh (by rw[e];rfl) h.drop;rw[e] at this;exact this
 |true=>
  refine cbF rfl ?_;obtain ⟨n0,n1,hx⟩:=isT_get e;have h2:Own B w0 w1 (BlkA c [.z 0, .z 0, .z 0, .z 0, .y 0, .y 0, .y 0, .y 0, .y 0, .y 0, .y 0, .y 0]::RthA b m::R):=h.up1;obtain ⟨l,q,bs,hbs,h⟩:=h.rth;refine ⟨_,rfl,l,h.ldc rfl,?_⟩;refine h.ixc (s:=l) (i:=n) (j:=n.toNat) (by omega) hx fun a ha h0 hc=>?_
  refine ⟨_,hc 0 _ rfl,_,hc 1 _ rfl,_,hc 2 _ rfl,_,hc 3 _ rfl,_,hc 4 _ rfl,_,hc 5 _ rfl,_,hc 6 _ rfl,_,hc 7 _ rfl,_,hc 8 _ rfl,_,hc 9 _ rfl,_,hc 10 _ rfl,_,hc 11 _ rfl,?_⟩;refine h2.stLc rfl rfl fun w h=>?_
  refine h.lc_12 rfl ?_;have:=hK w (m.th n) (by rw[e];rfl) h.drop;rw[e] at this;exact this
theorem ref10_up_spec {n:Int} {K:Pw} (hm:MOk m) (hn:m.isT n=true) (h:Own B w0 w (RthA b m::R)) (hK:∀w',Own B w0 w' (RthA b (m.lineUp n)::R)->K w'):C.qba (some ⟨b,0,none⟩) n K w:=by
 apply S.qba0;obtain ⟨l,q,bs,hbs,h⟩:=h.rth;obtain ⟨n0,n1,hx⟩:=isT_get hn;obtain ⟨⟨c0,c1⟩,_⟩:=hm.th hn;obtain ⟨b1,hb1⟩:∃x,bs[(m.th n).co.toNat]?=some x:=⟨_,gE (by omega)⟩
 refine ⟨_,rfl,l,h.ldc rfl,?_⟩;refine h.ixc (s:=l) (i:=n) (j:=n.toNat) (by omega) hx fun a ha h0 hc=>?_
 refine stR (c:=0) (t':={ m.th n with st:=1}) h n0 hx ha rfl (by decide) rfl fun w h=>?_
 have hx2:(m.ths.set n.toNat { m.th n with st:=1})[n.toNat]?=some { m.th n with st:=1}:=by rw[List.getElem?_set,if_pos rfl,if_pos (by omega)]
 refine h.dr fun w h=>?_
 refine ⟨_,rfl,q,h.ldd rfl,_,rfl,l,h.ldc rfl,?_⟩;refine h.ixc (s:=l) (i:=n) (j:=n.toNat) (by omega) hx2 fun a2 ha2 h0 hc2=>⟨_,hc2 2 _ rfl,?_⟩
 refine h.ixc (s:=q) (j:=(m.th n).co.toNat) (by show (m.th n).co=_;omega) hb1 fun a3 ha3 h03 hc3=>⟨_,h03 _ rfl,_,rfl,l,h.ldc rfl,?_⟩
 refine h.ixc (s:=l) (i:=n) (j:=n.toNat) (by omega) hx2 fun a4 ha4 h04 hc4=>⟨_,hc4 1 _ rfl,Go.Vc.a2 ?_⟩
 have h:=h.rqout hb1 (q_get c0 c1);have hqok:QOk (m.q (m.th n).co):=by obtain ⟨_,e,_⟩:=h.refq;exact e
 have hlen:=ids_len hqok hm.qline;have hfew:=hm.few;refine ref09_Queue_Put_spec h (by omega) fun w h=>?_
 have h:=h.rqin (qs:=m.qs) hb1 (by omega);exact hK w (Own.mk_rth (m:=m.lineUp n) (bs:=bs) (by unfold Mt.lineUp Mt.setQ Mt.setTh;simpa using hbs) h)
theorem out_eq (hi:InvX (-1) m) {n:Int} (hn:m.isT n=true):RthA b (m.setQ (m.th n).co (takeR (m.q (m.th n).co) n).2)=RthA b (m.leave0 n):=by
 have hc:=hi.co hn;obtain ⟨c0,c1⟩:=isC_iff.1 hc
 have same:(m.th n).st≠1->m.qs.set (m.th n).co.toNat (takeR (m.q (m.th n).co) n).2=m.qs:=fun e=>by
  have:wh (m.q (m.th n).co) n=none:=wh_none.2 fun x hx e2=>by
   obtain ⟨p,k⟩:=x;have e2:k=n:=e2;subst e2;exact e ((hi.inq _ hc p k).1 hx).2.2.2.1
  unfold takeR;rw[this];exact set_same c0 c1
 unfold Mt.leave0;by_cases e:(m.th n).st=1
 ·rw[if_pos e]
 ·rw[if_neg e]
  split
  ·exact rth_eq rfl (same e)
  ·exact rth_eq rfl (same e)
theorem ref10_out_spec {n:Int} {K:Pw} (hi:InvX (-1) m) (hn:m.isT n=true) (h:Own B w0 w (RthA b m::R)) (hK:∀w',Own B w0 w' (RthA b (m.leave0 n)::R)->K w'):C.qaK (some ⟨b,0,none⟩) n K w:=by
 apply S.qaK0;obtain ⟨l,q,bs,hbs,h⟩:=h.rth;obtain ⟨n0,n1,hx⟩:=isT_get hn;obtain ⟨⟨c0,c1⟩,_⟩:=hi.ok.th hn;obtain ⟨b1,hb1⟩:∃x,bs[(m.th n).co.toNat]?=some x:=⟨_,gE (by omega)⟩
 refine h.dr fun w h=>?_
 refine ⟨_,rfl,q,h.ldd rfl,_,rfl,l,h.ldc rfl,?_⟩;refine h.ixc (s:=l) (i:=n) (j:=n.toNat) (by omega) hx fun a2 ha2 h0 hc2=>⟨_,hc2 2 _ rfl,?_⟩
 refine h.ixc (s:=q) (j:=(m.th n).co.toNat) (by show (m.th n).co=_;omega) hb1 fun a3 ha3 h03 hc3=>⟨_,h03 _ rfl,Go.Vc.a2 ?_⟩
 have h:=h.rqout hb1 (q_get c0 c1);refine ref09_Queue_Take_spec h fun w h=>?_
 have h:=h.rqin (qs:=m.qs) hb1 (by omega);have h2:Own B w0 w (RthA b (m.setQ (m.th n).co (takeR (m.q (m.th n).co) n).2)::R):=Own.mk_rth (bs:=bs) (by unfold Mt.setQ;simpa using hbs) h;rw[out_eq hi hn] at h2;exact hK w h2
def RunsOk (m:Mt) (c:Int):Prop:=∀i,m.isT i=true->(m.runs? c=some i↔((m.th i).st=2/\(m.th i).co=c))
theorem InvX.runsOk (hi:InvX (-1) m) (c:Int):RunsOk m c:=fun i hT=>by
 have i0:=(isT_get hT).1;constructor
 ·intro h;have:=hi.runIn h;exact ⟨this.2.2.2,this.2.2.1⟩
 ·rintro ⟨h1,h2⟩
  have hc:m.isC c=true:=by rw[←h2];exact hi.co hT
  have:=(hi.inr c hc i hT).2 ⟨by omega,h2,h1⟩;unfold Mt.runs?;rw[this,if_pos ⟨hc,by omega⟩]
theorem ref10_Runs_spec {c:Int} {K:Int->Bool->Pw} (hm:MOk m) (hr:RunsOk m c) (h:Own B w0 w (RthA b m::R)) (hK:K ((m.runs? c).getD 0) (m.runs? c).isSome w):C.qU (some ⟨b,0,none⟩) c K w:=by
 apply S.qU0;have hfew:=hm.few;obtain ⟨l,q,bs,hbs,h⟩:=h.rth;have hl:=h.lenc l;intro l3 hl3
 have loop:∀(j i:Nat),i+j=m.ths.length->(∀k:Nat,k<i->m.runs? c≠some (k:Int))->l3 (i:Int) w:=by
  intro j
  induction j with
  |zero=>
   intro i hij hno;apply hl3;refine ⟨_,rfl,l,h.ldc rfl,cdecF (by omega) ?_⟩;cases e:m.runs? c with
   |none=>rw[e] at hK;exact hK
   |some o=>
    have hT:=isT_get (hm.runT e).2.2.2;exact absurd (by rw[e,Int.toNat_of_nonneg hT.1]) (hno o.toNat (by omega))
  |succ j ih=>
   intro i hij hno;apply hl3;refine ⟨_,rfl,l,h.ldc rfl,cdecT (by omega) ?_⟩;have iT:m.isT (i:Int)=true:=by unfold Mt.isT;simp;omega
   have hx:=(isT_get iT).2.2;have hri:=hr (i:Int) iT;rw[Int.toNat_natCast] at hx;intro k8 hk8
   have yes:m.runs? c=some (i:Int)->k8 true w:=fun e=>by
    rw[e] at hK;exact hk8 _ _ (cbT rfl hK)
   have no:m.runs? c≠some (i:Int)->k8 false w:=fun e=>by
    refine hk8 _ _ (cbF rfl ?_);rw[show IntKind.i64.wrap ((i:Int)+1)=((i+1:Nat):Int) from by rw[wr (by omega) (by omega)];omega];refine ih (i+1) (by omega) fun k hk=>?_
    by_cases e2:k=i
    ·rw[e2];exact e
    ·exact hno k (by omega)
   refine ⟨_,rfl,l,h.ldc rfl,?_⟩;refine h.ixc (s:=l) (i:=(i:Int)) (j:=i) rfl hx fun a2 ha2 h0 hc2=>⟨_,hc2 0 _ rfl,?_⟩
   refine ceq (fun e=>?_) (fun e=>no fun e2=>e (hri.1 e2).1);refine ⟨_,rfl,l,h.ldc rfl,?_⟩;refine h.ixc (s:=l) (i:=(i:Int)) (j:=i) rfl hx fun a2 ha2 h0 hc2=>⟨_,hc2 2 _ rfl,?_⟩
   by_cases e2:(m.th (i:Int)).co=c
   ·rw[show ((m.th (i:Int)).co==c)=true from by simpa using e2]
    exact yes (hri.2 ⟨e,e2⟩)
   ·rw[show ((m.th (i:Int)).co==c)=false from by simpa using e2]
    exact no fun e3=>e2 (hri.1 e3).2
 exact loop m.ths.length 0 (by omega) (fun k hk=>by omega)
end
section
variable {B:Nat} {w0 w:World} {R L:List Asn} {b:Nat} {m m1:Mt}
theorem stRth {n:Int} {t':Thd} {c:Nat} {v:Value} {k:Pw} (hn:m.isT n=true) (h:Own B w0 w (RthA b m::R)) (he:thE.enc t'=(thE.enc (m.th n)).set c v) (hc:c<12) (hv:v.oneCell'=true)
  (hk:∀w',Own B w0 w' (RthA b (m.setTh n t')::R)->k w'):∃a:Addr,some (⟨b,0,none⟩:Addr)=some a/\∃l:Sl,w.cell? a=some (.slice l.a l.len l.cap)/\∃a2:Addr,l.a=some a2/\0≤n/\n<(l.len:Int)/\St w ((a2.add (n.toNat*12)).add c) v k:=by
 obtain ⟨n0,n1,hx⟩:=isT_get hn;obtain ⟨l,q,bs,hbs,h⟩:=h.rth;refine ⟨_,rfl,l,h.ldc rfl,?_⟩;refine h.ixc (s:=l) (i:=n) (j:=n.toNat) (by omega) hx fun a ha h0 hcc=>?_
 exact stR (c:=c) (t':=t') h n0 hx ha he hc hv fun w h=>hk w (Own.mk_rth (m:=m.setTh n t') hbs h)
theorem ldRth {n x:Int} {c:Nat} {k:Int->Prop} (hn:m.isT n=true) (h:Own B w0 w (RthA b m::R)) (he:(thE.enc (m.th n))[c]?=some (.z x)) (hk:k x):
  ∃a:Addr,some (⟨b,0,none⟩:Addr)=some a/\∃l:Sl,w.cell? a=some (.slice l.a l.len l.cap)/\∃a2:Addr,l.a=some a2/\0≤n/\n<(l.len:Int)/\∃y:Int,w.cell? ((a2.add (n.toNat*12)).add c)=some (.z y)/\k y:=by
 obtain ⟨n0,n1,hx⟩:=isT_get hn;obtain ⟨l,q,bs,hbs,h⟩:=h.rth;refine ⟨_,rfl,l,h.ldc rfl,?_⟩;exact h.ixc (s:=l) (i:=n) (j:=n.toNat) (by omega) hx fun a ha h0 hcc=>⟨_,hcc c _ he,hk⟩
theorem ref10_Resume_spec {n:Int} {K:Int->Pw} (hi:InvX (-1) m) (h:Own B w0 w (RthA b m::R)) (hK:∀w',Own B w0 w' (RthA b (m.resumeR n).2::R)->K (m.resumeR n).1 w'):C.qat (some ⟨b,0,none⟩) n K w:=by
 apply S.qat0;unfold Mt.resumeR at hK;refine ref10_is_spec h ?_;cases hT:m.isT n with
 |false=>rw[if_pos hT] at hK;exact cbT rfl (hK w h)
 |true=>
  rw[if_neg (by rw[hT];simp)] at hK;refine cbF rfl ?_;intro k5 hk5
  have bad:(m.th n).st=1∨(m.th n).st=2->k5 true w:=fun e=>by
   rw[if_pos e] at hK;exact hk5 _ _ (cbT rfl (hK w h))
  refine ldRth (c:=0) hT h rfl ?_;refine ceq (fun e=>bad (.inl e)) (fun e=>?_);refine ldRth (c:=0) hT h rfl ?_;by_cases e2:(m.th n).st=2
  ·rw[show ((m.th n).st==2)=true from by simpa using e2];exact bad (.inr e2)
  ·rw[show ((m.th n).st==2)=false from by simpa using e2]
   rw[if_neg (fun hh=>hh.elim e e2)] at hK;exact hk5 _ _ (cbF rfl (ref10_up_spec hi.ok hT h hK))
theorem ref10_Make_spec {p c:Int} {K:Int->Int->Pw} (hm:MOk m) (h:Own B w0 w (RthA b m::R)) (hK:∀w',Own B w0 w' (RthA b (m.makeR p c).2.2::R)->K (m.makeR p c).1 (m.makeR p c).2.1 w'):C.qaR (some ⟨b,0,none⟩) p c K w:=by
 apply S.qaR0;unfold Mt.makeR at hK;have hfew:=hm.few;intro k4 hk4
 have bad:¬(0≤p/\p<256/\m.isC c=true)->k4 true w:=fun e=>by
  rw[if_pos e] at hK;exact hk4 _ _ (cbT rfl (hK w h))
 refine ref10_prio_spec ?_;by_cases hp:0≤p/\p<256
 ·rw[decide_eq_true hp]
  refine cbF rfl ?_;refine ref10_core_spec h ?_;cases hc:m.isC c with
  |false=>exact bad fun hh=>by rw[hc] at hh;cases hh.2.2
  |true=>
   rw[if_neg (fun hh=>hh ⟨hp.1,hp.2,hc⟩)] at hK;refine hk4 _ _ (cbF rfl ?_);obtain ⟨l,q,bs,hbs,h⟩:=h.rth;have hl:=h.lenc l;refine ⟨_,rfl,l,h.ldc rfl,?_⟩;refine cdec (fun e2=>?_) (fun e2=>?_)
   ·rw[if_pos (by omega)] at hK
    exact hK w (Own.mk_rth hbs h)
   ·rw[if_neg (by omega)] at hK
    refine ⟨_,rfl,l,h.ldc rfl,?_⟩;refine h.al fun w1 h=>?_
    generalize w.heap.size=d at h⊢
    refine Own.app1c (s:=l) (E:=thE) (xs:=m.ths) (y:=⟨0,p,c,5,fun _=>0⟩) Tryz.underlying149 (show Tryz.prog.info? 53=some Tryz.t53 from by kernel_rfl) (zv:=(Tryz.t53.zero).get (by kernel_rfl)) (by kernel_rfl) (by kernel_rfl) (by kernel_rfl) (by decide) h (by
     have e:Tryz.t53.bytes=96:=by kernel_rfl
     rw[e];omega) fun s' w hs' h=>?_
    refine ⟨_,rfl,?_⟩;have h:=h.up1;refine h.stc rfl rfl fun w h=>?_
    refine ⟨_,rfl,s',h.ldc rfl,?_⟩;rw[show IntKind.i64.wrap ((s'.len:Int)-1)=(m.ths.length:Int) from by rw[hs',wr (by omega) (by omega)];omega];exact hK w (Own.mk_rth (m:=m.make p c) (l:=s') (q:=q) (bs:=bs) hbs h)
 ·rw[decide_eq_false hp]
  exact cbT rfl (bad fun hh=>hp ⟨hh.1,hh.2.1⟩)
theorem lineUp_rth (hi:InvX (-1) m) {o:Int} (hT:m.isT o=true) (hs:(m.th o).st=2):RthA b ((m.leave o 1).lineUp o)=RthA b (m.lineUp o):=by
 have e1:(m.leave o 1).th o={ m.th o with st:=1}:=by rw[th_leave hT,if_pos rfl]
 have e2:∀c,(m.leave o 1).q c=m.q c:=fun c=>by
  unfold Mt.leave Mt.leave0;rw[if_neg (by omega),if_pos hs];rfl
 have e3:(m.leave o 1).ths=m.ths.set o.toNat { m.th o with st:=1}/\(m.leave o 1).qs=m.qs:=by
  unfold Mt.leave Mt.leave0;rw[if_neg (by omega),if_pos hs];exact ⟨rfl,rfl⟩
 unfold Mt.lineUp;rw[e1,e2];unfold Mt.setTh Mt.setQ;refine rth_eq ?_ ?_
 ·simp only;rw[e3.1,List.set_set]
 ·simp only;rw[e3.2]
theorem ref10_Pick_spec {c:Int} {K:Int->Bool->Pw} (hi:InvX (-1) m) (h:Own B w0 w (RthA b m::R)) (hK:∀w',Own B w0 w' (RthA b (m.pickC c)::R)->K (((m.pickC c).runs? c).getD 0) ((m.pickC c).runs? c).isSome w'):C.qaS (some ⟨b,0,none⟩) c K w:=by
 apply S.qaS0;have hi2:=hi.pickC c;refine ref10_core_spec h ?_;cases hc:m.isC c with
 |false=>
  have e:m.runs? c=none:=by unfold Mt.runs?;rw[if_neg (by rw[hc];simp)]
  have e2:m.pickC c=m:=by unfold Mt.pickC;rw[hc];rfl
  rw[e2,e] at hK;exact cbT rfl (hK w h)
 |true=>
  obtain ⟨c0,c1⟩:=isC_iff.1 hc;refine cbF rfl ?_;refine ref10_Runs_spec hi.ok (hi.runsOk c) h ?_;obtain ⟨l,q,bs,hbs,h⟩:=h.rth;obtain ⟨b1,hb1⟩:∃x,bs[c.toNat]?=some x:=⟨_,gE (by omega)⟩
  refine ⟨_,rfl,q,h.ldd rfl,?_⟩;refine h.ixc (s:=q) (j:=c.toNat) (by omega) hb1 fun a2 ha2 h0 hcc=>⟨_,h0 _ rfl,?_⟩
  refine ref09_Queue_Next_spec (h.rqout hb1 (q_get c0 c1)) fun w h=>?_
  have h:=h.rqin (qs:=m.qs) hb1 (by omega);rw[set_same c0 c1] at h;have h:Own B w0 w (RthA b m::R):=Own.mk_rth hbs h;intro k15 hk15;refine h.dr fun w h=>?_
  have fin:∀w,Own B w0 w (RthA b (m.pickC c)::R)->C.qU (some ⟨b,0,none⟩) c (fun r20 r21 w22=>K r20 r21 w22) w:=fun w h=>ref10_Runs_spec hi2.ok (hi2.runsOk c) h (hK w h)
  have stay:m.pickC c=m->k15 false w:=fun e=>by
   refine hk15 _ _ ?_;intro k18 hk18;refine cbF rfl (hk18 _ ?_);rw[e] at fin;exact fin w h
  have pc:m.pickC c=m.pick c:=by unfold Mt.pickC;rw[hc];rfl
  cases hn:nextR (m.q c) with
  |none=>
   refine cbF rfl (stay ?_);rw[pc];unfold Mt.pick;rw[hn]
  |some n=>
   obtain ⟨hT,hco,hst⟩:=hi.nextIn hc hn;rw[hn] at hk15;refine cbT rfl ?_;have last:∀(m1:Mt) (w:World) (k:Pw),InvX (-1) m1->m1.isT n=true->m.pickC c=(m1.leave n 2).setR c n->(∀w',Own B w0 w' (RthA b (m.pickC c)::R)->k w')->Own B w0 w (RthA b m1::R)->C.qaK (some ⟨b,0,none⟩) n (fun w25=>
  ∃a26:Addr,some (⟨b,0,none⟩:Addr)=some a26/\
  ∃l27:Sl,w25.cell? a26=some (.slice l27.a l27.len l27.cap)/\
  ∃a28:Addr,l27.a=some a28/\0≤n/\n<(l27.len:Int)/\
  St w25 (a28.add (n.toNat*12)) (.z (2:Int)) fun w29=>k w29) w:=fun m1 w k hi1 hT1 hp hk h=>by
    refine ref10_out_spec hi1 hT1 h fun w h=>?_
    refine stRth (c:=0) (t':={ m1.th n with st:=2}) (by rw[leave0_isT];exact hT1) h (by rw[leave0_th];rfl) (by decide) rfl fun w h=>?_
    rw[hp] at hk;exact hk w h
   cases hr:m.runs? c with
   |none=>
    have hr1:m.run c= -1:=by
     unfold Mt.runs? at hr;split at hr
     ·cases hr
     ·rename_i hh
      by_cases e:m.run c= -1
      ·exact e
      ·exact absurd ⟨hc,e⟩ hh
    rw[hr] at hk15;refine cbT rfl (hk15 _ _ ?_);intro k18 hk18;refine cbT rfl ?_;intro k23 hk23;refine cbF rfl (hk23 _ ?_);exact last m w k18 hi hT (by rw[pc];unfold Mt.pick;rw[hn];simp only;rw[if_pos hr1]) (fun w h=>hk18 _ (fin w h)) h
   |some o=>
    obtain ⟨_,oT,oco,ost⟩:=hi.runIn hr;have ho:=hi.ok.runT hr;rw[hr] at hk15;refine cbF rfl ?_;refine ldRth (c:=1) hT h rfl ?_;refine ldRth (c:=1) oT h rfl ?_;show k15 (decide ((m.th n).pr>(m.th o).pr)) w;by_cases e:(m.th n).pr>(m.th o).pr
    ·rw[decide_eq_true e]
     refine hk15 _ _ ?_;intro k18 hk18;refine cbT rfl ?_;intro k23 hk23;refine cbT rfl ?_;refine ref10_up_spec (n:=o) hi.ok oT h fun w h=>hk23 _ ?_
     have oT1:(m.leave o 1).isT o=true:=by rw[leave_isT];exact oT
     rw[←lineUp_rth hi oT ost] at h;refine last ((m.leave o 1).lineUp o) w k18 ((hi.leave oT).up oT1) (by rw[lineUp_isT,leave_isT];exact hT) ?_ (fun w h=>hk18 _ (fin w h)) h;rw[pc];unfold Mt.pick;rw[hn];simp only;rw[if_neg (by rw[ho.2.1];exact ho.2.2.1),ho.2.1,if_neg (by omega)]
    ·rw[decide_eq_false e]
     refine stay ?_;rw[pc];unfold Mt.pick;rw[hn];simp only;rw[if_neg (by rw[ho.2.1];exact ho.2.2.1),ho.2.1,if_pos (by omega)]
theorem app1_rptr {s:Sl} {ys:List Nat} {y:Nat} {c:Nat} {L:List Asn} {k:Sl->Pw} [I:SlIn s L Nat ptrE ys] [J:Pick (SlT ptrE s ys) L R] (h:Own B w0 w (BlkA c [.pointer (some ⟨y,0,none⟩)]::L)) (hbig:ys.length≤1000000000)
  (hk:∀s' w',s'.len=ys.length+1->Own B w0 w' (SlT ptrE s' (ys++ [y])::R)->k s' w'):
  ∃s' w',AppR Tryz.prog [150,150] 150 (.slice s.a s.len s.cap) (.slice (some (Addr.mk c 0 none)) 1 1) w s' w'/\k s' w':=
 Own.app1c (E:=ptrE) (y:=y) Tryz.underlying150 (show Tryz.prog.info? 226=some Tryz.t226 from by kernel_rfl) (zv:= .pointer none) (by kernel_rfl) (by kernel_rfl) rfl (by decide) h (by
  have e:Tryz.t226.bytes=8:=by kernel_rfl
  rw[e];omega) hk
theorem ref10_New_spec {c:Nat} {K:Option Addr->Int->Pw} (h1:1≤c) (h8:c≤8) (h:Own B w0 w R) (hK1:∀b w',Own B w0 w' (RthA b (newM c)::R)->K (some ⟨b,0,none⟩) 0 w'):C.qdg (c:Int) K w:=by
 apply S.qdg0;intro k2 hk2;refine cdecF (by omega) ?_;rw[decide_eq_false (show ¬(c:Int)>8 by omega)];refine hk2 _ _ (cbF rfl ?_);refine h.al fun w2 h=>?_
 generalize w.heap.size=t at h⊢;have h:Own B w0 w2 (SlT ptrE ⟨none,0,0⟩ []::_):=Own.nilS h;have h:Own B w0 w2 (SlT thE ⟨none,0,0⟩ []::_):=Own.nilS h;intro l9 hl9
 have loop:∀(k j:Nat) (q:Sl) (bs:List Nat) (w:World),j+k=c->bs.length=j->Own B w0 w (BlkA t [slV ⟨none,0,0⟩,slV q]::SlT thE ⟨none,0,0⟩ []::SlT ptrE q bs::(List.zipWith RefA bs (List.replicate j [])++R))->l9 (j:Int) w:=by
  intro k
  induction k with
  |zero=>
   intro j q bs w hj hbs h;obtain rfl:j=c:=by omega
   apply hl9;refine cdecF (by omega) ?_;exact hK1 t w (Own.mk_rth (m:=newM j) (l:=⟨none,0,0⟩) (q:=q) (bs:=bs) (by simp[newM];exact hbs) h)
  |succ k ih=>
   intro j q bs w hj hbs h;apply hl9;refine cdecT (by omega) ?_;refine ⟨_,rfl,q,h.ldd rfl,?_⟩;refine h.al fun w3 h=>?_
   generalize w.heap.size=d3 at h⊢;have h:Own B w0 w3 (SlT inE ⟨none,0,0⟩ []::_):=Own.nilS h;have h:Own B w0 w3 (RefA d3 []::_):=Own.mk_refq (s:=⟨none,0,0⟩) ⟨by simp,by simp,by simp⟩ h.up1;refine h.al fun w4 h=>?_
   generalize w3.heap.size=d4 at h⊢;refine app1_rptr (s:=q) (ys:=bs) (y:=d3) h (by omega) fun q' w hq' h=>?_
   refine ⟨_,rfl,?_⟩;refine h.std rfl rfl fun w h=>?_
   (try dsimp only[putAt,List.set_cons_zero,List.set_cons_succ] at h)
   rw[show IntKind.i64.wrap ((j:Int)+1)=((j+1:Nat):Int) from by rw[wr (by omega) (by omega)];omega];refine ih (j+1) q' (bs++ [d3]) w (by omega) (by simp[hbs]) ?_
   have ez:List.zipWith RefA (bs++ [d3]) (List.replicate (j+1) [])=List.zipWith RefA bs (List.replicate j [])++ [RefA d3 []]:=by
    rw[List.replicate_succ',List.zipWith_append (by simp[hbs])];rfl
   rw[ez,List.append_assoc];have h2:Own B w0 w (BlkA t [slV ⟨none,0,0⟩, .slice q'.a q'.len q'.cap]::SlT thE ⟨none,0,0⟩ []::SlT ptrE q' (bs++ [d3])::RefA d3 []::(List.zipWith RefA bs (List.replicate j [])++R)):=h.sub;exact h2.perm (((List.perm_middle.symm.cons _).cons _).cons _)
 have h3:Own B w0 w2 (BlkA t [slV ⟨none,0,0⟩,slV ⟨none,0,0⟩]::SlT thE ⟨none,0,0⟩ []::SlT ptrE ⟨none,0,0⟩ []::R):=h.up2;exact loop c 0 ⟨none,0,0⟩ [] w2 (by omega) rfl h3
end
end Go.Proofs.YtogmbmdbgkopjaaGreat.Th
end
section
set_option maxRecDepth 8000
namespace Go.Proofs.YtogmbmdbgkopjaaGreat.Tr
open Go Go.Vc Go.Proofs
theorem place_own {T:Tr} (hT:TOk T) {i:Nat} {x:Leaf} (hx:T[i]?=some x):placeN T x.1=some i:=by
 have hi:=(List.getElem?_eq_some_iff.1 hx).1;unfold placeN;rw[List.findIdx?_eq_some_iff_getElem];rw[gE hi] at hx;cases hx;refine ⟨hi,by simp,fun j hj=>?_⟩;have hn:=List.pairwise_iff_getElem.1 hT.nd j i (by simpa using Nat.lt_trans hj hi) (by simpa using hi) hj;simp only[List.getElem_map] at hn;simp[hn]
theorem place_none_iff {T:Tr} {s:Slot}:placeN T s=none↔s∉T.map (·.1):=by
 unfold placeN;rw[List.findIdx?_eq_none_iff];constructor
 ·intro h hm
  obtain ⟨x,hx,rfl⟩:=List.mem_map.1 hm;have:=h x hx;simp at this
 ·intro h x hx
  simp only[decide_eq_false_iff_not];intro e;exact h (List.mem_map.2 ⟨x,hx,e⟩)
def sl7 (T:Tr):List Slot:=T.map fun x=>x.1
def dl7 (T:Tr):List Int:=T.map fun x=>x.2
theorem sl7_len (T:Tr):(sl7 T).length=T.length:=by unfold sl7;simp
theorem dl7_len (T:Tr):(dl7 T).length=T.length:=by unfold dl7;simp
theorem sl7_get {T:Tr} {k:Nat} {x:Leaf} (h:T[k]?=some x):(sl7 T)[k]?=some x.1:=by unfold sl7;rw[List.getElem?_map,h];rfl
theorem dl7_get {T:Tr} {k:Nat} {x:Leaf} (h:T[k]?=some x):(dl7 T)[k]?=some x.2:=by unfold dl7;rw[List.getElem?_map,h];rfl
theorem sl7_take {T:Tr} {e:Nat} {x:Leaf} (h:T[e]?=some x):sl7 (T.take e)++ [x.1]=sl7 (T.take (e+1)):=by
 unfold sl7;rw[List.take_add_one,h,List.map_append];rfl
theorem dl7_take {T:Tr} {e:Nat} {x:Leaf} (h:T[e]?=some x):dl7 (T.take e)++ [x.2]=dl7 (T.take (e+1)):=by
 unfold dl7;rw[List.take_add_one,h,List.map_append];rfl
def RefA (b:Nat) (T:Tr):Asn:=ExA fun p:Sl × Sl=>StarA [BlkA b [slV p.1,slV p.2],SlT slotE p.1 (sl7 T),SlT intE p.2 (dl7 T)]
section
variable {B:Nat} {w0 w:World} {R L:List Asn} {b:Nat} {T:Tr}
theorem _root_.Go.Vc.Own.ref (h:Own B w0 w (RefA b T::R)):∃s d,Own B w0 w (SlT slotE s (sl7 T)::SlT intE d (dl7 T)::BlkA b [slV s,slV d]::R):=by
 obtain ⟨⟨s,d⟩,h⟩:=h.ex;have h:=h.star;exact ⟨s,d,h.up1.up2.up1⟩
theorem _root_.Go.Vc.Own.mk_ref {s d:Sl} (h:Own B w0 w (SlT slotE s (sl7 T)::SlT intE d (dl7 T)::BlkA b [slV s,slV d]::R)):Own B w0 w (RefA b T::R):=
 Own.mk_ex (s,d) (Own.mk_star h.up2)
theorem app1_int {s:Sl} {ys:List Int} {y:Int} {c:Nat} {k:Sl->Pw} [I:SlIn s L Int intE ys] [J:Pick (SlT intE s ys) L R] (h:Own B w0 w (BlkA c [.z y]::L)) (hbig:ys.length≤1000000000)
  (hk:∀s' w',s'.len=ys.length+1->Own B w0 w' (SlT intE s' (ys++ [y])::R)->k s' w'):
  ∃s' w',AppR Tryz.prog [26,26] 26 (.slice s.a s.len s.cap) (.slice (some (Addr.mk c 0 none)) 1 1) w s' w'/\k s' w':=
 Own.app1c (E:=intE) (y:=y) Tryz.underlying26 (show Tryz.prog.info? 3=some Tryz.t3 from by kernel_rfl) (zv:= .z 0) (by kernel_rfl) (by kernel_rfl) rfl (by decide) h (by
  have e:Tryz.t3.bytes=8:=by kernel_rfl
  rw[e];omega) hk
theorem rplace_o {s d:Sl} {x:Slot} {K:Int->Pw} (hT:TOk T) (h:Own B w0 w (SlT slotE s (sl7 T)::SlT intE d (dl7 T)::BlkA b [slV s,slV d]::R)) (hK:∀w',Own B w0 w' (SlT slotE s (sl7 T)::SlT intE d (dl7 T)::BlkA b [slV s,slV d]::R)->K (match placeN T x with|some i=>(i:Int)|none=> -1) w'):
  C.qbH (some ⟨b,0,none⟩) x.1 x.2 K w:=by
 apply S.qbH0;have hlen:=h.lenc s;rw[sl7_len] at hlen;have hfew:=hT.few;refine h.al fun w1 h=>?_
 generalize w.heap.size=c at h⊢;intro l hl
 have loop:∀(m k:Nat) (w:World),k+m=T.length->(∀r y,r<k->T[r]?=some y->y.1≠x)->Own B w0 w (BlkA c [.z x.1, .z x.2]::SlT slotE s (sl7 T)::SlT intE d (dl7 T)::BlkA b [slV s,slV d]::R)->l (k:Int) w:=by
  intro m
  induction m with
  |zero=>
   intro k w hk hno h;apply hl
   (repeat (first|(refine h.al fun w h=>?_)|(refine h.dr fun w h=>?_)|(refine h.lc_2 rfl ?_)|(refine h.lc_6 rfl ?_)|(refine ⟨_,h.ldc rfl,?_⟩)|(refine ⟨_,h.ldd rfl,?_⟩)|(refine h.hd rfl ?_)|(refine ⟨h.ldc rfl,?_⟩)|(refine ⟨h.ldd rfl,?_⟩)|(refine h.stLc rfl rfl fun w h=>?_)|(refine exs ?_)|(refine _root_.Go.Vc.a2 ?_)|(refine h.stc rfl rfl fun w h=>?_)|(refine h.std rfl rfl fun w h=>?_)))
   refine cdecF (by omega) ?_
   have hn:placeN T x=none:=place_none_iff.2 fun hm=>by
    obtain ⟨y,hy,hyx⟩:=List.mem_map.1 hm;obtain ⟨r,hr⟩:=List.mem_iff_getElem?.1 hy;have:=(List.getElem?_eq_some_iff.1 hr).1;exact hno r y (by omega) hr hyx
   rw[hn] at hK;exact hK _ h.sub
  |succ m ih=>
   intro k w hk hno h;obtain ⟨y,hy⟩:∃y,T[k]?=some y:=⟨_,gE (by omega)⟩
   apply hl
   (repeat (first|(refine h.al fun w h=>?_)|(refine h.dr fun w h=>?_)|(refine h.lc_2 rfl ?_)|(refine h.lc_6 rfl ?_)|(refine ⟨_,h.ldc rfl,?_⟩)|(refine ⟨_,h.ldd rfl,?_⟩)|(refine h.hd rfl ?_)|(refine ⟨h.ldc rfl,?_⟩)|(refine ⟨h.ldd rfl,?_⟩)|(refine h.stLc rfl rfl fun w h=>?_)|(refine exs ?_)|(refine _root_.Go.Vc.a2 ?_)|(refine h.stc rfl rfl fun w h=>?_)|(refine h.std rfl rfl fun w h=>?_)))
   refine cdecT (by omega) ?_
   (repeat (first|(refine h.al fun w h=>?_)|(refine h.dr fun w h=>?_)|(refine h.lc_2 rfl ?_)|(refine h.lc_6 rfl ?_)|(refine ⟨_,h.ldc rfl,?_⟩)|(refine ⟨_,h.ldd rfl,?_⟩)|(refine h.hd rfl ?_)|(refine ⟨h.ldc rfl,?_⟩)|(refine ⟨h.ldd rfl,?_⟩)|(refine h.stLc rfl rfl fun w h=>?_)|(refine exs ?_)|(refine _root_.Go.Vc.a2 ?_)|(refine h.stc rfl rfl fun w h=>?_)|(refine h.std rfl rfl fun w h=>?_)))
   refine h.ixc (s:=s) rfl (sl7_get hy) fun a ha h0 hc=>?_
   refine ldSlot (x:=y.1) hc ?_
   (repeat (first|(refine h.al fun w h=>?_)|(refine h.dr fun w h=>?_)|(refine h.lc_2 rfl ?_)|(refine h.lc_6 rfl ?_)|(refine ⟨_,h.ldc rfl,?_⟩)|(refine ⟨_,h.ldd rfl,?_⟩)|(refine h.hd rfl ?_)|(refine ⟨h.ldc rfl,?_⟩)|(refine ⟨h.ldd rfl,?_⟩)|(refine h.stLc rfl rfl fun w h=>?_)|(refine exs ?_)|(refine _root_.Go.Vc.a2 ?_)|(refine h.stc rfl rfl fun w h=>?_)|(refine h.std rfl rfl fun w h=>?_)))
   refine ⟨_,slotEq y.1 x,?_⟩;refine cdec (fun e=>?_) (fun e=>?_)
   ·rw[←e,place_own hT hy] at hK
    exact hK _ h.sub
   ·rw[show IntKind.i64.wrap ((k:Int)+1)=((k+1:Nat):Int) from by rw[wr (by omega) (by omega)];omega]
    refine ih (k+1) _ (by omega) (fun r z hr hz=>?_) h;by_cases h1:r=k
    ·subst h1;rw[hy] at hz;cases hz;exact e
    ·exact hno r z (by omega) hz
 exact loop T.length 0 _ (by omega) (fun r y h1=>by omega) h
def putT (T:Tr) (i:Nat) (z:Leaf):Tr:=T.take i++z::T.drop i
theorem put_get {T:Tr} {i:Nat} {z:Leaf} (hi:i≤T.length):(∀r,r<i->(putT T i z)[r]?=T[r]?)/\(putT T i z)[i]?=some z/\(∀r,i≤r->(putT T i z)[r+1]?=T[r]?):=by
 have h1:(T.take i).length=i:=by simp;omega
 unfold putT;refine ⟨fun r hr=>?_,?_,fun r hr=>?_⟩
 ·rw[List.getElem?_append_left (by omega),List.getElem?_take,if_pos hr]
 ·rw[List.getElem?_append_right (by omega),h1,Nat.sub_self];rfl
 ·rw[List.getElem?_append_right (by omega),h1,show r+1-i=(r-i)+1 from by omega,List.getElem?_cons_succ,List.getElem?_drop,show i+(r-i)=r from by omega]
theorem put_len {T:Tr} {i:Nat} {z:Leaf} (hi:i≤T.length):(putT T i z).length=T.length+1:=by unfold putT;simp;omega
theorem rput_o {s d:Sl} {i:Nat} {z:Leaf} {K:Pw} (hl:T.length<1000000) (hi:i≤T.length) (h:Own B w0 w (SlT slotE s (sl7 T)::SlT intE d (dl7 T)::BlkA b [slV s,slV d]::R)) (hK:∀w',Own B w0 w' (RefA b (putT T i z)::R)->K w'):
  C.qcj (some ⟨b,0,none⟩) (i:Int) z.1.1 z.1.2 z.2 K w:=by
 apply S.qcj0;have hlen:=h.lenc s;rw[sl7_len] at hlen;obtain ⟨g1,g2,g3⟩:=put_get (z:=z) hi;have hpl:=put_len (z:=z) hi;generalize putT T i z=T' at*
 refine h.al fun w1 h=>?_
 generalize w.heap.size=c at h⊢;refine h.al fun w2 h=>?_
 generalize w1.heap.size=c1 at h⊢;refine h.al fun w3 h=>?_
 generalize w2.heap.size=c2 at h⊢;have h:Own B w0 w3 (SlT intE ⟨some ⟨c2,0,none⟩,0,0⟩ []::_):=h.empty;have h:Own B w0 w3 (SlT slotE ⟨some ⟨c1,0,none⟩,0,0⟩ []::_):=h.up1.empty;intro l hlp
 have loop:∀(m k:Nat) (l1 d1:Sl) (w:World),k+m=T.length+1->Own B w0 w (SlT slotE l1 (sl7 (T'.take (if k≤i then k else k+1)))::SlT intE d1 (dl7 (T'.take (if k≤i then k else k+1)))::BlkA c [.z z.1.1, .z z.1.2]::SlT slotE s (sl7 T)::SlT intE d (dl7 T)::BlkA b [slV s,slV d]::R)->l l1 d1 (k:Int) w:=by
  intro m
  induction m with
  |zero=>
   intro k l1 d1 w hk h;rw[if_neg (show ¬k≤i by omega),List.take_of_length_le (by omega)] at h;apply hlp
   (repeat (first|(refine h.al fun w h=>?_)|(refine h.dr fun w h=>?_)|(refine h.lc_2 rfl ?_)|(refine h.lc_6 rfl ?_)|(refine ⟨_,h.ldc rfl,?_⟩)|(refine ⟨_,h.ldd rfl,?_⟩)|(refine h.hd rfl ?_)|(refine ⟨h.ldc rfl,?_⟩)|(refine ⟨h.ldd rfl,?_⟩)|(refine h.stLc rfl rfl fun w h=>?_)|(refine exs ?_)|(refine _root_.Go.Vc.a2 ?_)|(refine h.stc rfl rfl fun w h=>?_)|(refine h.std rfl rfl fun w h=>?_)))
   refine cdecF (by omega) ?_
   (repeat (first|(refine h.al fun w h=>?_)|(refine h.dr fun w h=>?_)|(refine h.lc_2 rfl ?_)|(refine h.lc_6 rfl ?_)|(refine ⟨_,h.ldc rfl,?_⟩)|(refine ⟨_,h.ldd rfl,?_⟩)|(refine h.hd rfl ?_)|(refine ⟨h.ldc rfl,?_⟩)|(refine ⟨h.ldd rfl,?_⟩)|(refine h.stLc rfl rfl fun w h=>?_)|(refine exs ?_)|(refine _root_.Go.Vc.a2 ?_)|(refine h.stc rfl rfl fun w h=>?_)|(refine h.std rfl rfl fun w h=>?_)))
   (try dsimp only[putAt,List.set_cons_zero,List.set_cons_succ] at h)
   exact hK _ (Own.mk_ref (s:=l1) (d:=d1) h.sub)
  |succ m ih=>
   intro k l1 d1 w hk h;have hwk:IntKind.i64.wrap ((k:Int)+1)=((k+1:Nat):Int):=by rw[wr (by omega) (by omega)];omega
   apply hlp
   (repeat (first|(refine h.al fun w h=>?_)|(refine h.dr fun w h=>?_)|(refine h.lc_2 rfl ?_)|(refine h.lc_6 rfl ?_)|(refine ⟨_,h.ldc rfl,?_⟩)|(refine ⟨_,h.ldd rfl,?_⟩)|(refine h.hd rfl ?_)|(refine ⟨h.ldc rfl,?_⟩)|(refine ⟨h.ldd rfl,?_⟩)|(refine h.stLc rfl rfl fun w h=>?_)|(refine exs ?_)|(refine _root_.Go.Vc.a2 ?_)|(refine h.stc rfl rfl fun w h=>?_)|(refine h.std rfl rfl fun w h=>?_)))
   refine cdecT (by omega) ?_;intro k16 hk16
   have second:∀(l2 d2:Sl) (w:World),Own B w0 w (SlT slotE l2 (sl7 (T'.take (if k<i then k else k+1)))::SlT intE d2 (dl7 (T'.take (if k<i then k else k+1)))::BlkA c [.z z.1.1, .z z.1.2]::SlT slotE s (sl7 T)::SlT intE d (dl7 T)::BlkA b [slV s,slV d]::R)->k16 l2 d2 w:=by
    intro l2 d2 w h;apply hk16
    (repeat (first|(refine h.al fun w h=>?_)|(refine h.dr fun w h=>?_)|(refine h.lc_2 rfl ?_)|(refine h.lc_6 rfl ?_)|(refine ⟨_,h.ldc rfl,?_⟩)|(refine ⟨_,h.ldd rfl,?_⟩)|(refine h.hd rfl ?_)|(refine ⟨h.ldc rfl,?_⟩)|(refine ⟨h.ldd rfl,?_⟩)|(refine h.stLc rfl rfl fun w h=>?_)|(refine exs ?_)|(refine _root_.Go.Vc.a2 ?_)|(refine h.stc rfl rfl fun w h=>?_)|(refine h.std rfl rfl fun w h=>?_)))
    refine cdec (fun e=>?_) (fun e=>?_)
    ·obtain ⟨y,hy⟩:∃y,T[k]?=some y:=⟨_,gE (by omega)⟩
     have hy':T'[if k<i then k else k+1]?=some y:=by
      by_cases h1:k<i
      ·rw[if_pos h1,g1 k h1,hy]
      ·rw[if_neg h1,g3 k (by omega),hy]
     have hnext:(if k+1≤i then k+1 else k+1+1)=(if k<i then k else k+1)+1:=by split<;>split<;>omega
     have hib:(if k<i then k else k+1)≤1000001:=by split<;>omega
     generalize (if k<i then k else k+1)=e2 at*
     (repeat (first|(refine h.al fun w h=>?_)|(refine h.dr fun w h=>?_)|(refine h.lc_2 rfl ?_)|(refine h.lc_6 rfl ?_)|(refine ⟨_,h.ldc rfl,?_⟩)|(refine ⟨_,h.ldd rfl,?_⟩)|(refine h.hd rfl ?_)|(refine ⟨h.ldc rfl,?_⟩)|(refine ⟨h.ldd rfl,?_⟩)|(refine h.stLc rfl rfl fun w h=>?_)|(refine exs ?_)|(refine _root_.Go.Vc.a2 ?_)|(refine h.stc rfl rfl fun w h=>?_)|(refine h.std rfl rfl fun w h=>?_)))
     refine h.ixc (s:=s) rfl (sl7_get hy) fun a ha h0 hc=>?_
     refine ldSlot (x:=y.1) hc ?_;refine h.al fun w1 h=>?_
     refine app1_slot (ys:=sl7 (T'.take e2)) (y:=y.1) h (by rw[sl7_len];simp;omega) fun l3 w hl3 h=>?_
     (repeat (first|(refine h.al fun w h=>?_)|(refine h.dr fun w h=>?_)|(refine h.lc_2 rfl ?_)|(refine h.lc_6 rfl ?_)|(refine ⟨_,h.ldc rfl,?_⟩)|(refine ⟨_,h.ldd rfl,?_⟩)|(refine h.hd rfl ?_)|(refine ⟨h.ldc rfl,?_⟩)|(refine ⟨h.ldd rfl,?_⟩)|(refine h.stLc rfl rfl fun w h=>?_)|(refine exs ?_)|(refine _root_.Go.Vc.a2 ?_)|(refine h.stc rfl rfl fun w h=>?_)|(refine h.std rfl rfl fun w h=>?_)))
     refine h.ixc (s:=d) rfl (dl7_get hy) fun a ha h0 hc=>⟨_,h0 _ rfl,?_⟩
     refine h.al fun w1 h=>?_
     refine app1_int (ys:=dl7 (T'.take e2)) (y:=y.2) h (by rw[dl7_len];simp;omega) fun d3 w hd3 h=>?_
     rw[sl7_take hy',dl7_take hy',←hnext] at h;rw[hwk];exact ih (k+1) l3 d3 w (by omega) h.sub
    ·have h1:T'.take (if k+1≤i then k+1 else k+1+1)=T'.take (if k<i then k else k+1):=by
      rw[if_neg (by omega),if_neg (by omega),List.take_of_length_le (by omega),List.take_of_length_le (by omega)]
     rw[hwk];refine ih (k+1) l2 d2 w (by omega) ?_;rw[h1];exact h
   refine ceq (fun e=>?_) (fun e=>?_)
   ·have hki:k=i:=by omega
    have e1:(if k≤i then k else k+1)=i:=by rw[if_pos (by omega)];exact hki
    have e2:(if k<i then k else k+1)=i+1:=by rw[if_neg (by omega)];omega
    rw[e1] at h;rw[e2] at second
    (repeat (first|(refine h.al fun w h=>?_)|(refine h.dr fun w h=>?_)|(refine h.lc_2 rfl ?_)|(refine h.lc_6 rfl ?_)|(refine ⟨_,h.ldc rfl,?_⟩)|(refine ⟨_,h.ldd rfl,?_⟩)|(refine h.hd rfl ?_)|(refine ⟨h.ldc rfl,?_⟩)|(refine ⟨h.ldd rfl,?_⟩)|(refine h.stLc rfl rfl fun w h=>?_)|(refine exs ?_)|(refine _root_.Go.Vc.a2 ?_)|(refine h.stc rfl rfl fun w h=>?_)|(refine h.std rfl rfl fun w h=>?_)))
    refine app1_slot (ys:=sl7 (T'.take i)) (y:=z.1) h (by rw[sl7_len];simp;omega) fun l3 w hl3 h=>?_
    refine h.al fun w1 h=>?_
    refine app1_int (ys:=dl7 (T'.take i)) (y:=z.2) h (by rw[dl7_len];simp;omega) fun d3 w hd3 h=>?_
    rw[sl7_take g2,dl7_take g2] at h;exact second l3 d3 w h.sub
   ·have e1:(if k≤i then k else k+1)=(if k<i then k else k+1):=by split<;>split<;>omega
    rw[e1] at h;exact second l1 d1 w h
 refine loop (T.length+1) 0 _ _ w3 (by omega) ?_;rw[if_pos (by omega)];exact h
theorem rRoot_spec {s:Slot} {K:Int->Pw} (hT:TOk T) (hl:T.length<1000000) (h:Own B w0 w (RefA b T::R)) (hK:∀w',Own B w0 w' (RefA b (rootN T s).2::R)->K (rootN T s).1 w'):C.qbR (some ⟨b,0,none⟩) s.1 s.2 K w:=by
 apply S.qbR0;obtain ⟨sl,dd,h⟩:=h.ref;have hlen:=h.lenc sl;rw[sl7_len] at hlen;unfold rootN at hK;refine h.al fun w1 h=>?_
 generalize w.heap.size=c at h⊢
 (repeat (first|(refine h.al fun w h=>?_)|(refine h.dr fun w h=>?_)|(refine h.lc_2 rfl ?_)|(refine h.lc_6 rfl ?_)|(refine ⟨_,h.ldc rfl,?_⟩)|(refine ⟨_,h.ldd rfl,?_⟩)|(refine h.hd rfl ?_)|(refine ⟨h.ldc rfl,?_⟩)|(refine ⟨h.ldd rfl,?_⟩)|(refine h.stLc rfl rfl fun w h=>?_)|(refine exs ?_)|(refine _root_.Go.Vc.a2 ?_)|(refine h.stc rfl rfl fun w h=>?_)|(refine h.std rfl rfl fun w h=>?_)))
 refine rplace_o (x:=s) hT h.up3.up3.up3 fun w h=>?_
 cases hp:placeN T s with
 |some i=>
  rw[hp] at hK;refine cdecT (by show (i:Int)≥0;omega) ?_;exact hK _ (Own.mk_ref (s:=sl) (d:=dd) h.sub)
 |none=>
  rw[hp] at hK;refine cdecF (by decide) ?_;have e:putT T T.length (s,0)=T++ [(s,0)]:=by unfold putT;simp
  (repeat (first|(refine h.al fun w h=>?_)|(refine h.dr fun w h=>?_)|(refine h.lc_2 rfl ?_)|(refine h.lc_6 rfl ?_)|(refine ⟨_,h.ldc rfl,?_⟩)|(refine ⟨_,h.ldd rfl,?_⟩)|(refine h.hd rfl ?_)|(refine ⟨h.ldc rfl,?_⟩)|(refine ⟨h.ldd rfl,?_⟩)|(refine h.stLc rfl rfl fun w h=>?_)|(refine exs ?_)|(refine _root_.Go.Vc.a2 ?_)|(refine h.stc rfl rfl fun w h=>?_)|(refine h.std rfl rfl fun w h=>?_)))
  rw[hlen];refine rput_o (z:=(s,0)) hl (Nat.le_refl _) h fun w h=>?_
  rw[e] at h;exact hK _ h.sub
end
end Go.Proofs.YtogmbmdbgkopjaaGreat.Tr
end
section
set_option maxRecDepth 100000
namespace Go.Proofs.YtogmbmdbgkopjaaGreat
open Go Go.Vc Go.Proofs
theorem S.qdh0 {a K w}:Fr (C.qdh a K w) (∀b:Bool->Pw,(∀(c:Bool) (d:World),(bif c then (K none 1 d) else (∃(b:Sl) (c:World),MkSlR Tryz.prog 230 (.z a) (.z a) d b c/\Al c (.cells #[.slice b.a b.len b.cap] 232) fun a=>K (some (.mk c.heap.size 0 none)) 0 a))->b c d)->(bif decide (a<1) then (b true w) else (b (decide (a>64)) w))):=okT Tryz.func62 .g32
end Go.Proofs.YtogmbmdbgkopjaaGreat
end
