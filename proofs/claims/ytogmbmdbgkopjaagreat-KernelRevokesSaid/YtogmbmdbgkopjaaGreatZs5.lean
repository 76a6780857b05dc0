/- What the row rests on: the declarations that it needs, out of my texts (part 5). -/
import Derived.Test.YtogmbmdbgkopjaaGreatZs4
set_option linter.unusedVariables false
set_option linter.unusedSimpArgs false
set_option linter.unusedSectionVars false
section
set_option maxRecDepth 8000
namespace Go.Proofs.YtogmbmdbgkopjaaGreat.Th
open Go Go.Vc Go.Proofs
section
variable {m:Mt}
theorem th_setTh {n k:Int} {t:Thd} (hn:m.isT n=true):(m.setTh n t).th k=if k=n then t else m.th k:=by
 obtain ⟨n0,n1,_⟩:=isT_get hn;unfold Mt.th Mt.setTh;by_cases hk:k<0
 ·rw[if_pos hk,if_pos hk,if_neg (by omega)]
 ·rw[if_neg hk,if_neg hk]
  simp only;rw[List.getElem?_set];by_cases e:k=n
  ·subst e;rw[if_pos rfl,if_pos (by omega),if_pos rfl];rfl
  ·rw[if_neg (by omega),if_neg e]
theorem q_setQ {c k:Int} {Q:Qs} (hc:m.isC c=true):(m.setQ c Q).q k=if k=c then Q else m.q k:=by
 obtain ⟨n0,n1⟩:=isC_iff.1 hc;unfold Mt.q Mt.setQ;by_cases hk:k<0
 ·rw[if_pos hk,if_pos hk,if_neg (by omega)]
 ·rw[if_neg hk,if_neg hk]
  simp only;rw[List.getElem?_set];by_cases e:k=c
  ·subst e;rw[if_pos rfl,if_pos (by omega),if_pos rfl];rfl
  ·rw[if_neg (by omega),if_neg e]
theorem run_setR {c k v:Int} (c0:0≤c) (c1:c<m.runs.length):(m.setR c v).run k=if k=c then v else m.run k:=by
 unfold Mt.run Mt.setR;by_cases hk:k<0
 ·rw[if_pos hk,if_pos hk,if_neg (by omega)]
 ·rw[if_neg hk,if_neg hk]
  simp only;rw[List.getElem?_set];by_cases e:k=c
  ·subst e;rw[if_pos rfl,if_pos (by omega),if_pos rfl];rfl
  ·rw[if_neg (by omega),if_neg e]
theorem setTh_q {n k:Int} {t:Thd}:(m.setTh n t).q k=m.q k:=rfl
theorem setTh_run {n k:Int} {t:Thd}:(m.setTh n t).run k=m.run k:=rfl
theorem setQ_th {n k:Int} {t:Qs}:(m.setQ n t).th k=m.th k:=rfl
theorem setQ_run {n k:Int} {t:Qs}:(m.setQ n t).run k=m.run k:=rfl
theorem setR_th {n k t:Int}:(m.setR n t).th k=m.th k:=rfl
theorem setR_q {n k t:Int}:(m.setR n t).q k=m.q k:=rfl
theorem setQ_isT {n k:Int} {t:Qs}:(m.setQ n t).isT k=m.isT k:=rfl
theorem setQ_isC {n k:Int} {t:Qs}:(m.setQ n t).isC k=m.isC k:=by unfold Mt.setQ Mt.isC;simp
structure InvX (o:Int) (m:Mt):Prop where
 ok:MOk m
 pr:∀n,m.isT n=true->0≤(m.th n).pr/\(m.th n).pr<256
 le:∀n,m.isT n=true->1≤(m.th n).le/\(m.th n).le≤5
 qok:∀c,QOk (m.q c)
 inq:∀c,m.isC c=true->∀(p:Nat) n,(p,n)∈m.q c↔(m.isT n=true/\n≠o/\(m.th n).co=c/\(m.th n).st=1/\(m.th n).pr=(p:Int))
 inr:∀c,m.isC c=true->∀n,m.isT n=true->(m.run c=n↔(n≠o/\(m.th n).co=c/\(m.th n).st=2))
theorem InvX.co {o:Int} (hi:InvX o m) {n:Int} (hn:m.isT n=true):m.isC (m.th n).co=true:=isC_iff.2 (hi.ok.th hn).1
theorem take_mem {Q:Qs} {n:Int} {p:Nat} {k:Int}:(p,k)∈(takeR Q n).2↔(p,k)∈Q/\k≠n:=by
 unfold takeR;split
 ·rw[List.mem_filter];simp
 ·rename_i e
  exact ⟨fun h=>⟨h,wh_none.1 e _ h⟩,fun h=>h.1⟩
theorem take_ok {Q:Qs} {n:Int} (h:QOk Q):QOk (takeR Q n).2:=by
 unfold takeR;split
 ·exact ⟨h.nodup.sublist (List.Sublist.map _ List.filter_sublist),fun x hx=>h.prio x (List.mem_filter.1 hx).1,Nat.le_trans (List.length_filter_le _ _) h.few⟩
 ·exact h
theorem InvX.leave0 (hi:InvX (-1) m) {n:Int} (hn:m.isT n=true):InvX n (m.leave0 n):=by
 have hc:=hi.co hn;have hok:=hi.ok;obtain ⟨c0,c1⟩:=isC_iff.1 hc;have hcr:=hi.ok.cores;obtain ⟨n0,_,_⟩:=isT_get hn;have neg:∀k,m.isT k=true->k≠ -1:=fun k hk=>by have:=(isT_get hk).1;omega
 unfold Mt.leave0;split
 ·rename_i hs
  refine ⟨hi.ok.setQ (takeR_ids hok.qline),hi.pr,hi.le,fun c=>?_,fun c hc2 p k=>?_,fun c hc2 k hk=>?_⟩
  ·rw[q_setQ hc];split
   ·exact take_ok (hi.qok _)
   ·exact hi.qok c
  ·rw[setQ_isC] at hc2
   rw[q_setQ hc,setQ_th,setQ_isT];split
   ·rename_i e
    subst e;rw[take_mem,hi.inq _ hc];constructor
    ·rintro ⟨⟨h1,h2,h3⟩,h4⟩;exact ⟨h1,h4,h3⟩
    ·rintro ⟨h1,h4,h3⟩;exact ⟨⟨h1,neg k h1,h3⟩,h4⟩
   ·rename_i e
    rw[hi.inq _ hc2];constructor
    ·rintro ⟨h1,h2,h3⟩;exact ⟨h1,fun e2=>e (by rw[←h3.1,e2]),h3⟩
    ·rintro ⟨h1,h4,h3⟩;exact ⟨h1,neg k h1,h3⟩
  ·rw[setQ_isC] at hc2
   rw[setQ_run,setQ_th,hi.inr c hc2 k hk];constructor
   ·rintro ⟨h1,h2,h3⟩;exact ⟨fun e=>by rw[e,hs] at h3;omega,h2,h3⟩
   ·rintro ⟨h1,h3⟩;exact ⟨neg k hk,h3⟩
 ·rename_i hs1
  split
  ·rename_i hs
   refine ⟨hi.ok.setR (.inl rfl),hi.pr,hi.le,hi.qok,fun c hc2 p k=>?_,fun c hc2 k hk=>?_⟩
   ·rw[setR_isC] at hc2
    rw[setR_q,setR_th,setR_isT,hi.inq c hc2];constructor
    ·rintro ⟨h1,h2,h3,h4,h5⟩;exact ⟨h1,fun e=>by rw[e,hs] at h4;omega,h3,h4,h5⟩
    ·rintro ⟨h1,h2,h3⟩;exact ⟨h1,neg k h1,h3⟩
   ·rw[setR_isC] at hc2
    rw[setR_isT] at hk;rw[run_setR c0 (by omega),setR_th];split
    ·rename_i e
     constructor
     ·intro e2;exact absurd e2.symm (neg k hk)
     ·rintro ⟨h1,h2,h3⟩
      have a1:=(hi.inr c hc2 k hk).2 ⟨neg k hk,h2,h3⟩;have a2:=(hi.inr c hc2 n hn).2 ⟨neg n hn,e.symm,hs⟩;exact absurd (a1.symm.trans a2) h1
    ·rename_i e
     rw[hi.inr c hc2 k hk];constructor
     ·rintro ⟨h1,h2,h3⟩;exact ⟨fun e2=>e (by rw[←h2,e2]),h2,h3⟩
     ·rintro ⟨h1,h3⟩;exact ⟨neg k hk,h3⟩
  ·rename_i hs2
   refine ⟨hi.ok,hi.pr,hi.le,hi.qok,fun c hc2 p k=>?_,fun c hc2 k hk=>?_⟩
   ·rw[hi.inq c hc2]
    constructor
    ·rintro ⟨h1,h2,h3,h4,h5⟩;exact ⟨h1,fun e=>by rw[e] at h4;exact hs1 h4,h3,h4,h5⟩
    ·rintro ⟨h1,h2,h3⟩;exact ⟨h1,neg k h1,h3⟩
   ·rw[hi.inr c hc2 k hk]
    constructor
    ·rintro ⟨h1,h2,h3⟩;exact ⟨fun e=>by rw[e] at h3;exact hs2 h3,h2,h3⟩
    ·rintro ⟨h1,h3⟩;exact ⟨neg k hk,h3⟩
theorem InvX.set {n:Int} (hi:InvX n m) (hn:m.isT n=true) {t:Thd} (h1:0≤t.co/\t.co<m.qs.length) (h2:0≤t.pr/\t.pr<256) (h3:1≤t.le/\t.le≤5):InvX n (m.setTh n t):=by
 refine ⟨hi.ok.setTh h1 rfl,fun k hk=>?_,fun k hk=>?_,hi.qok,fun c hc p k=>?_,fun c hc k hk=>?_⟩
 ·rw[th_setTh hn];rw[setTh_isT] at hk;split
  ·exact h2
  ·exact hi.pr k hk
 ·rw[th_setTh hn];rw[setTh_isT] at hk;split
  ·exact h3
  ·exact hi.le k hk
 ·rw[setTh_q,setTh_isT,th_setTh hn,hi.inq c hc]
  by_cases e:k=n
  ·subst e;exact ⟨fun h=>absurd rfl h.2.1,fun h=>absurd rfl h.2.1⟩
  ·rw[if_neg e]
 ·rw[setTh_isT] at hk
  rw[setTh_run,th_setTh hn,hi.inr c hc k hk];by_cases e:k=n
  ·subst e;exact ⟨fun h=>absurd rfl h.1,fun h=>absurd rfl h.1⟩
  ·rw[if_neg e]
theorem leave0_th {n k:Int}:(m.leave0 n).th k=m.th k:=by unfold Mt.th;rw[leave0_len.1]
theorem leave0_isT {n k:Int}:(m.leave0 n).isT k=m.isT k:=by unfold Mt.isT;rw[leave0_len.1]
theorem InvX.leave (hi:InvX (-1) m) {n s:Int} (hn:m.isT n=true):InvX n (m.leave n s):=by
 unfold Mt.leave;have h0:=hi.leave0 hn;have hn0:(m.leave0 n).isT n=true:=by rw[leave0_isT];exact hn
 refine h0.set hn0 ?_ (hi.pr n hn) (hi.le n hn);rw[leave0_len.2];exact (hi.ok.th hn).1
theorem th_leave {n s k:Int} (hn:m.isT n=true):(m.leave n s).th k=if k=n then { m.th n with st:=s} else m.th k:=by
 unfold Mt.leave;rw[th_setTh (by rw[leave0_isT];exact hn),leave0_th]
theorem th_lineUp {n k:Int} (hn:m.isT n=true):(m.lineUp n).th k=if k=n then { m.th n with st:=1} else m.th k:=by
 unfold Mt.lineUp;rw[setQ_th,th_setTh hn]
theorem InvX.noq {n:Int} (hi:InvX n m) {c:Int} (hc:m.isC c=true):wh (m.q c) n=none:=wh_none.2 fun x hx e=>by
 obtain ⟨p,k⟩:=x;exact ((hi.inq c hc p k).1 hx).2.1 e
theorem InvX.up {n:Int} (hi:InvX n m) (hn:m.isT n=true):InvX (-1) (m.lineUp n):=by
 have hc:=hi.co hn;have hw:=hi.noq hc;have hp:=hi.pr n hn;have hok:=hi.ok.lineUp hn;have hids:=ids_len (hi.qok _) (hi.ok.qline (c:=(m.th n).co));have hfew:=hi.ok.few;have neg:∀k,m.isT k=true->k≠ -1:=fun k hk=>by have:=(isT_get hk).1;omega
 have hput:(putR (m.q (m.th n).co) (m.th n).pr n).2=m.q (m.th n).co++ [((m.th n).pr.toNat,n)]:=by
  unfold putR;rw[if_neg (by omega),hw]
 have hpt:((m.th n).pr.toNat:Int)=(m.th n).pr:=by omega
 have hc1:(m.setTh n { m.th n with st:=1}).isC (m.th n).co=true:=hc;refine ⟨hok,fun k hk=>?_,fun k hk=>?_,fun c=>?_,fun c hc2 p k=>?_,fun c hc2 k hk=>?_⟩
 ·rw[th_lineUp hn];rw[lineUp_isT] at hk;split
  ·exact hp
  ·exact hi.pr k hk
 ·rw[th_lineUp hn];rw[lineUp_isT] at hk;split
  ·exact hi.le n hn
  ·exact hi.le k hk
 ·unfold Mt.lineUp
  rw[q_setQ hc1,hput,setTh_q];split
  ·exact put_ok (hi.qok _) (by omega) hw (by omega)
  ·exact hi.qok c
 ·rw[lineUp_isC] at hc2
  rw[lineUp_isT,th_lineUp hn]
  have e0:(m.lineUp n).q c=if c=(m.th n).co then m.q (m.th n).co++ [((m.th n).pr.toNat,n)] else m.q c:=by
   unfold Mt.lineUp;rw[q_setQ hc1,hput,setTh_q]
  rw[e0];by_cases e:c=(m.th n).co
  ·subst e
   rw[if_pos rfl,List.mem_append,List.mem_singleton,hi.inq _ hc2];by_cases ek:k=n
   ·subst ek
    rw[if_pos rfl];constructor
    ·rintro (h|h)
     ·exact absurd rfl h.2.1
     ·cases h;exact ⟨hn,neg k hn,rfl,rfl,hpt.symm⟩
    ·rintro ⟨_,_,_,_,h5⟩
     refine .inr ?_;have:(m.th k).pr.toNat=p:=by have h5:(m.th k).pr=p:=h5;omega
     rw[this]
   ·rw[if_neg ek]
    constructor
    ·rintro (⟨h1,h2,h3⟩|h)
     ·exact ⟨h1,neg k h1,h3⟩
     ·cases h;exact absurd rfl ek
    ·rintro ⟨h1,h2,h3⟩;exact .inl ⟨h1,ek,h3⟩
  ·rw[if_neg e,hi.inq _ hc2]
   by_cases ek:k=n
   ·subst ek
    rw[if_pos rfl];exact ⟨fun h=>absurd rfl h.2.1,fun h=>absurd h.2.2.1.symm e⟩
   ·rw[if_neg ek]
    exact ⟨fun h=>⟨h.1,neg k h.1,h.2.2⟩,fun h=>⟨h.1,ek,h.2.2⟩⟩
 ·rw[lineUp_isC] at hc2
  rw[lineUp_isT] at hk;rw[th_lineUp hn];show m.run c=k↔_;rw[hi.inr c hc2 k hk];by_cases ek:k=n
  ·subst ek
   rw[if_pos rfl];exact ⟨fun h=>absurd rfl h.1,fun h=>absurd (show (1:Int)=2 from h.2.2) (by decide)⟩
  ·rw[if_neg ek]
   exact ⟨fun h=>⟨neg k hk,h.2⟩,fun h=>⟨ek,h.2⟩⟩
theorem InvX.still {n:Int} (hi:InvX n m) (h1:(m.th n).st≠1) (h2:(m.th n).st≠2):InvX (-1) m:=by
 have neg:∀k,m.isT k=true->k≠ -1:=fun k hk=>by have:=(isT_get hk).1;omega
 refine ⟨hi.ok,hi.pr,hi.le,hi.qok,fun c hc p k=>?_,fun c hc k hk=>?_⟩
 ·rw[hi.inq c hc]
  exact ⟨fun h=>⟨h.1,neg k h.1,h.2.2⟩,fun h=>⟨h.1,fun e=>h1 (by rw[←e];exact h.2.2.2.1),h.2.2⟩⟩
 ·rw[hi.inr c hc k hk]
  exact ⟨fun h=>⟨neg k hk,h.2⟩,fun h=>⟨fun e=>h2 (by rw[←e];exact h.2.2),h.2⟩⟩
theorem InvX.out {n:Int} (hi:InvX (-1) m) (h1:(m.th n).st≠1) (h2:(m.th n).st≠2):InvX n m:=by
 have neg:∀k,m.isT k=true->k≠ -1:=fun k hk=>by have:=(isT_get hk).1;omega
 refine ⟨hi.ok,hi.pr,hi.le,hi.qok,fun c hc p k=>?_,fun c hc k hk=>?_⟩
 ·rw[hi.inq c hc]
  exact ⟨fun h=>⟨h.1,fun e=>h1 (by rw[←e];exact h.2.2.2.1),h.2.2⟩,fun h=>⟨h.1,neg k h.1,h.2.2⟩⟩
 ·rw[hi.inr c hc k hk]
  exact ⟨fun h=>⟨fun e=>h2 (by rw[←e];exact h.2.2),h.2⟩,fun h=>⟨neg k hk,h.2⟩⟩
theorem InvX.go {n c:Int} (hi:InvX n m) (hn:m.isT n=true) (h1:(m.th n).st=2) (h2:(m.th n).co=c) (hc:m.isC c=true) (hr:m.run c= -1):InvX (-1) (m.setR c n):=by
 have neg:∀k,m.isT k=true->k≠ -1:=fun k hk=>by have:=(isT_get hk).1;omega
 obtain ⟨c0,c1⟩:=isC_iff.1 hc;have hcr:=hi.ok.cores;refine ⟨hi.ok.setRT hn,hi.pr,hi.le,hi.qok,fun d hd p k=>?_,fun d hd k hk=>?_⟩
 ·rw[setR_isC] at hd
  rw[setR_q,setR_isT,setR_th,hi.inq d hd];exact ⟨fun h=>⟨h.1,neg k h.1,h.2.2⟩,fun h=>⟨h.1,fun e=>by rw[e,h1] at h;exact absurd h.2.2.2.1 (by decide),h.2.2⟩⟩
 ·rw[setR_isC] at hd
  rw[setR_isT] at hk;rw[run_setR c0 (by omega),setR_th];by_cases e:d=c
  ·subst e
   rw[if_pos rfl];constructor
   ·intro e2;subst e2;exact ⟨neg _ hk,h2,h1⟩
   ·rintro ⟨h3,h4⟩
    by_cases ek:k=n
    ·exact ek.symm
    ·have:=(hi.inr d hd k hk).2 ⟨ek,h4⟩
     rw[hr] at this;exact absurd this.symm (neg k hk)
  ·rw[if_neg e,hi.inr d hd k hk]
   exact ⟨fun h=>⟨neg k hk,h.2⟩,fun h=>⟨fun e2=>e (by rw[←h.2.1,e2,h2]),h.2⟩⟩
theorem InvX.keep (hi:InvX (-1) m) {n:Int} (hn:m.isT n=true) {t:Thd} (h1:t.co=(m.th n).co) (h2:t.st=(m.th n).st) (h3:(m.th n).st=1->t.pr=(m.th n).pr) (h4:0≤t.pr/\t.pr<256) (h5:1≤t.le/\t.le≤5):InvX (-1) (m.setTh n t):=by
 refine ⟨hi.ok.setTh (by rw[h1];exact (hi.ok.th hn).1) rfl,fun k hk=>?_,fun k hk=>?_,hi.qok,fun c hc p k=>?_,fun c hc k hk=>?_⟩
 ·rw[th_setTh hn];rw[setTh_isT] at hk;split
  ·exact h4
  ·exact hi.pr k hk
 ·rw[th_setTh hn];rw[setTh_isT] at hk;split
  ·exact h5
  ·exact hi.le k hk
 ·rw[setTh_q,setTh_isT,th_setTh hn,hi.inq c hc]
  by_cases e:k=n
  ·subst e
   rw[if_pos rfl,h1,h2];exact ⟨fun h=>⟨h.1,h.2.1,h.2.2.1,h.2.2.2.1,by rw[h3 h.2.2.2.1];exact h.2.2.2.2⟩,fun h=>⟨h.1,h.2.1,h.2.2.1,h.2.2.2.1,by rw[←h3 h.2.2.2.1];exact h.2.2.2.2⟩⟩
  ·rw[if_neg e]
 ·rw[setTh_isT] at hk
  rw[setTh_run,th_setTh hn,hi.inr c hc k hk];by_cases e:k=n
  ·subst e;rw[if_pos rfl,h1,h2]
  ·rw[if_neg e]
theorem th_make {p c k:Int}:(m.make p c).th k=if k=(m.ths.length:Int) then ⟨0,p,c,5,fun _=>0⟩ else m.th k:=by
 unfold Mt.th Mt.make;by_cases hk:k<0
 ·rw[if_pos hk,if_neg (by omega),if_pos hk]
 ·rw[if_neg hk]
  simp only;by_cases e:k=(m.ths.length:Int)
  ·subst e;rw[if_pos rfl,Int.toNat_natCast,List.getElem?_append_right (Nat.le_refl _),Nat.sub_self];rfl
  ·rw[if_neg e,if_neg hk]
   by_cases e2:k.toNat<m.ths.length
   ·rw[List.getElem?_append_left e2]
   ·rw[List.getElem?_eq_none (by simp;omega),List.getElem?_eq_none (by omega)]
theorem make_isT {p c k:Int}:(m.make p c).isT k=true↔(m.isT k=true∨k=(m.ths.length:Int)):=by
 unfold Mt.isT Mt.make;simp only[List.length_append,List.length_cons,List.length_nil,Bool.and_eq_true,decide_eq_true_eq];omega
theorem InvX.make (hi:InvX (-1) m) {p c:Int} (hl:m.ths.length<64) (hc:m.isC c=true) (hp:0≤p/\p<256):InvX (-1) (m.make p c):=by
 have notT:m.isT (m.ths.length:Int)≠true:=by unfold Mt.isT;simp
 refine ⟨hi.ok.make hl hc,fun k hk=>?_,fun k hk=>?_,hi.qok,fun d hd q k=>?_,fun d hd k hk=>?_⟩
 ·rw[th_make]
  rcases make_isT.1 hk with h|h
  ·split
   ·exact hp
   ·exact hi.pr k h
  ·rw[if_pos h];exact hp
 ·rw[th_make]
  rcases make_isT.1 hk with h|h
  ·split
   ·exact ⟨by show (1:Int)≤5;decide,by show (5:Int)≤5;decide⟩
   ·exact hi.le k h
  ·rw[if_pos h];exact ⟨by show (1:Int)≤5;decide,by show (5:Int)≤5;decide⟩
 ·show (q,k)∈m.q d↔_
  rw[hi.inq d hd,make_isT,th_make];by_cases e:k=(m.ths.length:Int)
  ·rw[if_pos e,e]
   exact ⟨fun h=>absurd h.1 notT,fun h=>absurd (show (0:Int)=1 from h.2.2.2.1) (by decide)⟩
  ·rw[if_neg e]
   exact ⟨fun h=>⟨.inl h.1,h.2⟩,fun h=>⟨h.1.resolve_right e,h.2⟩⟩
 ·show m.run d=k↔_
  rw[th_make];by_cases e:k=(m.ths.length:Int)
  ·rw[if_pos e,e]
   refine ⟨fun h=>?_,fun h=>absurd (show (0:Int)=2 from h.2.2) (by decide)⟩;obtain ⟨d0,d1⟩:=isC_iff.1 hd;have d1:d<(m.qs.length:Int):=d1;have hcr:=hi.ok.cores;have:=hi.ok.run _ (List.mem_of_getElem? (r_get (m:=m) d0 (by omega)));omega
  ·rw[if_neg e]
   exact hi.inr d hd k ((make_isT.1 hk).resolve_right e)
theorem newM_q {c:Nat} {d:Int}:(newM c).q d= []:=by
 unfold Mt.q newM;split
 ·rfl
 ·simp only
  cases e:(List.replicate c ([]:Qs))[d.toNat]? with
  |none=>rfl
  |some Q=>have:=List.mem_of_getElem? e;rw[List.mem_replicate] at this;rw[this.2];rfl
theorem newM_isT {c:Nat} {k:Int}:(newM c).isT k≠true:=by unfold Mt.isT newM;simp
theorem newM_inv {c:Nat} (h8:c≤8):InvX (-1) (newM c):=by
 refine ⟨newM_ok h8,fun k hk=>absurd hk newM_isT,fun k hk=>absurd hk newM_isT,fun d=>?_,fun d hd p k=>?_,fun d hd k hk=>absurd hk newM_isT⟩
 ·rw[newM_q];exact ⟨by simp,by simp,by simp⟩
 ·rw[newM_q];exact ⟨fun h=>by simp at h,fun h=>absurd h.1 newM_isT⟩
end
section
variable {B:Nat} {w0 w:World} {R L:List Asn} {b:Nat} {m:Mt}
def Mt.resumeR (m:Mt) (n:Int):Int × Mt:=if m.isT n=false then (100,m) else if (m.th n).st=1∨(m.th n).st=2 then (101,m) else (0,m.lineUp n)
def Mt.suspendR (m:Mt) (n:Int):Int × Mt:=if m.isT n=false then (100,m) else if (m.th n).st=0 then (101,m) else (0,m.leave n 0)
def Mt.blockR (m:Mt) (n:Int):Int × Mt:=if m.isT n=false then (100,m) else if (m.th n).st≠2 then (101,m) else (0,m.leave n 3)
def Mt.prioR (m:Mt) (n p:Int):Int × Mt:=if m.isT n=false then (100,m) else if ¬(0≤p/\p<256) then (1,m) else
 if (m.th n).st=1 then (0,((m.leave n 1).setTh n {(m.leave n 1).th n with pr:=p}).lineUp n) else (0,m.setTh n { m.th n with pr:=p})
def Mt.regR (m:Mt) (n i v:Int):Int × Mt:=if m.isT n=false then (100,m) else if ¬(0≤i/\i<8) then (1,m) else (0,m.reg n i.toNat v)
def Mt.makeR (m:Mt) (p c:Int):Int × Int × Mt:=if ¬(0≤p/\p<256/\m.isC c=true) then (0,1,m) else if 64≤m.ths.length then (0,2,m) else ((m.ths.length:Int),0,m.make p c)
theorem resume_g {n:Int} {K:Int->World->Prop} (hm:MOk m) (h:Own B w0 w (ThrA b m::R)) (hK:∀w',Own B w0 w' (ThrA b (m.resumeR n).2::R)->K (m.resumeR n).1 w'):C.qw (some ⟨b,0,none⟩) n K w:=by
 unfold Mt.resumeR at hK;refine thr_Resume_spec hm h (fun e w h=>?_) (fun e e1 w h=>?_) (fun e e1 e2 w h=>?_)
 ·rw[if_pos e] at hK;exact hK w h
 ·rw[if_neg (by rw[e];simp),if_pos e1] at hK;exact hK w h
 ·rw[if_neg (by rw[e];simp),if_neg (fun hh=>hh.elim e1 e2)] at hK;exact hK w h
theorem suspend_g {n:Int} {K:Int->World->Prop} (hm:MOk m) (h:Own B w0 w (ThrA b m::R)) (hK:∀w',Own B w0 w' (ThrA b (m.suspendR n).2::R)->K (m.suspendR n).1 w'):C.qA (some ⟨b,0,none⟩) n K w:=by
 unfold Mt.suspendR at hK;refine thr_Suspend_spec hm h (fun e w h=>?_) (fun e e1 w h=>?_) (fun e e1 w h=>?_)
 ·rw[if_pos e] at hK;exact hK w h
 ·rw[if_neg (by rw[e];simp),if_pos e1] at hK;exact hK w h
 ·rw[if_neg (by rw[e];simp),if_neg e1] at hK;exact hK w h
theorem block_g {n:Int} {K:Int->World->Prop} (hm:MOk m) (h:Own B w0 w (ThrA b m::R)) (hK:∀w',Own B w0 w' (ThrA b (m.blockR n).2::R)->K (m.blockR n).1 w'):C.qX (some ⟨b,0,none⟩) n K w:=by
 unfold Mt.blockR at hK;refine thr_Block_spec hm h (fun e w h=>?_) (fun e e1 w h=>?_) (fun e e1 w h=>?_)
 ·rw[if_pos e] at hK;exact hK w h
 ·rw[if_neg (by rw[e];simp),if_pos e1] at hK;exact hK w h
 ·rw[if_neg (by rw[e];simp),if_neg (fun hh=>hh e1)] at hK;exact hK w h
theorem make_g {p c:Int} {K:Int->Int->World->Prop} (hm:MOk m) (h:Own B w0 w (ThrA b m::R)) (hK:∀w',Own B w0 w' (ThrA b (m.makeR p c).2.2::R)->K (m.makeR p c).1 (m.makeR p c).2.1 w'):C.qD (some ⟨b,0,none⟩) p c K w:=by
 unfold Mt.makeR at hK;refine thr_Make_spec hm h (fun e w h=>?_) (fun e e1 w h=>?_) (fun e e1 w h=>?_)
 ·rw[if_pos e] at hK;exact hK w h
 ·rw[if_neg (fun hh=>hh e),if_pos e1] at hK;exact hK w h
 ·rw[if_neg (fun hh=>hh e),if_neg (by omega)] at hK;exact hK w h
theorem first2 {x y:Int} {K:Int->World->Prop} (h:Own B w0 w L) (hK:∀w',Own B w0 w' L->K (if x≠0 then x else y) w'):Al w (.cells #[.int .i64 x, .int .i64 y] 23) fun w12=>C.qaY ⟨some (Addr.mk w.heap.size 0 none),2,2⟩ K w12:=by
 refine h.al fun w2 h=>?_
 generalize w.heap.size=d at h⊢;exact thr_first_spec h fun w h=>hK w h.drop
theorem reg_g {n i v:Int} {K:Int->World->Prop} (hm:MOk m) (h:Own B w0 w (ThrA b m::R)) (hK:∀w',Own B w0 w' (ThrA b (m.regR n i v).2::R)->K (m.regR n i v).1 w'):C.qu (some ⟨b,0,none⟩) n i v K w:=by
 unfold Mt.regR at hK;by_cases hT:m.isT n=true
 ·rw[if_neg (by rw[hT];simp)] at hK
  by_cases hi:0≤i/\i<8
  ·rw[if_neg (fun hh=>hh hi)] at hK
   obtain ⟨k,rfl⟩:=Int.eq_ofNat_of_zero_le hi.1;exact reg_p hm hT (by omega) h hK
  ·rw[if_pos hi] at hK
   apply S.qu0;unfold S.qu;obtain ⟨l,q,r,bs,hbs,h⟩:=h.thr;refine thr_one_o h (fun e=>by rw[hT] at e;cases e) fun a _ ha=>?_
   intro k7 hk7;refine thr_when_spec ?_;refine cdec (fun e=>?_) (fun e=>?_)
   ·refine thr_when_spec (first2 h fun w h=>?_)
    exact hk7 _ _ (cneT (by simp) (hK w (Own.mk_thr hbs h)))
   ·refine thr_when_spec ?_
    rw[decide_eq_true (show i≥8 by omega)];refine first2 h fun w h=>?_
    exact hk7 _ _ (cneT (by simp) (hK w (Own.mk_thr hbs h)))
 ·have hF:m.isT n=false:=by simpa using hT
  rw[if_pos hF] at hK;apply S.qu0;unfold S.qu;obtain ⟨l,q,r,bs,hbs,h⟩:=h.thr;refine thr_one_o h (fun e=>?_) fun a e ha=>by rw[hF] at e;cases e
  intro k7 hk7;refine thr_when_spec ?_;refine cdec (fun e=>?_) (fun e=>?_)
  ·refine thr_when_spec (first2 h fun w h=>?_)
   exact hk7 _ _ (cneT (by simp) (hK w (Own.mk_thr hbs h)))
  ·refine thr_when_spec (first2 h fun w h=>?_)
   exact hk7 _ _ (cneT (by simp) (hK w (Own.mk_thr hbs h)))
theorem prio_g {n p:Int} {K:Int->World->Prop} (hm:MOk m) (h:Own B w0 w (ThrA b m::R)) (hK:∀w',Own B w0 w' (ThrA b (m.prioR n p).2::R)->K (m.prioR n p).1 w'):C.qat (some ⟨b,0,none⟩) n p K w:=by
 unfold Mt.prioR at hK;apply S.qat0;unfold S.qat;obtain ⟨l,q,r,bs,hbs,h⟩:=h.thr;refine thr_one_o h (fun e=>?_) fun a hT ha=>?_
 ·rw[if_pos e] at hK
  refine thr_when_spec (thr_prio_spec (thr_when_spec (first2 h fun w h=>?_)));exact cneT (by simp) (hK w (Own.mk_thr hbs h))
 ·rw[if_neg (by rw[hT];simp)] at hK
  obtain ⟨n0,n1,hx⟩:=isT_get hT;refine thr_when_spec (thr_prio_spec (thr_when_spec (first2 h fun w h=>?_)));by_cases hp:0≤p/\p<256
  ·rw[if_neg (fun hh=>hh hp)] at hK
   rw[decide_eq_true hp.1,decide_eq_true hp.2];refine cneF (by simp) ?_;refine ⟨_,rfl,_,ldTh (c:=0) h n0 hx ha rfl, ?_⟩;refine cne (fun e=>?_) (fun e=>?_)
   ·rw[if_neg e] at hK
    refine ⟨_,rfl, ?_⟩;refine stTh (c:=1) (t':={ m.th n with pr:=p}) h n0 hx ha rfl (by decide) rfl fun w h=>?_
    exact hK w (Own.mk_thr (m:=m.setTh n { m.th n with pr:=p}) hbs h)
   ·rw[if_pos e] at hK
    have hm1:=hm.leave (s:=1) hT;have hT1:(m.leave n 1).isT n=true:=by rw[leave_isT];exact hT
    have hq1:(m.leave n 1).qs.length=m.qs.length:=leave0_len.2;refine thr_leave_o hm hT hbs h fun w h=>?_
    obtain ⟨_,_,hx1⟩:=isT_get hT1;generalize m.leave n 1=mb at*
    refine ⟨_,rfl, ?_⟩;refine stTh (c:=1) (t':={ mb.th n with pr:=p}) h n0 hx1 ha rfl (by decide) rfl fun w h=>?_
    have h:Own B w0 w (ThrA b (mb.setTh n { mb.th n with pr:=p})::R):=Own.mk_thr (m:=mb.setTh n { mb.th n with pr:=p}) (by show bs.length=mb.qs.length;omega) h;have hm2:MOk (mb.setTh n { mb.th n with pr:=p}):=hm1.setTh (t:={ mb.th n with pr:=p}) (hm1.th hT1).1 rfl;have hT2:(mb.setTh n { mb.th n with pr:=p}).isT n=true:=by rw[setTh_isT];exact hT1
    exact thr_lineUp_spec hm2 hT2 h hK
  ·rw[if_pos hp] at hK
   have e:(!(decide (0≤p)&&decide (p<256)))=true:=by
    by_cases e1:0≤p
    ·rw[decide_eq_true e1,decide_eq_false (by omega)];rfl
    ·rw[decide_eq_false e1];rfl
   rw[e];exact cneT (by simp) (hK w (Own.mk_thr hbs h))
theorem InvX.resume (hi:InvX (-1) m) (n:Int):InvX (-1) (m.resumeR n).2:=by
 unfold Mt.resumeR;split
 ·exact hi
 ·rename_i e
  have hT:m.isT n=true:=by simpa using e
  split
  ·exact hi
  ·rename_i e1
   exact (hi.out (fun h=>e1 (.inl h)) (fun h=>e1 (.inr h))).up hT
theorem InvX.suspend (hi:InvX (-1) m) (n:Int):InvX (-1) (m.suspendR n).2:=by
 unfold Mt.suspendR;split
 ·exact hi
 ·rename_i e
  have hT:m.isT n=true:=by simpa using e
  split
  ·exact hi
  ·refine (hi.leave hT).still ?_ ?_<;>(rw[th_leave hT,if_pos rfl];show (0:Int)≠_;decide)
theorem InvX.block (hi:InvX (-1) m) (n:Int):InvX (-1) (m.blockR n).2:=by
 unfold Mt.blockR;split
 ·exact hi
 ·rename_i e
  have hT:m.isT n=true:=by simpa using e
  split
  ·exact hi
  ·refine (hi.leave hT).still ?_ ?_<;>(rw[th_leave hT,if_pos rfl];show (3:Int)≠_;decide)
theorem InvX.reg (hi:InvX (-1) m) (n i v:Int):InvX (-1) (m.regR n i v).2:=by
 unfold Mt.regR;split
 ·exact hi
 ·rename_i e
  have hT:m.isT n=true:=by simpa using e
  split
  ·exact hi
  ·exact hi.keep hT rfl rfl (fun _=>rfl) (hi.pr n hT) (hi.le n hT)
theorem InvX.prio (hi:InvX (-1) m) (n p:Int):InvX (-1) (m.prioR n p).2:=by
 unfold Mt.prioR;split
 ·exact hi
 ·rename_i e
  have hT:m.isT n=true:=by simpa using e
  split
  ·exact hi
  ·rename_i hp
   have hp:0≤p/\p<256:=Decidable.not_not.1 hp;split
   ·have h1:=hi.leave (s:=1) hT
    have hT1:(m.leave n 1).isT n=true:=by rw[leave_isT];exact hT
    exact (h1.set (t:={(m.leave n 1).th n with pr:=p}) hT1 (h1.ok.th hT1).1 hp (h1.le n hT1)).up (by rw[setTh_isT];exact hT1)
   ·rename_i e1
    exact hi.keep (t:={ m.th n with pr:=p}) hT rfl rfl (fun h=>absurd h e1) hp (hi.le n hT)
theorem InvX.makeR (hi:InvX (-1) m) (p c:Int):InvX (-1) (m.makeR p c).2.2:=by
 unfold Mt.makeR;split
 ·exact hi
 ·rename_i e
  have e:=Decidable.not_not.1 e;split
  ·exact hi
  ·exact hi.make (by omega) e.2.2 ⟨e.1,e.2.1⟩
theorem InvX.nextIn (hi:InvX (-1) m) {c n:Int} (hc:m.isC c=true) (h:nextR (m.q c)=some n):m.isT n=true/\(m.th n).co=c/\(m.th n).st=1:=by
 obtain ⟨⟨p,k⟩,hx,e⟩:=next_mem h;have e:k=n:=e;subst e;have:=(hi.inq c hc p k).1 hx;exact ⟨this.1,this.2.2.1,this.2.2.2.1⟩
theorem InvX.runIn (hi:InvX (-1) m) {c n:Int} (h:m.runs? c=some n):m.isC c=true/\m.isT n=true/\(m.th n).co=c/\(m.th n).st=2:=by
 obtain ⟨hc,h1,h2,hT⟩:=hi.ok.runT h;have:=(hi.inr c hc n hT).1 h1;exact ⟨hc,hT,this.2⟩
theorem leave_run_same {n s:Int} (h:(m.th n).st≠2) (c:Int):(m.leave n s).run c=m.run c:=by
 unfold Mt.leave Mt.leave0;rw[setTh_run];split
 ·rfl
 ·rfl
theorem leave_run_off (hi:InvX (-1) m) {n s:Int} (hn:m.isT n=true) (h:(m.th n).st=2):(m.leave n s).run (m.th n).co= -1:=by
 obtain ⟨c0,c1⟩:=(hi.ok.th hn).1;have hcr:=hi.ok.cores;unfold Mt.leave Mt.leave0;rw[setTh_run,if_neg (by omega),if_pos h,run_setR c0 (by omega),if_pos rfl]
theorem InvX.pickC (hi:InvX (-1) m) (c:Int):InvX (-1) (m.pickC c):=by
 unfold Mt.pickC;split
 ·rename_i hc
  unfold Mt.pick;cases hn:nextR (m.q c) with
  |none=>exact hi
  |some n=>
   obtain ⟨hT,hco,hst⟩:=hi.nextIn hc hn;simp only
   have last:∀m1:Mt,InvX (-1) m1->m1.isT n=true->m1.isC c=true->(m1.th n).co=c->(m1.th n).st=1->m1.run c= -1->InvX (-1) ((m1.leave n 2).setR c n):=fun m1 hi hT hc hco hst hr=>by
    refine (hi.leave hT).go (by rw[leave_isT];exact hT) (by rw[th_leave hT,if_pos rfl]) (by rw[th_leave hT,if_pos rfl];exact hco) (by rw[leave_isC];exact hc) ?_;rw[leave_run_same (by omega)];exact hr
   split
   ·rename_i hr
    exact last m hi hT hc hco hst hr
   ·rename_i hr
    split
    ·exact hi
    ·have hr2:m.runs? c=some (m.run c):=by unfold Mt.runs?;rw[if_pos ⟨hc,hr⟩]
     obtain ⟨_,hoT,hoc,hos⟩:=hi.runIn hr2;have hoT1:(m.leave (m.run c) 1).isT (m.run c)=true:=by rw[leave_isT];exact hoT
     have hne:n≠m.run c:=fun e=>by rw[←e] at hos;omega
     refine last _ ((hi.leave hoT).up hoT1) (by rw[lineUp_isT,leave_isT];exact hT) (by rw[lineUp_isC,leave_isC];exact hc) ?_ ?_ ?_
     ·rw[th_lineUp hoT1,if_neg hne,th_leave hoT,if_neg hne];exact hco
     ·rw[th_lineUp hoT1,if_neg hne,th_leave hoT,if_neg hne];exact hst
     ·show (m.leave (m.run c) 1).run c= -1
      have:=leave_run_off (s:=1) hi hoT hos;rw[hoc] at this;exact this
 ·exact hi
theorem InvX.yield (hi:InvX (-1) m) (c:Int):InvX (-1) (m.yield c):=by
 unfold Mt.yield;cases hr:m.runs? c with
 |none=>exact hi
 |some o=>
  obtain ⟨_,hT,_,_⟩:=hi.runIn hr;have hT1:(m.setTh o { m.th o with le:=5}).isT o=true:=by rw[setTh_isT];exact hT
  have h1:=hi.keep (t:={ m.th o with le:=5}) hT rfl rfl (fun _=>rfl) (hi.pr o hT) ⟨by show (1:Int)≤5;decide,by show (5:Int)≤5;decide⟩;exact ((h1.leave hT1).up (by rw[leave_isT];exact hT1)).pickC c
theorem setTh2 {n:Int} {t t':Thd}:(m.setTh n t).setTh n t'=m.setTh n t':=by unfold Mt.setTh;simp
theorem tick_eq (hi:InvX (-1) m) {c:Int}:m.tick c=match m.runs? c with
  |none=>m
  |some o=>if (m.th o).le=1 then m.yield c else m.setTh o { m.th o with le:=(m.th o).le-1}:=by
 unfold Mt.tick;cases hr:m.runs? c with
 |none=>rfl
 |some o=>
  obtain ⟨_,hT,_,_⟩:=hi.runIn hr;have hl:=hi.le o hT;simp only;rw[wr (by omega) (by omega)];by_cases e:(m.th o).le=1
  ·rw[if_pos (by omega),if_pos e]
   unfold Mt.yield;have hr2:(m.setTh o { m.th o with le:=(m.th o).le-1}).runs? c=some o:=hr;rw[hr,hr2];simp only;rw[setTh2,th_setTh hT,if_pos rfl]
  ·rw[if_neg (by omega),if_neg e]
theorem InvX.tick (hi:InvX (-1) m) (c:Int):InvX (-1) (m.tick c):=by
 rw[tick_eq hi];cases hr:m.runs? c with
 |none=>exact hi
 |some o=>
  obtain ⟨_,hT,_,_⟩:=hi.runIn hr;have hl:=hi.le o hT;simp only;split
  ·exact hi.yield c
  ·exact hi.keep (t:={ m.th o with le:=(m.th o).le-1}) hT rfl rfl (fun _=>rfl) (hi.pr o hT) ⟨by show 1≤(m.th o).le-1;omega,by show (m.th o).le-1≤5;omega⟩
end
end Go.Proofs.YtogmbmdbgkopjaaGreat.Th
end
section
set_option maxRecDepth 8000
namespace Go.Proofs.YtogmbmdbgkopjaaGreat.Tb
open Go Go.Vc Go.Proofs
abbrev Pg:=Int × Int
abbrev Pgs:=List (Int × Pg)
def Srt (P:Pgs):Prop:=P.Pairwise fun x y=>x.1<y.1
def look:Pgs->Int->Option Pg
 | [],_=>none
 |x::P,k=>if x.1=k then some x.2 else look P k
def insS:Pgs->Int->Pg->Pgs
 | [],k,v=>[(k,v)]
 |x::P,k,v=>if k<x.1 then (k,v)::x::P else if x.1=k then (k,v)::P else x::insS P k v
def delS (P:Pgs) (k:Int):Pgs:=P.filter fun x=>x.1 !=k
theorem look_mem {P:Pgs} {k:Int} {v:Pg} (h:look P k=some v):(k,v)∈P:=by
 induction P with
 |nil=>simp[look] at h
 |cons x P ih=>
  simp only[look] at h;split at h
  ·rename_i e;cases h;rw[←e];exact List.mem_cons_self
  ·exact List.mem_cons_of_mem _ (ih h)
theorem look_none {P:Pgs} {k:Int}:look P k=none↔∀x∈P,x.1≠k:=by
 induction P with
 |nil=>simp[look]
 |cons x P ih=>
  simp only[look,List.mem_cons,forall_eq_or_imp];split
  ·rename_i e;simp[e]
  ·rename_i e;rw[ih];simp[e]
theorem Srt.inj {P:Pgs} (h:Srt P) {x y:Int × Pg} (hx:x∈P) (hy:y∈P) (e:x.1=y.1):x=y:=by
 induction P with
 |nil=>simp at hx
 |cons a P ih=>
  have h:=List.pairwise_cons.1 h;rcases List.mem_cons.1 hx with hx|hx
  ·rcases List.mem_cons.1 hy with hy|hy
   ·rw[hx,hy]
   ·have:=h.1 y hy;rw[hx] at e;omega
  ·rcases List.mem_cons.1 hy with hy|hy
   ·have:=h.1 x hx;rw[hy] at e;omega
   ·exact ih h.2 hx hy
theorem Srt.look {P:Pgs} (h:Srt P) {k:Int} {v:Pg} (hm:(k,v)∈P):look P k=some v:=by
 cases e:Go.Proofs.YtogmbmdbgkopjaaGreat.Tb.look P k with
 |none=>exact absurd rfl (look_none.1 e _ hm)
 |some u=>have:=h.inj (look_mem e) hm rfl;cases this;rfl
theorem Srt.look_iff {P:Pgs} (h:Srt P) {k:Int} {v:Pg}:Go.Proofs.YtogmbmdbgkopjaaGreat.Tb.look P k=some v↔(k,v)∈P:=⟨look_mem,h.look⟩
theorem Srt.sub {P Q:Pgs} (h:Srt P) (hs:Q.Sublist P):Srt Q:=List.Pairwise.sublist hs h
theorem Srt.filter {P:Pgs} (h:Srt P) (f:Int × Pg->Bool):Srt (P.filter f):=h.sub List.filter_sublist
theorem Srt.nodup {P:Pgs} (h:Srt P):(P.map (·.1)).Nodup:=by
 unfold List.Nodup;rw[List.pairwise_map];exact h.imp fun hab e=>by omega
theorem ins_mem {P:Pgs} (h:Srt P) {k:Int} {v:Pg} (x:Int × Pg):x∈insS P k v↔x=(k,v)∨(x∈P/\x.1≠k):=by
 induction P with
 |nil=>simp[insS]
 |cons a P ih=>
  have h:=List.pairwise_cons.1 h;simp only[insS];split
  ·rename_i e
   rw[List.mem_cons];constructor
   ·rintro (h1|h1)
    ·exact .inl h1
    ·refine .inr ⟨h1, ?_⟩
     rcases List.mem_cons.1 h1 with h2|h2
     ·rw[h2];omega
     ·have:=h.1 x h2;omega
   ·rintro (h1|h1)
    ·exact .inl h1
    ·exact .inr h1.1
  ·rename_i e
   split
   ·rename_i e2
    rw[List.mem_cons,List.mem_cons];constructor
    ·rintro (h1|h1)
     ·exact .inl h1
     ·have:=h.1 x h1;exact .inr ⟨.inr h1,by omega⟩
    ·rintro (h1|⟨h1|h1,h2⟩)
     ·exact .inl h1
     ·rw[h1] at h2;exact absurd e2 h2
     ·exact .inr h1
   ·rename_i e2
    rw[List.mem_cons,List.mem_cons,ih h.2];constructor
    ·rintro (h1|h1|h1)
     ·rw[h1];exact .inr ⟨.inl rfl,e2⟩
     ·exact .inl h1
     ·exact .inr ⟨.inr h1.1,h1.2⟩
    ·rintro (h1|⟨h1|h1,h2⟩)
     ·exact .inr (.inl h1)
     ·exact .inl h1
     ·exact .inr (.inr ⟨h1,h2⟩)
theorem ins_srt {P:Pgs} (h:Srt P) (k:Int) (v:Pg):Srt (insS P k v):=by
 induction P with
 |nil=>simp[insS,Srt]
 |cons a P ih=>
  have h':=List.pairwise_cons.1 h;simp only[insS];split
  ·rename_i e
   refine List.pairwise_cons.2 ⟨fun x hx=>?_,h⟩;show k<x.1;rcases List.mem_cons.1 hx with h2|h2
   ·rw[h2];exact e
   ·have:=h'.1 x h2;omega
  ·split
   ·rename_i e2
    refine List.pairwise_cons.2 ⟨fun x hx=>?_,h'.2⟩;show k<x.1;rw[←e2];exact h'.1 x hx
   ·rename_i e e2
    refine List.pairwise_cons.2 ⟨fun x hx=>?_,ih h'.2⟩;rcases (ins_mem (k:=k) (v:=v) h'.2 x).1 hx with h1|h1
    ·rw[h1];show a.1<k;omega
    ·exact h'.1 x h1.1
theorem del_mem {P:Pgs} {k:Int} (x:Int × Pg):x∈delS P k↔x∈P/\x.1≠k:=by unfold delS;rw[List.mem_filter];simp
theorem srt_ext {P Q:Pgs} (hP:Srt P) (hQ:Srt Q) (h:∀x,x∈P↔x∈Q):P=Q:=by
 refine List.Perm.eq_of_pairwise (le:=fun x y=>x.1≤y.1/\(x.1=y.1->x=y)) ?_ ?_ ?_ ?_
 ·intro a b _ _ h1 h2
  exact h1.2 (by omega)
 ·exact hP.imp fun h=>⟨by omega,fun e=>by omega⟩
 ·exact hQ.imp fun h=>⟨by omega,fun e=>by omega⟩
 ·refine (List.perm_ext_iff_of_nodup ?_ ?_).2 h
  ·exact hP.imp fun h e=>by rw[e] at h;omega
  ·exact hQ.imp fun h e=>by rw[e] at h;omega
theorem look_ins {P:Pgs} (h:Srt P) (k:Int) (v:Pg) (x:Int):look (insS P k v) x=if x=k then some v else look P x:=by
 have hs:=ins_srt h k v;by_cases e:x=k
 ·subst e;rw[if_pos rfl];exact hs.look ((ins_mem h _).2 (.inl rfl))
 ·rw[if_neg e]
  cases e2:look P x with
  |none=>
   refine look_none.2 fun y hy=>?_
   rcases (ins_mem h y).1 hy with h1|h1
   ·rw[h1];exact fun e3=>e e3.symm
   ·exact look_none.1 e2 y h1.1
  |some u=>exact hs.look ((ins_mem h _).2 (.inr ⟨look_mem e2,e⟩))
theorem look_del {P:Pgs} (h:Srt P) (k x:Int):look (delS P k) x=if x=k then none else look P x:=by
 have hs:Srt (delS P k):=h.filter _;by_cases e:x=k
 ·subst e;rw[if_pos rfl];exact look_none.2 fun y hy=>((del_mem y).1 hy).2
 ·rw[if_neg e]
  cases e2:look P x with
  |none=>exact look_none.2 fun y hy=>look_none.1 e2 y ((del_mem y).1 hy).1
  |some u=>exact hs.look ((del_mem _).2 ⟨look_mem e2,e⟩)
theorem look_filter {P:Pgs} (h:Srt P) (f:Int × Pg->Bool) (x:Int):look (P.filter f) x=(look P x).filter fun v=>f (x,v):=by
 have hs:=h.filter f;cases e2:look P x with
 |none=>exact look_none.2 fun y hy=>look_none.1 e2 y (List.mem_filter.1 hy).1
 |some u=>
  rw[Option.filter_some];by_cases e:f (x,u)=true
  ·rw[if_pos e];exact hs.look (List.mem_filter.2 ⟨look_mem e2,e⟩)
  ·rw[if_neg e]
   refine look_none.2 fun y hy e3=>?_
   obtain ⟨h1,h2⟩:=List.mem_filter.1 hy;have:y=(x,u):=h.inj h1 (look_mem e2) e3;rw[this] at h2;exact e h2
structure Spc where
 tb:Nat->Option Int
 pg:Pgs
structure SOk (m:Spc):Prop where
 srt:Srt m.pg
 bnd:∀x∈m.pg,0≤x.1/\x.1<4096/\(m.tb (x.1.toNat / 64)).isSome=true
 few:∀i,(m.tb i).isSome=true->i<64
def tabP (P:Pgs) (i:Nat):Pgs:=P.filter fun x=>x.1.toNat / 64==i
def Spc.at (m:Spc) (i:Int):Option Int:=if i<0 then none else m.tb i.toNat
def upT (tb:Nat->Option Int) (i:Nat) (v:Option Int):Nat->Option Int:=fun j=>if j=i then v else tb j
def Spc.tableR (m:Spc) (i n:Int):Int × Spc:=if ¬(0≤i/\i<64/\0≤n) then (1,m) else
 if (m.tb i.toNat).isSome=true∨(List.range 64).any (fun j=>m.tb j==some n)=true then (140,m) else (0,{ m with tb:=upT m.tb i.toNat (some n)})
def Spc.dropR (m:Spc) (i:Int):Pgs × Int × Spc:=if ¬(0≤i/\i<64) then ([],1,m) else if m.tb i.toNat=none then ([],141,m) else
 (tabP m.pg i.toNat,0,⟨upT m.tb i.toNat none,m.pg.filter fun x=>x.1.toNat / 64 !=i.toNat⟩)
def Spc.mapR (m:Spc) (k:Int) (p:Pg):Int × Spc:=if ¬(0≤k/\k<4096/\0≤p.1/\0≤p.2/\p.2≤7) then (1,m) else if m.tb (k.toNat / 64)=none then (141,m) else
 if (look m.pg k).isSome=true then (140,m) else (0,{ m with pg:=insS m.pg k p})
def Spc.rightsR (m:Spc) (k r:Int):Int × Spc:=if ¬(0≤k/\k<4096/\0≤r/\r≤7) then (1,m) else match look m.pg k with
 |none=>(141,m)
 |some p=>(0,{ m with pg:=insS m.pg k (p.1,r)})
def Spc.unmapR (m:Spc) (k:Int):Pg × Int × Spc:=if ¬(0≤k/\k<4096) then ((0,0),1,m) else match look m.pg k with
 |none=>((0,0),141,m)
 |some p=>(p,0,{ m with pg:=delS m.pg k})
def newS:Spc:=⟨fun _=>none,[]⟩
section
variable {m:Spc}
theorem SOk.new:SOk newS:=⟨List.Pairwise.nil,fun x h=>by simp[newS] at h,fun i h=>by simp[newS] at h⟩
theorem SOk.out (h:SOk m) {k:Int} (hk:¬(0≤k/\k<4096)):look m.pg k=none:=look_none.2 fun x hx e=>by
 have:=h.bnd x hx;rw[e] at this;exact hk ⟨this.1,this.2.1⟩
theorem SOk.tab (h:SOk m) {k:Int} {p:Pg} (hl:look m.pg k=some p):0≤k/\k<4096/\(m.tb (k.toNat / 64)).isSome=true:=h.bnd _ (look_mem hl)
theorem SOk.table (h:SOk m) (i n:Int):SOk (m.tableR i n).2:=by
 unfold Spc.tableR;split
 ·exact h
 ·rename_i h1
  have h1:=Decidable.not_not.1 h1;split
  ·exact h
  ·refine ⟨h.srt,fun x hx=>?_,fun j hj=>?_⟩
   ·have:=h.bnd x hx
    refine ⟨this.1,this.2.1, ?_⟩;show (upT m.tb i.toNat (some n) (x.1.toNat / 64)).isSome=true;unfold upT;split
    ·rfl
    ·exact this.2.2
   ·have hj:(upT m.tb i.toNat (some n) j).isSome=true:=hj
    unfold upT at hj;split at hj
    ·omega
    ·exact h.few j hj
theorem SOk.drop (h:SOk m) (i:Int):SOk (m.dropR i).2.2:=by
 unfold Spc.dropR;split
 ·exact h
 ·split
  ·exact h
  ·refine ⟨h.srt.filter _,fun x hx=>?_,fun j hj=>?_⟩
   ·obtain ⟨h1,h2⟩:=List.mem_filter.1 hx
    have:=h.bnd x h1;refine ⟨this.1,this.2.1, ?_⟩;show (upT m.tb i.toNat none (x.1.toNat / 64)).isSome=true;unfold upT;rw[if_neg (by simpa using h2)];exact this.2.2
   ·have hj:(upT m.tb i.toNat none j).isSome=true:=hj
    unfold upT at hj;split at hj
    ·cases hj
    ·exact h.few j hj
theorem SOk.ins (h:SOk m) {k:Int} (hk:0≤k/\k<4096) (ht:(m.tb (k.toNat / 64)).isSome=true) (p:Pg):SOk { m with pg:=insS m.pg k p}:=by
 refine ⟨ins_srt h.srt k p,fun x hx=>?_,h.few⟩;rcases (ins_mem h.srt x).1 hx with h1|h1
 ·rw[h1];exact ⟨hk.1,hk.2,ht⟩
 ·exact h.bnd x h1.1
theorem SOk.map (h:SOk m) (k:Int) (p:Pg):SOk (m.mapR k p).2:=by
 unfold Spc.mapR;split
 ·exact h
 ·rename_i h1
  have h1:=Decidable.not_not.1 h1;split
  ·exact h
  ·rename_i h2
   split
   ·exact h
   ·exact h.ins ⟨h1.1,h1.2.1⟩ (Option.isSome_iff_ne_none.2 h2) p
theorem SOk.rights (h:SOk m) (k r:Int):SOk (m.rightsR k r).2:=by
 unfold Spc.rightsR;split
 ·exact h
 ·rename_i h1
  have h1:=Decidable.not_not.1 h1;cases e:look m.pg k with
  |none=>exact h
  |some p=>exact h.ins ⟨h1.1,h1.2.1⟩ (h.tab e).2.2 _
theorem SOk.unmap (h:SOk m) (k:Int):SOk (m.unmapR k).2.2:=by
 unfold Spc.unmapR;split
 ·exact h
 ·cases e:look m.pg k with
  |none=>exact h
  |some p=>exact ⟨h.srt.filter _,fun x hx=>h.bnd x (List.mem_filter.1 hx).1,h.few⟩
theorem tab_ins {P:Pgs} (h:Srt P) (k:Int) (p:Pg) (i:Nat):tabP (insS P k p) i=if k.toNat / 64=i then insS (tabP P i) k p else tabP P i:=by
 have hs:Srt (tabP (insS P k p) i):=(ins_srt h k p).filter _;have ht:Srt (tabP P i):=h.filter _;split
 ·rename_i e
  refine srt_ext hs (ins_srt ht k p) fun x=>?_
  rw[ins_mem ht];unfold tabP;rw[List.mem_filter,List.mem_filter,ins_mem h];simp only[beq_iff_eq];constructor
  ·rintro ⟨h1|h1,h2⟩
   ·exact .inl h1
   ·exact .inr ⟨⟨h1.1,h2⟩,h1.2⟩
  ·rintro (h1|⟨⟨h1,h2⟩,h3⟩)
   ·exact ⟨.inl h1,by rw[h1];exact e⟩
   ·exact ⟨.inr ⟨h1,h3⟩,h2⟩
 ·rename_i e
  refine srt_ext hs ht fun x=>?_
  unfold tabP;rw[List.mem_filter,List.mem_filter,ins_mem h];simp only[beq_iff_eq];constructor
  ·rintro ⟨h1|h1,h2⟩
   ·rw[h1] at h2;exact absurd h2 e
   ·exact ⟨h1.1,h2⟩
  ·rintro ⟨h1,h2⟩
   exact ⟨.inr ⟨h1,fun e2=>by rw[e2] at h2;exact e h2⟩,h2⟩
theorem tab_del {P:Pgs} (k:Int) (i:Nat):tabP (delS P k) i=delS (tabP P i) k:=by
 unfold tabP delS;rw[List.filter_filter,List.filter_filter];congr 1;funext x;exact Bool.and_comm _ _
theorem tab_del_ne {P:Pgs} {k:Int} {i:Nat} (e:k.toNat / 64≠i):tabP (delS P k) i=tabP P i:=by
 rw[tab_del];unfold delS;rw[List.filter_eq_self];intro x hx;obtain ⟨_,h2⟩:=List.mem_filter.1 hx;simp only[beq_iff_eq] at h2;simp only[bne_iff_ne,ne_eq];intro e2;rw[e2] at h2;exact e h2
theorem tab_drop {P:Pgs} {i j:Nat} (e:j≠i):tabP (P.filter fun x=>x.1.toNat / 64 !=i) j=tabP P j:=by
 unfold tabP;rw[List.filter_filter];refine List.filter_congr fun x _=>?_
 by_cases h:x.1.toNat / 64=j
 ·simp[h,e]
 ·simp[h]
theorem tabs_all (h:SOk m):(List.range 64).flatMap (tabP m.pg)=m.pg:=by
 have key:∀n,(List.range n).flatMap (tabP m.pg)=m.pg.filter fun x=>decide (x.1.toNat / 64<n):=fun n=>by
  induction n with
  |zero=>simp
  |succ n ih=>
   rw[List.range_succ,List.flatMap_append,ih];simp only[List.flatMap_cons,List.flatMap_nil,List.append_nil];refine srt_ext ?_ (h.srt.filter _) fun x=>?_
   ·refine List.pairwise_append.2 ⟨h.srt.filter _,h.srt.filter _,fun x hx y hy=>?_⟩
    obtain ⟨hx1,hx2⟩:=List.mem_filter.1 hx;obtain ⟨hy1,hy2⟩:=List.mem_filter.1 hy;simp only[decide_eq_true_eq] at hx2;simp only[beq_iff_eq] at hy2;have:=h.bnd x hx1;have:=h.bnd y hy1;omega
   ·unfold tabP
    rw[List.mem_append,List.mem_filter,List.mem_filter,List.mem_filter];simp only[decide_eq_true_eq,beq_iff_eq];constructor
    ·rintro (h1|h1)
     ·exact ⟨h1.1,by omega⟩
     ·exact ⟨h1.1,by omega⟩
    ·rintro ⟨h1,h2⟩
     by_cases e:x.1.toNat / 64=n
     ·exact .inr ⟨h1,e⟩
     ·exact .inl ⟨h1,by omega⟩
 rw[key 64,List.filter_eq_self];intro x hx;have:=h.bnd x hx;simp only[decide_eq_true_eq];omega
end
theorem look_perm {M S:Pgs} (hp:M.Perm S) (hS:Srt S) (k:Int):mget M k=look S k:=by
 have hn:(M.map (·.1)).Nodup:=(hp.map _).nodup_iff.2 hS.nodup;cases e:mget M k with
 |some v=>exact (hS.look (hp.mem_iff.1 (mget_mem e))).symm
 |none=>
  refine (look_none.2 fun x hx e2=>?_).symm;exact mget_none.1 e (List.mem_map.2 ⟨x,hp.mem_iff.2 hx,e2⟩)
theorem mem_iff_mget {M:Pgs} (hn:(M.map (·.1)).Nodup) {k:Int} {v:Pg}:(k,v)∈M↔mget M k=some v:=by
 refine ⟨fun h=>?_,mget_mem⟩;cases e:mget M k with
 |none=>exact absurd (List.mem_map.2 ⟨_,h,rfl⟩) (mget_none.1 e)
 |some u=>
  have h2:=mget_mem e
  have:∀(M:Pgs),(M.map (·.1)).Nodup->(k,v)∈M->(k,u)∈M->v=u:=fun M=>by
   induction M with
   |nil=>intro _ h;simp at h
   |cons a M ih=>
    intro hn h1 h2;rw[List.map_cons,List.nodup_cons] at hn;rcases List.mem_cons.1 h1 with h1|h1
    ·rcases List.mem_cons.1 h2 with h2|h2
     ·have:=h1.trans h2.symm;cases this;rfl
     ·exact absurd (List.mem_map.2 ⟨_,h2,by rw[←h1]⟩) hn.1
    ·rcases List.mem_cons.1 h2 with h2|h2
     ·exact absurd (List.mem_map.2 ⟨_,h1,by rw[←h2]⟩) hn.1
     ·exact ih hn.2 h1 h2
  rw[this M hn h h2]
theorem nodup_of_keys {M:Pgs} (h:(M.map (·.1)).Nodup):M.Nodup:=List.Pairwise.of_map _ (fun a b h e=>h (by rw[e])) h
theorem aput_perm {M S:Pgs} (hp:M.Perm S) (hS:Srt S) (k:Int) (v:Pg):(aput M k v).Perm (insS S k v):=by
 have hn:(M.map (·.1)).Nodup:=(hp.map _).nodup_iff.2 hS.nodup;have hn2:=nodup_aput hn k v;have hS2:=ins_srt hS k v;refine (List.perm_ext_iff_of_nodup (nodup_of_keys hn2) (nodup_of_keys hS2.nodup)).2 fun x=>?_
 obtain ⟨a,b⟩:=x;rw[mem_iff_mget hn2,mget_aput,←hS2.look_iff,look_ins hS,look_perm hp hS];by_cases e:k=a
 ·rw[if_pos e,if_pos e.symm]
 ·rw[if_neg e,if_neg fun h=>e h.symm]
theorem adel_perm {M S:Pgs} (hp:M.Perm S) (hS:Srt S) (k:Int):(adel M k).Perm (delS S k):=by
 have hn:(M.map (·.1)).Nodup:=(hp.map _).nodup_iff.2 hS.nodup;have hn2:=nodup_adel hn k;have hS2:Srt (delS S k):=hS.filter _;refine (List.perm_ext_iff_of_nodup (nodup_of_keys hn2) (nodup_of_keys hS2.nodup)).2 fun x=>?_
 obtain ⟨a,b⟩:=x;rw[mem_iff_mget hn2,mget_adel hn,←hS2.look_iff,look_del hS,look_perm hp hS];by_cases e:k=a
 ·rw[if_pos e,if_pos e.symm]
 ·rw[if_neg e,if_neg fun h=>e h.symm]
end Go.Proofs.YtogmbmdbgkopjaaGreat.Tb
end
section
set_option maxRecDepth 100000
namespace Go.Proofs.YtogmbmdbgkopjaaGreat
open Go Go.Vc Go.Proofs
def S.qaA (d1:Option Addr) (K:Int->World->Prop) (w:World):Prop:=∀k2:Addr->World->Prop,(∀(x3:Addr) (w4:World),(∃state5,w4.cell? x3=some (.int .i64 state5)/\∀k6:World->Prop,(∀(w7:World),(∃a8,d1=some a8/\∃obj9,w7.cell? ((a8.add 11).add 1)=some (.int .i64 obj9)/\C.qaf d1 obj9 (fun r10 w11=>K r10 w11) w7)->k6 w7)->(bif state5==(3:Int) then (Dr w4 fun w12=>∃a13,d1=some a13/\∃kernel14,w12.cell? a13=some (.pointer kernel14)/\∃a15,d1=some a15/\∃obj16,w12.cell? ((a15.add 11).add 1)=some (.int .i64 obj16)/\(C.qY kernel14 obj16 (fun w17=>k6 w17) w12)/\True) else (k6 w4)))->k2 x3 w4)->(Dr w fun w18=>∃a19,d1=some a19/\∃kernel20,w18.cell? a19=some (.pointer kernel20)/\∃a21,kernel20=some a21/\∃t22,w18.cell? (a21.add 2)=some (.pointer t22)/\∃a23,d1=some a23/\∃obj24,w18.cell? ((a23.add 11).add 1)=some (.int .i64 obj24)/\(C.qai t22 obj24 (fun r25 r26 r27 r28 r29 r30 r31 r32 r33 r34 r35 r36 r37 w38=>(Al w38 (.cells #[.int .i64 0, .int .i64 0, .int .i64 0, .int .i64 0, .int .u64 0, .int .u64 0, .int .u64 0, .int .u64 0, .int .u64 0, .int .u64 0, .int .u64 0, .int .u64 0] 53) fun w39=>(StL w39 (Addr.mk w38.heap.size 0 none) 0 [.int .i64 r25, .int .i64 r26, .int .i64 r27, .int .i64 r28, .int .u64 r29, .int .u64 r30, .int .u64 r31, .int .u64 r32, .int .u64 r33, .int .u64 r34, .int .u64 r35, .int .u64 r36] fun w40=>k2 (Addr.mk w38.heap.size 0 none) w40)/\True)/\True) w18)/\(Al w18 (.cells #[.int .i64 0, .int .i64 0, .int .i64 0, .int .i64 0, .int .u64 0, .int .u64 0, .int .u64 0, .int .u64 0, .int .u64 0, .int .u64 0, .int .u64 0, .int .u64 0] 53) fun w41=>(C.qai t22 obj24 (fun r42 r43 r44 r45 r46 r47 r48 r49 r50 r51 r52 r53 r54 w55=>(StL w55 (Addr.mk w18.heap.size 0 none) 0 [.int .i64 r42, .int .i64 r43, .int .i64 r44, .int .i64 r45, .int .u64 r46, .int .u64 r47, .int .u64 r48, .int .u64 r49, .int .u64 r50, .int .u64 r51, .int .u64 r52, .int .u64 r53] fun w56=>k2 (Addr.mk w18.heap.size 0 none) w56)/\True) w41)/\True)/\True)
theorem S.qaA0 (d1:Option Addr) (K:Int->World->Prop) (w:World) (h:S.qaA d1 K w):C.qaA d1 K w:=
 okS Tryz.func124 (.t none (.u) (.t none (.t none (.r (some [(3, .c (.q))]) (.one 0 69504 (.one 1 69504 (.one 2 69504 (.one 3 69504 (.one 4 69504 (.one 5 69504 (.one 6 69504 (.one 7 65536 (.one 8 65536 (.one 9 65536 (.one 10 65536 (.one 11 65536 (.alt 12 (.one 13 65536 (.one 14 98304 (.one 15 196608 (.alt 16 (.alt 17 (.one 18 0 (.done)) (.none)) (.none))))) (.alt 16 (.alt 12 (.one 13 0 (.one 14 32768 (.one 15 131072 (.alt 17 (.one 18 0 (.done)) (.none))))) (.none)) (.none)))))))))))))))) (.t none (.u) (.t (some []) (.r none (.one 0 496 (.one 1 496 (.one 2 496 (.one 3 496 (.one 4 0 (.one 5 0 (.one 6 0 (.one 7 0 (.one 8 0 (.alt 9 (.done) (.none)))))))))))) (.u)))) (.t none (.u) (.u)))) [(0, .c (.i .i64))] [.pointer d1] K rfl (by kernel_rfl) (by kernel_rfl) h
def S.qar (d1:Option Addr) (K:Int->World->Prop) (w:World):Prop:=Dr w fun w2=>∃a3,d1=some a3/\∃kernel4,w2.cell? a3=some (.pointer kernel4)/\∃a5,d1=some a5/\∃obj6,w2.cell? ((a5.add 11).add 1)=some (.int .i64 obj6)/\(C.qY kernel4 obj6 (fun w7=>Dr w7 fun w8=>∃a9,d1=some a9/\∃kernel10,w8.cell? a9=some (.pointer kernel10)/\∃a11,kernel10=some a11/\∃t12,w8.cell? (a11.add 2)=some (.pointer t12)/\∃a13,d1=some a13/\∃obj14,w8.cell? ((a13.add 11).add 1)=some (.int .i64 obj14)/\(C.qA t12 obj14 (fun r15 w16=>K r15 w16) w8)/\True) w2)/\True
theorem S.qar0 (d1:Option Addr) (K:Int->World->Prop) (w:World) (h:S.qar d1 K w):C.qar d1 K w:=
 okS Tryz.func125 (.t none (.u) (.t none (.r none (.one 0 496 (.one 1 496 (.one 2 496 (.one 3 496 (.one 4 0 (.one 5 0 (.one 6 0 (.one 7 0 (.one 8 0 (.alt 9 (.done) (.none)))))))))))) (.t none (.r none (.one 0 3968 (.one 1 3968 (.one 2 3968 (.one 3 3968 (.one 4 3968 (.one 5 3968 (.one 6 3968 (.one 7 0 (.one 8 0 (.one 9 0 (.one 10 0 (.one 11 0 (.alt 12 (.one 13 0 (.done)) (.none))))))))))))))) (.u)))) [(0, .c (.i .i64))] [.pointer d1] K rfl (by kernel_rfl) (by kernel_rfl) h
def S.qbe (d1:Option Addr) (K:Int->World->Prop) (w:World):Prop:=Dr w fun w2=>∃a3,d1=some a3/\∃kernel4,w2.cell? a3=some (.pointer kernel4)/\∃a5,kernel4=some a5/\∃t6,w2.cell? (a5.add 2)=some (.pointer t6)/\∃a7,d1=some a7/\∃obj8,w2.cell? ((a7.add 11).add 1)=some (.int .i64 obj8)/\∃a9,d1=some a9/\∃a10,w2.cell? ((a9.add 3).add 3)=some (.int .i64 a10)/\(C.qat t6 obj8 a10 (fun r11 w12=>K r11 w12) w2)/\True
theorem S.qbe0 (d1:Option Addr) (K:Int->World->Prop) (w:World) (h:S.qbe d1 K w):C.qbe d1 K w:=
 okS Tryz.func126 (.t none (.u) (.t none (.r none (.one 0 130944 (.one 1 130944 (.one 2 130944 (.one 3 130944 (.one 4 130944 (.one 5 130944 (.one 6 130944 (.one 7 126976 (.one 8 126976 (.one 9 126976 (.one 10 126976 (.one 11 126976 (.one 12 0 (.one 13 0 (.one 14 0 (.one 15 0 (.one 16 0 (.alt 17 (.one 18 0 (.done)) (.none)))))))))))))))))))) (.u))) [(0, .c (.i .i64))] [.pointer d1] K rfl (by kernel_rfl) (by kernel_rfl) h
def S.qbf (d1:Option Addr) (K:Int->World->Prop) (w:World):Prop:=Dr w fun w2=>∃a3,d1=some a3/\∃a4,w2.cell? ((a3.add 3).add 3)=some (.int .i64 a4)/\∃a5,d1=some a5/\∃b6,w2.cell? ((a5.add 3).add 4)=some (.int .i64 b6)/\∃a7,d1=some a7/\∃badge8,w2.cell? ((a7.add 11).add 3)=some (.int .u64 badge8)/\(Al w2 (.cells #[.int .i64 0, .int .u64 0, .int .u64 0, .int .u64 0, .int .u64 0, .int .u64 0, .bool false] 223) fun w9=>(StL w9 (Addr.mk w2.heap.size 0 none) 0 [.int .i64 a4, .int .u64 (IntKind.u64.wrap b6), .int .u64 0, .int .u64 0, .int .u64 0, .int .u64 badge8, .bool false] fun w10=>∀k11:Addr->Int->World->Prop,(∀(met12:Addr) (e13:Int) (w14:World),(bif e13 !=(0:Int) then (K e13 w14) else (∃is15,w14.cell? met12=some (.bool is15)/\bif !is15 then (C.qan d1 (fun w16=>K (0:Int) w16) w14) else (∃to17,w14.cell? (met12.add 2)=some (.int .i64 to17)/\LdL w14 (met12.add 3) 0 [.i .i64, .i .u64, .i .u64, .i .u64, .i .u64, .i .u64, .b] fun (m18:Int) (m19:Int) (m20:Int) (m21:Int) (m22:Int) (m23:Int) (m24:Bool)=>C.qaH d1 to17 m18 m19 m20 m21 m22 m23 m24 (fun w25=>∃to26,w25.cell? (met12.add 2)=some (.int .i64 to26)/\C.qaf d1 to26 (fun r27 w28=>K r27 w28) w25) w14)))->k11 met12 e13 w14)->(Dr w10 fun w29=>∃a30,d1=some a30/\∃kernel31,w29.cell? a30=some (.pointer kernel31)/\∃a32,kernel31=some a32/\∃ends33:Sl,w29.cell? (a32.add 5)=some (.slice ends33.a ends33.len ends33.cap)/\∃a34,d1=some a34/\∃obj35,w29.cell? ((a34.add 11).add 1)=some (.int .i64 obj35)/\∃a36,ends33.a=some a36/\0≤obj35/\obj35<(ends33.len:Int)/\∃t37,w29.cell? (a36.add (obj35.toNat*1))=some (.pointer t37)/\∃a38,d1=some a38/\∃cur39,w29.cell? (a38.add 2)=some (.int .i64 cur39)/\LdL w29 (Addr.mk w2.heap.size 0 none) 0 [.i .i64, .i .u64, .i .u64, .i .u64, .i .u64, .i .u64, .b] fun (t40:Int) (t41:Int) (t42:Int) (t43:Int) (t44:Int) (t45:Int) (t46:Bool)=>∃a47,d1=some a47/\∃c48,w29.cell? ((a47.add 3).add 5)=some (.int .i64 c48)/\(C.qQ t37 cur39 t40 t41 t42 t43 t44 t45 t46 (c48 !=(0:Int)) (fun r49 r50 r51 r52 r53 r54 r55 r56 r57 r58 r59 w60=>(Al w60 (.cells #[.bool false, .int .i64 0, .int .i64 0, .int .i64 0, .int .u64 0, .int .u64 0, .int .u64 0, .int .u64 0, .int .u64 0, .bool false] 267) fun w61=>(StL w61 (Addr.mk w60.heap.size 0 none) 0 [.bool r49, .int .i64 r50, .int .i64 r51, .int .i64 r52, .int .u64 r53, .int .u64 r54, .int .u64 r55, .int .u64 r56, .int .u64 r57, .bool r58] fun w62=>k11 (Addr.mk w60.heap.size 0 none) r59 w62)/\True)/\True) w29)/\(Al w29 (.cells #[.bool false, .int .i64 0, .int .i64 0, .int .i64 0, .int .u64 0, .int .u64 0, .int .u64 0, .int .u64 0, .int .u64 0, .bool false] 267) fun w63=>(C.qQ t37 cur39 t40 t41 t42 t43 t44 t45 t46 (c48 !=(0:Int)) (fun r64 r65 r66 r67 r68 r69 r70 r71 r72 r73 r74 w75=>(StL w75 (Addr.mk w29.heap.size 0 none) 0 [.bool r64, .int .i64 r65, .int .i64 r66, .int .i64 r67, .int .u64 r68, .int .u64 r69, .int .u64 r70, .int .u64 r71, .int .u64 r72, .bool r73] fun w76=>k11 (Addr.mk w29.heap.size 0 none) r74 w76)/\True) w63)/\True)/\True))/\True)/\True
theorem S.qbf0 (d1:Option Addr) (K:Int->World->Prop) (w:World) (h:S.qbf d1 K w):C.qbf d1 K w:=
 okS Tryz.func127 (.t none (.u) (.t none (.r none (.one 0 393184 (.one 1 393184 (.one 2 393184 (.one 3 393184 (.one 4 393184 (.one 5 389120 (.one 6 389120 (.one 7 389120 (.one 8 389120 (.one 9 389120 (.one 10 389120 (.one 11 389120 (.one 12 262144 (.one 13 262144 (.one 14 262144 (.one 15 262144 (.one 16 262144 (.one 17 262144 (.alt 18 (.alt 19 (.done) (.none)) (.none))))))))))))))))))))) (.t none (.r (some [(4, .c (.q)),(5, .c (.i .i64))]) (.one 0 570412928 (.one 1 570412928 (.one 2 570412928 (.one 3 570412928 (.one 4 570412928 (.one 5 570412928 (.one 6 570412928 (.one 7 570408960 (.one 8 570408960 (.one 9 570408960 (.one 10 570408960 (.one 11 570408960 (.one 12 570408960 (.one 13 570408960 (.one 14 570163200 (.one 15 570163200 (.one 16 570163200 (.one 17 570163200 (.one 18 569901056 (.one 19 536870912 (.one 20 536870912 (.one 21 536870912 (.one 22 536870912 (.one 23 536870912 (.one 24 536870912 (.alt 25 (.one 26 536870912 (.one 27 805306368 (.one 28 1610612736 (.alt 29 (.alt 30 (.one 31 0 (.done)) (.none)) (.none))))) (.alt 29 (.alt 25 (.one 26 0 (.one 27 268435456 (.one 28 1073741824 (.alt 30 (.one 31 0 (.done)) (.none))))) (.none)) (.none))))))))))))))))))))))))))))) (.t none (.t none (.t none (.u) (.t none (.t none (.u) (.u)) (.t none (.u) (.t none (.t none (.u) (.t none (.u) (.u))) (.u))))) (.u)) (.t none (.u) (.t none (.u) (.u))))))) [(0, .c (.i .i64))] [.pointer d1] K rfl (by kernel_rfl) (by kernel_rfl) h
def S.qbg (d1:Option Addr) (K:Int->World->Prop) (w:World):Prop:=∀k2:Addr->Int->World->Prop,(∀(met3:Addr) (e4:Int) (w5:World),(bif e4 !=(0:Int) then (K e4 w5) else (∃is6,w5.cell? met3=some (.bool is6)/\bif !is6 then (C.qan d1 (fun w7=>K (0:Int) w7) w5) else (Dr w5 fun w8=>∃a9,d1=some a9/\∃cur10,w8.cell? (a9.add 2)=some (.int .i64 cur10)/\LdL w8 (met3.add 3) 0 [.i .i64, .i .u64, .i .u64, .i .u64, .i .u64, .i .u64, .b] fun (m11:Int) (m12:Int) (m13:Int) (m14:Int) (m15:Int) (m16:Int) (m17:Bool)=>(C.qaH d1 cur10 m11 m12 m13 m14 m15 m16 m17 (fun w18=>∃from19,w18.cell? (met3.add 1)=some (.int .i64 from19)/\C.qaf d1 from19 (fun r20 w21=>K r20 w21) w18) w8)/\True)))->k2 met3 e4 w5)->(Dr w fun w22=>∃a23,d1=some a23/\∃kernel24,w22.cell? a23=some (.pointer kernel24)/\∃a25,kernel24=some a25/\∃ends26:Sl,w22.cell? (a25.add 5)=some (.slice ends26.a ends26.len ends26.cap)/\∃a27,d1=some a27/\∃obj28,w22.cell? ((a27.add 11).add 1)=some (.int .i64 obj28)/\∃a29,ends26.a=some a29/\0≤obj28/\obj28<(ends26.len:Int)/\∃t30,w22.cell? (a29.add (obj28.toNat*1))=some (.pointer t30)/\∃a31,d1=some a31/\∃cur32,w22.cell? (a31.add 2)=some (.int .i64 cur32)/\∃a33,d1=some a33/\∃c34,w22.cell? ((a33.add 3).add 5)=some (.int .i64 c34)/\(C.qR t30 cur32 (c34 !=(0:Int)) (fun r35 r36 r37 r38 r39 r40 r41 r42 r43 r44 r45 w46=>(Al w46 (.cells #[.bool false, .int .i64 0, .int .i64 0, .int .i64 0, .int .u64 0, .int .u64 0, .int .u64 0, .int .u64 0, .int .u64 0, .bool false] 267) fun w47=>(StL w47 (Addr.mk w46.heap.size 0 none) 0 [.bool r35, .int .i64 r36, .int .i64 r37, .int .i64 r38, .int .u64 r39, .int .u64 r40, .int .u64 r41, .int .u64 r42, .int .u64 r43, .bool r44] fun w48=>k2 (Addr.mk w46.heap.size 0 none) r45 w48)/\True)/\True) w22)/\(Al w22 (.cells #[.bool false, .int .i64 0, .int .i64 0, .int .i64 0, .int .u64 0, .int .u64 0, .int .u64 0, .int .u64 0, .int .u64 0, .bool false] 267) fun w49=>(C.qR t30 cur32 (c34 !=(0:Int)) (fun r50 r51 r52 r53 r54 r55 r56 r57 r58 r59 r60 w61=>(StL w61 (Addr.mk w22.heap.size 0 none) 0 [.bool r50, .int .i64 r51, .int .i64 r52, .int .i64 r53, .int .u64 r54, .int .u64 r55, .int .u64 r56, .int .u64 r57, .int .u64 r58, .bool r59] fun w62=>k2 (Addr.mk w22.heap.size 0 none) r60 w62)/\True) w49)/\True)/\True)
theorem S.qbg0 (d1:Option Addr) (K:Int->World->Prop) (w:World) (h:S.qbg d1 K w):C.qbg d1 K w:=
 okS Tryz.func128 (.t none (.u) (.t none (.r (some [(3, .c (.q)),(4, .c (.i .i64))]) (.one 0 285200256 (.one 1 285200256 (.one 2 285200256 (.one 3 285200256 (.one 4 285200256 (.one 5 285200256 (.one 6 285200256 (.one 7 285196288 (.one 8 285196288 (.one 9 285196288 (.one 10 285196288 (.one 11 285196288 (.one 12 285196288 (.one 13 285196288 (.one 14 284950528 (.one 15 284950528 (.one 16 284950528 (.one 17 284950528 (.one 18 268435456 (.one 19 268435456 (.one 20 268435456 (.one 21 268435456 (.one 22 268435456 (.one 23 268435456 (.alt 24 (.one 25 268435456 (.one 26 402653184 (.one 27 805306368 (.alt 28 (.alt 29 (.one 30 0 (.done)) (.none)) (.none))))) (.alt 28 (.alt 24 (.one 25 0 (.one 26 134217728 (.one 27 536870912 (.alt 29 (.one 30 0 (.done)) (.none))))) (.none)) (.none)))))))))))))))))))))))))))) (.t none (.t none (.t none (.u) (.t none (.t none (.u) (.u)) (.t none (.u) (.t none (.t none (.u) (.t none (.u) (.u))) (.u))))) (.u)) (.t none (.r none (.one 0 126 (.one 1 96 (.one 2 96 (.one 3 96 (.one 4 96 (.one 5 0 (.one 6 0 (.alt 7 (.done) (.none)))))))))) (.t none (.u) (.u)))))) [(0, .c (.i .i64))] [.pointer d1] K rfl (by kernel_rfl) (by kernel_rfl) h
def S.qad (d1:Option Addr) (K:Int->World->Prop) (w:World):Prop:=Dr w fun w2=>∃a3,d1=some a3/\∃kernel4,w2.cell? a3=some (.pointer kernel4)/\∃a5,d1=some a5/\∃obj6,w2.cell? ((a5.add 11).add 1)=some (.int .i64 obj6)/\∃a7,d1=some a7/\∃badge8,w2.cell? ((a7.add 11).add 3)=some (.int .u64 badge8)/\(C.qO kernel4 obj6 badge8 (fun r9 w10=>∃a11,d1=some a11/\(St w10 ((a11.add 17).add 2) (.int .i64 r9) fun w12=>K (0:Int) w12)/\True) w2)/\True
theorem S.qad0 (d1:Option Addr) (K:Int->World->Prop) (w:World) (h:S.qad d1 K w):C.qad d1 K w:=
 okS Tryz.func129 (.t none (.u) (.t none (.r none (.one 0 65534 (.one 1 32736 (.one 2 32736 (.one 3 32736 (.one 4 32736 (.one 5 31744 (.one 6 31744 (.one 7 31744 (.one 8 31744 (.one 9 31744 (.one 10 0 (.one 11 0 (.one 12 0 (.one 13 0 (.one 14 0 (.alt 15 (.one 16 0 (.one 17 0 (.one 18 0 (.alt 19 (.done) (.none))))) (.none)))))))))))))))))) (.t none (.u) (.u)))) [(0, .c (.i .i64))] [.pointer d1] K rfl (by kernel_rfl) (by kernel_rfl) h
def S.qbh (d1:Option Addr) (K:Int->World->Prop) (w:World):Prop:=Dr w fun w2=>∃a3,d1=some a3/\∃kernel4,w2.cell? a3=some (.pointer kernel4)/\∃a5,kernel4=some a5/\∃notes6:Sl,w2.cell? (a5.add 6)=some (.slice notes6.a notes6.len notes6.cap)/\∃a7,d1=some a7/\∃obj8,w2.cell? ((a7.add 11).add 1)=some (.int .i64 obj8)/\∃a9,notes6.a=some a9/\0≤obj8/\obj8<(notes6.len:Int)/\∃t10,w2.cell? (a9.add (obj8.toNat*1))=some (.pointer t10)/\∃a11,d1=some a11/\∃cur12,w2.cell? (a11.add 2)=some (.int .i64 cur12)/\∃a13,d1=some a13/\∃c14,w2.cell? ((a13.add 3).add 5)=some (.int .i64 c14)/\(C.qaP t10 cur12 (c14 !=(0:Int)) (fun r15 r16 r17 w18=>bif r17 !=(0:Int) then (K r17 w18) else (∀k19:World->Prop,(∀(w20:World),(∃a21,d1=some a21/\St w20 ((a21.add 17).add 1) (.int .u64 r15) fun w22=>K (0:Int) w22)->k19 w20)->(bif !r16 then (C.qan d1 (fun w23=>k19 w23) w18) else (k19 w18)))) w2)/\True
theorem S.qbh0 (d1:Option Addr) (K:Int->World->Prop) (w:World) (h:S.qbh d1 K w):C.qbh d1 K w:=
 okS Tryz.func130 (.t none (.u) (.t none (.r none (.one 0 16764800 (.one 1 16764800 (.one 2 16764800 (.one 3 16764800 (.one 4 16764800 (.one 5 16764800 (.one 6 16764800 (.one 7 16760832 (.one 8 16760832 (.one 9 16760832 (.one 10 16760832 (.one 11 16760832 (.one 12 16760832 (.one 13 16760832 (.one 14 16515072 (.one 15 16515072 (.one 16 16515072 (.one 17 16515072 (.one 18 0 (.one 19 0 (.one 20 0 (.one 21 0 (.one 22 0 (.one 23 0 (.alt 24 (.one 25 0 (.one 26 402653184 (.one 27 805306368 (.one 28 1610612736 (.one 29 0 (.one 30 0 (.one 31 0 (.done)))))))) (.none))))))))))))))))))))))))))) (.t none (.t none (.t none (.u) (.t none (.t none (.u) (.u)) (.t none (.u) (.t (some []) (.u) (.u))))) (.u)) (.t none (.u) (.t none (.u) (.u)))))) [(0, .c (.i .i64))] [.pointer d1] K rfl (by kernel_rfl) (by kernel_rfl) h
def S.qaN (d1:Option Addr) (K:Int->World->Prop) (w:World):Prop:=∀k2:Addr->Bool->World->Prop,(∀(to3:Addr) (is4:Bool) (w5:World),(bif !is4 then (K (181:Int) w5) else (Dr w5 fun w6=>∃a7,d1=some a7/\∃kernel8,w6.cell? a7=some (.pointer kernel8)/\∃a9,kernel8=some a9/\∃spaces10:Sl,w6.cell? (a9.add 7)=some (.slice spaces10.a spaces10.len spaces10.cap)/\∃obj11,w6.cell? (to3.add 1)=some (.int .i64 obj11)/\∃a12,spaces10.a=some a12/\0≤obj11/\obj11<(spaces10.len:Int)/\∃t13,w6.cell? (a12.add (obj11.toNat*1))=some (.pointer t13)/\∃a14,d1=some a14/\∃a15,w6.cell? ((a14.add 3).add 3)=some (.int .i64 a15)/\∃a16,d1=some a16/\∃obj17,w6.cell? ((a16.add 11).add 1)=some (.int .i64 obj17)/\(C.qaQ t13 a15 obj17 (fun r18 w19=>K r18 w19) w6)/\True))->k2 to3 is4 w5)->(Dr w fun w20=>∃a21,d1=some a21/\∃kernel22,w20.cell? a21=some (.pointer kernel22)/\∃a23,d1=some a23/\∃with24,w20.cell? ((a23.add 3).add 2)=some (.int .i64 with24)/\(C.qa kernel22 with24 (8:Int) (fun r25 r26 r27 r28 r29 r30 r31 r32 r33 w34=>(Al w34 (.cells #[.int .i64 0, .int .i64 0] 40) fun w35=>(Al w35 (.cells #[.int .i64 0, .int .i64 0, .int .i64 0, .int .u64 0, .int .u64 0, .int .i64 0] 42) fun w36=>(StL w36 (Addr.mk w34.heap.size 0 none) 0 [.int .i64 r25, .int .i64 r26] fun w37=>(StL w37 (Addr.mk w35.heap.size 0 none) 0 [.int .i64 r27, .int .i64 r28, .int .i64 r29, .int .u64 r30, .int .u64 r31, .int .i64 r32] fun w38=>k2 (Addr.mk w35.heap.size 0 none) r33 w38)/\True)/\True)/\True)/\(Al w34 (.cells #[.int .i64 0, .int .i64 0, .int .i64 0, .int .u64 0, .int .u64 0, .int .i64 0] 42) fun w39=>(Al w39 (.cells #[.int .i64 0, .int .i64 0] 40) fun w40=>(StL w40 (Addr.mk w39.heap.size 0 none) 0 [.int .i64 r25, .int .i64 r26] fun w41=>(StL w41 (Addr.mk w34.heap.size 0 none) 0 [.int .i64 r27, .int .i64 r28, .int .i64 r29, .int .u64 r30, .int .u64 r31, .int .i64 r32] fun w42=>k2 (Addr.mk w34.heap.size 0 none) r33 w42)/\True)/\True)/\True)/\True) w20)/\(Al w20 (.cells #[.int .i64 0, .int .i64 0] 40) fun w43=>(C.qa kernel22 with24 (8:Int) (fun r44 r45 r46 r47 r48 r49 r50 r51 r52 w53=>(Al w53 (.cells #[.int .i64 0, .int .i64 0, .int .i64 0, .int .u64 0, .int .u64 0, .int .i64 0] 42) fun w54=>(StL w54 (Addr.mk w20.heap.size 0 none) 0 [.int .i64 r44, .int .i64 r45] fun w55=>(StL w55 (Addr.mk w53.heap.size 0 none) 0 [.int .i64 r46, .int .i64 r47, .int .i64 r48, .int .u64 r49, .int .u64 r50, .int .i64 r51] fun w56=>k2 (Addr.mk w53.heap.size 0 none) r52 w56)/\True)/\True)/\True) w43)/\(Al w43 (.cells #[.int .i64 0, .int .i64 0, .int .i64 0, .int .u64 0, .int .u64 0, .int .i64 0] 42) fun w57=>(C.qa kernel22 with24 (8:Int) (fun r58 r59 r60 r61 r62 r63 r64 r65 r66 w67=>(StL w67 (Addr.mk w20.heap.size 0 none) 0 [.int .i64 r58, .int .i64 r59] fun w68=>(StL w68 (Addr.mk w43.heap.size 0 none) 0 [.int .i64 r60, .int .i64 r61, .int .i64 r62, .int .u64 r63, .int .u64 r64, .int .i64 r65] fun w69=>k2 (Addr.mk w43.heap.size 0 none) r66 w69)/\True)/\True) w57)/\True)/\True)/\(Al w20 (.cells #[.int .i64 0, .int .i64 0, .int .i64 0, .int .u64 0, .int .u64 0, .int .i64 0] 42) fun w70=>(C.qa kernel22 with24 (8:Int) (fun r71 r72 r73 r74 r75 r76 r77 r78 r79 w80=>(Al w80 (.cells #[.int .i64 0, .int .i64 0] 40) fun w81=>(StL w81 (Addr.mk w80.heap.size 0 none) 0 [.int .i64 r71, .int .i64 r72] fun w82=>(StL w82 (Addr.mk w20.heap.size 0 none) 0 [.int .i64 r73, .int .i64 r74, .int .i64 r75, .int .u64 r76, .int .u64 r77, .int .i64 r78] fun w83=>k2 (Addr.mk w20.heap.size 0 none) r79 w83)/\True)/\True)/\True) w70)/\(Al w70 (.cells #[.int .i64 0, .int .i64 0] 40) fun w84=>(C.qa kernel22 with24 (8:Int) (fun r85 r86 r87 r88 r89 r90 r91 r92 r93 w94=>(StL w94 (Addr.mk w70.heap.size 0 none) 0 [.int .i64 r85, .int .i64 r86] fun w95=>(StL w95 (Addr.mk w20.heap.size 0 none) 0 [.int .i64 r87, .int .i64 r88, .int .i64 r89, .int .u64 r90, .int .u64 r91, .int .i64 r92] fun w96=>k2 (Addr.mk w20.heap.size 0 none) r93 w96)/\True)/\True) w84)/\True)/\True)/\True)
theorem S.qaN0 (d1:Option Addr) (K:Int->World->Prop) (w:World) (h:S.qaN d1 K w):C.qaN d1 K w:=
 okS Tryz.func131 (.t none (.u) (.t none (.r (some [(4, .c (.q)),(5, .c (.b))]) (.one 0 49648 (.one 1 49648 (.one 2 49648 (.one 3 49648 (.one 4 49152 (.one 5 49152 (.one 6 49152 (.one 7 49152 (.one 8 49152 (.alt 9 (.one 10 49152 (.one 11 61440 (.one 12 122880 (.one 13 245760 (.alt 14 (.alt 15 (.alt 16 (.alt 17 (.one 18 0 (.done)) (.none)) (.none)) (.none)) (.alt 15 (.alt 14 (.alt 16 (.alt 17 (.one 18 0 (.done)) (.none)) (.none)) (.none)) (.none))))))) (.alt 14 (.alt 9 (.one 10 32768 (.one 11 45056 (.one 12 106496 (.one 13 229376 (.alt 15 (.alt 16 (.alt 17 (.one 18 0 (.done)) (.none)) (.none)) (.none)))))) (.alt 15 (.alt 9 (.one 10 0 (.one 11 12288 (.one 12 73728 (.one 13 196608 (.alt 16 (.alt 17 (.one 18 0 (.done)) (.none)) (.none)))))) (.none)) (.none))) (.alt 15 (.alt 9 (.one 10 16384 (.one 11 28672 (.one 12 90112 (.one 13 212992 (.alt 14 (.alt 16 (.alt 17 (.one 18 0 (.done)) (.none)) (.none)) (.none)))))) (.alt 14 (.alt 9 (.one 10 0 (.one 11 12288 (.one 12 73728 (.one 13 196608 (.alt 16 (.alt 17 (.one 18 0 (.done)) (.none)) (.none)))))) (.none)) (.none))) (.none)))))))))))))) (.t none (.t none (.u) (.t none (.t none (.u) (.u)) (.u))) (.t none (.r none (.one 0 2095488 (.one 1 2095488 (.one 2 2095488 (.one 3 2095488 (.one 4 2095488 (.one 5 2095488 (.one 6 2095488 (.one 7 2095104 (.one 8 2095104 (.one 9 2095104 (.one 10 2095104 (.one 11 2031616 (.one 12 2031616 (.one 13 2031616 (.one 14 2031616 (.one 15 2031616 (.one 16 0 (.one 17 0 (.one 18 0 (.one 19 0 (.one 20 0 (.alt 21 (.one 22 0 (.done)) (.none)))))))))))))))))))))))) (.u))))) [(0, .c (.i .i64))] [.pointer d1] K rfl (by kernel_rfl) (by kernel_rfl) h
def S.qaB (d1:Option Addr) (K:Int->World->Prop) (w:World):Prop:=∀k2:Addr->Bool->World->Prop,(∀(to3:Addr) (is4:Bool) (w5:World),(bif !is4 then (K (181:Int) w5) else (Dr w5 fun w6=>∃a7,d1=some a7/\∃kernel8,w6.cell? a7=some (.pointer kernel8)/\∃a9,kernel8=some a9/\∃spaces10:Sl,w6.cell? (a9.add 7)=some (.slice spaces10.a spaces10.len spaces10.cap)/\∃obj11,w6.cell? (to3.add 1)=some (.int .i64 obj11)/\∃a12,spaces10.a=some a12/\0≤obj11/\obj11<(spaces10.len:Int)/\∃t13,w6.cell? (a12.add (obj11.toNat*1))=some (.pointer t13)/\∃a14,d1=some a14/\∃a15,w6.cell? ((a14.add 3).add 3)=some (.int .i64 a15)/\∃a16,d1=some a16/\∃obj17,w6.cell? ((a16.add 11).add 1)=some (.int .i64 obj17)/\∃a18,d1=some a18/\∃rights19,w6.cell? ((a18.add 11).add 2)=some (.int .i64 rights19)/\∃a20,d1=some a20/\∃b21,w6.cell? ((a20.add 3).add 4)=some (.int .i64 b21)/\(C.qaT t13 a15 obj17 (andI .i64 rights19 b21) (fun r22 w23=>K r22 w23) w6)/\True))->k2 to3 is4 w5)->(Dr w fun w24=>∃a25,d1=some a25/\∃kernel26,w24.cell? a25=some (.pointer kernel26)/\∃a27,d1=some a27/\∃with28,w24.cell? ((a27.add 3).add 2)=some (.int .i64 with28)/\(C.qa kernel26 with28 (8:Int) (fun r29 r30 r31 r32 r33 r34 r35 r36 r37 w38=>(Al w38 (.cells #[.int .i64 0, .int .i64 0] 40) fun w39=>(Al w39 (.cells #[.int .i64 0, .int .i64 0, .int .i64 0, .int .u64 0, .int .u64 0, .int .i64 0] 42) fun w40=>(StL w40 (Addr.mk w38.heap.size 0 none) 0 [.int .i64 r29, .int .i64 r30] fun w41=>(StL w41 (Addr.mk w39.heap.size 0 none) 0 [.int .i64 r31, .int .i64 r32, .int .i64 r33, .int .u64 r34, .int .u64 r35, .int .i64 r36] fun w42=>k2 (Addr.mk w39.heap.size 0 none) r37 w42)/\True)/\True)/\True)/\(Al w38 (.cells #[.int .i64 0, .int .i64 0, .int .i64 0, .int .u64 0, .int .u64 0, .int .i64 0] 42) fun w43=>(Al w43 (.cells #[.int .i64 0, .int .i64 0] 40) fun w44=>(StL w44 (Addr.mk w43.heap.size 0 none) 0 [.int .i64 r29, .int .i64 r30] fun w45=>(StL w45 (Addr.mk w38.heap.size 0 none) 0 [.int .i64 r31, .int .i64 r32, .int .i64 r33, .int .u64 r34, .int .u64 r35, .int .i64 r36] fun w46=>k2 (Addr.mk w38.heap.size 0 none) r37 w46)/\True)/\True)/\True)/\True) w24)/\(Al w24 (.cells #[.int .i64 0, .int .i64 0] 40) fun w47=>(C.qa kernel26 with28 (8:Int) (fun r48 r49 r50 r51 r52 r53 r54 r55 r56 w57=>(Al w57 (.cells #[.int .i64 0, .int .i64 0, .int .i64 0, .int .u64 0, .int .u64 0, .int .i64 0] 42) fun w58=>(StL w58 (Addr.mk w24.heap.size 0 none) 0 [.int .i64 r48, .int .i64 r49] fun w59=>(StL w59 (Addr.mk w57.heap.size 0 none) 0 [.int .i64 r50, .int .i64 r51, .int .i64 r52, .int .u64 r53, .int .u64 r54, .int .i64 r55] fun w60=>k2 (Addr.mk w57.heap.size 0 none) r56 w60)/\True)/\True)/\True) w47)/\(Al w47 (.cells #[.int .i64 0, .int .i64 0, .int .i64 0, .int .u64 0, .int .u64 0, .int .i64 0] 42) fun w61=>(C.qa kernel26 with28 (8:Int) (fun r62 r63 r64 r65 r66 r67 r68 r69 r70 w71=>(StL w71 (Addr.mk w24.heap.size 0 none) 0 [.int .i64 r62, .int .i64 r63] fun w72=>(StL w72 (Addr.mk w47.heap.size 0 none) 0 [.int .i64 r64, .int .i64 r65, .int .i64 r66, .int .u64 r67, .int .u64 r68, .int .i64 r69] fun w73=>k2 (Addr.mk w47.heap.size 0 none) r70 w73)/\True)/\True) w61)/\True)/\True)/\(Al w24 (.cells #[.int .i64 0, .int .i64 0, .int .i64 0, .int .u64 0, .int .u64 0, .int .i64 0] 42) fun w74=>(C.qa kernel26 with28 (8:Int) (fun r75 r76 r77 r78 r79 r80 r81 r82 r83 w84=>(Al w84 (.cells #[.int .i64 0, .int .i64 0] 40) fun w85=>(StL w85 (Addr.mk w84.heap.size 0 none) 0 [.int .i64 r75, .int .i64 r76] fun w86=>(StL w86 (Addr.mk w24.heap.size 0 none) 0 [.int .i64 r77, .int .i64 r78, .int .i64 r79, .int .u64 r80, .int .u64 r81, .int .i64 r82] fun w87=>k2 (Addr.mk w24.heap.size 0 none) r83 w87)/\True)/\True)/\True) w74)/\(Al w74 (.cells #[.int .i64 0, .int .i64 0] 40) fun w88=>(C.qa kernel26 with28 (8:Int) (fun r89 r90 r91 r92 r93 r94 r95 r96 r97 w98=>(StL w98 (Addr.mk w74.heap.size 0 none) 0 [.int .i64 r89, .int .i64 r90] fun w99=>(StL w99 (Addr.mk w24.heap.size 0 none) 0 [.int .i64 r91, .int .i64 r92, .int .i64 r93, .int .u64 r94, .int .u64 r95, .int .i64 r96] fun w100=>k2 (Addr.mk w24.heap.size 0 none) r97 w100)/\True)/\True) w88)/\True)/\True)/\True)
theorem S.qaB0 (d1:Option Addr) (K:Int->World->Prop) (w:World) (h:S.qaB d1 K w):C.qaB d1 K w:=
 okS Tryz.func132 (.t none (.u) (.t none (.r (some [(4, .c (.q)),(5, .c (.b))]) (.one 0 49648 (.one 1 49648 (.one 2 49648 (.one 3 49648 (.one 4 49152 (.one 5 49152 (.one 6 49152 (.one 7 49152 (.one 8 49152 (.alt 9 (.one 10 49152 (.one 11 61440 (.one 12 122880 (.one 13 245760 (.alt 14 (.alt 15 (.alt 16 (.alt 17 (.one 18 0 (.done)) (.none)) (.none)) (.none)) (.alt 15 (.alt 14 (.alt 16 (.alt 17 (.one 18 0 (.done)) (.none)) (.none)) (.none)) (.none))))))) (.alt 14 (.alt 9 (.one 10 32768 (.one 11 45056 (.one 12 106496 (.one 13 229376 (.alt 15 (.alt 16 (.alt 17 (.one 18 0 (.done)) (.none)) (.none)) (.none)))))) (.alt 15 (.alt 9 (.one 10 0 (.one 11 12288 (.one 12 73728 (.one 13 196608 (.alt 16 (.alt 17 (.one 18 0 (.done)) (.none)) (.none)))))) (.none)) (.none))) (.alt 15 (.alt 9 (.one 10 16384 (.one 11 28672 (.one 12 90112 (.one 13 212992 (.alt 14 (.alt 16 (.alt 17 (.one 18 0 (.done)) (.none)) (.none)) (.none)))))) (.alt 14 (.alt 9 (.one 10 0 (.one 11 12288 (.one 12 73728 (.one 13 196608 (.alt 16 (.alt 17 (.one 18 0 (.done)) (.none)) (.none)))))) (.none)) (.none))) (.none)))))))))))))) (.t none (.t none (.u) (.t none (.t none (.u) (.u)) (.u))) (.t none (.r none (.one 0 8589932928 (.one 1 8589932928 (.one 2 8589932928 (.one 3 8589932928 (.one 4 8589932928 (.one 5 8589932928 (.one 6 8589932928 (.one 7 8589932544 (.one 8 8589932544 (.one 9 8589932544 (.one 10 8589932544 (.one 11 8589869056 (.one 12 8589869056 (.one 13 8589869056 (.one 14 8589869056 (.one 15 8589869056 (.one 16 4292870144 (.one 17 4292870144 (.one 18 4292870144 (.one 19 4292870144 (.one 20 4292870144 (.one 21 2080374784 (.one 22 2080374784 (.one 23 2080374784 (.one 24 2080374784 (.one 25 2080374784 (.one 26 0 (.one 27 0 (.one 28 0 (.one 29 0 (.one 30 0 (.one 31 0 (.one 32 0 (.alt 33 (.one 34 0 (.done)) (.none)))))))))))))))))))))))))))))))))))) (.u))))) [(0, .c (.i .i64))] [.pointer d1] K rfl (by kernel_rfl) (by kernel_rfl) h
def S.qaO (d1:Option Addr) (K:Int->World->Prop) (w:World):Prop:=∀k2:Addr->Int->World->Prop,(∀(p3:Addr) (e4:Int) (w5:World),(bif e4==(0:Int) then (Dr w5 fun w6=>∃a7,d1=some a7/\∃obj8,w6.cell? ((a7.add 11).add 1)=some (.int .i64 obj8)/\∃a9,d1=some a9/\∃a10,w6.cell? ((a9.add 3).add 3)=some (.int .i64 a10)/\LdL w6 p3 0 [.i .i64, .i .i64] fun (t11:Int) (t12:Int)=>(C.qS d1 obj8 a10 t11 t12 (fun w13=>K e4 w13) w6)/\True) else (K e4 w5))->k2 p3 e4 w5)->(Dr w fun w14=>∃a15,d1=some a15/\∃kernel16,w14.cell? a15=some (.pointer kernel16)/\∃a17,kernel16=some a17/\∃spaces18:Sl,w14.cell? (a17.add 7)=some (.slice spaces18.a spaces18.len spaces18.cap)/\∃a19,d1=some a19/\∃obj20,w14.cell? ((a19.add 11).add 1)=some (.int .i64 obj20)/\∃a21,spaces18.a=some a21/\0≤obj20/\obj20<(spaces18.len:Int)/\∃t22,w14.cell? (a21.add (obj20.toNat*1))=some (.pointer t22)/\∃a23,d1=some a23/\∃a24,w14.cell? ((a23.add 3).add 3)=some (.int .i64 a24)/\(C.qag t22 a24 (fun r25 r26 r27 w28=>(Al w28 (.cells #[.int .i64 0, .int .i64 0] 59) fun w29=>(StL w29 (Addr.mk w28.heap.size 0 none) 0 [.int .i64 r25, .int .i64 r26] fun w30=>k2 (Addr.mk w28.heap.size 0 none) r27 w30)/\True)/\True) w14)/\(Al w14 (.cells #[.int .i64 0, .int .i64 0] 59) fun w31=>(C.qag t22 a24 (fun r32 r33 r34 w35=>(StL w35 (Addr.mk w14.heap.size 0 none) 0 [.int .i64 r32, .int .i64 r33] fun w36=>k2 (Addr.mk w14.heap.size 0 none) r34 w36)/\True) w31)/\True)/\True)
theorem S.qaO0 (d1:Option Addr) (K:Int->World->Prop) (w:World) (h:S.qaO d1 K w):C.qaO d1 K w:=
 okS Tryz.func133 (.t none (.u) (.t none (.r (some [(3, .c (.q)),(4, .c (.i .i64))]) (.one 0 8900480 (.one 1 8900480 (.one 2 8900480 (.one 3 8900480 (.one 4 8900480 (.one 5 8900480 (.one 6 8900480 (.one 7 8896512 (.one 8 8896512 (.one 9 8896512 (.one 10 8896512 (.one 11 8896512 (.one 12 8896512 (.one 13 8896512 (.one 14 8388608 (.one 15 8388608 (.one 16 8388608 (.one 17 8388608 (.one 18 8388608 (.alt 19 (.one 20 8388608 (.one 21 12582912 (.one 22 25165824 (.alt 23 (.alt 24 (.one 25 0 (.done)) (.none)) (.none))))) (.alt 23 (.alt 19 (.one 20 0 (.one 21 4194304 (.one 22 16777216 (.alt 24 (.one 25 0 (.done)) (.none))))) (.none)) (.none))))))))))))))))))))))) (.t none (.t none (.u) (.t none (.r none (.one 0 8190 (.one 1 8128 (.one 2 8128 (.one 3 8128 (.one 4 8128 (.one 5 8128 (.one 6 2048 (.one 7 2048 (.one 8 2048 (.one 9 2048 (.one 10 2048 (.one 11 0 (.one 12 0 (.alt 13 (.done) (.none)))))))))))))))) (.u))) (.t none (.u) (.u))))) [(0, .c (.i .i64))] [.pointer d1] K rfl (by kernel_rfl) (by kernel_rfl) h
def S.qbi (d1:Option Addr) (K:Int->World->Prop) (w:World):Prop:=∀k2:Addr->Bool->World->Prop,(∀(to3:Addr) (is4:Bool) (w5:World),(bif !is4 then (K (181:Int) w5) else (Dr w5 fun w6=>∃a7,d1=some a7/\∃kernel8,w6.cell? a7=some (.pointer kernel8)/\∃a9,kernel8=some a9/\∃lines10,w6.cell? (a9.add 3)=some (.pointer lines10)/\∃a11,d1=some a11/\∃obj12,w6.cell? ((a11.add 11).add 1)=some (.int .i64 obj12)/\∃obj13,w6.cell? (to3.add 1)=some (.int .i64 obj13)/\∃badge14,w6.cell? (to3.add 3)=some (.int .u64 badge14)/\(C.qbT lines10 obj12 obj13 badge14 (fun r15 w16=>K r15 w16) w6)/\True))->k2 to3 is4 w5)->(Dr w fun w17=>∃a18,d1=some a18/\∃kernel19,w17.cell? a18=some (.pointer kernel19)/\∃a20,d1=some a20/\∃with21,w17.cell? ((a20.add 3).add 2)=some (.int .i64 with21)/\(C.qa kernel19 with21 (5:Int) (fun r22 r23 r24 r25 r26 r27 r28 r29 r30 w31=>(Al w31 (.cells #[.int .i64 0, .int .i64 0] 40) fun w32=>(Al w32 (.cells #[.int .i64 0, .int .i64 0, .int .i64 0, .int .u64 0, .int .u64 0, .int .i64 0] 42) fun w33=>(StL w33 (Addr.mk w31.heap.size 0 none) 0 [.int .i64 r22, .int .i64 r23] fun w34=>(StL w34 (Addr.mk w32.heap.size 0 none) 0 [.int .i64 r24, .int .i64 r25, .int .i64 r26, .int .u64 r27, .int .u64 r28, .int .i64 r29] fun w35=>k2 (Addr.mk w32.heap.size 0 none) r30 w35)/\True)/\True)/\True)/\(Al w31 (.cells #[.int .i64 0, .int .i64 0, .int .i64 0, .int .u64 0, .int .u64 0, .int .i64 0] 42) fun w36=>(Al w36 (.cells #[.int .i64 0, .int .i64 0] 40) fun w37=>(StL w37 (Addr.mk w36.heap.size 0 none) 0 [.int .i64 r22, .int .i64 r23] fun w38=>(StL w38 (Addr.mk w31.heap.size 0 none) 0 [.int .i64 r24, .int .i64 r25, .int .i64 r26, .int .u64 r27, .int .u64 r28, .int .i64 r29] fun w39=>k2 (Addr.mk w31.heap.size 0 none) r30 w39)/\True)/\True)/\True)/\True) w17)/\(Al w17 (.cells #[.int .i64 0, .int .i64 0] 40) fun w40=>(C.qa kernel19 with21 (5:Int) (fun r41 r42 r43 r44 r45 r46 r47 r48 r49 w50=>(Al w50 (.cells #[.int .i64 0, .int .i64 0, .int .i64 0, .int .u64 0, .int .u64 0, .int .i64 0] 42) fun w51=>(StL w51 (Addr.mk w17.heap.size 0 none) 0 [.int .i64 r41, .int .i64 r42] fun w52=>(StL w52 (Addr.mk w50.heap.size 0 none) 0 [.int .i64 r43, .int .i64 r44, .int .i64 r45, .int .u64 r46, .int .u64 r47, .int .i64 r48] fun w53=>k2 (Addr.mk w50.heap.size 0 none) r49 w53)/\True)/\True)/\True) w40)/\(Al w40 (.cells #[.int .i64 0, .int .i64 0, .int .i64 0, .int .u64 0, .int .u64 0, .int .i64 0] 42) fun w54=>(C.qa kernel19 with21 (5:Int) (fun r55 r56 r57 r58 r59 r60 r61 r62 r63 w64=>(StL w64 (Addr.mk w17.heap.size 0 none) 0 [.int .i64 r55, .int .i64 r56] fun w65=>(StL w65 (Addr.mk w40.heap.size 0 none) 0 [.int .i64 r57, .int .i64 r58, .int .i64 r59, .int .u64 r60, .int .u64 r61, .int .i64 r62] fun w66=>k2 (Addr.mk w40.heap.size 0 none) r63 w66)/\True)/\True) w54)/\True)/\True)/\(Al w17 (.cells #[.int .i64 0, .int .i64 0, .int .i64 0, .int .u64 0, .int .u64 0, .int .i64 0] 42) fun w67=>(C.qa kernel19 with21 (5:Int) (fun r68 r69 r70 r71 r72 r73 r74 r75 r76 w77=>(Al w77 (.cells #[.int .i64 0, .int .i64 0] 40) fun w78=>(StL w78 (Addr.mk w77.heap.size 0 none) 0 [.int .i64 r68, .int .i64 r69] fun w79=>(StL w79 (Addr.mk w17.heap.size 0 none) 0 [.int .i64 r70, .int .i64 r71, .int .i64 r72, .int .u64 r73, .int .u64 r74, .int .i64 r75] fun w80=>k2 (Addr.mk w17.heap.size 0 none) r76 w80)/\True)/\True)/\True) w67)/\(Al w67 (.cells #[.int .i64 0, .int .i64 0] 40) fun w81=>(C.qa kernel19 with21 (5:Int) (fun r82 r83 r84 r85 r86 r87 r88 r89 r90 w91=>(StL w91 (Addr.mk w67.heap.size 0 none) 0 [.int .i64 r82, .int .i64 r83] fun w92=>(StL w92 (Addr.mk w17.heap.size 0 none) 0 [.int .i64 r84, .int .i64 r85, .int .i64 r86, .int .u64 r87, .int .u64 r88, .int .i64 r89] fun w93=>k2 (Addr.mk w17.heap.size 0 none) r90 w93)/\True)/\True) w81)/\True)/\True)/\True)
theorem S.qbi0 (d1:Option Addr) (K:Int->World->Prop) (w:World) (h:S.qbi d1 K w):C.qbi d1 K w:=
 okS Tryz.func134 (.t none (.u) (.t none (.r (some [(4, .c (.q)),(5, .c (.b))]) (.one 0 49648 (.one 1 49648 (.one 2 49648 (.one 3 49648 (.one 4 49152 (.one 5 49152 (.one 6 49152 (.one 7 49152 (.one 8 49152 (.alt 9 (.one 10 49152 (.one 11 61440 (.one 12 122880 (.one 13 245760 (.alt 14 (.alt 15 (.alt 16 (.alt 17 (.one 18 0 (.done)) (.none)) (.none)) (.none)) (.alt 15 (.alt 14 (.alt 16 (.alt 17 (.one 18 0 (.done)) (.none)) (.none)) (.none)) (.none))))))) (.alt 14 (.alt 9 (.one 10 32768 (.one 11 45056 (.one 12 106496 (.one 13 229376 (.alt 15 (.alt 16 (.alt 17 (.one 18 0 (.done)) (.none)) (.none)) (.none)))))) (.alt 15 (.alt 9 (.one 10 0 (.one 11 12288 (.one 12 73728 (.one 13 196608 (.alt 16 (.alt 17 (.one 18 0 (.done)) (.none)) (.none)))))) (.none)) (.none))) (.alt 15 (.alt 9 (.one 10 16384 (.one 11 28672 (.one 12 90112 (.one 13 212992 (.alt 14 (.alt 16 (.alt 17 (.one 18 0 (.done)) (.none)) (.none)) (.none)))))) (.alt 14 (.alt 9 (.one 10 0 (.one 11 12288 (.one 12 73728 (.one 13 196608 (.alt 16 (.alt 17 (.one 18 0 (.done)) (.none)) (.none)))))) (.none)) (.none))) (.none)))))))))))))) (.t none (.t none (.u) (.t none (.t none (.u) (.u)) (.u))) (.t none (.r none (.one 0 65408 (.one 1 65408 (.one 2 65408 (.one 3 65408 (.one 4 65408 (.one 5 65408 (.one 6 65408 (.one 7 61440 (.one 8 61440 (.one 9 61440 (.one 10 61440 (.one 11 61440 (.one 12 49152 (.one 13 49152 (.one 14 0 (.one 15 0 (.alt 16 (.one 17 0 (.done)) (.none))))))))))))))))))) (.u))))) [(0, .c (.i .i64))] [.pointer d1] K rfl (by kernel_rfl) (by kernel_rfl) h
def S.qbt (d1:Option Addr) (K:Int->World->Prop) (w:World):Prop:=Dr w fun w2=>∃a3,d1=some a3/\∃kernel4,w2.cell? a3=some (.pointer kernel4)/\∃a5,kernel4=some a5/\∃lines6,w2.cell? (a5.add 3)=some (.pointer lines6)/\∃a7,d1=some a7/\∃obj8,w2.cell? ((a7.add 11).add 1)=some (.int .i64 obj8)/\(C.qcf lines6 obj8 (fun r9 r10 r11 r12 w13=>bif r11 then (∃a14,d1=some a14/\∃kernel15,w13.cell? a14=some (.pointer kernel15)/\C.qO kernel15 r9 r10 (fun r16 w17=>∃a18,d1=some a18/\St w17 ((a18.add 17).add 2) (.int .i64 r16) fun w19=>K r12 w19) w13) else (K r12 w13)) w2)/\True
theorem S.qbt0 (d1:Option Addr) (K:Int->World->Prop) (w:World) (h:S.qbt d1 K w):C.qbt d1 K w:=
 okS Tryz.func135 (.t none (.u) (.t none (.r none (.one 0 3968 (.one 1 3968 (.one 2 3968 (.one 3 3968 (.one 4 3968 (.one 5 3968 (.one 6 3968 (.one 7 0 (.one 8 0 (.one 9 0 (.one 10 0 (.one 11 0 (.alt 12 (.one 13 0 (.one 14 229376 (.one 15 458752 (.one 16 917504 (.one 17 1835008 (.one 18 0 (.one 19 0 (.one 20 0 (.one 21 0 (.done)))))))))) (.none))))))))))))))) (.t none (.t none (.u) (.t none (.u) (.u))) (.t none (.u) (.u))))) [(0, .c (.i .i64))] [.pointer d1] K rfl (by kernel_rfl) (by kernel_rfl) h
def S.qae (k1:Option Addr) (n2:Int) (K:Int->Int->Bool->World->Prop) (w:World):Prop:=Al w (.cells #[.int .i64 0, .int .i64 0] 40) fun w3=>∀k4:Bool->World->Prop,(∀(t5:Bool) (w6:World),(bif t5 then (StL w6 (Addr.mk w.heap.size 0 none) 0 [.int .i64 0, .int .i64 0] fun w7=>LdL w7 (Addr.mk w.heap.size 0 none) 0 [.i .i64, .i .i64] fun (r8:Int) (r9:Int)=>K r8 r9 false w7) else (Al w6 (.cells #[.int .i64 0, .int .i64 0, .int .i64 0, .int .u64 0, .int .u64 0, .int .i64 0] 42) fun w10=>StL w10 (Addr.mk w6.heap.size 0 none) 0 [.int .i64 2, .int .i64 0, .int .i64 7, .int .u64 0, .int .u64 0, .int .i64 0] fun w11=>∀k12:Addr->Int->World->Prop,(∀(s13:Addr) (e14:Int) (w15:World),(LdL w15 s13 0 [.i .i64, .i .i64] fun (t16:Int) (t17:Int)=>StL w15 (Addr.mk w.heap.size 0 none) 0 [.int .i64 t16, .int .i64 t17] fun w18=>LdL w18 (Addr.mk w.heap.size 0 none) 0 [.i .i64, .i .i64] fun (r19:Int) (r20:Int)=>K r19 r20 (e14==(0:Int)) w18)->k12 s13 e14 w15)->(Dr w11 fun w21=>∃a22,k1=some a22/\∃n23,w21.cell? a22=some (.pointer n23)/\LdL w21 (Addr.mk w6.heap.size 0 none) 0 [.i .i64, .i .i64, .i .i64, .i .u64, .i .u64, .i .i64] fun (t24:Int) (t25:Int) (t26:Int) (t27:Int) (t28:Int) (t29:Int)=>(C.qcn n23 t24 t25 t26 t27 t28 t29 (IntKind.u64.wrap n2) (6:Int) (fun r30 r31 r32 w33=>(Al w33 (.cells #[.int .i64 0, .int .i64 0] 40) fun w34=>(StL w34 (Addr.mk w33.heap.size 0 none) 0 [.int .i64 r30, .int .i64 r31] fun w35=>k12 (Addr.mk w33.heap.size 0 none) r32 w35)/\True)/\True) w21)/\(Al w21 (.cells #[.int .i64 0, .int .i64 0] 40) fun w36=>(C.qcn n23 t24 t25 t26 t27 t28 t29 (IntKind.u64.wrap n2) (6:Int) (fun r37 r38 r39 w40=>(StL w40 (Addr.mk w21.heap.size 0 none) 0 [.int .i64 r37, .int .i64 r38] fun w41=>k12 (Addr.mk w21.heap.size 0 none) r39 w41)/\True) w36)/\True)/\True)))->k4 t5 w6)->(bif decide (n2<(0:Int)) then (k4 true w3) else (k4 (decide (n2≥(64:Int))) w3))
theorem S.qae0 (k1:Option Addr) (n2:Int) (K:Int->Int->Bool->World->Prop) (w:World) (h:S.qae k1 n2 K w):C.qae k1 n2 K w:=
 okS Tryz.func199 (.t none (.u) (.t none (.t none (.r (some [(14, .c (.b))]) .done) (.t none (.t none (.u) (.u)) (.u))) (.t none (.u) (.t none (.r (some [(7, .c (.q)),(8, .c (.i .i64))]) (.one 0 2160 (.one 1 2160 (.one 2 2160 (.one 3 2160 (.one 4 2144 (.one 5 2048 (.one 6 2048 (.alt 7 (.one 8 2048 (.one 9 3072 (.one 10 6144 (.alt 11 (.alt 12 (.one 13 0 (.done)) (.none)) (.none))))) (.alt 11 (.alt 7 (.one 8 0 (.one 9 1024 (.one 10 4096 (.alt 12 (.one 13 0 (.done)) (.none))))) (.none)) (.none))))))))))) (.t none (.u) (.u)))))) [(0, .a [.i .i64, .i .i64]),(1, .c (.b))] [.pointer k1, .int .i64 n2] K rfl (by kernel_rfl) (by kernel_rfl) h
def S.qam (d1:Option Addr) (n2:Int) (K:Sl->Int->World->Prop) (w:World):Prop:=Al w (.cells #[.pointer d1] 125) fun w3=>∀l4:Sl->Int->World->Prop,(∀(out5:Sl) (t6:Int) (w7:World),(bif decide (t6<n2) then (∀k8:Addr->Bool->World->Prop,(∀(s9:Addr) (is10:Bool) (w11:World),(∀k12:Bool->World->Prop,(∀(t13:Bool) (w14:World),(bif t13 then (K ⟨none,0,0⟩ (181:Int) w14) else (LdL w14 s9 0 [.i .i64, .i .i64] fun (t15:Int) (t16:Int)=>Al w14 (.cells #[.int .i64 t15, .int .i64 t16] 40) fun w17=>∃(t18:Sl) (w19:World),AppR Tryz.prog [79,79] 79 (.slice out5.a out5.len out5.cap) (.slice (some (Addr.mk w14.heap.size 0 none)) 1 1) w17 t18 w19/\l4 t18 (IntKind.i64.wrap (t6+(1:Int))) w19))->k12 t13 w14)->(bif !is10 then (k12 true w11) else (∃t20,w11.cell? (Addr.mk w.heap.size 0 none)=some (.pointer t20)/\∃a21,t20=some a21/\∃with22,w11.cell? ((a21.add 3).add 2)=some (.int .i64 with22)/\k12 (decide (with22<(0:Int))) w11)))->k8 s9 is10 w11)->(Dr w7 fun w23=>∃t24,w23.cell? (Addr.mk w.heap.size 0 none)=some (.pointer t24)/\∃a25,t24=some a25/\∃kernel26,w23.cell? a25=some (.pointer kernel26)/\∃t27,w23.cell? (Addr.mk w.heap.size 0 none)=some (.pointer t27)/\∃a28,t27=some a28/\∃with29,w23.cell? ((a28.add 3).add 2)=some (.int .i64 with29)/\(C.qae kernel26 (IntKind.i64.wrap (with29+t6)) (fun r30 r31 r32 w33=>(Al w33 (.cells #[.int .i64 0, .int .i64 0] 40) fun w34=>(StL w34 (Addr.mk w33.heap.size 0 none) 0 [.int .i64 r30, .int .i64 r31] fun w35=>k8 (Addr.mk w33.heap.size 0 none) r32 w35)/\True)/\True) w23)/\(Al w23 (.cells #[.int .i64 0, .int .i64 0] 40) fun w36=>(C.qae kernel26 (IntKind.i64.wrap (with29+t6)) (fun r37 r38 r39 w40=>(StL w40 (Addr.mk w23.heap.size 0 none) 0 [.int .i64 r37, .int .i64 r38] fun w41=>k8 (Addr.mk w23.heap.size 0 none) r39 w41)/\True) w36)/\True)/\True)) else (C.qj out5 (.func (.func 279) #[] #[.pointer (some (Addr.mk w.heap.size 0 none))]) (fun r42 w43=>bif r42 then (K ⟨none,0,0⟩ (51:Int) w43) else (K out5 (0:Int) w43)) w7))->l4 out5 t6 w7)->l4 ⟨none,0,0⟩ (0:Int) w3
theorem S.qam0 (d1:Option Addr) (n2:Int) (K:Sl->Int->World->Prop) (w:World) (h:S.qam d1 n2 K w):C.qam d1 n2 K w:=
 okS Tryz.func202 (.t none (.u) (.t none (.u) (.t none (.t none (.u) (.t none (.t (some [(6, .c (.s)),(12, .c (.i .i64))]) (.t none (.u) (.t none (.t none (.u) (.u)) (.t none (.t none (.t none (.u) (.t none (.r (some [(8, .c (.q)),(9, .c (.b))]) (.one 0 34800 (.one 1 34800 (.one 2 34800 (.one 3 34800 (.one 4 33280 (.one 5 33280 (.one 6 33280 (.one 7 33280 (.one 8 33280 (.one 9 32768 (.one 10 32768 (.alt 11 (.one 12 32768 (.one 13 49152 (.one 14 98304 (.alt 15 (.alt 16 (.one 17 0 (.done)) (.none)) (.none))))) (.alt 15 (.alt 11 (.one 12 0 (.one 13 16384 (.one 14 65536 (.alt 16 (.one 17 0 (.done)) (.none))))) (.none)) (.none))))))))))))))) (.t none (.t none (.r (some [(39, .c (.b))]) .done) (.t none (.t none (.u) (.u)) (.u))) (.u)))) (.u)) (.u)))) (.u)) (.u))) (.t none (.u) (.t none (.t none (.u) (.t none (.t none (.u) (.u)) (.u))) (.t none (.u) (.u))))))) [(0, .c (.s)),(1, .c (.i .i64))] [.pointer d1, .int .i64 n2] K rfl (by kernel_rfl) (by kernel_rfl) h
def S.qaF (d1:Option Addr) (s2:Int) (s3:Int) (c4:Int) (c5:Int) (c6:Int) (c7:Int) (c8:Int) (c9:Int) (K:World->Prop) (w:World):Prop:=Al w (.cells #[.int .i64 s2, .int .i64 s3] 40) fun w10=>Al w10 (.cells #[.int .i64 c4, .int .i64 c5, .int .i64 c6, .int .u64 c7, .int .u64 c8, .int .i64 c9] 42) fun w11=>Dr w11 fun w12=>∃a13,d1=some a13/\∃kernel14,w12.cell? a13=some (.pointer kernel14)/\∃a15,kernel14=some a15/\∃n16,w12.cell? a15=some (.pointer n16)/\LdL w12 (Addr.mk w.heap.size 0 none) 0 [.i .i64, .i .i64] fun (t17:Int) (t18:Int)=>LdL w12 (Addr.mk w10.heap.size 0 none) 0 [.i .i64, .i .i64, .i .i64, .i .u64, .i .u64, .i .i64] fun (t19:Int) (t20:Int) (t21:Int) (t22:Int) (t23:Int) (t24:Int)=>(C.qbo n16 t17 t18 t19 t20 t21 t22 t23 t24 (fun r25 w26=>Dr w26 fun w27=>∃a28,d1=some a28/\∃kernel29,w27.cell? a28=some (.pointer kernel29)/\∃a30,kernel29=some a30/\∃tr31,w27.cell? (a30.add 1)=some (.pointer tr31)/\∃a32,d1=some a32/\LdL w27 (a32.add 9) 0 [.i .i64, .i .i64] fun (s33:Int) (s34:Int)=>LdL w27 (Addr.mk w.heap.size 0 none) 0 [.i .i64, .i .i64] fun (t35:Int) (t36:Int)=>(C.qch tr31 s33 s34 t35 t36 (fun r37 w38=>K w38) w27)/\True) w12)/\True
theorem S.qaF0 (d1:Option Addr) (s2:Int) (s3:Int) (c4:Int) (c5:Int) (c6:Int) (c7:Int) (c8:Int) (c9:Int) (K:World->Prop) (w:World) (h:S.qaF d1 s2 s3 c4 c5 c6 c7 c8 c9 K w):C.qaF d1 s2 s3 c4 c5 c6 c7 c8 c9 K w:=
 okS Tryz.func203 (.t none (.u) (.t none (.r none (.one 0 384 (.one 1 384 (.one 2 384 (.one 3 384 (.one 4 384 (.one 5 384 (.one 6 384 (.one 7 256 (.one 8 0 (.alt 9 (.done) (.none)))))))))))) (.r none (.one 0 3968 (.one 1 3968 (.one 2 3968 (.one 3 3968 (.one 4 3968 (.one 5 3968 (.one 6 3968 (.one 7 2048 (.one 8 2048 (.one 9 2048 (.one 10 2048 (.one 11 0 (.alt 12 (.done) (.none))))))))))))))))) [] [.pointer d1, .agg #[.int .i64 s2, .int .i64 s3], .agg #[.int .i64 c4, .int .i64 c5, .int .i64 c6, .int .u64 c7, .int .u64 c8, .int .i64 c9]] K rfl (by kernel_rfl) (by kernel_rfl) h
def S.qbj (d1:Option Addr) (at2:Int) (K:Int->World->Prop) (w:World):Prop:=∃a3,d1=some a3/\∃a4,w.cell? ((a3.add 3).add 3)=some (.int .i64 a4)/\bif a4==(1:Int) then (Dr w fun w5=>∃a6,d1=some a6/\∃a7,d1=some a7/\∃kernel8,w5.cell? a7=some (.pointer kernel8)/\∃a9,kernel8=some a9/\∃u10:Sl,w5.cell? (a9.add 4)=some (.slice u10.a u10.len u10.cap)/\∃a11,d1=some a11/\∃b12,w5.cell? ((a11.add 3).add 4)=some (.int .i64 b12)/\∃kernel13,w5.cell? a6=some (.pointer kernel13)/\(Al w5 (.cells #[.int .u64 at2, .int .i64 b12, .int .u64 0] 86) fun w14=>(∃(t15:Sl) (w16:World),AppR Tryz.prog [84,84] 84 (.slice u10.a u10.len u10.cap) (.slice (some (Addr.mk w5.heap.size 0 none)) 1 1) w14 t15 w16/\w16.cell? a6=some (.pointer kernel13)/\∃a17,kernel13=some a17/\(St w16 (a17.add 4) (.slice t15.a t15.len t15.cap) fun w18=>∃a19,d1=some a19/\∃kernel20,w18.cell? a19=some (.pointer kernel20)/\∃a21,kernel20=some a21/\∃u22:Sl,w18.cell? (a21.add 4)=some (.slice u22.a u22.len u22.cap)/\K (IntKind.i64.wrap ((u22.len:Int)-(1:Int))) w18)/\True)/\True)/\True) else (bif a4==(2:Int) then (∃a23,d1=some a23/\∃kernel24,w.cell? a23=some (.pointer kernel24)/\∃a25,kernel24=some a25/\∃nodes26,w.cell? (a25.add 10)=some (.int .i64 nodes26)/\∃a27,kernel24=some a27/\St w (a27.add 10) (.int .i64 (IntKind.i64.wrap (nodes26+(1:Int)))) fun w28=>Dr w28 fun w29=>∃a30,d1=some a30/\∃kernel31,w29.cell? a30=some (.pointer kernel31)/\∃a32,kernel31=some a32/\∃n33,w29.cell? a32=some (.pointer n33)/\∃a34,d1=some a34/\∃b35,w29.cell? ((a34.add 3).add 4)=some (.int .i64 b35)/\(C.qaR n33 b35 (fun r36 r37 w38=>K r36 w38) w29)/\True) else (bif a4==(3:Int) then (∃a39,d1=some a39/\∃kernel40,w.cell? a39=some (.pointer kernel40)/\∃a41,kernel40=some a41/\∃threads42,w.cell? (a41.add 11)=some (.int .i64 threads42)/\∃a43,kernel40=some a43/\St w (a43.add 11) (.int .i64 (IntKind.i64.wrap (threads42+(1:Int)))) fun w44=>Dr w44 fun w45=>∃a46,d1=some a46/\∃kernel47,w45.cell? a46=some (.pointer kernel47)/\∃a48,kernel47=some a48/\∃t49,w45.cell? (a48.add 2)=some (.pointer t49)/\∃a50,d1=some a50/\∃core51,w45.cell? (a50.add 1)=some (.int .i64 core51)/\(C.qD t49 (0:Int) core51 (fun r52 r53 w54=>K r52 w54) w45)/\True) else (bif a4==(4:Int) then (Dr w fun w55=>∃a56,d1=some a56/\∃a57,d1=some a57/\∃kernel58,w55.cell? a56=some (.pointer kernel58)/\∃kernel59,w55.cell? a57=some (.pointer kernel59)/\∃a60,kernel59=some a60/\∃ends61:Sl,w55.cell? (a60.add 5)=some (.slice ends61.a ends61.len ends61.cap)/\(C.qcr (fun r62 w63=>w63.cell? (a60.add 5)=some (.slice ends61.a ends61.len ends61.cap)/\w63.cell? a57=some (.pointer kernel59)/\w63.cell? a56=some (.pointer kernel58)/\(Al w63 (.cells #[.pointer r62] 133) fun w64=>(∃(t65:Sl) (w66:World),AppR Tryz.prog [114,114] 114 (.slice ends61.a ends61.len ends61.cap) (.slice (some (Addr.mk w63.heap.size 0 none)) 1 1) w64 t65 w66/\w66.cell? a56=some (.pointer kernel58)/\∃a67,kernel58=some a67/\(St w66 (a67.add 5) (.slice t65.a t65.len t65.cap) fun w68=>∃a69,d1=some a69/\∃kernel70,w68.cell? a69=some (.pointer kernel70)/\∃a71,kernel70=some a71/\∃ends72:Sl,w68.cell? (a71.add 5)=some (.slice ends72.a ends72.len ends72.cap)/\K (IntKind.i64.wrap ((ends72.len:Int)-(1:Int))) w68)/\True)/\True)/\True) w55)/\True) else (bif a4==(5:Int) then (Dr w fun w73=>∃a74,d1=some a74/\∃a75,d1=some a75/\∃kernel76,w73.cell? a74=some (.pointer kernel76)/\∃kernel77,w73.cell? a75=some (.pointer kernel77)/\∃a78,kernel77=some a78/\∃notes79:Sl,w73.cell? (a78.add 6)=some (.slice notes79.a notes79.len notes79.cap)/\(C.qcD (fun r80 w81=>w81.cell? (a78.add 6)=some (.slice notes79.a notes79.len notes79.cap)/\w81.cell? a75=some (.pointer kernel77)/\w81.cell? a74=some (.pointer kernel76)/\(Al w81 (.cells #[.pointer r80] 161) fun w82=>(∃(t83:Sl) (w84:World),AppR Tryz.prog [115,115] 115 (.slice notes79.a notes79.len notes79.cap) (.slice (some (Addr.mk w81.heap.size 0 none)) 1 1) w82 t83 w84/\w84.cell? a74=some (.pointer kernel76)/\∃a85,kernel76=some a85/\(St w84 (a85.add 6) (.slice t83.a t83.len t83.cap) fun w86=>∃a87,d1=some a87/\∃kernel88,w86.cell? a87=some (.pointer kernel88)/\∃a89,kernel88=some a89/\∃notes90:Sl,w86.cell? (a89.add 6)=some (.slice notes90.a notes90.len notes90.cap)/\K (IntKind.i64.wrap ((notes90.len:Int)-(1:Int))) w86)/\True)/\True)/\True) w73)/\True) else (bif a4==(8:Int) then (Dr w fun w91=>∃a92,d1=some a92/\∃a93,d1=some a93/\∃kernel94,w91.cell? a92=some (.pointer kernel94)/\∃kernel95,w91.cell? a93=some (.pointer kernel95)/\∃a96,kernel95=some a96/\∃spaces97:Sl,w91.cell? (a96.add 7)=some (.slice spaces97.a spaces97.len spaces97.cap)/\(C.qbL (fun r98 w99=>w99.cell? (a96.add 7)=some (.slice spaces97.a spaces97.len spaces97.cap)/\w99.cell? a93=some (.pointer kernel95)/\w99.cell? a92=some (.pointer kernel94)/\(Al w99 (.cells #[.pointer r98] 109) fun w100=>(∃(t101:Sl) (w102:World),AppR Tryz.prog [111,111] 111 (.slice spaces97.a spaces97.len spaces97.cap) (.slice (some (Addr.mk w99.heap.size 0 none)) 1 1) w100 t101 w102/\w102.cell? a92=some (.pointer kernel94)/\∃a103,kernel94=some a103/\(St w102 (a103.add 7) (.slice t101.a t101.len t101.cap) fun w104=>∃a105,d1=some a105/\∃kernel106,w104.cell? a105=some (.pointer kernel106)/\∃a107,kernel106=some a107/\∃spaces108:Sl,w104.cell? (a107.add 7)=some (.slice spaces108.a spaces108.len spaces108.cap)/\K (IntKind.i64.wrap ((spaces108.len:Int)-(1:Int))) w104)/\True)/\True)/\True) w91)/\True) else (bif a4==(6:Int) then (∃a109,d1=some a109/\∃kernel110,w.cell? a109=some (.pointer kernel110)/\∃a111,kernel110=some a111/\∃frames112,w.cell? (a111.add 8)=some (.int .i64 frames112)/\∃a113,kernel110=some a113/\St w (a113.add 8) (.int .i64 (IntKind.i64.wrap (frames112+(1:Int)))) fun w114=>∃a115,d1=some a115/\∃kernel116,w114.cell? a115=some (.pointer kernel116)/\∃a117,kernel116=some a117/\∃frames118,w114.cell? (a117.add 8)=some (.int .i64 frames118)/\K (IntKind.i64.wrap (frames118-(1:Int))) w114) else (∃a119,d1=some a119/\∃kernel120,w.cell? a119=some (.pointer kernel120)/\∃a121,kernel120=some a121/\∃tabs122,w.cell? (a121.add 9)=some (.int .i64 tabs122)/\∃a123,kernel120=some a123/\St w (a123.add 9) (.int .i64 (IntKind.i64.wrap (tabs122+(1:Int)))) fun w124=>∃a125,d1=some a125/\∃kernel126,w124.cell? a125=some (.pointer kernel126)/\∃a127,kernel126=some a127/\∃tabs128,w124.cell? (a127.add 9)=some (.int .i64 tabs128)/\K (IntKind.i64.wrap (tabs128-(1:Int))) w124)))))))
theorem S.qbj0 (d1:Option Addr) (at2:Int) (K:Int->World->Prop) (w:World) (h:S.qbj d1 at2 K w):C.qbj d1 at2 K w:=
 okS Tryz.func204 (.t none (.u) (.t none (.t none (.u) (.t none (.t none (.u) (.t none (.t none (.r none (.one 0 1048560 (.one 1 1048560 (.one 2 1048560 (.one 4 522248 (.one 5 522248 (.one 6 522248 (.one 7 522248 (.one 8 522248 (.one 9 522248 (.one 10 522248 (.one 11 126984 (.one 12 8 (.one 13 8 (.one 14 8 (.one 15 8 (.one 16 8 (.one 17 8 (.hold 3 786432 4194303 (.alt 18 (.alt 19 (.one 20 0 (.one 21 0 (.alt 22 (.done) (.none)))) (.none)) (.none))))))))))))))))))))) (.t none (.u) (.u))) (.t none (.u) (.t none (.t none (.u) (.t none (.r none (.one 0 3968 (.one 1 3968 (.one 2 3968 (.one 3 3968 (.one 4 3968 (.one 5 3968 (.one 6 3968 (.one 7 0 (.one 8 0 (.one 9 0 (.one 10 0 (.one 11 0 (.alt 12 (.one 13 0 (.one 14 32768 (.one 15 65536 (.one 16 0 (.one 17 0 (.done)))))) (.none))))))))))))))) (.t none (.u) (.u)))) (.t none (.u) (.t none (.t none (.u) (.t none (.r none (.one 0 1920 (.one 1 1920 (.one 2 1920 (.one 3 1920 (.one 4 1920 (.one 5 1920 (.one 6 1920 (.one 7 0 (.one 8 0 (.one 9 0 (.one 10 0 (.alt 11 (.one 12 0 (.one 13 16384 (.one 14 32768 (.one 15 0 (.one 16 0 (.done)))))) (.none)))))))))))))) (.t none (.u) (.u)))) (.t none (.u) (.t none (.t none (.r none (.one 0 16368 (.one 1 16368 (.one 2 16368 (.one 4 6152 (.one 5 6152 (.one 6 6152 (.hold 3 16256 65535 (.hold 7 6144 57343 (.one 8 6144 (.one 9 6144 (.hold 10 6144 57343 (.alt 11 (.alt 12 (.alt 13 (.one 14 0 (.one 15 0 (.alt 16 (.done) (.none)))) (.none)) (.none)) (.none)))))))))))))) (.t none (.u) (.u))) (.t none (.u) (.t none (.t none (.r none (.one 0 16368 (.one 1 16368 (.one 2 16368 (.one 4 6152 (.one 5 6152 (.one 6 6152 (.hold 3 16256 65535 (.hold 7 6144 57343 (.one 8 6144 (.one 9 6144 (.hold 10 6144 57343 (.alt 11 (.alt 12 (.alt 13 (.one 14 0 (.one 15 0 (.alt 16 (.done) (.none)))) (.none)) (.none)) (.none)))))))))))))) (.t none (.u) (.u))) (.t none (.u) (.t none (.t none (.r none (.one 0 16368 (.one 1 16368 (.one 2 16368 (.one 4 6152 (.one 5 6152 (.one 6 6152 (.hold 3 16256 65535 (.hold 7 6144 57343 (.one 8 6144 (.one 9 6144 (.hold 10 6144 57343 (.alt 11 (.alt 12 (.alt 13 (.one 14 0 (.one 15 0 (.alt 16 (.done) (.none)))) (.none)) (.none)) (.none)))))))))))))) (.t none (.u) (.u))) (.t none (.u) (.t none (.t none (.u) (.t none (.u) (.u))) (.u))))))))))))))) (.u))) (.t none (.u) (.t none (.u) (.u))))) [(0, .c (.i .i64))] [.pointer d1, .int .u64 at2] K rfl (by kernel_rfl) (by kernel_rfl) h
def S.qaG (d1:Option Addr) (s2:Int) (s3:Int) (K:World->Prop) (w:World):Prop:=Al w (.cells #[.int .i64 s2, .int .i64 s3] 40) fun w4=>Dr w4 fun w5=>∃a6,d1=some a6/\∃kernel7,w5.cell? a6=some (.pointer kernel7)/\∃a8,kernel7=some a8/\∃tr9,w5.cell? (a8.add 1)=some (.pointer tr9)/\LdL w5 (Addr.mk w.heap.size 0 none) 0 [.i .i64, .i .i64] fun (t10:Int) (t11:Int)=>(C.qbU tr9 t10 t11 (fun r12 w13=>∀k14:Addr->World->Prop,(∀(c15:Addr) (w16:World),(∃a17,d1=some a17/\∃kernel18,w16.cell? a17=some (.pointer kernel18)/\∃a19,kernel18=some a19/\∃n20,w16.cell? a19=some (.pointer n20)/\C.qaS n20 (fun r21 w22=>C.qk r21 (.func (.func 287) #[] #[.pointer (some c15)]) (fun r23 w24=>bif !r23 then (LdL w24 c15 0 [.i .i64, .i .i64, .i .i64, .i .u64, .i .u64, .i .i64] fun (t25:Int) (t26:Int) (t27:Int) (t28:Int) (t29:Int) (t30:Int)=>C.qbk d1 t25 t26 t27 t28 t29 t30 (fun w31=>K w31) w24) else (K w24)) w22) w16)->k14 c15 w16)->(Dr w13 fun w32=>∃a33,d1=some a33/\∃kernel34,w32.cell? a33=some (.pointer kernel34)/\∃a35,kernel34=some a35/\∃n36,w32.cell? a35=some (.pointer n36)/\LdL w32 (Addr.mk w.heap.size 0 none) 0 [.i .i64, .i .i64] fun (t37:Int) (t38:Int)=>(C.qaW n36 t37 t38 (fun r39 r40 r41 r42 r43 r44 r45 w46=>(Al w46 (.cells #[.int .i64 0, .int .i64 0, .int .i64 0, .int .u64 0, .int .u64 0, .int .i64 0] 42) fun w47=>(StL w47 (Addr.mk w46.heap.size 0 none) 0 [.int .i64 r39, .int .i64 r40, .int .i64 r41, .int .u64 r42, .int .u64 r43, .int .i64 r44] fun w48=>k14 (Addr.mk w46.heap.size 0 none) w48)/\True)/\True) w32)/\(Al w32 (.cells #[.int .i64 0, .int .i64 0, .int .i64 0, .int .u64 0, .int .u64 0, .int .i64 0] 42) fun w49=>(C.qaW n36 t37 t38 (fun r50 r51 r52 r53 r54 r55 r56 w57=>(StL w57 (Addr.mk w32.heap.size 0 none) 0 [.int .i64 r50, .int .i64 r51, .int .i64 r52, .int .u64 r53, .int .u64 r54, .int .i64 r55] fun w58=>k14 (Addr.mk w32.heap.size 0 none) w58)/\True) w49)/\True)/\True)) w5)/\True
theorem S.qaG0 (d1:Option Addr) (s2:Int) (s3:Int) (K:World->Prop) (w:World) (h:S.qaG d1 s2 s3 K w):C.qaG d1 s2 s3 K w:=
 okS Tryz.func208 (.t none (.u) (.t none (.r none (.one 0 128 (.one 1 128 (.one 2 128 (.one 3 128 (.one 4 128 (.one 5 128 (.one 6 128 (.one 7 0 (.alt 8 (.done) (.none))))))))))) (.t none (.r (some [(4, .c (.q))]) (.one 0 4224 (.one 1 4224 (.one 2 4224 (.one 3 4224 (.one 4 4224 (.one 5 4224 (.one 6 4224 (.one 7 4096 (.alt 8 (.one 9 4096 (.one 10 6144 (.one 11 12288 (.alt 12 (.alt 13 (.one 14 0 (.done)) (.none)) (.none))))) (.alt 12 (.alt 8 (.one 9 0 (.one 10 2048 (.one 11 8192 (.alt 13 (.one 14 0 (.done)) (.none))))) (.none)) (.none)))))))))))) (.t none (.u) (.t none (.u) (.u)))))) [] [.pointer d1, .agg #[.int .i64 s2, .int .i64 s3]] K rfl (by kernel_rfl) (by kernel_rfl) h
def S.qY (k1:Option Addr) (id2:Int) (K:World->Prop) (w:World):Prop:=∃a3,k1=some a3/\∃ends4:Sl,w.cell? (a3.add 5)=some (.slice ends4.a ends4.len ends4.cap)/\∀l5:Int->World->Prop,(∀(t6:Int) (w7:World),(bif decide (t6<(ends4.len:Int)) then (∃a8,ends4.a=some a8/\0≤t6/\t6<(ends4.len:Int)/\∃t9,w7.cell? (a8.add (t6.toNat*1))=some (.pointer t9)/\C.qV t9 id2 (fun r10 w11=>l5 (IntKind.i64.wrap (t6+(1:Int))) w11) w7) else (∃a12,k1=some a12/\∃notes13:Sl,w7.cell? (a12.add 6)=some (.slice notes13.a notes13.len notes13.cap)/\∀l14:Int->World->Prop,(∀(t15:Int) (w16:World),(bif decide (t15<(notes13.len:Int)) then (∃a17,notes13.a=some a17/\0≤t15/\t15<(notes13.len:Int)/\∃t18,w16.cell? (a17.add (t15.toNat*1))=some (.pointer t18)/\C.qau t18 id2 (fun r19 w20=>l14 (IntKind.i64.wrap (t15+(1:Int))) w20) w16) else (K w16))->l14 t15 w16)->l14 (0:Int) w7))->l5 t6 w7)->l5 (0:Int) w
theorem S.qY0 (k1:Option Addr) (id2:Int) (K:World->Prop) (w:World) (h:S.qY k1 id2 K w):C.qY k1 id2 K w:=
 okS Tryz.func212 (.t none (.t none (.u) (.t none (.t (some [(13, .c (.i .i64))]) (.t none (.u) (.t none (.t none (.u) (.u)) (.t none (.t none (.t none (.u) (.u)) (.u)) (.u)))) (.u)) (.u))) (.t none (.u) (.t none (.t (some [(26, .c (.i .i64))]) (.t none (.u) (.t none (.t none (.u) (.u)) (.t none (.t none (.t none (.u) (.u)) (.u)) (.u)))) (.u)) (.u)))) [] [.pointer k1, .int .i64 id2] K rfl (by kernel_rfl) (by kernel_rfl) h
def S.qaf (d1:Option Addr) (id2:Int) (K:Int->World->Prop) (w:World):Prop:=∃a3,d1=some a3/\∃kernel4,w.cell? a3=some (.pointer kernel4)/\∃a5,kernel4=some a5/\∃t6,w.cell? (a5.add 2)=some (.pointer t6)/\C.qw t6 id2 (fun r7 w8=>bif r7==(0:Int) then (∃a9,d1=some a9/\St w8 ((a9.add 17).add 2) (.int .i64 id2) fun w10=>K r7 w10) else (K r7 w8)) w
theorem S.qaf0 (d1:Option Addr) (id2:Int) (K:Int->World->Prop) (w:World) (h:S.qaf d1 id2 K w):C.qaf d1 id2 K w:=
 okS Tryz.func213 (.t none (.u) (.t none (.u) (.t none (.t none (.u) (.t none (.u) (.u))) (.t none (.u) (.u))))) [(0, .c (.i .i64))] [.pointer d1, .int .i64 id2] K rfl (by kernel_rfl) (by kernel_rfl) h
def S.qan (d1:Option Addr) (K:World->Prop) (w:World):Prop:=∃a2,d1=some a2/\∃c3,w.cell? ((a2.add 3).add 5)=some (.int .i64 c3)/\bif c3 !=(0:Int) then (Dr w fun w4=>∃a5,d1=some a5/\∃kernel6,w4.cell? a5=some (.pointer kernel6)/\∃a7,kernel6=some a7/\∃t8,w4.cell? (a7.add 2)=some (.pointer t8)/\∃a9,d1=some a9/\∃cur10,w4.cell? (a9.add 2)=some (.int .i64 cur10)/\(C.qX t8 cur10 (fun r11 w12=>Dr w12 fun w13=>∃a14,d1=some a14/\∃kernel15,w13.cell? a14=some (.pointer kernel15)/\∃a16,kernel15=some a16/\∃t17,w13.cell? (a16.add 2)=some (.pointer t17)/\∃a18,d1=some a18/\∃core19,w13.cell? (a18.add 1)=some (.int .i64 core19)/\(C.qE t17 core19 (fun r20 r21 w22=>K w22) w13)/\True) w4)/\True) else (K w)
theorem S.qan0 (d1:Option Addr) (K:World->Prop) (w:World) (h:S.qan d1 K w):C.qan d1 K w:=
 okS Tryz.func217 (.t none (.u) (.t none (.t none (.r none (.one 0 1920 (.one 1 1920 (.one 2 1920 (.one 3 1920 (.one 4 1920 (.one 5 1920 (.one 6 1920 (.one 7 0 (.one 8 0 (.one 9 0 (.one 10 0 (.alt 11 (.done) (.none)))))))))))))) (.r none (.one 0 1920 (.one 1 1920 (.one 2 1920 (.one 3 1920 (.one 4 1920 (.one 5 1920 (.one 6 1920 (.one 7 0 (.one 8 0 (.one 9 0 (.one 10 0 (.alt 11 (.done) (.none))))))))))))))) (.u))) [] [.pointer d1] K rfl (by kernel_rfl) (by kernel_rfl) h
def S.qaH (d1:Option Addr) (id2:Int) (m3:Int) (m4:Int) (m5:Int) (m6:Int) (m7:Int) (m8:Int) (m9:Bool) (K:World->Prop) (w:World):Prop:=Al w (.cells #[.int .i64 m3, .int .u64 m4, .int .u64 m5, .int .u64 m6, .int .u64 m7, .int .u64 m8, .bool m9] 223) fun w10=>∃badge11,w10.cell? ((Addr.mk w.heap.size 0 none).add 5)=some (.int .u64 badge11)/\∃label12,w10.cell? (Addr.mk w.heap.size 0 none)=some (.int .i64 label12)/\0≤(0:Int)/\(0:Int)<(4:Int)/\∃t13,w10.cell? (((Addr.mk w.heap.size 0 none).add 1).add ((0:Int).toNat*1))=some (.int .u64 t13)/\Al w10 (.cells #[.int .u64 badge11, .int .u64 (IntKind.u64.wrap label12), .int .u64 t13] 31) fun w14=>∀l15:Int->World->Prop,(∀(t16:Int) (w17:World),(bif decide (t16<(3:Int)) then (∃a18,some (Addr.mk w10.heap.size 0 none)=some a18/\0≤t16/\t16<(3:Int)/\∃t19,w17.cell? (a18.add (t16.toNat*1))=some (.int .u64 t19)/\∃a20,d1=some a20/\∃kernel21,w17.cell? a20=some (.pointer kernel21)/\∃a22,kernel21=some a22/\∃t23,w17.cell? (a22.add 2)=some (.pointer t23)/\C.qu t23 id2 t16 t19 (fun r24 w25=>l15 (IntKind.i64.wrap (t16+(1:Int))) w25) w17) else (K w17))->l15 t16 w17)->l15 (0:Int) w14
theorem S.qaH0 (d1:Option Addr) (id2:Int) (m3:Int) (m4:Int) (m5:Int) (m6:Int) (m7:Int) (m8:Int) (m9:Bool) (K:World->Prop) (w:World) (h:S.qaH d1 id2 m3 m4 m5 m6 m7 m8 m9 K w):C.qaH d1 id2 m3 m4 m5 m6 m7 m8 m9 K w:=
 okS Tryz.func218 (.t none (.u) (.t none (.u) (.t none (.t (some [(18, .c (.i .i64))]) (.t none (.u) (.t none (.t none (.u) (.u)) (.t none (.t none (.t none (.u) (.u)) (.u)) (.u)))) (.u)) (.u)))) [] [.pointer d1, .int .i64 id2, .agg #[.int .i64 m3, .int .u64 m4, .int .u64 m5, .int .u64 m6, .int .u64 m7, .int .u64 m8, .bool m9]] K rfl (by kernel_rfl) (by kernel_rfl) h
def S.qS (d1:Option Addr) (space2:Int) (l3:Int) (l4:Int) (l5:Int) (K:World->Prop) (w:World):Prop:=Al w (.cells #[.int .i64 l3, .int .i64 l4, .int .i64 l5] 61) fun w6=>Dr w6 fun w7=>∃a8,d1=some a8/\∃forget9:Sl,w7.cell? ((a8.add 17).add 3)=some (.slice forget9.a forget9.len forget9.cap)/\∃at10,w7.cell? (Addr.mk w.heap.size 0 none)=some (.int .i64 at10)/\LdL w7 ((Addr.mk w.heap.size 0 none).add 1) 0 [.i .i64, .i .i64] fun (p11:Int) (p12:Int)=>(Al w7 (.cells #[.int .i64 space2, .int .i64 at10, .int .i64 p11, .int .i64 p12] 63) fun w13=>(∃(t14:Sl) (w15:World),AppR Tryz.prog [32,32] 32 (.slice forget9.a forget9.len forget9.cap) (.slice (some (Addr.mk w7.heap.size 0 none)) 1 1) w13 t14 w15/\∃a16,d1=some a16/\(St w15 ((a16.add 17).add 3) (.slice t14.a t14.len t14.cap) fun w17=>K w17)/\True)/\True)/\True
theorem S.qS0 (d1:Option Addr) (space2:Int) (l3:Int) (l4:Int) (l5:Int) (K:World->Prop) (w:World) (h:S.qS d1 space2 l3 l4 l5 K w):C.qS d1 space2 l3 l4 l5 K w:=
 okS Tryz.func224 (.t none (.u) (.r none (.one 0 16382 (.one 1 8128 (.one 2 8128 (.one 3 8128 (.one 4 8128 (.one 5 8128 (.one 6 1920 (.one 7 1536 (.one 8 1536 (.one 9 0 (.one 10 0 (.one 11 0 (.alt 12 (.alt 13 (.one 14 0 (.one 15 0 (.one 16 0 (.alt 17 (.done) (.none))))) (.none)) (.none)))))))))))))))) [] [.pointer d1, .int .i64 space2, .agg #[.int .i64 l3, .int .i64 l4, .int .i64 l5]] K rfl (by kernel_rfl) (by kernel_rfl) h
def S.qaC (s1:Int) (s2:Int) (t3:Addr) (K:Bool->World->Prop) (w:World):Prop:=Al w (.cells #[.int .i64 s1, .int .i64 s2] 40) fun w4=>∀k5:Addr->World->Prop,(∀(c6:Addr) (w7:World),(∃kind8,w7.cell? c6=some (.int .i64 kind8)/\K (kind8 !=(0:Int)) w7)->k5 c6 w7)->(Dr w4 fun w9=>∃t10,w9.cell? t3=some (.pointer t10)/\∃a11,t10=some a11/\∃kernel12,w9.cell? a11=some (.pointer kernel12)/\∃a13,kernel12=some a13/\∃n14,w9.cell? a13=some (.pointer n14)/\LdL w9 (Addr.mk w.heap.size 0 none) 0 [.i .i64, .i .i64] fun (t15:Int) (t16:Int)=>(C.qL n14 t15 t16 (fun r17 r18 r19 r20 r21 r22 r23 w24=>(Al w24 (.cells #[.int .i64 0, .int .i64 0, .int .i64 0, .int .u64 0, .int .u64 0, .int .i64 0] 42) fun w25=>(StL w25 (Addr.mk w24.heap.size 0 none) 0 [.int .i64 r17, .int .i64 r18, .int .i64 r19, .int .u64 r20, .int .u64 r21, .int .i64 r22] fun w26=>k5 (Addr.mk w24.heap.size 0 none) w26)/\True)/\True) w9)/\(Al w9 (.cells #[.int .i64 0, .int .i64 0, .int .i64 0, .int .u64 0, .int .u64 0, .int .i64 0] 42) fun w27=>(C.qL n14 t15 t16 (fun r28 r29 r30 r31 r32 r33 r34 w35=>(StL w35 (Addr.mk w9.heap.size 0 none) 0 [.int .i64 r28, .int .i64 r29, .int .i64 r30, .int .u64 r31, .int .u64 r32, .int .i64 r33] fun w36=>k5 (Addr.mk w9.heap.size 0 none) w36)/\True) w27)/\True)/\True)
theorem S.qaC0 (s1:Int) (s2:Int) (t3:Addr) (K:Bool->World->Prop) (w:World) (h:S.qaC s1 s2 t3 K w):C.qaC s1 s2 t3 K w:=
 okS Tryz.func279 (.t none (.u) (.t none (.r (some [(4, .c (.q))]) (.one 0 4224 (.one 1 4224 (.one 2 4224 (.one 3 4224 (.one 4 4224 (.one 5 4224 (.one 6 4224 (.one 7 4096 (.alt 8 (.one 9 4096 (.one 10 6144 (.one 11 12288 (.alt 12 (.alt 13 (.one 14 0 (.done)) (.none)) (.none))))) (.alt 12 (.alt 8 (.one 9 0 (.one 10 2048 (.one 11 8192 (.alt 13 (.one 14 0 (.done)) (.none))))) (.none)) (.none)))))))))))) (.t none (.u) (.u)))) [(0, .c (.b))] [.agg #[.int .i64 s1, .int .i64 s2], .pointer (some t3)] K rfl (by kernel_rfl) (by kernel_rfl) h
def S.qaD (h1:Int) (h2:Int) (h3:Int) (h4:Int) (h5:Int) (h6:Int) (h7:Int) (h8:Int) (t9:Addr) (K:Bool->World->Prop) (w:World):Prop:=Al w (.cells #[.int .i64 h1, .int .i64 h2, .int .i64 h3, .int .i64 h4, .int .i64 h5, .int .u64 h6, .int .u64 h7, .int .i64 h8] 44) fun w10=>LdL w10 ((Addr.mk w.heap.size 0 none).add 2) 0 [.i .i64, .i .i64, .i .i64, .i .u64, .i .u64, .i .i64] fun (c11:Int) (c12:Int) (c13:Int) (c14:Int) (c15:Int) (c16:Int)=>LdL w10 t9 0 [.i .i64, .i .i64, .i .i64, .i .u64, .i .u64, .i .i64] fun (t17:Int) (t18:Int) (t19:Int) (t20:Int) (t21:Int) (t22:Int)=>C.qcJ c11 c12 c13 c14 c15 c16 t17 t18 t19 t20 t21 t22 (fun r23 w24=>K r23 w24) w10
theorem S.qaD0 (h1:Int) (h2:Int) (h3:Int) (h4:Int) (h5:Int) (h6:Int) (h7:Int) (h8:Int) (t9:Addr) (K:Bool->World->Prop) (w:World) (h:S.qaD h1 h2 h3 h4 h5 h6 h7 h8 t9 K w):C.qaD h1 h2 h3 h4 h5 h6 h7 h8 t9 K w:=
 okS Tryz.func287 (.t none (.u) (.t none (.u) (.u))) [(0, .c (.b))] [.agg #[.int .i64 h1, .int .i64 h2, .int .i64 h3, .int .i64 h4, .int .i64 h5, .int .u64 h6, .int .u64 h7, .int .i64 h8], .pointer (some t9)] K rfl (by kernel_rfl) (by kernel_rfl) h
def S.qbk (d1:Option Addr) (c2:Int) (c3:Int) (c4:Int) (c5:Int) (c6:Int) (c7:Int) (K:World->Prop) (w:World):Prop:=Al w (.cells #[.int .i64 c2, .int .i64 c3, .int .i64 c4, .int .u64 c5, .int .u64 c6, .int .i64 c7] 42) fun w8=>∃kind9,w8.cell? (Addr.mk w.heap.size 0 none)=some (.int .i64 kind9)/\bif kind9==(3:Int) then (Dr w8 fun w10=>∃a11,d1=some a11/\∃kernel12,w10.cell? a11=some (.pointer kernel12)/\∃obj13,w10.cell? ((Addr.mk w.heap.size 0 none).add 1)=some (.int .i64 obj13)/\(C.qY kernel12 obj13 (fun w14=>Dr w14 fun w15=>∃a16,d1=some a16/\∃kernel17,w15.cell? a16=some (.pointer kernel17)/\∃a18,kernel17=some a18/\∃t19,w15.cell? (a18.add 2)=some (.pointer t19)/\∃obj20,w15.cell? ((Addr.mk w.heap.size 0 none).add 1)=some (.int .i64 obj20)/\(C.qA t19 obj20 (fun r21 w22=>K w22) w15)/\True) w10)/\True) else (bif kind9==(6:Int) then (∃a23,d1=some a23/\∃kernel24,w8.cell? a23=some (.pointer kernel24)/\∃a25,kernel24=some a25/\∃spaces26:Sl,w8.cell? (a25.add 7)=some (.slice spaces26.a spaces26.len spaces26.cap)/\∀l27:Int->World->Prop,(∀(t28:Int) (w29:World),(bif decide (t28<(spaces26.len:Int)) then (∃a30,spaces26.a=some a30/\0≤t28/\t28<(spaces26.len:Int)/\∃t31,w29.cell? (a30.add (t28.toNat*1))=some (.pointer t31)/\∃obj32,w29.cell? ((Addr.mk w.heap.size 0 none).add 1)=some (.int .i64 obj32)/\C.qaE t31 obj32 (fun r33 w34=>∀l35:Int->World->Prop,(∀(t36:Int) (w37:World),(bif decide (t36<(r33.len:Int)) then (∃a38,r33.a=some a38/\0≤t36/\t36<(r33.len:Int)/\∃t39,w37.cell? (a38.add (t36.toNat*1))=some (.int .i64 t39)/\C.qag t31 t39 (fun r40 r41 r42 w43=>Al w43 (.cells #[.int .i64 0, .int .i64 0] 59) fun w44=>StL w44 (Addr.mk w43.heap.size 0 none) 0 [.int .i64 r40, .int .i64 r41] fun w45=>LdL w45 (Addr.mk w43.heap.size 0 none) 0 [.i .i64, .i .i64] fun (t46:Int) (t47:Int)=>C.qS d1 t28 t39 t46 t47 (fun w48=>l35 (IntKind.i64.wrap (t36+(1:Int))) w48) w45) w37) else (l27 (IntKind.i64.wrap (t28+(1:Int))) w37))->l35 t36 w37)->l35 (0:Int) w34) w29) else (K w29))->l27 t28 w29)->l27 (0:Int) w8) else (bif kind9==(7:Int) then (∃a49,d1=some a49/\∃kernel50,w8.cell? a49=some (.pointer kernel50)/\∃a51,kernel50=some a51/\∃spaces52:Sl,w8.cell? (a51.add 7)=some (.slice spaces52.a spaces52.len spaces52.cap)/\∀l53:Int->World->Prop,(∀(t54:Int) (w55:World),(bif decide (t54<(spaces52.len:Int)) then (∃a56,spaces52.a=some a56/\0≤t54/\t54<(spaces52.len:Int)/\∃t57,w55.cell? (a56.add (t54.toNat*1))=some (.pointer t57)/\∀l58:Int->World->Prop,(∀(t59:Int) (w60:World),(bif decide (t59<(64:Int)) then (C.qbz t57 t59 (fun r61 r62 w63=>∀k64:Bool->World->Prop,(∀(t65:Bool) (w66:World),(bif t65 then (C.qbm t57 t59 (fun r67 r68 w69=>∀l70:Int->World->Prop,(∀(t71:Int) (w72:World),(bif decide (t71<(r67.len:Int)) then (∃a73,r67.a=some a73/\0≤t71/\t71<(r67.len:Int)/\LdL w72 (a73.add (t71.toNat*3)) 0 [.i .i64, .i .i64, .i .i64] fun (t74:Int) (t75:Int) (t76:Int)=>Al w72 (.cells #[.int .i64 0, .int .i64 0, .int .i64 0] 61) fun w77=>StL w77 (Addr.mk w72.heap.size 0 none) 0 [.int .i64 t74, .int .i64 t75, .int .i64 t76] fun w78=>LdL w78 (Addr.mk w72.heap.size 0 none) 0 [.i .i64, .i .i64, .i .i64] fun (t79:Int) (t80:Int) (t81:Int)=>C.qS d1 t54 t79 t80 t81 (fun w82=>l70 (IntKind.i64.wrap (t71+(1:Int))) w82) w78) else (l58 (IntKind.i64.wrap (t59+(1:Int))) w72))->l70 t71 w72)->l70 (0:Int) w69) w66) else (l58 (IntKind.i64.wrap (t59+(1:Int))) w66))->k64 t65 w66)->(bif r62 then (∃obj83,w63.cell? ((Addr.mk w.heap.size 0 none).add 1)=some (.int .i64 obj83)/\k64 (r61==obj83) w63) else (k64 false w63))) w60) else (l53 (IntKind.i64.wrap (t54+(1:Int))) w60))->l58 t59 w60)->l58 (0:Int) w55) else (K w55))->l53 t54 w55)->l53 (0:Int) w8) else (K w8)))
theorem S.qbk0 (d1:Option Addr) (c2:Int) (c3:Int) (c4:Int) (c5:Int) (c6:Int) (c7:Int) (K:World->Prop) (w:World) (h:S.qbk d1 c2 c3 c4 c5 c6 c7 K w):C.qbk d1 c2 c3 c4 c5 c6 c7 K w:=
 okS Tryz.func289 (.t none (.u) (.t none (.u) (.t none (.t none (.u) (.t none (.t none (.r none (.one 0 48 (.one 1 48 (.one 2 48 (.one 3 48 (.one 4 0 (.one 5 0 (.alt 6 (.done) (.none))))))))) (.r none (.one 0 384 (.one 1 384 (.one 2 384 (.one 3 384 (.one 4 384 (.one 5 384 (.one 6 384 (.one 7 0 (.one 8 0 (.alt 9 (.done) (.none))))))))))))) (.t none (.u) (.t none (.t none (.u) (.t none (.t (some [(50, .c (.i .i64))]) (.t none (.u) (.t none (.t none (.u) (.u)) (.t none (.t none (.t none (.u) (.t none (.u) (.t none (.t (some [(60, .c (.i .i64))]) (.t none (.u) (.t none (.t none (.u) (.u)) (.t none (.t none (.t none (.u) (.t none (.u) (.u))) (.u)) (.u)))) (.u)) (.u)))) (.u)) (.u)))) (.u)) (.u))) (.t none (.u) (.t none (.t none (.u) (.t none (.t (some [(88, .c (.i .i64))]) (.t none (.u) (.t none (.t none (.u) (.u)) (.t none (.t none (.t none (.u) (.t none (.u) (.t none (.t (some [(93, .c (.i .i64))]) (.t none (.u) (.t none (.t none (.u) (.u)) (.t none (.t none (.t none (.u) (.t none (.u) (.t none (.r (some [(108, .c (.b))]) .done) (.t none (.t none (.u) (.t none (.u) (.t none (.t (some [(117, .c (.i .i64))]) (.t none (.u) (.t none (.t none (.u) (.u)) (.t none (.t none (.t none (.u) (.u)) (.u)) (.u)))) (.u)) (.u)))) (.u))))) (.u)) (.u)))) (.u)) (.u)))) (.u)) (.u)))) (.u)) (.u))) (.u))))))) (.u)))) [] [.pointer d1, .agg #[.int .i64 c2, .int .i64 c3, .int .i64 c4, .int .u64 c5, .int .u64 c6, .int .i64 c7]] K rfl (by kernel_rfl) (by kernel_rfl) h
end Go.Proofs.YtogmbmdbgkopjaaGreat
end
section
namespace Go.Proofs.YtogmbmdbgkopjaaGreat
open Go Go.Vc Go.Proofs
def cL:Code->Code| .seq a _=>a|c=>c
def cR:Code->Code| .seq _ b=>b|c=>c
noncomputable def codeB:Code:=bodyOf Tryz.f123
noncomputable def codeA:Code:= .seq (cL codeB) (.seq (cL (cR codeB)) (cL (cL (cR (cR codeB)))))
noncomputable def codeZ:Code:=cR (cR (cR codeB))
noncomputable def codeL:Code:=cR (cL (cR (cR codeB)))
def S.qcR (d1:Option Addr) (K:Option Addr->Addr->Int->Sl->Value->World->Prop) (w:World):Prop:=Al w (.cells #[.pointer d1] 125) fun w2=>Dr w2 fun w3=>∃t4:Option Addr,w3.cell? (Addr.mk w.heap.size 0 none)=some (.pointer t4)/\∃a5:Addr,t4=some a5/\∃kernel6:Option Addr,w3.cell? a5=some (.pointer kernel6)/\∃a7:Addr,kernel6=some a7/\∃tr8:Option Addr,w3.cell? (a7.add 1)=some (.pointer tr8)/\∃t9:Option Addr,w3.cell? (Addr.mk w.heap.size 0 none)=some (.pointer t9)/\∃a10:Addr,t9=some a10/\LdL w3 (a10.add 9) 0 [.i .i64, .i .i64] fun (s11:Int) (s12:Int)=>(C.qbF tr8 s11 s12 (fun r13 w14=>C.qy r13 (fun r15 w16=>K d1 (Addr.mk w.heap.size 0 none) (0:Int) r13 r15 w16) w14) w3)/\True
def codeAAn:An:= .t none (.u) (.t none (.r none (.one 0 1920 (.one 1 1920 (.one 2 1920 (.one 3 1920 (.one 4 1920 (.one 5 1920 (.one 6 1920 (.one 7 0 (.one 8 0 (.one 9 0 (.one 10 0 (.alt 11 (.one 12 0 (.done)) (.none)))))))))))))) (.u))
def codeACs:List (Nat × Sh):=[(0, .c (.p)),(1, .c (.q)),(2, .c (.i .i64)),(3, .c (.s)),(4, .c (.v))]
noncomputable def codeAF:Func:={ Tryz.f123 with results:= #[.tmp 0, .tmp 1, .tmp 2, .tmp 3, .tmp 19],body:=some codeA}
set_option maxRecDepth 100000 in
theorem S.qcR1 (d1:Option Addr) (K:Option Addr->Addr->Int->Sl->Value->World->Prop) (w:World):vc Tryz.prog codeA codeAAn (fun e w'=>resL Tryz.prog codeAF.results.toList e w' [] fun vs=>appE codeACs K (nth vs) w') (fun _ _ _=>False) (fun _ _=>False) (nth [.pointer d1]) w=S.qcR d1 K w:=by kernel_rfl
def S.qcS (d1:Option Addr) (d2:Addr) (t3:Int) (l4:Sl) (K:Int->World->Prop) (w:World):Prop:=∃t5:Option Addr,w.cell? d2=some (.pointer t5)/\∃a6:Addr,t5=some a6/\St w ((a6.add 17).add 1) (.int .u64 (IntKind.u64.wrap (l4.len:Int))) fun w7=>∃t8:Option Addr,w7.cell? d2=some (.pointer t8)/\∃a9:Addr,t8=some a9/\∃kind10:Int,w7.cell? (a9.add 11)=some (.int .i64 kind10)/\bif kind10==(1:Int) then (Dr w7 fun w11=>∃t12:Option Addr,w11.cell? d2=some (.pointer t12)/\∃a13:Addr,t12=some a13/\∃kernel14:Option Addr,w11.cell? a13=some (.pointer kernel14)/\∃a15:Addr,kernel14=some a15/\∃u16:Sl,w11.cell? (a15.add 4)=some (.slice u16.a u16.len u16.cap)/\∃t17:Option Addr,w11.cell? d2=some (.pointer t17)/\∃a18:Addr,t17=some a18/\∃obj19:Int,w11.cell? ((a18.add 11).add 1)=some (.int .i64 obj19)/\∃a20:Addr,u16.a=some a20/\0≤obj19/\obj19<(u16.len:Int)/\LdL w11 (a20.add (obj19.toNat*3)) 0 [.i .u64, .i .i64, .i .u64] fun (t21:Int) (t22:Int) (t23:Int)=>∃t24:Option Addr,w11.cell? d2=some (.pointer t24)/\∃a25:Addr,t24=some a25/\∃kernel26:Option Addr,w11.cell? a25=some (.pointer kernel26)/\∃a27:Addr,kernel26=some a27/\∃u28:Sl,w11.cell? (a27.add 4)=some (.slice u28.a u28.len u28.cap)/\∃t29:Option Addr,w11.cell? d2=some (.pointer t29)/\∃a30:Addr,t29=some a30/\∃obj31:Int,w11.cell? ((a30.add 11).add 1)=some (.int .i64 obj31)/\(C.qce t21 t22 t23 (fun r32 r33 r34 w35=>w35.cell? ((a30.add 11).add 1)=some (.int .i64 obj31)/\w35.cell? d2=some (.pointer t29)/\w35.cell? (a27.add 4)=some (.slice u28.a u28.len u28.cap)/\w35.cell? a25=some (.pointer kernel26)/\w35.cell? d2=some (.pointer t24)/\∃a36:Addr,u28.a=some a36/\0≤obj31/\obj31<(u28.len:Int)/\(StL w35 (a36.add (obj31.toNat*3)) 0 [.int .u64 r32, .int .i64 r33, .int .u64 r34] fun w37=>K (0:Int) w37)/\True) w11)/\True) else (K (0:Int) w7)
def codeZAn:An:= .t none (.u) (.t none (.t none (.u) (.t none (.r none (.one 12 16257023 (.one 13 16257023 (.one 14 16257023 (.one 15 16257023 (.one 16 16257023 (.one 17 16257023 (.one 18 16257023 (.one 19 4095 (.one 20 4095 (.one 21 4095 (.one 22 4095 (.one 23 4095 (.one 24 4095 (.one 25 4095 (.hold 0 67112832 268435455 (.one 1 67112832 (.one 2 67112832 (.hold 3 67112832 268435455 (.one 4 67112832 (.one 5 67112832 (.hold 6 67112832 268435455 (.hold 7 67108864 268435455 (.one 8 67108864 (.one 9 67108864 (.one 10 67108864 (.hold 11 67108864 268435455 (.alt 26 (.one 27 0 (.alt 28 (.done) (.none))) (.none))))))))))))))))))))))))))))) (.u))) (.t none (.u) (.u)))
def codeZCs:List (Nat × Sh):=[(0, .c (.i .i64))]
noncomputable def codeZF:Func:={ Tryz.f123 with results:= #[.tmp 2],body:=some codeZ}
set_option maxRecDepth 100000 in
theorem S.qcS1 (d1:Option Addr) (d2:Addr) (t3:Int) (l4:Sl) (K:Int->World->Prop) (w:World):fnV Tryz.prog codeZF codeZ codeZAn codeZCs [.pointer d1, .pointer (some d2), .int .i64 t3, .slice l4.a l4.len l4.cap] K w=S.qcS d1 d2 t3 l4 K w:=by kernel_rfl
end Go.Proofs.YtogmbmdbgkopjaaGreat
end
section
set_option maxRecDepth 100000
namespace Go.Proofs.YtogmbmdbgkopjaaGreat
open Go Go.Vc Go.Proofs
def S.qbn (b1:Int) (b2:Int) (b3:Int) (b4:Sl) (script5:Sl) (at6:Int) (K:Bool->World->Prop) (w:World):Prop:=Al w (.cells #[.int .i64 b1, .int .i64 b2, .int .i64 b3, .slice b4.a b4.len b4.cap] 28) fun w7=>LdL w7 (Addr.mk w.heap.size 0 none) 0 [.i .i64, .i .i64, .i .i64, .s] fun (t8:Int) (t9:Int) (t10:Int) (t11:Sl)=>C.qal t8 t9 t10 t11 script5 (fun r12 w13=>bif r12.isNone then (K false w13) else (C.qv r12 (fun r14 w15=>C.qo r12 (0:Int) (4:Int) (andI .i64 at6 (63:Int)) (0:Int) (0:Int) (0:Int) (0:Int) (fun r16 r17 r18 r19 w20=>Al w20 (.cells #[.int .i64 0, .int .u64 0, .int .i64 0, .slice none 0 0] 34) fun w21=>StL w21 (Addr.mk w20.heap.size 0 none) 0 [.int .i64 r16, .int .u64 r17, .int .i64 r18, .slice r19.a r19.len r19.cap] fun w22=>C.qv r12 (fun r23 w24=>∃e25,w24.cell? (Addr.mk w20.heap.size 0 none)=some (.int .i64 e25)/\bif e25 !=(0:Int) then (C.qbK r23 r14 (fun r26 w27=>bif r26 then (C.qba (fun r28 w29=>K r28 w29) w27) else (K false w27)) w24) else (∀l30:Int->Int->Int->World->Prop,(∀(j31:Int) (gone32:Int) (i33:Int) (w34:World),(bif decide (i33<(r14.len:Int)) then (∀k35:Bool->World->Prop,(∀(t36:Bool) (w37:World),(bif t36 then (l30 (IntKind.i64.wrap (j31+(1:Int))) gone32 (IntKind.i64.wrap (i33+(1:Int))) w37) else (l30 j31 (IntKind.i64.wrap (gone32+(1:Int))) (IntKind.i64.wrap (i33+(1:Int))) w37))->k35 t36 w37)->(Dr w34 fun w38=>bif decide (j31<(r23.len:Int)) then (∃a39,r23.a=some a39/\0≤j31/\j31<(r23.len:Int)/\LdL w38 (a39.add (j31.toNat*8)) 0 [.i .i64, .i .i64, .i .i64, .i .i64, .i .i64, .i .u64, .i .u64, .i .i64] fun (t40:Int) (t41:Int) (t42:Int) (t43:Int) (t44:Int) (t45:Int) (t46:Int) (t47:Int)=>∃a48,r14.a=some a48/\0≤i33/\i33<(r14.len:Int)/\LdL w38 (a48.add (i33.toNat*8)) 0 [.i .i64, .i .i64, .i .i64, .i .i64, .i .i64, .i .u64, .i .u64, .i .i64] fun (t49:Int) (t50:Int) (t51:Int) (t52:Int) (t53:Int) (t54:Int) (t55:Int) (t56:Int)=>∃eq57,EqB Tryz.prog .eql 44 (.tmp 54) (.tmp 58) (.agg #[.int .i64 t40, .int .i64 t41, .int .i64 t42, .int .i64 t43, .int .i64 t44, .int .u64 t45, .int .u64 t46, .int .i64 t47]) (.agg #[.int .i64 t49, .int .i64 t50, .int .i64 t51, .int .i64 t52, .int .i64 t53, .int .u64 t54, .int .u64 t55, .int .i64 t56]) eq57/\k35 eq57 w38) else (k35 false w38))) else (C.qo r12 (0:Int) (4:Int) (andI .i64 at6 (63:Int)) (0:Int) (0:Int) (0:Int) (0:Int) (fun r58 r59 r60 r61 w62=>Al w62 (.cells #[.int .i64 0, .int .u64 0, .int .i64 0, .slice none 0 0] 34) fun w63=>StL w63 (Addr.mk w62.heap.size 0 none) 0 [.int .i64 r58, .int .u64 r59, .int .i64 r60, .slice r61.a r61.len r61.cap] fun w64=>bif j31==(r23.len:Int) then (∃w65,w64.cell? ((Addr.mk w20.heap.size 0 none).add 1)=some (.int .u64 w65)/\bif (IntKind.u64.wrap gone32)==w65 then (∃e66,w64.cell? (Addr.mk w62.heap.size 0 none)=some (.int .i64 e66)/\bif e66 !=(0:Int) then (C.qba (fun r67 w68=>K r67 w68) w64) else (∃w69,w64.cell? ((Addr.mk w62.heap.size 0 none).add 1)=some (.int .u64 w69)/\bif w69==(0:Int) then (C.qba (fun r70 w71=>K r70 w71) w64) else (K false w64))) else (K false w64)) else (K false w64)) w34))->l30 j31 gone32 i33 w34)->l30 (0:Int) (0:Int) (0:Int) w24)) w22) w15) w13)) w7
theorem S.qbn0 (b1:Int) (b2:Int) (b3:Int) (b4:Sl) (script5:Sl) (at6:Int) (K:Bool->World->Prop) (w:World) (h:S.qbn b1 b2 b3 b4 script5 at6 K w):C.qbn b1 b2 b3 b4 script5 at6 K w:=
 okS Tryz.func10 (.t none (.u) (.t none (.u) (.t none (.t none (.u) (.t none (.t none (.u) (.u)) (.u))) (.t none (.u) (.t none (.u) (.t none (.u) (.t none (.u) (.t none (.t none (.u) (.t none (.t none (.u) (.u)) (.u))) (.t none (.u) (.t none (.t none (.u) (.t none (.t (some [(12, .c (.i .i64)),(13, .c (.i .i64)),(14, .c (.i .i64))]) (.t none (.t none (.u) (.t none (.u) (.u))) (.t none (.t none (.t none (.r (some [(60, .c (.b))]) (.one 0 6 (.one 1 0 (.one 2 0 (.one 3 0 (.one 4 0 (.one 5 7744 (.one 6 7680 (.one 7 7680 (.one 8 7680 (.one 9 1024 (.one 10 0 (.one 11 0 (.one 12 0 (.one 13 0 (.one 14 0 (.done))))))))))))))))) (.t none (.u) (.u))) (.u)) (.u))) (.u)) (.u))) (.t none (.u) (.t none (.u) (.u))))))))))))) [(0, .c (.b))] [.agg #[.int .i64 b1, .int .i64 b2, .int .i64 b3, .slice b4.a b4.len b4.cap], .slice script5.a script5.len script5.cap, .int .i64 at6] K rfl (by kernel_rfl) (by kernel_rfl) h
def S.qbQ (b1:Int) (b2:Int) (b3:Int) (b4:Sl) (script5:Sl) (K:Bool->World->Prop) (w:World):Prop:=Al w (.cells #[.int .i64 b1, .int .i64 b2, .int .i64 b3, .slice b4.a b4.len b4.cap] 28) fun w6=>LdL w6 (Addr.mk w.heap.size 0 none) 0 [.i .i64, .i .i64, .i .i64, .s] fun (t7:Int) (t8:Int) (t9:Int) (t10:Sl)=>C.qal t7 t8 t9 t10 script5 (fun r11 w12=>bif r11.isNone then (K false w12) else (C.qv r11 (fun r13 w14=>C.qac r11 (fun r15 w16=>bif (r13.len:Int) !=(r15.len:Int) then (K false w16) else (∀l17:Int->World->Prop,(∀(i18:Int) (w19:World),(bif decide (i18<(r13.len:Int)) then (∀l20:Int->Int->World->Prop,(∀(n21:Int) (j22:Int) (w23:World),(bif decide (j22<(r15.len:Int)) then (Dr w23 fun w24=>∃a25,r15.a=some a25/\0≤j22/\j22<(r15.len:Int)/\LdL w24 (a25.add (j22.toNat*2)) 0 [.i .i64, .i .i64] fun (t26:Int) (t27:Int)=>∃a28,r13.a=some a28/\0≤i18/\i18<(r13.len:Int)/\LdL w24 (a28.add (i18.toNat*8)) 0 [.i .i64, .i .i64] fun (at29:Int) (at30:Int)=>∃eq31,EqB Tryz.prog .eql 40 (.tmp 40) (.tmp 45) (.agg #[.int .i64 t26, .int .i64 t27]) (.agg #[.int .i64 at29, .int .i64 at30]) eq31/\bif eq31 then (l20 (IntKind.i64.wrap (n21+(1:Int))) (IntKind.i64.wrap (j22+(1:Int))) w24) else (l20 n21 (IntKind.i64.wrap (j22+(1:Int))) w24)) else (∀k32:Bool->World->Prop,(∀(t33:Bool) (w34:World),(bif t33 then (K false w34) else (l17 (IntKind.i64.wrap (i18+(1:Int))) w34))->k32 t33 w34)->(bif n21 !=(1:Int) then (k32 true w23) else (∃a35,r13.a=some a35/\0≤i18/\i18<(r13.len:Int)/\∃kind36,w23.cell? ((a35.add (i18.toNat*8)).add 2)=some (.int .i64 kind36)/\k32 (kind36==(0:Int)) w23))))->l20 n21 j22 w23)->l20 (0:Int) (0:Int) w19) else (C.qba (fun r37 w38=>K r37 w38) w19))->l17 i18 w19)->l17 (0:Int) w16)) w14) w12)) w6
theorem S.qbQ0 (b1:Int) (b2:Int) (b3:Int) (b4:Sl) (script5:Sl) (K:Bool->World->Prop) (w:World) (h:S.qbQ b1 b2 b3 b4 script5 K w):C.qbQ b1 b2 b3 b4 script5 K w:=
 okS Tryz.func11 (.t none (.u) (.t none (.u) (.t none (.t none (.u) (.t none (.t none (.u) (.u)) (.u))) (.t none (.u) (.t none (.t none (.u) (.t none (.t none (.u) (.u)) (.u))) (.t none (.t none (.u) (.t none (.t (some [(8, .c (.i .i64))]) (.t none (.t none (.u) (.t none (.u) (.u))) (.t none (.t none (.t none (.u) (.t none (.t none (.u) (.t none (.t (some [(9, .c (.i .i64)),(10, .c (.i .i64))]) (.t none (.t none (.u) (.t none (.u) (.u))) (.t none (.t none (.t none (.r none (.one 0 498 (.one 1 496 (.one 2 496 (.one 3 496 (.one 4 32 (.one 5 0 (.one 6 0 (.one 7 0 (.one 8 0 (.one 9 0 (.done)))))))))))) (.t none (.u) (.u))) (.u)) (.u))) (.u)) (.u))) (.t none (.r (some [(59, .c (.b))]) .done) (.t none (.t none (.u) (.u)) (.u))))) (.u)) (.u))) (.u)) (.u))) (.t none (.u) (.u)))))))) [(0, .c (.b))] [.agg #[.int .i64 b1, .int .i64 b2, .int .i64 b3, .slice b4.a b4.len b4.cap], .slice script5.a script5.len script5.cap] K rfl (by kernel_rfl) (by kernel_rfl) h
def S.qbr (b1:Int) (b2:Int) (b3:Int) (b4:Sl) (script5:Sl) (o6:Int) (o7:Int) (o8:Int) (o9:Int) (o10:Int) (o11:Int) (o12:Int) (o13:Int) (K:Bool->World->Prop) (w:World):Prop:=Al w (.cells #[.int .i64 b1, .int .i64 b2, .int .i64 b3, .slice b4.a b4.len b4.cap] 28) fun w14=>Al w14 (.cells #[.int .i64 o6, .int .i64 o7, .int .i64 o8, .int .i64 o9, .int .i64 o10, .int .i64 o11, .int .i64 o12, .int .i64 o13] 83) fun w15=>LdL w15 (Addr.mk w.heap.size 0 none) 0 [.i .i64, .i .i64, .i .i64, .s] fun (t16:Int) (t17:Int) (t18:Int) (t19:Sl)=>C.qal t16 t17 t18 t19 script5 (fun r20 w21=>bif r20.isNone then (K false w21) else (C.qv r20 (fun r22 w23=>C.qac r20 (fun r24 w25=>Al w25 (.cells #[] 86) fun w26=>∀l27:Sl->Int->World->Prop,(∀(u28:Sl) (i29:Int) (w30:World),(bif decide (i29<(20:Int)) then (C.qB r20 i29 (fun r31 r32 r33 r34 w35=>Al w35 (.cells #[.int .u64 0, .int .i64 0, .int .u64 0] 86) fun w36=>StL w36 (Addr.mk w35.heap.size 0 none) 0 [.int .u64 r31, .int .i64 r32, .int .u64 r33] fun w37=>LdL w37 (Addr.mk w35.heap.size 0 none) 0 [.i .u64, .i .i64, .i .u64] fun (t38:Int) (t39:Int) (t40:Int)=>Al w37 (.cells #[.int .u64 t38, .int .i64 t39, .int .u64 t40] 86) fun w41=>∃(t42:Sl) (w43:World),AppR Tryz.prog [84,84] 84 (.slice u28.a u28.len u28.cap) (.slice (some (Addr.mk w37.heap.size 0 none)) 1 1) w41 t42 w43/\l27 t42 (IntKind.i64.wrap (i29+(1:Int))) w43) w30) else (C.qah r20 (0:Int) (fun r44 w45=>∃core46,w45.cell? ((Addr.mk w14.heap.size 0 none).add 1)=some (.int .i64 core46)/\LdL w45 ((Addr.mk w14.heap.size 0 none).add 2) 0 [.i .i64, .i .i64, .i .i64, .i .i64, .i .i64, .i .i64] fun (c47:Int) (c48:Int) (c49:Int) (c50:Int) (c51:Int) (c52:Int)=>C.qo r20 core46 c47 c48 c49 c50 c51 c52 (fun r53 r54 r55 r56 w57=>Al w57 (.cells #[.int .i64 0, .int .u64 0, .int .i64 0, .slice none 0 0] 34) fun w58=>StL w58 (Addr.mk w57.heap.size 0 none) 0 [.int .i64 r53, .int .u64 r54, .int .i64 r55, .slice r56.a r56.len r56.cap] fun w59=>∃e60,w59.cell? (Addr.mk w57.heap.size 0 none)=some (.int .i64 e60)/\bif e60==(0:Int) then (C.qba (fun r61 w62=>K r61 w62) w59) else (∀l63:Int->World->Prop,(∀(i64:Int) (w65:World),(bif decide (i64<(20:Int)) then (C.qB r20 i64 (fun r66 r67 r68 r69 w70=>Al w70 (.cells #[.int .u64 0, .int .i64 0, .int .u64 0] 86) fun w71=>StL w71 (Addr.mk w70.heap.size 0 none) 0 [.int .u64 r66, .int .i64 r67, .int .u64 r68] fun w72=>Dr w72 fun w73=>LdL w73 (Addr.mk w70.heap.size 0 none) 0 [.i .u64, .i .i64, .i .u64] fun (t74:Int) (t75:Int) (t76:Int)=>∃a77,u28.a=some a77/\0≤i64/\i64<(u28.len:Int)/\LdL w73 (a77.add (i64.toNat*3)) 0 [.i .u64, .i .i64, .i .u64] fun (t78:Int) (t79:Int) (t80:Int)=>∃eq81,EqB Tryz.prog .neq 86 (.tmp 65) (.tmp 69) (.agg #[.int .u64 t74, .int .i64 t75, .int .u64 t76]) (.agg #[.int .u64 t78, .int .i64 t79, .int .u64 t80]) eq81/\bif eq81 then (K false w73) else (l63 (IntKind.i64.wrap (i64+(1:Int))) w73)) w65) else (C.qv r20 (fun r82 w83=>C.qbK r82 r22 (fun r84 w85=>bif r84 then (C.qac r20 (fun r86 w87=>C.qcx r86 r24 (fun r88 w89=>bif r88 then (C.qah r20 (0:Int) (fun r90 w91=>C.qcy r90 r44 (fun r92 w93=>bif r92 then (∃w94,w93.cell? ((Addr.mk w57.heap.size 0 none).add 1)=some (.int .u64 w94)/\bif w94==(0:Int) then (∃wakes95,w93.cell? ((Addr.mk w57.heap.size 0 none).add 2)=some (.int .i64 wakes95)/\bif wakes95==(-1:Int) then (∃forget96:Sl,w93.cell? ((Addr.mk w57.heap.size 0 none).add 3)=some (.slice forget96.a forget96.len forget96.cap)/\bif (forget96.len:Int)==(0:Int) then (C.qba (fun r97 w98=>K r97 w98) w93) else (K false w93)) else (K false w93)) else (K false w93)) else (K false w93)) w91) w89) else (K false w89)) w87) w85) else (K false w85)) w83) w65))->l63 i64 w65)->l63 (0:Int) w59)) w45) w30))->l27 u28 i29 w30)->l27 ⟨some (Addr.mk w25.heap.size 0 none),0,0⟩ (0:Int) w26) w23) w21)) w15
theorem S.qbr0 (b1:Int) (b2:Int) (b3:Int) (b4:Sl) (script5:Sl) (o6:Int) (o7:Int) (o8:Int) (o9:Int) (o10:Int) (o11:Int) (o12:Int) (o13:Int) (K:Bool->World->Prop) (w:World) (h:S.qbr b1 b2 b3 b4 script5 o6 o7 o8 o9 o10 o11 o12 o13 K w):C.qbr b1 b2 b3 b4 script5 o6 o7 o8 o9 o10 o11 o12 o13 K w:=
 okS Tryz.func12 (.t none (.u) (.t none (.u) (.t none (.t none (.u) (.t none (.t none (.u) (.u)) (.u))) (.t none (.u) (.t none (.t none (.u) (.t none (.t (some [(10, .c (.s)),(11, .c (.i .i64))]) (.t none (.t none (.u) (.t none (.u) (.u))) (.t none (.t none (.t none (.u) (.u)) (.u)) (.u))) (.u)) (.u))) (.t none (.u) (.t none (.u) (.t none (.t none (.u) (.t none (.t none (.u) (.u)) (.u))) (.t none (.t none (.u) (.t none (.t (some [(16, .c (.i .i64))]) (.t none (.t none (.u) (.t none (.u) (.u))) (.t none (.t none (.t none (.u) (.t none (.r none (.one 0 30 (.one 1 4 (.one 2 0 (.one 3 0 (.one 4 0 (.one 5 0 (.done)))))))) (.t none (.t none (.u) (.u)) (.u)))) (.u)) (.u))) (.u)) (.u))) (.t none (.u) (.u))))))))))) [(0, .c (.b))] [.agg #[.int .i64 b1, .int .i64 b2, .int .i64 b3, .slice b4.a b4.len b4.cap], .slice script5.a script5.len script5.cap, .agg #[.int .i64 o6, .int .i64 o7, .int .i64 o8, .int .i64 o9, .int .i64 o10, .int .i64 o11, .int .i64 o12, .int .i64 o13]] K rfl (by kernel_rfl) (by kernel_rfl) h
def S.qba (K:Bool->World->Prop) (w:World):Prop:=C.qcN (fun r1 r2 r3 r4 w5=>C.qbW r1 r2 r3 r4 (fun r6 r7 w8=>∀k9:Bool->World->Prop,(∀(t10:Bool) (w11:World),(bif t10 then (K false w11) else (C.qo r6 (0:Int) (0:Int) (1:Int) (20:Int) (4:Int) (0:Int) (1:Int) (fun r12 r13 r14 r15 w16=>Al w16 (.cells #[.int .i64 0, .int .u64 0, .int .i64 0, .slice none 0 0] 34) fun w17=>StL w17 (Addr.mk w16.heap.size 0 none) 0 [.int .i64 r12, .int .u64 r13, .int .i64 r14, .slice r15.a r15.len r15.cap] fun w18=>C.qo r6 (0:Int) (1:Int) (20:Int) (21:Int) (2:Int) (7:Int) (0:Int) (fun r19 r20 r21 r22 w23=>Al w23 (.cells #[.int .i64 0, .int .u64 0, .int .i64 0, .slice none 0 0] 34) fun w24=>StL w24 (Addr.mk w23.heap.size 0 none) 0 [.int .i64 r19, .int .u64 r20, .int .i64 r21, .slice r22.a r22.len r22.cap] fun w25=>C.qo r6 (0:Int) (9:Int) (21:Int) (0:Int) (0:Int) (0:Int) (0:Int) (fun r26 r27 r28 r29 w30=>Al w30 (.cells #[.int .i64 0, .int .u64 0, .int .i64 0, .slice none 0 0] 34) fun w31=>StL w31 (Addr.mk w30.heap.size 0 none) 0 [.int .i64 r26, .int .u64 r27, .int .i64 r28, .slice r29.a r29.len r29.cap] fun w32=>C.qv r6 (fun r33 w34=>C.qo r6 (0:Int) (4:Int) (1:Int) (0:Int) (0:Int) (0:Int) (0:Int) (fun r35 r36 r37 r38 w39=>Al w39 (.cells #[.int .i64 0, .int .u64 0, .int .i64 0, .slice none 0 0] 34) fun w40=>StL w40 (Addr.mk w39.heap.size 0 none) 0 [.int .i64 r35, .int .u64 r36, .int .i64 r37, .slice r38.a r38.len r38.cap] fun w41=>C.qo r6 (0:Int) (18:Int) (0:Int) (0:Int) (0:Int) (0:Int) (0:Int) (fun r42 r43 r44 r45 w46=>Al w46 (.cells #[.int .i64 0, .int .u64 0, .int .i64 0, .slice none 0 0] 34) fun w47=>StL w47 (Addr.mk w46.heap.size 0 none) 0 [.int .i64 r42, .int .u64 r43, .int .i64 r44, .slice r45.a r45.len r45.cap] fun w48=>C.qo r6 (1:Int) (0:Int) (0:Int) (0:Int) (0:Int) (0:Int) (0:Int) (fun r49 r50 r51 r52 w53=>Al w53 (.cells #[.int .i64 0, .int .u64 0, .int .i64 0, .slice none 0 0] 34) fun w54=>StL w54 (Addr.mk w53.heap.size 0 none) 0 [.int .i64 r49, .int .u64 r50, .int .i64 r51, .slice r52.a r52.len r52.cap] fun w55=>C.qB r6 (0:Int) (fun r56 r57 r58 r59 w60=>Al w60 (.cells #[.int .u64 0, .int .i64 0, .int .u64 0] 86) fun w61=>StL w61 (Addr.mk w60.heap.size 0 none) 0 [.int .u64 r56, .int .i64 r57, .int .u64 r58] fun w62=>C.qo r6 (0:Int) (6:Int) (2:Int) (0:Int) (0:Int) (0:Int) (0:Int) (fun r63 r64 r65 r66 w67=>Al w67 (.cells #[.int .i64 0, .int .u64 0, .int .i64 0, .slice none 0 0] 34) fun w68=>StL w68 (Addr.mk w67.heap.size 0 none) 0 [.int .i64 r63, .int .u64 r64, .int .i64 r65, .slice r66.a r66.len r66.cap] fun w69=>C.qo r6 (0:Int) (17:Int) (0:Int) (0:Int) (0:Int) (0:Int) (0:Int) (fun r70 r71 r72 r73 w74=>Al w74 (.cells #[.int .i64 0, .int .u64 0, .int .i64 0, .slice none 0 0] 34) fun w75=>StL w75 (Addr.mk w74.heap.size 0 none) 0 [.int .i64 r70, .int .u64 r71, .int .i64 r72, .slice r73.a r73.len r73.cap] fun w76=>C.qbW (0:Int) (0:Int) (0:Int) ⟨none,0,0⟩ (fun r77 r78 w79=>∃e80,w79.cell? (Addr.mk w16.heap.size 0 none)=some (.int .i64 e80)/\bif e80==(0:Int) then (∃wakes81,w79.cell? ((Addr.mk w16.heap.size 0 none).add 2)=some (.int .i64 wakes81)/\bif wakes81==(-1:Int) then (∃e82,w79.cell? (Addr.mk w23.heap.size 0 none)=some (.int .i64 e82)/\bif e82==(0:Int) then (∃e83,w79.cell? (Addr.mk w30.heap.size 0 none)=some (.int .i64 e83)/\bif e83==(181:Int) then (bif (r33.len:Int)==(8:Int) then (∃e84,w79.cell? (Addr.mk w39.heap.size 0 none)=some (.int .i64 e84)/\bif e84==(0:Int) then (∃w85,w79.cell? ((Addr.mk w39.heap.size 0 none).add 1)=some (.int .u64 w85)/\bif w85==(2:Int) then (C.qv r6 (fun r86 w87=>bif (r86.len:Int)==(6:Int) then (∃e88,w87.cell? (Addr.mk w46.heap.size 0 none)=some (.int .i64 e88)/\bif e88==(180:Int) then (∃e89,w87.cell? (Addr.mk w53.heap.size 0 none)=some (.int .i64 e89)/\bif e89==(182:Int) then (LdL w87 (Addr.mk w60.heap.size 0 none) 0 [.i .u64, .i .i64, .i .u64] fun (t90:Int) (t91:Int) (t92:Int)=>∃eq93,EqB Tryz.prog .eql 86 (.tmp 113) (.tmp 114) (.agg #[.int .u64 t90, .int .i64 t91, .int .u64 t92]) (.agg #[.int .u64 0, .int .i64 10, .int .u64 0]) eq93/\bif eq93 then (bif r59 then (∃e94,w87.cell? (Addr.mk w67.heap.size 0 none)=some (.int .i64 e94)/\bif e94==(0:Int) then (∃e95,w87.cell? (Addr.mk w74.heap.size 0 none)=some (.int .i64 e95)/\bif e95==(182:Int) then (K (r78==(1:Int)) w87) else (K false w87)) else (K false w87)) else (K false w87)) else (K false w87)) else (K false w87)) else (K false w87)) else (K false w87)) w79) else (K false w79)) else (K false w79)) else (K false w79)) else (K false w79)) else (K false w79)) else (K false w79)) else (K false w79)) w76) w69) w62) w55) w48) w41) w34) w32) w25) w18) w11))->k9 t10 w11)->(bif r6.isNone then (k9 true w8) else (k9 (r7 !=(0:Int)) w8))) w5) w
theorem S.qba0 (K:Bool->World->Prop) (w:World) (h:S.qba K w):C.qba K w:=
 okS Tryz.func18 (.t none (.u) (.t none (.u) (.t none (.t none (.r (some [(26, .c (.b))]) .done) (.t none (.t none (.u) (.u)) (.u))) (.t none (.u) (.t none (.u) (.t none (.u) (.t none (.u) (.t none (.u) (.t none (.u) (.t none (.u) (.t none (.u) (.t none (.u) (.t none (.u) (.t none (.u) (.t none (.u) (.u)))))))))))))))) [(0, .c (.b))] [] K rfl (by kernel_rfl) (by kernel_rfl) h
def S.qal (b1:Int) (b2:Int) (b3:Int) (b4:Sl) (script5:Sl) (K:Option Addr->World->Prop) (w:World):Prop:=Al w (.cells #[.int .i64 b1, .int .i64 b2, .int .i64 b3, .slice b4.a b4.len b4.cap] 28) fun w6=>LdL w6 (Addr.mk w.heap.size 0 none) 0 [.i .i64, .i .i64, .i .i64, .s] fun (t7:Int) (t8:Int) (t9:Int) (t10:Sl)=>C.qaJ t7 t8 t9 t10 (fun r11 r12 r13 r14 w15=>C.qbW r11 r12 r13 r14 (fun r16 r17 w18=>bif r17 !=(0:Int) then (K none w18) else (∀l19:Int->World->Prop,(∀(i20:Int) (w21:World),(∀k22:Bool->World->Prop,(∀(t23:Bool) (w24:World),(bif t23 then (∃a25,script5.a=some a25/\0≤i20/\i20<(script5.len:Int)/\∃kind26,w24.cell? (a25.add (i20.toNat*8))=some (.int .i64 kind26)/\bif kind26==(0:Int) then (Dr w24 fun w27=>∃a28,script5.a=some a28/\0≤i20/\i20<(script5.len:Int)/\∃core29,w27.cell? ((a28.add (i20.toNat*8)).add 1)=some (.int .i64 core29)/\∃a30,script5.a=some a30/\0≤i20/\i20<(script5.len:Int)/\LdL w27 ((a30.add (i20.toNat*8)).add 2) 0 [.i .i64, .i .i64, .i .i64, .i .i64, .i .i64, .i .i64] fun (c31:Int) (c32:Int) (c33:Int) (c34:Int) (c35:Int) (c36:Int)=>(C.qo r16 core29 c31 c32 c33 c34 c35 c36 (fun r37 r38 r39 r40 w41=>l19 (IntKind.i64.wrap (i20+(1:Int))) w41) w27)/\True) else (bif kind26==(1:Int) then (∃a42,script5.a=some a42/\0≤i20/\i20<(script5.len:Int)/\∃core43,w24.cell? ((a42.add (i20.toNat*8)).add 1)=some (.int .i64 core43)/\C.qbb r16 core43 (fun r44 r45 w46=>l19 (IntKind.i64.wrap (i20+(1:Int))) w46) w24) else (bif kind26==(2:Int) then (∃a47,script5.a=some a47/\0≤i20/\i20<(script5.len:Int)/\∃core48,w24.cell? ((a47.add (i20.toNat*8)).add 1)=some (.int .i64 core48)/\C.qaL r16 core48 (fun r49 w50=>l19 (IntKind.i64.wrap (i20+(1:Int))) w50) w24) else (l19 (IntKind.i64.wrap (i20+(1:Int))) w24)))) else (K r16 w24))->k22 t23 w24)->(bif decide (i20<(script5.len:Int)) then (bif decide (i20<(40:Int)) then (k22 (!r16.isNone) w21) else (k22 false w21)) else (k22 false w21)))->l19 i20 w21)->l19 (0:Int) w18)) w15) w6
theorem S.qal0 (b1:Int) (b2:Int) (b3:Int) (b4:Sl) (script5:Sl) (K:Option Addr->World->Prop) (w:World) (h:S.qal b1 b2 b3 b4 script5 K w):C.qal b1 b2 b3 b4 script5 K w:=
 okS Tryz.func28 (.t none (.u) (.t none (.u) (.t none (.t none (.u) (.t none (.t none (.u) (.u)) (.u))) (.t none (.t none (.u) (.t none (.t (some [(7, .c (.i .i64))]) (.t none (.t none (.r (some [(27, .c (.b))]) .done) (.t none (.u) (.u))) (.t none (.t none (.t none (.u) (.t none (.t none (.u) (.t none (.r none (.one 0 2046 (.one 1 1988 (.one 2 1984 (.one 3 1984 (.one 4 1984 (.one 5 1984 (.one 6 128 (.one 7 0 (.one 8 0 (.one 9 0 (.one 10 0 (.alt 11 (.done) (.none)))))))))))))) (.t none (.u) (.t none (.u) (.t none (.u) (.t none (.u) (.u))))))) (.u))) (.u)) (.u))) (.u)) (.u))) (.t none (.u) (.u)))))) [(0, .c (.p))] [.agg #[.int .i64 b1, .int .i64 b2, .int .i64 b3, .slice b4.a b4.len b4.cap], .slice script5.a script5.len script5.cap] K rfl (by kernel_rfl) (by kernel_rfl) h
def S.qaJ (b1:Int) (b2:Int) (b3:Int) (b4:Sl) (K:Int->Int->Int->Sl->World->Prop) (w:World):Prop:=Al w (.cells #[.int .i64 b1, .int .i64 b2, .int .i64 b3, .slice b4.a b4.len b4.cap] 28) fun w5=>Al w5 (.cells #[.int .i64 0, .int .i64 0, .int .i64 0, .slice none 0 0] 28) fun w6=>∃cores7,w6.cell? (Addr.mk w.heap.size 0 none)=some (.int .i64 cores7)/\(3:Int)≠0/\∃bits8,w6.cell? ((Addr.mk w.heap.size 0 none).add 1)=some (.int .i64 bits8)/\(7:Int)≠0/\∃lines9,w6.cell? ((Addr.mk w.heap.size 0 none).add 2)=some (.int .i64 lines9)/\Al w6 (.cells #[.int .i64 0, .int .i64 0, .int .i64 0, .slice none 0 0] 28) fun w10=>StL w10 (Addr.mk w6.heap.size 0 none) 0 [.int .i64 (IntKind.i64.wrap ((1:Int)+((andI .i64 cores7 (65535:Int)).tmod (3:Int)))), .int .i64 (IntKind.i64.wrap ((6:Int)+((andI .i64 bits8 (65535:Int)).tmod (7:Int)))), .int .i64 (andI .i64 lines9 (3:Int)), .slice none 0 0] fun w11=>∀l12:Int->World->Prop,(∀(i13:Int) (w14:World),(bif decide (i13<(IntKind.i64.wrap ((1:Int)+((andI .i64 cores7 (65535:Int)).tmod (3:Int))))) then (∃prios15:Sl,w14.cell? ((Addr.mk w.heap.size 0 none).add 3)=some (.slice prios15.a prios15.len prios15.cap)/\∀k16:Int->World->Prop,(∀(p17:Int) (w18:World),(∃prios19:Sl,w18.cell? ((Addr.mk w6.heap.size 0 none).add 3)=some (.slice prios19.a prios19.len prios19.cap)/\Al w18 (.cells #[.int .i64 p17] 3) fun w20=>∃(t21:Sl) (w22:World),AppR Tryz.prog [26,26] 26 (.slice prios19.a prios19.len prios19.cap) (.slice (some (Addr.mk w18.heap.size 0 none)) 1 1) w20 t21 w22/\St w22 ((Addr.mk w6.heap.size 0 none).add 3) (.slice t21.a t21.len t21.cap) fun w23=>l12 (IntKind.i64.wrap (i13+(1:Int))) w23)->k16 p17 w18)->(bif decide (i13<(prios15.len:Int)) then (∃prios24:Sl,w14.cell? ((Addr.mk w.heap.size 0 none).add 3)=some (.slice prios24.a prios24.len prios24.cap)/\∃a25,prios24.a=some a25/\0≤i13/\i13<(prios24.len:Int)/\∃t26,w14.cell? (a25.add (i13.toNat*1))=some (.int .i64 t26)/\k16 (andI .i64 t26 (255:Int)) w14) else (k16 (5:Int) w14))) else (LdL w14 (Addr.mk w6.heap.size 0 none) 0 [.i .i64, .i .i64, .i .i64, .s] fun (t27:Int) (t28:Int) (t29:Int) (t30:Sl)=>StL w14 (Addr.mk w5.heap.size 0 none) 0 [.int .i64 t27, .int .i64 t28, .int .i64 t29, .slice t30.a t30.len t30.cap] fun w31=>LdL w31 (Addr.mk w5.heap.size 0 none) 0 [.i .i64, .i .i64, .i .i64, .s] fun (r32:Int) (r33:Int) (r34:Int) (r35:Sl)=>K r32 r33 r34 r35 w31))->l12 i13 w14)->l12 (0:Int) w11
theorem S.qaJ0 (b1:Int) (b2:Int) (b3:Int) (b4:Sl) (K:Int->Int->Int->Sl->World->Prop) (w:World) (h:S.qaJ b1 b2 b3 b4 K w):C.qaJ b1 b2 b3 b4 K w:=
 okS Tryz.func33 (.t none (.u) (.t none (.u) (.t none (.u) (.t none (.t none (.u) (.t none (.t (some [(5, .c (.i .i64))]) (.t none (.t none (.u) (.t none (.u) (.u))) (.t none (.t none (.t none (.u) (.t none (.t none (.u) (.t (some [(6, .c (.i .i64))]) (.u) (.u))) (.u))) (.u)) (.u))) (.u)) (.u))) (.t none (.u) (.u)))))) [(0, .a [.i .i64, .i .i64, .i .i64, .s])] [.agg #[.int .i64 b1, .int .i64 b2, .int .i64 b3, .slice b4.a b4.len b4.cap]] K rfl (by kernel_rfl) (by kernel_rfl) h
def S.qcN (K:Int->Int->Int->Sl->World->Prop) (w:World):Prop:=Al w (.cells #[.int .i64 0, .int .i64 0, .int .i64 0, .slice none 0 0] 28) fun w1=>Al w1 (.cells #[.int .i64 5] 3) fun w2=>StL w2 (Addr.mk w.heap.size 0 none) 0 [.int .i64 1, .int .i64 10, .int .i64 2, .slice (some (Addr.mk w1.heap.size 0 none)) 1 1] fun w3=>LdL w3 (Addr.mk w.heap.size 0 none) 0 [.i .i64, .i .i64, .i .i64, .s] fun (r4:Int) (r5:Int) (r6:Int) (r7:Sl)=>K r4 r5 r6 r7 w3
theorem S.qcN0 (K:Int->Int->Int->Sl->World->Prop) (w:World) (h:S.qcN K w):C.qcN K w:=
 okS Tryz.func54 (.t none (.u) (.t none (.u) (.u))) [(0, .a [.i .i64, .i .i64, .i .i64, .s])] [] K rfl (by kernel_rfl) (by kernel_rfl) h
def S.qbK (a1:Sl) (b2:Sl) (K:Bool->World->Prop) (w:World):Prop:=bif (a1.len:Int) !=(b2.len:Int) then (K false w) else (∀l3:Int->World->Prop,(∀(i4:Int) (w5:World),(bif decide (i4<(a1.len:Int)) then (Dr w5 fun w6=>∃a7,a1.a=some a7/\0≤i4/\i4<(a1.len:Int)/\LdL w6 (a7.add (i4.toNat*8)) 0 [.i .i64, .i .i64, .i .i64, .i .i64, .i .i64, .i .u64, .i .u64, .i .i64] fun (t8:Int) (t9:Int) (t10:Int) (t11:Int) (t12:Int) (t13:Int) (t14:Int) (t15:Int)=>∃a16,b2.a=some a16/\0≤i4/\i4<(b2.len:Int)/\LdL w6 (a16.add (i4.toNat*8)) 0 [.i .i64, .i .i64, .i .i64, .i .i64, .i .i64, .i .u64, .i .u64, .i .i64] fun (t17:Int) (t18:Int) (t19:Int) (t20:Int) (t21:Int) (t22:Int) (t23:Int) (t24:Int)=>∃eq25,EqB Tryz.prog .neq 44 (.tmp 20) (.tmp 24) (.agg #[.int .i64 t8, .int .i64 t9, .int .i64 t10, .int .i64 t11, .int .i64 t12, .int .u64 t13, .int .u64 t14, .int .i64 t15]) (.agg #[.int .i64 t17, .int .i64 t18, .int .i64 t19, .int .i64 t20, .int .i64 t21, .int .u64 t22, .int .u64 t23, .int .i64 t24]) eq25/\bif eq25 then (K false w6) else (l3 (IntKind.i64.wrap (i4+(1:Int))) w6)) else (K true w5))->l3 i4 w5)->l3 (0:Int) w)
theorem S.qbK0 (a1:Sl) (b2:Sl) (K:Bool->World->Prop) (w:World) (h:S.qbK a1 b2 K w):C.qbK a1 b2 K w:=
 okS Tryz.func17 (.t none (.u) (.t none (.t none (.u) (.t none (.t none (.u) (.u)) (.u))) (.t none (.t none (.u) (.t none (.t (some [(5, .c (.i .i64))]) (.t none (.t none (.u) (.t none (.u) (.u))) (.t none (.t none (.t none (.r none (.one 0 242 (.one 1 240 (.one 2 240 (.one 3 240 (.one 4 32 (.one 5 0 (.one 6 0 (.one 7 0 (.one 8 0 (.done))))))))))) (.t none (.t none (.u) (.u)) (.u))) (.u)) (.u))) (.u)) (.u))) (.t none (.u) (.u))))) [(0, .c (.b))] [.slice a1.a a1.len a1.cap, .slice b2.a b2.len b2.cap] K rfl (by kernel_rfl) (by kernel_rfl) h
def S.qcx (a1:Sl) (b2:Sl) (K:Bool->World->Prop) (w:World):Prop:=bif (a1.len:Int) !=(b2.len:Int) then (K false w) else (∀l3:Int->World->Prop,(∀(i4:Int) (w5:World),(bif decide (i4<(a1.len:Int)) then (Dr w5 fun w6=>∃a7,a1.a=some a7/\0≤i4/\i4<(a1.len:Int)/\LdL w6 (a7.add (i4.toNat*2)) 0 [.i .i64, .i .i64] fun (t8:Int) (t9:Int)=>∃a10,b2.a=some a10/\0≤i4/\i4<(b2.len:Int)/\LdL w6 (a10.add (i4.toNat*2)) 0 [.i .i64, .i .i64] fun (t11:Int) (t12:Int)=>∃eq13,EqB Tryz.prog .neq 40 (.tmp 20) (.tmp 24) (.agg #[.int .i64 t8, .int .i64 t9]) (.agg #[.int .i64 t11, .int .i64 t12]) eq13/\bif eq13 then (K false w6) else (l3 (IntKind.i64.wrap (i4+(1:Int))) w6)) else (K true w5))->l3 i4 w5)->l3 (0:Int) w)
theorem S.qcx0 (a1:Sl) (b2:Sl) (K:Bool->World->Prop) (w:World) (h:S.qcx a1 b2 K w):C.qcx a1 b2 K w:=
 okS Tryz.func31 (.t none (.u) (.t none (.t none (.u) (.t none (.t none (.u) (.u)) (.u))) (.t none (.t none (.u) (.t none (.t (some [(5, .c (.i .i64))]) (.t none (.t none (.u) (.t none (.u) (.u))) (.t none (.t none (.t none (.r none (.one 0 242 (.one 1 240 (.one 2 240 (.one 3 240 (.one 4 32 (.one 5 0 (.one 6 0 (.one 7 0 (.one 8 0 (.done))))))))))) (.t none (.t none (.u) (.u)) (.u))) (.u)) (.u))) (.u)) (.u))) (.t none (.u) (.u))))) [(0, .c (.b))] [.slice a1.a a1.len a1.cap, .slice b2.a b2.len b2.cap] K rfl (by kernel_rfl) (by kernel_rfl) h
def S.qcy (a1:Sl) (b2:Sl) (K:Bool->World->Prop) (w:World):Prop:=bif (a1.len:Int) !=(b2.len:Int) then (K false w) else (∀l3:Int->World->Prop,(∀(i4:Int) (w5:World),(bif decide (i4<(a1.len:Int)) then (Dr w5 fun w6=>∃a7,a1.a=some a7/\0≤i4/\i4<(a1.len:Int)/\LdL w6 (a7.add (i4.toNat*3)) 0 [.i .i64, .i .i64, .i .i64] fun (t8:Int) (t9:Int) (t10:Int)=>∃a11,b2.a=some a11/\0≤i4/\i4<(b2.len:Int)/\LdL w6 (a11.add (i4.toNat*3)) 0 [.i .i64, .i .i64, .i .i64] fun (t12:Int) (t13:Int) (t14:Int)=>∃eq15,EqB Tryz.prog .neq 61 (.tmp 20) (.tmp 24) (.agg #[.int .i64 t8, .int .i64 t9, .int .i64 t10]) (.agg #[.int .i64 t12, .int .i64 t13, .int .i64 t14]) eq15/\bif eq15 then (K false w6) else (l3 (IntKind.i64.wrap (i4+(1:Int))) w6)) else (K true w5))->l3 i4 w5)->l3 (0:Int) w)
theorem S.qcy0 (a1:Sl) (b2:Sl) (K:Bool->World->Prop) (w:World) (h:S.qcy a1 b2 K w):C.qcy a1 b2 K w:=
 okS Tryz.func32 (.t none (.u) (.t none (.t none (.u) (.t none (.t none (.u) (.u)) (.u))) (.t none (.t none (.u) (.t none (.t (some [(5, .c (.i .i64))]) (.t none (.t none (.u) (.t none (.u) (.u))) (.t none (.t none (.t none (.r none (.one 0 242 (.one 1 240 (.one 2 240 (.one 3 240 (.one 4 32 (.one 5 0 (.one 6 0 (.one 7 0 (.one 8 0 (.done))))))))))) (.t none (.t none (.u) (.u)) (.u))) (.u)) (.u))) (.u)) (.u))) (.t none (.u) (.u))))) [(0, .c (.b))] [.slice a1.a a1.len a1.cap, .slice b2.a b2.len b2.cap] K rfl (by kernel_rfl) (by kernel_rfl) h
end Go.Proofs.YtogmbmdbgkopjaaGreat
end
