/- What the row rests on: the declarations that it needs, out of my texts (part 4). -/
import Derived.Test.YtfgikfglabdeoaaGreatZp3
open Bool renaming false->qd,true->G
open Decidable renaming decide->qe
open Go renaming Addr->qf,Program->qo,TypeId->qi,TypeInfo->qL,Value->V,World->W
open Go.IntKind renaming i64->qj,u64->qA
open Go.Proofs.Tryz renaming f154->akh,prog->qh,t139->qV,t248->akF,t3->qI,t39->akf,underlying133->akq,underlying22->qJ,underlying278->akB
open Option renaming none->Q,some->X
open _root_ renaming Bool->I,False->qm,Int->U,List->J,Nat->S,Option->qg,True->qu,absurd->qk,beq_iff_eq->qN,bne_iff_ne->qQ,decide_eq_false->ql,decide_eq_true->qp,decide_eq_true_eq->qF,if_false->qB,if_neg->Y,if_pos->Z,if_true->qE,or_false->qG,rfl->O
open Go.Proofs.Tryz
open Bool renaming and_eq_true->S4,false_and->Uj,true_and->Uo
open Decidable renaming not_not->VY
open Int renaming eq_ofNat_of_zero_le->SI,toNat_natCast->SD
open List renaming append_nil->SL,drop_replicate->W8,filter_append->Tm,filter_cons->Tk,filter_eq_self->TF,filter_filter->Up,filter_sublist->Vb,flatMap_cons->T5,flatMap_nil->V6,foldl_append->VZ,getElem?_append_left->SM,getElem?_eq_none->SZ,getElem?_eq_some_iff->Sz,getElem?_replicate->Un,getElem?_set->To,length_cons->SJ,length_filter_le->S3,length_set->Ti,mem_append->Tv,mem_cons->SH,mem_filter->SV,mem_map->Tj,mem_of_getElem?->SU,mem_or_eq_of_mem_set->TN,mem_replicate->VR,nodup_cons->Tx,pairwise_cons->TP,perm_ext_iff_of_nodup->UU,perm_middle->Tw,range->SF,replicate->SB,replicate_succ->US,replicate_zero->Xb,take_add_one->SO,take_of_length_le->SE,zipWith->SC
open Nat renaming le_refl->SA,le_trans->SY,sub_self->Uh,zero_le->UA
set_option maxRecDepth 100000
set_option maxHeartbeats 4000000
set_option linter.all false
namespace Go.Vc
open Go.Proofs
def aho{a K w}:=ah (YE a K w) func38 (.v (.y (.y (.r (X [(10,.c .b)]) .done) (.x .w)) (.v (.y (.v (.x (.t (X [(17,.c (.i .i64))]) (.v (.y .w (.x (.x (.z (.o 0 254 (.o 1 96 (.o 2 96 (.o 3 96 (.hold 4 96 895 (.e 5 (.e 6 (.e 7 .Mu))))))))))))) .u))) .w))))
def ahp{a b c K w}:=ah (Wg a b c K w) func42 (.v (.y (.x (.y (.r (X [(8,.c .b)]) .done) (.y .w (.v (.x .w))))) (.v .w)))
def ahq{a b K w}:=ah (Xd a b K w) func43 (.v (.v (.y (.x (.v (.y .w (.y (.r (X [(12,.c .b)]) .done) (.x .w))))) (.v .w))))
def ahr{a b K w}:=ah (YI a b K w) func44 (.v (.y (.v (.x .w)) (.v (.v (.y (.y .g5 (.x .w)) (.y (.v (.t (X []) .w .u)) (.v (.v .w))))))))
def ahs{a b K w}:=ah (YU a b K w) func66 (.v (.v (.y (.v (.x .w)) (.v (.v (.v (.v .w)))))))
def aht{a b K w}:=ah (Y9 a b K w) func79 (.v (.v (.y (.v (.x .w)) (.v (.y (.v .w) .w)))))
def ahu{a K w}:=ah (Zc a K w) func82 (.v (.y .g19 (.y (.v (.x (.t (X [(23,.c (.i .i64))]) .g15 .u))) .w)))
def ahv{a K w}:=ah (ZJ a K w) func122 (.v .w)
def ahw{a b K w}:=ah (ZK a b K w) func123 (.v .w)
def ahx{a b K w}:=ah (ZL a b K w) func124 .RX
def ahy{a b K w}:=ah (ZM a b K w) func125 (.v (.v (.z (.o 0 31984 (.o 1 31984 (.o 2 31984 (.o 3 31984 (.o 4 31744 (.o 5 31744 (.o 6 31744 (.o 7 31744 (.o 8 31744 (.o 9 31744 .RE)))))))))))))
def ahz{a b K w}:=ah (ZN a b K w) func126 (.v (.y .P7 .w))
def adI{a b c K w}:=ah (Wm a b c K w) func128 (.v (.x (.v (.x (.v (.t (X []) (.z (.o 0 1264 (.o 1 1264 (.o 2 1264 (.o 3 1264 (.o 4 1024 (.o 5 1024 (.o 6 1024 (.o 7 1024 (.o 8 1024 (.o 9 1024 (.o 10 0 (.e 11 .done))))))))))))) (.v (.x (.z (.o 0 240 (.o 1 240 (.o 2 240 (.o 3 240 .Qz)))))))))))))
def ahA{a b K w}:=ah (ZY a b K w) func140 .C7
def Yf{a b c d K w}:=ah (XS a b c d K w) func194 (.v (.v (.y (.y (.r (X [(10,.c (.i .i64))]) .done) (.v (.x .w))) (.v .w))))
def ahB{a b K w}:=ah (X1 a b K w) func262 .R3
def ahC{a b c K w}:=ah (abk a b c K w) func263 (.v (.v (.y (.v (.v (.x .w))) (.y (.v (.x (.v .w))) (.v (.v (.v .w)))))))
def ahD{a K w}:=ah (X3 a K w) func294 .C7
def ahE{a b K w}:=ah (abP a b K w) func295 .oe
def ahF{a b K w}:=ah (X8 a b K w) func356 .R3
def ahG{a K w}:=ah (acO a K w) func368 (.v .w)
namespace Th
structure vR where
 st:U
 pr:U
 co:U
 le:U
 rg:S->U
def gU:dX vR:=⟨12,λt=>[.z t.st,.z t.pr,.z t.co,.z t.le,.y (t.rg 0),.y (t.rg 1),.y (t.rg 2),.y (t.rg 3),.y (t.rg 4),.y (t.rg 5),.y (t.rg 6),.y (t.rg 7)],λ_=>rfl,λx v h=>by simp only[SH,List.not_mem_nil,qG]at h;rcases h with rfl|rfl|rfl|rfl|rfl|rfl|rfl|rfl|rfl|rfl|rfl|rfl<;>rfl,qb⟩
def eW:dX S:=⟨1,λb=>[.q b],λ_=>rfl,λx v h=>by simp at h;subst h;rfl,SA _⟩
structure Mt where
 bK:J vR
 qs:J Qs
 runs:J U
def bJ(b:S)(m:Mt):aG:=oA λp:(Sl × Sl × Sl)× J S=>aQ (dw (p.2.length=m.qs.length)::ae b [bz p.1.1,bz p.1.2.1,bz p.1.2.2]::ag gU p.1.1 m.bK::ag eW p.1.2.1 p.2::ag ax p.1.2.2 m.runs::SC aH p.2 m.qs)
theorem La{b:S}{L':Qs}:∀(bs:J S)(qs:J Qs)(c:S),bs[c]?=X b->(SC aH bs qs).set c (aH b L')=SC aH bs (qs.set c L')
 | [],_,_,h=>by simp at h
 |_::_,[],c,_=>by simp
 |b0::bs,q::qs,0,h=>by simp at h;subst h;rfl
 |b0::bs,q::qs,c+1,h=>by simp[La bs qs c (by simpa using h)]
section
variable{B:S}{w0 w:W}{R L:J aG}{b:S}{m:Mt}
theorem _root_.Go.Vc.Ow.Cu(h:Ow B w0 w (bJ b m::R)):∃l q r bs,bs.length=m.qs.length/\Ow B w0 w (ae b [bz l,bz q,bz r]::ag gU l m.bK::ag eW q bs::ag ax r m.runs::(SC aH bs m.qs++R)):=by obtain⟨⟨⟨l,q,r⟩,bs⟩,h⟩:=h.ex;obtain⟨h1,h⟩:=Ow.pure h.star;exact⟨l,q,r,bs,h1,h⟩
theorem _root_.Go.Vc.Ow.cw{l q r:Sl}{bs:J S}(h1:bs.length=m.qs.length)(h:Ow B w0 w (ae b [bz l,bz q,bz r]::ag gU l m.bK::ag eW q bs::ag ax r m.runs::(SC aH bs m.qs++R))):Ow B w0 w (bJ b m::R):=
 Ow.eu ((l,q,r),bs) (Ow.aR (Ow.cI h1 h))
theorem _root_.Go.Vc.Ow.MX{A1 A2 A3 A4:aG}{bs:J S}{qs:J Qs}{c b1:S}{alf:Qs}(hb:bs[c]?=X b1)(hq:qs[c]?=X alf)(h:Ow B w0 w (A1::A2::A3::A4::(SC aH bs qs++R))):
  Ow B w0 w (aH b1 alf::A1::A2::A3::A4::(SC aH bs qs++R).eraseIdx c):=by
 have h1:=(Sz.1 hb).1;have h2:=(Sz.1 hq).1;have hz:(SC aH bs qs++R)[c]?=X (aH b1 alf):=by rw[SM (by simp;omega),List.getElem?_zipWith,hb,hq]
 exact h.take (c+4) (by simpa using hz)
theorem _root_.Go.Vc.Ow.Qd{A1 A2 A3 A4:aG}{bs:J S}{qs:J Qs}{c b1:S}{alf:Qs}(hb:bs[c]?=X b1)(hc:c<qs.length)(h:Ow B w0 w (aH b1 alf::A1::A2::A3::A4::(SC aH bs qs++R).eraseIdx c)):
  Ow B w0 w (A1::A2::A3::A4::(SC aH bs (qs.set c alf)++R)):=by
 have h1:=(Sz.1 hb).1;have h2:Ow B w0 w (aH b1 alf::(A1::A2::A3::A4::(SC aH bs qs++R)).eraseIdx (c+4)):=by simpa only[List.eraseIdx_cons_succ]using h
 have h3:=h2.put (by simp;omega);simp only[List.set_cons_succ]at h3;rw[List.set_append_left _ _ (by simp;omega),La bs qs c hb]at h3;exact h3
def Nj:vR:=⟨0,0,0,0,λ_=>0⟩
def Mt.th(m:Mt)(n:U):vR:=if n<0 then Nj else(m.bK[n.toNat]?).getD Nj
def Mt.q(m:Mt)(n:U):Qs:=if n<0 then []else(m.qs[n.toNat]?).getD []
def Mt.run(m:Mt)(n:U):U:=if n<0 then -1 else(m.runs[n.toNat]?).getD (-1)
def Mt.aS(m:Mt)(n:U)(t:vR):Mt:={ m with bK:=m.bK.set n.toNat t}
def Mt.jx(m:Mt)(n:U)(alf:Qs):Mt:={ m with qs:=m.qs.set n.toNat alf}
def Mt.iS(m:Mt)(n v:U):Mt:={ m with runs:=m.runs.set n.toNat v}
def Mt.dC(m:Mt)(n:U):I:=qe (0<=n)&&qe (n<m.bK.length)
def Mt.gA(m:Mt)(n:U):I:=qe (0<=n)&&qe (n<m.qs.length)
def Mt.cW(m:Mt)(n:U):Mt:=(m.aS n { m.th n with st:=1}).jx (m.th n).co (lq (m.q (m.th n).co) (m.th n).pr n).2
def Mt.bL(m:Mt)(n:U):Mt:=if(m.th n).st=1 then m.jx (m.th n).co (fU (m.q (m.th n).co) n).2 else if(m.th n).st=2 then m.iS (m.th n).co (-1)else m
def Mt.leave(m:Mt)(n s:U):Mt:=(m.bL n).aS n { m.th n with st:=s}
def Mt.pick(m:Mt)(c:U):Mt:=match ir (m.q c)with
 |none=>m
 |some n=>if m.run c= -1 then(m.leave n 2).iS c n else
  if(m.th n).pr<=(m.th (m.run c)).pr then m else(((m.leave (m.run c) 1).cW (m.run c)).leave n 2).iS c n
structure dn(m:Mt):Prop where
 fu:m.bK.length<=64
 gH:m.runs.length=m.qs.length
 KP:m.qs.length<=8
 core:∀t∈m.bK,0<=t.co/\t.co<m.qs.length
 left:∀t∈m.bK,t.le=t.le
 run:∀n∈m.runs,n= -1\/(0<=n/\n<m.bK.length)
 line:∀alf∈m.qs,∀x∈alf,0<=x.2/\x.2<m.bK.length
theorem K4:∀(n:S)(l:J U),l.Nodup->(∀x∈l,0<=x/\x<(n:U))->l.length<=n
 |0,l,_,h=>by
  cases l with
  |nil=>simp
  |cons a l=>have:=h a qc;omega
 |n+1,l,hn,h=>by
  have h1:=K4 n (l.filter λx=>x !=(n:U)) (hn.sublist Vb) λx hx=>by
   have h2:=SV.1 hx;have h3:=h x h2.1;have h4:x≠(n:U):=by simpa using h2.2
   omega
  have h2:l.length<=(l.filter λx=>x !=(n:U)).length+1:=by
   clear h1 h;induction l with
   |nil=>simp
   |cons a l ih=>
    rw[Tx]at hn;by_cases e:a=(n:U)
    .have:l.filter (λx=>x !=(n:U))=l:=by
      rw[TF];intro x hx;have:x≠(n:U):=λe2=>hn.1 (by rw[e,<-e2];exact hx);simpa using this
     rw[List.filter_cons_of_neg (by simp[e]),this,SJ];exact SA _
    .rw[List.filter_cons_of_pos (by simpa using e),SJ,SJ]
     have:=ih hn.2;omega
  omega
theorem OO{n:U}{t:vR}(h0:0<=n)(h:m.bK[n.toNat]?=X t):m.th n=t:=by unfold Mt.th;rw[Y om,h];rfl
theorem bV{n:U}(h:m.dC n=G):0<=n/\n<m.bK.length/\m.bK[n.toNat]?=X (m.th n):=by unfold Mt.dC at h;simp only[S4,qF]at h;obtain⟨h0,h1⟩:=h;refine⟨h0,h1,?_⟩;have e:=gE (l:=m.bK) (i:=n.toNat) om;rw[e,OO h0 e]
theorem tM{n:U}(h0:0<=n)(h1:n<m.qs.length):m.qs[n.toNat]?=X (m.q n):=by have e:=gE (l:=m.qs) (i:=n.toNat) om;unfold Mt.q;rw[Y om,e];rfl
theorem xY{n:U}(h0:0<=n)(h1:n<m.runs.length):m.runs[n.toNat]?=X (m.run n):=by have e:=gE (l:=m.runs) (i:=n.toNat) om;unfold Mt.run;rw[Y om,e];rfl
theorem mr{n:U}{K:I->Pw}(hK:K (qe (0<=n)&&qe (n<256)) w):ZJ n K w:=by
 apply ahv;refine bh (λe=>?_) (λe=>?_)
 .rw[qp (show 0<=n from e),Uo]at hK;exact hK
 .rw[ql (show ¬0<=n from e),Uj]at hK;exact hK
theorem cZ{so:I}{e:U}{K:U->Pw}(hK:K (if so then e else 0) w):abP so e K w:=by apply ahE;cases so<;>exact hK
theorem sJ{l q r:Sl}{bs:J S}{n:U}{A2 A4:aG}{K:I->Pw}(hb:bs.length=m.qs.length)(h:Ow B w0 w (ae b [bz l,bz q,bz r]::A2::ag eW q bs::A4::L))(hK:K (m.gA n) w):ZK b.o n K w:=by
 apply ahw;have hl:=h.aF q;unfold Mt.gA at hK;refine bh (λe=>?_) (λe=>?_)
 ·(repeat first|refine h.l1 O ?_|refine fy ?_)
  rw[qp (show 0<=n from e),Uo]at hK;rw[hl,hb];exact hK
 .rw[ql (show ¬0<=n from e),Uj]at hK;exact hK
theorem fC{l q r:Sl}{n:U}{A3 A4:aG}{K:qg qf->Pw}(h:Ow B w0 w (ae b [bz l,bz q,bz r]::ag gU l m.bK::A3::A4::L))(hK0:m.dC n=qd->K Q w)(hK1:∀a,m.dC n=G->l.a=X a->K (X (a.add (n.toNat*12))) w):ZL b.o n K w:=by
 apply ahx;have hl:=h.aF l;unfold Mt.dC at hK0 hK1;intro k hk;refine bh (λe=>?_) (λe=>?_)
 .refine hk _ _ (aW O ?_)
  exact hK0 (by rw[ql (show ¬0<=n by omega),Uj])
 ·(repeat first|refine h.l1 O ?_|refine fy ?_)
  refine hk _ _ ?_;refine bh (λe2=>?_) (λe2=>?_)
  .exact hK0 (by rw[ql (show ¬n<(m.bK.length:U) by omega),Bool.and_false])
  ·(repeat first|refine h.l1 O ?_|refine fy ?_)
   obtain⟨x,hx⟩:∃x,m.bK[n.toNat]?=X x:=⟨_,gE om⟩
   refine h.cd (s:=l) (j:=n.toNat) om hx λa ha h0 hc=>?_;exact hK1 a (by rw[qp (show 0<=n by omega),qp (show n<(m.bK.length:U) by omega)];rfl) ha
theorem dn.aS(hm:dn m){n:U}{t:vR}(h1:0<=t.co/\t.co<m.qs.length)(h2:t.le=t.le):dn (m.aS n t):=by
 unfold Mt.aS;refine⟨by rw[Ti];exact hm.fu,hm.gH,hm.KP,λx hx=>?_,λx hx=>rfl,by rw[Ti];exact hm.run,by rw[Ti];exact hm.line⟩;rcases TN hx with h|h
 .exact hm.core x h
 .rw[h];exact h1
theorem dn.jx(hm:dn m){n:U}{alf:Qs}(h1:∀x∈alf,0<=x.2/\x.2<m.bK.length):dn (m.jx n alf):=by
 unfold Mt.jx;refine⟨hm.fu,by rw[Ti];exact hm.gH,by rw[Ti];exact hm.KP,by rw[Ti];exact hm.core,hm.left,hm.run,λx hx=>?_⟩;rcases TN hx with h|h
 .exact hm.line x h
 .rw[h];exact h1
theorem dn.iS(hm:dn m){n v:U}(h1:v= -1\/(0<=v/\v<m.bK.length)):dn (m.iS n v):=by
 unfold Mt.iS;refine⟨hm.fu,by rw[Ti];exact hm.gH,hm.KP,hm.core,hm.left,λx hx=>?_,hm.line⟩;rcases TN hx with h|h
 .exact hm.run x h
 .rw[h];exact h1
theorem dn.xV(hm:dn m){c:U}:∀x∈m.q c,0<=x.2/\x.2<m.bK.length:=λx hx=>by
 unfold Mt.q at hx;split at hx
 .simp at hx
 .cases e:m.qs[c.toNat]? with
  |none=>rw[e]at hx;simp at hx
  |some alf=>rw[e]at hx;exact hm.line alf (SU e) x hx
theorem dn.th(hm:dn m){n:U}(hn:m.dC n=G):(0<=(m.th n).co/\(m.th n).co<m.qs.length)/\((m.th n).le=(m.th n).le):=by have:=SU (bV hn).2.2;exact⟨hm.core _ this,hm.left _ this⟩
theorem K8{alf:Qs}{p n:U}{k:U}(h:∀x∈alf,0<=x.2/\x.2<k)(hn:0<=n/\n<k):∀x∈(lq alf p n).2,0<=x.2/\x.2<k:=by
 unfold lq;split
 .exact h
 .split
  .exact h
  .intro x hx
   rcases Tv.1 hx with h2|h2
   .exact h x h2
   .simp at h2;subst h2;exact hn
theorem AR{alf:Qs}{n:U}{k:U}(h:∀x∈alf,0<=x.2/\x.2<k):∀x∈(fU alf n).2,0<=x.2/\x.2<k:=by
 unfold fU;split
 .exact λx hx=>h x (SV.1 hx).1
 .exact h
theorem dn.cW(hm:dn m){n:U}(hn:m.dC n=G):dn (m.cW n):=by
 have ht:=hm.th hn;have hb:=bV hn;unfold Mt.cW;refine(hm.aS (t:={ m.th n with st:=1}) ht.1 ht.2).jx ?_;have:(m.aS n { m.th n with st:=1}).bK.length=m.bK.length:=by unfold Mt.aS;simp
 rw[this];exact K8 hm.xV ⟨hb.1,hb.2.1⟩
theorem dn.bL(hm:dn m){n:U}:dn (m.bL n):=by
 unfold Mt.bL;split
 .exact hm.jx (AR hm.xV)
 .split
  .exact hm.iS (.inl O)
  .exact hm
theorem dI{n:U}:(m.bL n).bK=m.bK/\(m.bL n).qs.length=m.qs.length:=by
 unfold Mt.bL Mt.jx Mt.iS;split
 .simp
 .split<;>simp
theorem dn.leave(hm:dn m){n s:U}(hn:m.dC n=G):dn (m.leave n s):=by have ht:=hm.th hn;unfold Mt.leave;refine hm.bL.aS (t:={ m.th n with st:=s}) ?_ ht.2;rw[dI.2];exact ht.1
theorem Bu{alf:Qs}{k:S}(hq:AX alf)(h:∀x∈alf,0<=x.2/\x.2<(k:U)):alf.length<=k:=by
 have:=K4 k (alf.map (·.2)) hq.nodup λx hx=>by obtain⟨y,hy,e⟩:=Tj.1 hx;rw[<-e];exact h y hy
 simpa using this
theorem ib{n k:U}:(m.cW n).dC k=m.dC k:=by unfold Mt.cW Mt.dC Mt.jx Mt.aS;simp
theorem fe{n s k:U}:(m.leave n s).dC k=m.dC k:=by unfold Mt.leave Mt.dC Mt.aS;simp[dI.1]
theorem jq{n k:U}:(m.cW n).gA k=m.gA k:=by unfold Mt.cW Mt.gA Mt.jx Mt.aS;simp
theorem jo{n s k:U}:(m.leave n s).gA k=m.gA k:=by unfold Mt.leave Mt.gA Mt.aS;simp[dI.2]
theorem D2{l:Sl}{A1 A3 A4:aG}{bK:J vR}{n:U}{t t':vR}{c:S}{v:V}{a:qf}{k:Pw}(h:Ow B w0 w (A1::ag gU l bK::A3::A4::L))(h0:0<=n)(hx:bK[n.toNat]?=X t)(ha:l.a=X a)
  (he:gU.enc t'=(gU.enc t).set c v) (hc:c<12) (hv:v.oneCell'=G) (hk:∀w',Ow B w0 w' (A1::ag gU l (bK.set n.toNat t')::A3::A4::L)->k w'):St w ((a.add (n.toNat*12)).add c) v k:=
 Ow.mT (s:=l) (E:=gU) (xs:=bK) (i:=n) (j:=n.toNat) (c:=c) (x:=t) h t' om hx ha he hc hv λw' h=>hk w' h.cC
theorem uJ{l:Sl}{A1 A3 A4:aG}{bK:J vR}{n:U}{t:vR}{c:S}{v:V}{a:qf}(h:Ow B w0 w (A1::ag gU l bK::A3::A4::L))(h0:0<=n)(hx:bK[n.toNat]?=X t)(ha:l.a=X a)
  (he:(gU.enc t)[c]?=X v):w.cell? ((a.add (n.toNat*12)).add c)=X v:=
 (h.O0 (s:=l) (E:=gU) (i:=n) (j:=n.toNat) om hx ha).2 c v he
theorem gZ{n:U}{K:Pw}(hm:dn m)(hn:m.dC n=G)(h:Ow B w0 w (bJ b m::R))(hK:∀w',Ow B w0 w' (bJ b (m.cW n)::R)->K w'):ZM b.o n K w:=by
 apply ahy;obtain⟨l,q,r,bs,hbs,h⟩:=h.Cu;obtain⟨n0,n1,hx⟩:=bV hn;obtain⟨⟨c0,c1⟩,_⟩:=hm.th hn;obtain⟨b1,hb1⟩:∃x,bs[(m.th n).co.toNat]?=X x:=⟨_,gE om⟩
 refine fC h (λe=>by rw[hn]at e;cases e) λa _ ha=>?_;refine⟨_,O,D2 (c:=0) (t':={ m.th n with st:=1}) h n0 hx ha O qb O λw h=>?_⟩;have hx2:(m.bK.set n.toNat { m.th n with st:=1})[n.toNat]?=X { m.th n with st:=1}:=by rw[To,Z O,Z om]
 refine h.dr λw h=>?_;refine⟨_,O,q,h.aA O,_,O,_,uJ (c:=2) h n0 hx2 ha O,h.cd (s:=q) (j:=(m.th n).co.toNat) (by show(m.th n).co=_;omega) hb1 λa2 ha2 h0 hc=>⟨_,h0 _ O,?_⟩⟩
 refine⟨_,O,_,uJ (c:=1) h n0 hx2 ha O,Go.Vc.a2 ?_⟩;have h:=h.MX hb1 (tM c0 c1);have hqok:AX (m.q (m.th n).co):=by obtain⟨_,e,_⟩:=h.queue;exact e
 have hlen:=Bu hqok hm.xV;have hfew:=hm.fu;refine py h om λw h=>?_;have h:=h.Qd (qs:=m.qs) hb1 om;exact hK w (Ow.cw (m:=m.cW n) (bs:=bs) (by unfold Mt.cW Mt.jx Mt.aS;simpa using hbs) h)
theorem gx{n s:U}{K:Pw}(hm:dn m)(hn:m.dC n=G)(h:Ow B w0 w (bJ b m::R))(hK:∀w',Ow B w0 w' (bJ b (m.leave n s)::R)->K w'):Wm b.o n s K w:=by
 apply adI;obtain⟨l,q,r,bs,hbs,h⟩:=h.Cu;obtain⟨n0,n1,hx⟩:=bV hn;obtain⟨⟨c0,c1⟩,_⟩:=hm.th hn;have hcr:=hm.gH;obtain⟨b1,hb1⟩:∃x,bs[(m.th n).co.toNat]?=X x:=⟨_,gE om⟩
 refine fC h (λe=>by rw[hn]at e;cases e) λa _ ha=>?_;refine⟨_,O,_,uJ (c:=0) h n0 hx ha O,?_⟩;intro k hk;have fin:∀w,Ow B w0 w (ae b [bz l,bz q,bz r]::ag gU l m.bK::ag eW q bs::ag ax r (m.bL n).runs::(SC aH bs (m.bL n).qs++R))->k w:=λw h=>by
  apply hk;refine⟨_,O,D2 (c:=0) (t':={ m.th n with st:=s}) h n0 hx ha O qb O λw h=>?_⟩;refine hK w (Ow.cw (m:=m.leave n s) (l:=l) (q:=q) (r:=r) (bs:=bs) ?_ ?_)
  .show bs.length=(m.bL n).qs.length
   rw[dI.2];exact hbs
  .have e:(m.leave n s).bK=m.bK.set n.toNat { m.th n with st:=s}:=by unfold Mt.leave Mt.aS;rw[dI.1]
   rw[e];exact h
 refine dW (λe=>?_) (λe=>?_)
 .have e1:m.bL n=m.jx (m.th n).co (fU (m.q (m.th n).co) n).2:=by unfold Mt.bL;rw[Z e]
  rw[e1]at fin;refine h.dr λw h=>?_;refine⟨_,O,q,h.aA O,_,O,_,uJ (c:=2) h n0 hx ha O,h.cd (s:=q) (j:=(m.th n).co.toNat) (by show(m.th n).co=_;omega) hb1 λa2 ha2 h0 hc=>⟨_,h0 _ O,Go.Vc.a2 ?_⟩⟩
  have h:=h.MX hb1 (tM c0 c1);refine jb h λw h=>?_;exact fin w (h.Qd (qs:=m.qs) hb1 om)
 refine dW (λe2=>?_) (λe2=>?_)
 .have e1:m.bL n=m.iS (m.th n).co (-1):=by unfold Mt.bL;rw[Y e,Z e2]
  rw[e1]at fin;refine h.dr λw h=>?_;refine⟨_,O,r,h.aA O,_,O,_,uJ (c:=2) h n0 hx ha O,h.cd (s:=r) (j:=(m.th n).co.toNat) (by show(m.th n).co=_;omega) (xY (m:=m) c0 om) λa2 ha2 h0 hc=>Go.Vc.a2 ?_⟩;refine Ow.Ce (s:=r) (E:=ax) (xs:=m.runs) (i:=(m.th n).co) (j:=(m.th n).co.toNat) h (-1) om om ha2 O λw h=>?_;exact fin w h.yQ.yQ.yQ
 .have e1:m.bL n=m:=by unfold Mt.bL;rw[Y e,Y e2]
  rw[e1]at fin;exact fin w h
def Mt.cj(m:Mt)(c:U):qg U:=if m.gA c=G/\m.run c≠ -1 then X (m.run c)else Q
theorem gD{c:U}:m.gA c=G↔0<=c/\c<m.qs.length:=by unfold Mt.gA;simp
theorem mq{c:U}{K:U->I->Pw}(hm:dn m)(h:Ow B w0 w (bJ b m::R))(hK:∀w',Ow B w0 w' (bJ b m::R)->K ((m.cj c).getD 0) (m.cj c).isSome w'):ZN b.o c K w:=by
 apply ahz;have hcr:=hm.gH;obtain⟨l,q,r,bs,hbs,h⟩:=h.Cu;intro k hk;refine sJ hbs h ?_;unfold Mt.cj at hK;cases hc:m.gA c with
 |false=>
  rw[Y (by rw[hc];simp)]at hK;refine aW O (hk _ _ (aW O ?_));exact hK w (Ow.cw hbs h)
 |true=>
  obtain⟨c0,c1⟩:=gD.1 hc;refine aV O ?_;repeat first|refine h.l1 O ?_|refine fy ?_
  refine h.cd (s:=r) (j:=c.toNat) om (xY (m:=m) c0 om) λa ha h0 hcc=>⟨_,h0 _ O,?_⟩
  refine hk _ _ ?_;refine dW (λe=>?_) (λe=>?_)
  .rw[Y (by simp[e])]at hK
   exact hK w (Ow.cw hbs h)
  .rw[Z ⟨hc,e⟩]at hK
   repeat first|refine h.l1 O ?_|refine fy ?_
   refine h.cd (s:=r) (j:=c.toNat) om (xY (m:=m) c0 om) λa ha h0 hcc=>⟨_,h0 _ O,?_⟩
   exact hK w (Ow.cw hbs h)
theorem uf{n:U}{K:U->U->U->U->U->U->U->U->U->U->U->U->U->Pw}(h:Ow B w0 w (bJ b m::R))
  (hK:∀w' t,t=(if m.dC n then m.th n else Nj)->Ow B w0 w' (bJ b m::R)->K t.st t.pr t.co t.le (t.rg 0) (t.rg 1) (t.rg 2) (t.rg 3) (t.rg 4) (t.rg 5) (t.rg 6) (t.rg 7) (if m.dC n then 0 else 100) w'):ZY b.o n K w:=by
 apply ahA;refine h.a λc w1 h=>?_;have h:Ow B w0 w1 (bJ b m::ae c [.z 0,.z 0,.z 0,.z 0,.y 0,.y 0,.y 0,.y 0,.y 0,.y 0,.y 0,.y 0]::R):=h.cC;obtain⟨l,q,r,bs,hbs,h⟩:=h.Cu;have back:∀{w:W}{cs:J V},Ow B w0 w (ae c cs::ae b [bz l,bz q,bz r]::ag gU l m.bK::ag eW q bs::ag ax r m.runs::(SC aH bs m.qs++R))->Ow B w0 w (bJ b m::R):=λh=>Ow.cw hbs h.drop;have mid:∀{w:W}{A:aG},Ow B w0 w (ae b [bz l,bz q,bz r]::ag gU l m.bK::ag eW q bs::ag ax r m.runs::(SC aH bs m.qs++A::R))->Ow B w0 w (A::ae b [bz l,bz q,bz r]::ag gU l m.bK::ag eW q bs::ag ax r m.runs::(SC aH bs m.qs++R)):=λ{w A}h=>by refine h.perm ?_;have:List.Perm (SC aH bs m.qs++A::R) (A::(SC aH bs m.qs++R)):=Tw;refine((((this.cons _).cons _).cons _).cons _).trans ?_;exact(Tw (l₁:=[ae b [bz l,bz q,bz r],ag gU l m.bK,ag eW q bs,ag ax r m.runs]))
 refine fC h (λe=>?_) λa e ha=>?_
 .have h:=mid h
  refine aW O ?_;refine h.aB O O λw h=>?_;refine h.Di O ?_;have:=hK w Nj (by rw[e];rfl) (back h);rw[e]at this;exact this
 .obtain ⟨n0,n1,hx⟩:=bV e
  have hc:=(h.O0 (s:=l) (E:=gU) (i:=n) (j:=n.toNat) om hx ha).2;have h2:=mid h;refine aV O ?_;refine⟨_,O,⟨_,hc 0 _ O,_,hc 1 _ O,_,hc 2 _ O,_,hc 3 _ O,_,hc 4 _ O,_,hc 5 _ O,_,hc 6 _ O,_,hc 7 _ O,_,hc 8 _ O,_,hc 9 _ O,_,hc 10 _ O,_,hc 11 _ O,h2.aB O O λw h=>?_⟩⟩;refine h.Di O ?_;have:=hK w (m.th n) (by rw[e];rfl) (back h);rw[e]at this;exact this
theorem wj{n:U}{K:U->Pw}(hm:dn m)(h:Ow B w0 w (bJ b m::R))
  (hK0:m.dC n=qd->∀w',Ow B w0 w' (bJ b m::R)->K 100 w') (hK1:m.dC n=G->(m.th n).st=1\/(m.th n).st=2->∀w',Ow B w0 w' (bJ b m::R)->K 101 w')
  (hK2:m.dC n=G->(m.th n).st≠1->(m.th n).st≠2->∀w',Ow B w0 w' (bJ b (m.cW n)::R)->K 0 w'):Xd b.o n K w:=by
 apply ahq;obtain⟨l,q,r,bs,hbs,h⟩:=h.Cu;refine fC h (λe=>?_) λa e ha=>?_
 .refine aW O ?_
  exact hK0 e w (Ow.cw hbs h)
 .obtain ⟨n0,n1,hx⟩:=bV e
  refine aV O ?_;intro k hk;refine⟨_,O,_,uJ (c:=0) h n0 hx ha O,dW (λe1=>?_) (λe1=>?_)⟩
  .refine hk _ _ (aW O ?_)
   exact hK1 e (.inl e1) w (Ow.cw hbs h)
  refine⟨_,O,_,uJ (c:=0) h n0 hx ha O,hk _ _ (dW (λe2=>?_) (λe2=>?_))⟩
  .exact hK1 e (.inr e2) w (Ow.cw hbs h)
  .refine gZ hm e (Ow.cw hbs h) λw h=>?_
   exact hK2 e e1 e2 w h
theorem yE{n:U}{K:U->Pw}(hm:dn m)(h:Ow B w0 w (bJ b m::R))
  (hK0:m.dC n=qd->∀w',Ow B w0 w' (bJ b m::R)->K 100 w') (hK1:m.dC n=G->(m.th n).st≠2->∀w',Ow B w0 w' (bJ b m::R)->K 101 w')
  (hK2:m.dC n=G->(m.th n).st=2->∀w',Ow B w0 w' (bJ b (m.leave n 3)::R)->K 0 w'):X8 b.o n K w:=by
 apply ahF;obtain⟨l,q,r,bs,hbs,h⟩:=h.Cu;refine fC h (λe=>?_) λa e ha=>?_
 .refine aW O ?_
  exact hK0 e w (Ow.cw hbs h)
 .obtain ⟨n0,n1,hx⟩:=bV e
  refine aV O ?_;refine⟨_,O,_,uJ (c:=0) h n0 hx ha O,pR (λe1=>?_) (λe1=>?_)⟩
  .exact hK1 e e1 w (Ow.cw hbs h)
  .refine gx hm e (Ow.cw hbs h) λw h=>?_
   exact hK2 e e1 w h
theorem vb{n:U}{K:U->Pw}(hm:dn m)(h:Ow B w0 w (bJ b m::R))
  (hK0:m.dC n=qd->∀w',Ow B w0 w' (bJ b m::R)->K 100 w') (hK1:m.dC n=G->(m.th n).st=0->∀w',Ow B w0 w' (bJ b m::R)->K 101 w')
  (hK2:m.dC n=G->(m.th n).st≠0->∀w',Ow B w0 w' (bJ b (m.leave n 0)::R)->K 0 w'):X1 b.o n K w:=by
 apply ahB;obtain⟨l,q,r,bs,hbs,h⟩:=h.Cu;refine fC h (λe=>?_) λa e ha=>?_
 .refine aW O ?_
  exact hK0 e w (Ow.cw hbs h)
 .obtain ⟨n0,n1,hx⟩:=bV e
  refine aV O ?_;refine⟨_,O,_,uJ (c:=0) h n0 hx ha O,dW (λe1=>?_) (λe1=>?_)⟩
  .exact hK1 e e1 w (Ow.cw hbs h)
  .refine gx hm e (Ow.cw hbs h) λw h=>?_
   exact hK2 e e1 w h
theorem Dx{alf:Qs}{n:U}(h:ir alf=X n):∃x∈alf,x.2=n:=by unfold ir at h;obtain⟨p,hp,hl⟩:=Option.bind_eq_some_iff.1 h;have hm:=List.mem_of_head? hl;unfold cA at hm;obtain⟨x,hx,e⟩:=Tj.1 hm;exact⟨x,(SV.1 hx).1,e⟩
theorem _root_.Go.Vc.Ow.PS{A1 A2 A3 A4:aG}{bs:J S}{c:U}{b1:S}(hb:bs[c.toNat]?=X b1)(c0:0<=c)(c1:c<m.qs.length)(h:Ow B w0 w (aH b1 (m.q c)::A1::A2::A3::A4::(SC aH bs m.qs++R).eraseIdx c.toNat)):
  Ow B w0 w (A1::A2::A3::A4::(SC aH bs m.qs++R)):=by
 have h3:=h.Qd (qs:=m.qs) hb om;have e:m.qs.set c.toNat (m.q c)=m.qs:=by
  apply List.ext_getElem?;intro t;rw[To];by_cases e:c.toNat=t
  .subst e;rw[Z O,Z om,tM c0 c1]
  .rw[Y e]
 rw[e]at h3;exact h3
def Mt.bj(m:Mt)(c:U):Mt:=if m.gA c then m.pick c else m
theorem lD{n v k:U}:(m.iS n v).gA k=m.gA k:=rfl
theorem tW{n v k:U}:(m.iS n v).dC k=m.dC k:=rfl
theorem dn.runT(hm:dn m){c o:U}(h:m.cj c=X o):m.gA c=G/\m.run c=o/\o≠ -1/\m.dC o=true:=by
 unfold Mt.cj at h;split at h
 .rename_i hc
  cases h;obtain⟨c0,c1⟩:=gD.1 hc.1;have hcr:=hm.gH;have:=hm.run _ (SU (xY (m:=m) c0 om));refine⟨hc.1,O,hc.2,?_⟩;rcases this with e|e
  .exact qk e hc.2
  .unfold Mt.dC;simp;exact e
 .cases h
theorem dn.PM(hm:dn m){c n:U}(h:ir (m.q c)=X n):0<=n/\m.dC n=true:=by obtain⟨x,hx,e⟩:=Dx h;have:=hm.xV x hx;rw[e]at this;refine⟨this.1,?_⟩;unfold Mt.dC;simp;exact this
theorem jE{c:U}{K:U->I->Pw}(hm:dn m)(h:Ow B w0 w (bJ b m::R))(hK:∀w',Ow B w0 w' (bJ b (m.bj c)::R)->K (((m.bj c).cj c).getD 0) ((m.bj c).cj c).isSome w'):YI b.o c K w:=by
 apply ahr;have hcr:=hm.gH;obtain⟨l,q,r,bs,hbs,h⟩:=h.Cu;refine sJ hbs h ?_;unfold Mt.bj at hK;cases hc:m.gA c with
 |false=>
  rw[hc]at hK;have e:m.cj c=none:=by unfold Mt.cj;rw[Y (by rw[hc];simp)]
  refine aW O ?_;have:=hK w (Ow.cw hbs h);simp only[Bool.false_eq_true,qB,e]at this;exact this
 |true=>
  rw[hc]at hK;simp only[qE]at hK;obtain⟨c0,c1⟩:=gD.1 hc;refine aV O ?_;refine mq (c:=c) hm (Ow.cw hbs h) λw h=>?_;obtain⟨l,q,r,bs,hbs,h⟩:=h.Cu;obtain⟨b1,hb1⟩:∃x,bs[c.toNat]?=X x:=⟨_,gE om⟩
  refine⟨_,O,q,h.aA O,h.cd (s:=q) (j:=c.toNat) om hb1 λa2 ha2 h0 hcc=>⟨_,h0 _ O,?_⟩⟩
  refine oi (h.MX hb1 (tM c0 c1)) λw h=>?_;have h:=h.PS hb1 c0 c1;intro k15 hk15;refine h.dr λw h=>?_;have stay:∀w,m.pick c=m->Ow B w0 w (bJ b m::R)->k15 G w:=λw e h=>by rw[e]at hK;exact hk15 _ _ (aW O (hK w h))
  cases hn:ir (m.q c)with
  |none=>
   refine aW O ?_;exact stay w (by unfold Mt.pick;rw[hn]) (Ow.cw hbs h)
  |some n=>
   rw[hn]at hk15;obtain⟨n0,hnT⟩:=hm.PM hn;obtain⟨_,n1,hnx⟩:=bV hnT;refine aV O ?_;have fin:∀(m1:Mt)(w:W),dn m1->m1.dC n=G->m1.gA c=G->m.pick c=(m1.leave n 2).iS c n->Ow B w0 w (bJ b m1::R)->
     Wm b.o n 2 (λw20=>
      ∃a21:qf,X (b.p:qf)=X a21/\
      ∃runs22:Sl,w20.cell? (a21.add 2)=X runs22.v/\
      ∃a23:qf,runs22.a=X a23/\0<=c/\c<(runs22.len:U)/\
      St w20 (a23.add (c.toNat*1)) (.z n) λw24=>K n G w24) w:=λm1 w Cs hT1 hC1 hp h=>by
    refine gx Cs hT1 h λw h=>?_;have Gv:=Cs.leave (s:=2) hT1;have hcr2:=Gv.gH;have hC2:(m1.leave n 2).gA c=true:=by rw[jo];exact hC1
    obtain⟨d0,d1⟩:=gD.1 hC2;obtain⟨l,q,r,bs,hbs,h⟩:=h.Cu;refine⟨_,O,r,h.aA O,h.cd (s:=r) (j:=c.toNat) om (xY (m:=m1.leave n 2) c0 om) λa ha h0 hcc=>?_⟩;refine Ow.Ce (s:=r) (E:=ax) (xs:=(m1.leave n 2).runs) (i:=c) (j:=c.toNat) h n om om ha O λw h=>?_;have h2:Ow B w0 w (bJ b ((m1.leave n 2).iS c n)::R):=Ow.cw (m:=(m1.leave n 2).iS c n) hbs h.yQ.yQ.yQ;have hrun:((m1.leave n 2).iS c n).cj c=X n:=by
     unfold Mt.cj;have e:((m1.leave n 2).iS c n).run c=n:=by unfold Mt.run Mt.iS;rw[Y om];simp only;rw[To,Z O,Z om];rfl
     rw[e,Z ⟨by rw[lD];exact hC2,om⟩]
    rw[hp]at hK;have:=hK w h2;rw[hrun]at this;exact this
   cases hr:m.cj c with
   |none=>
    have hr1:m.run c= -1:=by
     unfold Mt.cj at hr;split at hr
     .cases hr
     .rename_i hh
      by_cases e:m.run c= -1
      .exact e
      .exact qk ⟨hc,e⟩ hh
    rw[hr]at hk15;refine aV O (hk15 _ _ (aV O ?_));intro k18 hk18;refine aV O (hk18 _ ?_);exact fin m w hm hnT hc (by unfold Mt.pick;rw[hn];simp only;rw[Z hr1]) (Ow.cw hbs h)
   |some o=>
    obtain⟨_,hro,ho1,hoT⟩:=hm.runT hr;obtain⟨o0,o1,hox⟩:=bV hoT;rw[hr]at hk15;refine aW O ?_;refine⟨_,O,l,h.aE O,h.cd (s:=l) (i:=n) (j:=n.toNat) om hnx λa ha h0 hcc=>⟨_,hcc 1 _ O,_,O,l,h.aE O,?_⟩⟩
    refine h.cd (s:=l) (i:=o) (j:=o.toNat) om hox λa ha h0 hcc=>⟨_,hcc 1 _ O,?_⟩
    refine(λ(hstay:(m.th n).pr<=(m.th o).pr->k15 G w)(hgo:¬(m.th n).pr<=(m.th o).pr->k15 qd w)=>?_) ?_ ?_
    .show k15 (qe ((m.th n).pr<=(m.th o).pr)) w
     by_cases e:(m.th n).pr<=(m.th o).pr
     .rw[qp e];exact hstay e
     .rw[ql e];exact hgo e
    .intro e
     exact stay w (by unfold Mt.pick;rw[hn];simp only;rw[Y (by rw[hro];exact ho1),hro,Z e]) (Ow.cw hbs h)
    .intro e
     refine hk15 _ _ (aV O ?_);intro k18 hk18;refine aW O ?_;refine gx hm hoT (Ow.cw hbs h) λw h=>?_;have Gv:=hm.leave (s:=1) hoT;have hT2:(m.leave o 1).dC o=true:=by rw[fe];exact hoT
     refine gZ Gv hT2 h λw h=>?_;refine hk18 _ ?_;exact fin ((m.leave o 1).cW o) w (Gv.cW hT2) (by rw[ib,fe];exact hnT) (by rw[jq,jo];exact hc) (by unfold Mt.pick;rw[hn];simp only;rw[Y (by rw[hro];exact ho1),hro,Y e]) h
end
end Th
def ahH{a b c d e f K w}:=ah (abx a b c d e f K w) func276 (.v (.v (.y (.v (.x .w)) (.v (.y (.v (.x .w)) (.y (.y (.r (X [(40,.c .b)]) .done) (.x .w)) (.y (.z (.o 0 60 (.o 2 370 (.o 4 10 (.hold 3 354 1023 (.hold 5 2 959 (.e 1 (.e 6 (.o 7 256 (.o 8 0 (.o 9 0 .done))))))))))) (.v (.y (.v (.t (X [(16,.c (.i .u64))]) .u .u)) (.v (.y (.v (.x (.t (X [(16,.c (.i .u64)),(17,.c .s),(18,.c (.i .i64))]) (.y (.v .w) (.x (.x (.y (.v (.x .w)) .w)))) .u))) (.x (.z (.o 0 1022 (.o 1 1528 (.o 2 1528 (.o 3 1504 (.o 4 1504 (.o 5 1216 (.o 6 1024 (.o 7 1024 (.o 8 1024 (.o 9 1024 .Qb)))))))))))))))))))))))
def ahI{a b c K w}:=ah (acM a b c K w) func365 (.v (.y (.y (.r (X [(16,.c .b)]) (.o 0 0 (.o 1 0 (.o 2 0 (.o 3 0 (.o 4 0 (.o 5 0 (.o 6 0 (.o 7 0 (.o 8 0 (.o 9 2048 (.f 10 (.e 11 (.o 12 0 (.o 13 0 .done))) (.e 11 (.o 10 0 (.o 12 0 (.o 13 0 .done)))))))))))))))) (.x .w)) (.y (.y (.z (.o 0 28 (.o 2 2 (.o 3 2 (.hold 1 16 28671 (.e 4 (.o 5 0 (.o 6 0 (.o 7 0 (.o 8 7168 (.o 10 512 (.o 11 512 (.f 9 (.e 12 .Kd) (.e 12 (.o 9 0 .Kd))))))))))))))) (.x .w)) .w)))
def ahJ{a b K w}:=ah (acN a b K w) func366 (.v (.y (.v (.x (.v (.y (.y (.v (.x .w)) .w) (.v (.y (.y (.y (.r (X [(23,.c .b)]) .done) (.x .w)) .w) (.v (.y .w (.y (.v (.t (X [(28,.c .b)]) .u .u)) (.y .w (.y (.v (.v (.v .w))) (.x .w)))))))))))) .w))
def ahK{a b K w}:=ah (Xg a b K w) func60 .g8
def ahL{a K w}:=ah (ZW a K w) func136 (.v (.y (.v (.x (.t (X [(4,.c (.i .i64))]) (.y (.v .w) (.x (.x (.v (.v (.x .w)))))) .u))) .w))
def ahM{a b c K w}:=ah (aa4 a b c K w) func239 (.v (.y .OY (.v .EV)))
def ahN{a b K w}:=ah (aa5 a b K w) func240 .Ro
def ahO{a b K w}:=ah (aa6 a b K w) func241 (.v (.v (.y .Qw .EV)))
def ahP{a b K w}:=ah (ach a b K w) func326 .Ry
def ahQ{a b K w}:=ah (W7 a b K w) func16 (.v (.v (.y (.v (.x .w)) (.y (.z (.o 0 16368 (.o 1 16368 (.o 2 16368 (.o 3 16368 (.o 4 16352 (.o 5 512 (.o 6 512 (.o 7 512 (.o 8 512 (.o 9 0 (.o 10 0 (.o 11 0 (.o 12 0 (.o 13 0 (.o 14 0 (.o 15 0 (.e 16 .done)))))))))))))))))) (.y (.v .w) .w)))))
def ahR{a K w}:=ah (YJ a K w) func45 (.v (.y (.y (.r (X [(11,.c .b)]) .done) (.x .w)) (.v (.y .RQ .w))))
def ahS{a b c K w}:=ah (YN a b c K w) func49 (.v (.y (.y .N8 (.x .w)) .EV))
def ahT{a b K w}:=ah (YO a b K w) func50 (.v (.y (.v (.x .w)) (.y (.y (.r (X [(28,.c .b)]) .done) (.x .w)) (.v .w))))
def ahU{a b K w}:=ah (YP a b K w) func51 (.v (.y (.v (.x .w)) (.v (.v (.y (.y .g5 (.t (X []) (.y .Kc .w) .u)) .w)))))
def ahV{a b K w}:=ah (YR a b K w) func56 .oe
def ahW{a b K w}:=ah (Xk a b K w) func65 (.v (.y (.v (.x (.t (X [(6,.c (.i .i64))]) (.y (.v .w) (.x (.x (.y (.r (X [(36,.c .b)]) .done) (.x .w))))) .u))) .w))
def adJ{a b K w}:=ah (Xm a b K w) func69 (.v (.v (.y (.v (.x .w)) (.v (.v (.v .w))))))
def ahX{a K w}:=ah (ZS a K w) func132 (.v .w)
def ahY{a b K w}:=ah (ZT a b K w) func133 (.v .w)
def ahZ{a b K w}:=ah (ZU a b K w) func134 (.v .w)
def ah0{a b K w}:=ah (ZV a b K w) func135 (.v (.z (.o 0 8376304 (.o 1 8376304 (.o 2 8376304 (.o 3 8376304 (.o 4 8372480 (.o 5 8372480 (.o 6 8372480 (.o 7 8372480 (.o 8 8372224 (.o 9 8372224 (.o 10 8372224 (.o 11 8372224 (.o 12 8372224 (.o 13 8372224 (.o 14 4456448 (.o 15 4456448 (.o 16 4456448 (.o 17 4456448 (.o 18 4194304 (.o 19 4194304 (.o 20 4194304 (.o 21 4194304 (.o 22 0 (.e 23 .done))))))))))))))))))))))))))
def ah1{a b K w}:=ah (Xu a b K w) func137 (.z (.o 0 20464 (.o 1 20464 (.o 2 20464 (.o 3 20464 (.o 4 16640 (.o 5 16640 (.o 6 16640 (.o 7 16640 (.o 8 16384 (.o 9 16384 .RE)))))))))))
def ah2{a b K w}:=ah (aae a b K w) func179 (.v (.y (.v (.x .w)) (.y (.v (.x .w)) (.v (.v .w)))))
def ah3{a b c K w}:=ah (aaf a b c K w) func180 (.v (.y (.v (.x .w)) (.y (.v (.x .w)) (.v (.v (.y (.v .w) .w))))))
def ah4{a b c d K w}:=ah (aav a b c d K w) func197 (.v (.y (.v (.x .w)) (.y (.y .N7 (.x .w)) (.v .w))))
def ah5{a b K w}:=ah (abL a b K w) func290 (.v .QC)
namespace Th
section
variable{B:S}{w0 w:W}{R:J aG}{b:S}{m:Mt}
def Mt.make(m:Mt)(p c:U):Mt:={ m with bK:=m.bK++ [⟨0,p,c,5,λ_=>0⟩]}
theorem dn.make(hm:dn m){p c:U}(hl:m.bK.length<64)(hc:m.gA c=G):dn (m.make p c):=by
 obtain⟨c0,c1⟩:=gD.1 hc;unfold Mt.make;refine⟨by simp;omega,hm.gH,hm.KP,λx hx=>?_,λx hx=>rfl,λn hn=>?_,λalf hQ x hx=>?_⟩
 .rcases Tv.1 hx with h|h
  .exact hm.core x h
  .simp at h;subst h;exact⟨c0,c1⟩
 .rcases hm.run n hn with h|h
  .exact .inl h
  .exact .inr ⟨h.1,by simp;omega⟩
 .have:=hm.line alf hQ x hx
  exact⟨this.1,by simp;omega⟩
theorem rK{p c:U}{K:U->U->Pw}(hm:dn m)(h:Ow B w0 w (bJ b m::R))
  (hK0:¬(0<=p/\p<256/\m.gA c=G)->∀w',Ow B w0 w' (bJ b m::R)->K 0 1 w')
  (hK1:(0<=p/\p<256/\m.gA c=G)->64<=m.bK.length->∀w',Ow B w0 w' (bJ b m::R)->K 0 2 w')
  (hK2:(0<=p/\p<256/\m.gA c=G)->m.bK.length<64->∀w',Ow B w0 w' (bJ b (m.make p c)::R)->K (m.bK.length:U) 0 w'):Wg b.o p c K w:=by
 apply ahp;have hfew:=hm.fu;obtain⟨l,q,r,bs,hbs,h⟩:=h.Cu;have hl:=h.aF l;intro k hk;refine mr ?_;refine Nu (λe=>?_) (λe=>?_)
 .refine hk _ _ (aW O ?_)
  exact hK0 (λhh=>by rw[qp hh.1,qp hh.2.1]at e;cases e) w (Ow.cw hbs h)
 simp only[S4,qF]at e;refine sJ hbs h ?_;cases hc:m.gA c with
 |false=>
  refine hk _ _ (aW O ?_);exact hK0 (λhh=>by rw[hc]at hh;cases hh.2.2) w (Ow.cw hbs h)
 |true=>
  have hh:=And.intro e.1 (And.intro e.2 hc);refine hk _ _ (aV O ?_);refine⟨_,O,l,h.aE O,bh (λe2=>?_) (λe2=>?_)⟩
  .exact hK1 hh om w (Ow.cw hbs h)
  .refine ⟨_,O,l,h.aE O,?_⟩
   refine h.a λd w1 h=>?_;refine Ow.eZ (s:=l) (E:=gU) (xs:=m.bK) (y:=⟨0,p,c,5,λ_=>0⟩) akq (show qh.info? 139=X qV from by kernel_rfl) (zv:=(qV.zero).get qa) qa qa qa qb h (by
    have e:qV.bytes=96:=qa
    rw[e];omega) λs' w hs' h=>?_
   refine⟨_,O,?_⟩;have h:=h.cC;refine h.jD O O λw h=>?_;refine⟨_,O,s',h.aE O,?_⟩;rw[show qj.wrap ((s'.len:U)-1)=(m.bK.length:U)from by rw[hs',wr om om];omega];exact hK2 hh om w (Ow.cw (m:=m.make p c) (l:=s') (q:=q) (r:=r) (bs:=bs) hbs h)
def Mt.yield(m:Mt)(c:U):Mt:=match m.cj c with
 |none=>m
 |some o=>(((m.aS o { m.th o with le:=5}).leave o 1).cW o).bj c
theorem dN{n k:U}{t:vR}:(m.aS n t).dC k=m.dC k:=by unfold Mt.aS Mt.dC;simp
theorem pK{c:U}{K:I->Pw}(hm:dn m)(h:Ow B w0 w (bJ b m::R))(hK:∀w',Ow B w0 w' (bJ b (m.yield c)::R)->K (m.cj c).isSome w'):YU b.o c K w:=by
 apply ahs;refine mq (c:=c) hm h λw h=>?_;unfold Mt.yield at hK;cases hr:m.cj c with
 |none=>
  rw[hr]at hK;exact aW O (hK w h)
 |some o=>
  rw[hr]at hK;obtain⟨hc,hro,ho1,hoT⟩:=hm.runT hr;obtain⟨o0,o1,hox⟩:=bV hoT;have ht:=hm.th hoT;refine aV O ?_;obtain⟨l,q,r,bs,hbs,h⟩:=h.Cu;refine⟨_,O,l,h.aE O,h.cd (s:=l) (i:=o) (j:=o.toNat) om hox λa ha h0 hcc=>?_⟩;refine D2 (c:=3) (t':={ m.th o with le:=5}) h o0 hox ha O qb O λw h=>?_;have h:Ow B w0 w (bJ b (m.aS o { m.th o with le:=5})::R):=Ow.cw (m:=m.aS o { m.th o with le:=5}) hbs h;have Cs:dn (m.aS o { m.th o with le:=5}):=hm.aS (t:={ m.th o with le:=5}) ht.1 O;have hT1:(m.aS o { m.th o with le:=5}).dC o=true:=by rw[dN];exact hoT
  refine gx Cs hT1 h λw h=>?_;have hT2:((m.aS o { m.th o with le:=5}).leave o 1).dC o=true:=by rw[fe];exact hT1
  refine gZ (Cs.leave hT1) hT2 h λw h=>?_;refine jE ((Cs.leave hT1).cW hT2) h λw h=>?_;exact hK w h
def Mt.tick(m:Mt)(c:U):Mt:=match m.cj c with
 |none=>m
 |some o=>if qj.wrap ((m.th o).le-1)<=0 then(m.aS o { m.th o with le:=qj.wrap ((m.th o).le-1)}).yield c else m.aS o { m.th o with le:=qj.wrap ((m.th o).le-1)}
theorem zx{c:U}{K:I->Pw}(hm:dn m)(h:Ow B w0 w (bJ b m::R))(hK:∀w',Ow B w0 w' (bJ b (m.tick c)::R)->K (m.cj c).isSome w'):Y9 b.o c K w:=by
 apply aht;refine mq (c:=c) hm h λw h=>?_;unfold Mt.tick at hK;cases hr:m.cj c with
 |none=>
  rw[hr]at hK;exact aW O (hK w h)
 |some o=>
  rw[hr]at hK;obtain⟨hc,hro,ho1,hoT⟩:=hm.runT hr;obtain⟨o0,o1,hox⟩:=bV hoT;have ht:=hm.th hoT;refine aV O ?_;obtain⟨l,q,r,bs,hbs,h⟩:=h.Cu;refine⟨_,O,l,h.aE O,h.cd (s:=l) (i:=o) (j:=o.toNat) om hox λa ha h0 hcc=>⟨_,hcc 3 _ O,?_⟩⟩
  refine h.cd (s:=l) (i:=o) (j:=o.toNat) om hox λa ha h0 hcc=>?_;simp only at hK;generalize hv:qj.wrap ((m.th o).le-1)=v at hK|-;refine D2 (c:=3) (t':={ m.th o with le:=v}) h o0 hox ha O qb O λw h=>?_;have hx2:(m.bK.set o.toNat { m.th o with le:=v})[o.toNat]?=X { m.th o with le:=v}:=by rw[To,Z O,Z om]
  refine⟨_,O,l,h.aE O,h.cd (s:=l) (i:=o) (j:=o.toNat) om hx2 λa ha h0 hcc=>⟨_,hcc 3 _ O,?_⟩⟩
  have h:Ow B w0 w (bJ b (m.aS o { m.th o with le:=v})::R):=Ow.cw (m:=m.aS o { m.th o with le:=v}) hbs h;have Cs:dn (m.aS o { m.th o with le:=v}):=hm.aS (t:={ m.th o with le:=v}) ht.1 O;refine bh (λe=>?_) (λe=>?_)
  .rw[Z (show v<=0 from e)]at hK
   exact pK Cs h λw h=>hK w h
  .rw[Y (show ¬v<=0 from e)]at hK
   exact hK w h
theorem Jq{c:S}(h1:1<=c)(h8:c<=8){K:U->U->Pw}(hK:K 0 (c:U) w):aaU (1:U) (c:U) K w:=by
 apply af9;apply aga;have:c=1\/c=2\/c=3\/c=4\/c=5\/c=6\/c=7\/c=8:=om
 rcases this with rfl|rfl|rfl|rfl|rfl|rfl|rfl|rfl<;>
 .refine ⟨qb,qb,qb,qb,qb,?_⟩
  refine Eq.mp ?_ hK;kernel_rfl
theorem CB{x:Sl}{c:S}{K:Sl->Pw}(h1:1<=c)(h8:c<=8)(hl:x.len=1)(h:Ow B w0 w (ag ax x [-1]::R))(hK:∀s w',Ow B w0 w' (ag ax s (SB c (-1))::R)->K s w'):ZF x (c:U) K w:=by
 apply afp;intro k3 hk3;refine av om (hk3 _ ?_);rw[hl,show qA.wrap ((1:S):U)=1 from OV om om,OV (x:=(c:U)) om om];refine Jq h1 h8 ?_;intro k8 hk8;refine av om (hk8 _ _ ?_);intro k11 hk11;refine av om (hk11 _ ?_);rw[wr (x:=(c:U)) om om];have hb:qI.bytes=8:=qa
 have hp48:(2:U)^48=281474976710656:=qb
 refine Ow.si (E:=ax) (z0:=(0:U)) (zv:= .z 0) qJ (show qh.info? 3=X qI from by kernel_rfl) qa qa O (n:=(c:U)) (inf:=qI) h om (by rw[hb,hp48];omega) (by rw[hp48];omega) λt w ht h=>?_;rw[SD]at ht h;have hx0:([-1]:J U)[0]?=X (-1):=rfl;obtain⟨bx,ox,hax,hcx⟩:=h.get 1 O hx0;obtain⟨bt,ot,hat,hct⟩:=h.get 0 O (show(SB c (0:U))[0]?=X 0 from by rw[Un,Z om]);have first:∃n w',wS qh [22,22] 3 t.v x.v w n w'/\(n=1/\Ow B w0 w' (ag ax t ([-1]++SB (c-1) 0)::ag ax x [-1]::R)):=by
  have e:min x.len t.len=1:=by rw[hl,ht];omega
  have:=Ow.Gl (P:=qh) (T:=22) (t:=3) (E:=ax) (s:=t) (xs:=SB c (0:U)) (p:=0) (dl:=t.len) (dc:=t.cap) (sl:=x.len) (sc:=x.cap) (zs:=[-1]) (sa:=⟨bx,ox+(0*ax.z+0),Q⟩) (k:=λn w'=>n=1/\Ow B w0 w' (ag ax t ([-1]++SB (c-1) 0)::ag ax x [-1]::R))
   qJ (show qh.info? 3=X qI from by kernel_rfl) qa h hat (by rw[e];rfl) (by simp;omega) (λj v hv=>by
    cases j with
    |zero=>simp only[T5,V6,SL]at hv;exact hcx 0 v hv
    |succ j=>simp[ax]at hv) λw' h'=>⟨by rw[e];rfl,by simpa [W8]using h'⟩
  first
   |(rw[hat,hax];exact this)
   |(show ∃n w',wS qh [22,22] 3 (.slice (t.a) t.len t.cap) (.slice (x.a) x.len x.cap) w n w'/\(n=1/\Ow B w0 w' (ag ax t ([-1]++SB (c-1) 0)::ag ax x [-1]::R));rw[hat,hax];exact this)
 obtain⟨n,w',hcp,rfl,h⟩:=first
 refine⟨_,w',(by first|exact hcp|(rw[hl]at hcp;exact hcp)),?_⟩;intro l17 hl17;have loop:∀(k n:S)(w:W),c<=n+k->1<=n->n<=c->Ow B w0 w (ag ax t (SB n (-1)++SB (c-n) 0)::ag ax x [-1]::R)->l17 (n:U) w:=by
  intro k;induction k with
  |zero=>
   intro n w hk hn1 hnc h;obtain rfl:n=c:=om
   apply hl17;refine av om ?_;rw[Uh,Xb,SL]at h;exact hK t w h.vI
  |succ k ih=>
   intro n w hk hn1 hnc h;apply hl17;refine bh (λe=>?_) (λe=>?_)
   .refine h.dr λw h=>?_
    have hcap:=h.lF.ga;have hln:=h.len 0 O;refine⟨om,om,om,om,Go.Vc.a2 ?_⟩;rw[SD];have e2:min (n-0) (t.len-n)=min n (c-n):=by rw[ht];rfl
    have hd:∃bt' ot',t.a=X ⟨bt',ot',Q⟩/\∀j,j<n->w.cell? ⟨bt',ot'+j,Q⟩=X (.z (-1)):=by
     obtain⟨b0,o0,ha0,_⟩:=h.get 0 O (show(SB n (-1:U)++SB (c-n) 0)[0]?=X (-1)from by rw[SM (by simp;omega),Un,Z om]);refine⟨b0,o0,ha0,λj hj=>?_⟩;obtain⟨b1,o1,ha1,hc1⟩:=h.get 0 O (j:=j) (x:=(-1:U)) (by rw[SM (by simp;omega),Un,Z hj]);rw[ha0]at ha1;cases ha1;have:=hc1 0 _ O
     rwa [show o0+(j*ax.z+0)=o0+j from by show o0+(j*1+0)=_;omega]at this
    obtain⟨b0,o0,ha0,hcells⟩:=hd;have hsl1:mn t.a n t.cap 1=X ⟨b0,o0+n*1,Q⟩:=iU ha0 om;have hsl2:mn t.a 0 t.cap 1=X ⟨b0,o0,Q⟩:=by rw[iU ha0 om,Nat.zero_mul,Nat.add_zero]
    rw[hsl1,hsl2];have hlenz:(SB (min n (c-n)) (-1:U)).length=min (n-0) (t.len-n):=by rw[List.length_replicate,e2]
    refine Ow.Gl (P:=qh) (T:=22) (t:=3) (E:=ax) (s:=t) (xs:=SB n (-1)++SB (c-n) 0) (p:=n) (dl:=t.len-n) (dc:=t.cap-n) (sl:=n-0) (sc:=t.cap-0) (zs:=SB (min n (c-n)) (-1)) (sa:=⟨b0,o0,Q⟩)
     qJ (show qh.info? 3=X qI from by kernel_rfl) qa h ha0 hlenz (by simp;omega) (λj v hv=>?_) λw' h'=>?_
    .have hfl:(SB (min n (c-n)) (-1:U)).flatMap ax.enc=SB (min n (c-n)) (.z (-1)):=by
      induction (min n (c-n))with
      |zero=>rfl
      |succ q ihq=>rw[US,T5,ihq,US];rfl
     rw[hfl,Un]at hv;split at hv
     .cases hv;rw[aL];exact hcells j om
     .cases hv
    .rw[e2]
     have hs:qj.wrap ((n:U)+((min n (c-n):S):U))=((n+min n (c-n):S):U):=by rw[wr om om];omega
     rw[hs];refine ih (n+min n (c-n)) w' om om om ?_;have hx:List.take n (SB n (-1:U)++SB (c-n) 0)++SB (min n (c-n)) (-1)++List.drop (n+(SB (min n (c-n)) (-1:U)).length) (SB n (-1:U)++SB (c-n) 0)=SB (n+min n (c-n)) (-1)++SB (c-(n+min n (c-n))) 0:=by rw[List.take_left' qc,List.drop_append,List.drop_eq_nil_of_le qc,List.nil_append,W8,List.replicate_append_replicate];congr 2;simp;omega
     rw[hx]at h';exact h'
   .obtain rfl:n=c:=om
    rw[Uh,Xb,SL]at h;exact hK t w h.vI
 exact loop c 1 w' om om h1 h
theorem CG{s:Sl}{ys:J S}{y:S}{c:S}{L:J aG}{k:Sl->Pw}[ale:bG s L S eW ys][ak8:eL (ag eW s ys) L R](h:Ow B w0 w (ae c [.q y]::L))(hbig:ys.length<=1000000000)
  (hk:∀s' w',s'.len=ys.length+1->Ow B w0 w' (ag eW s' (ys++ [y])::R)->k s' w'):
  ∃s' w',dO qh [245,245] 245 s.v (.slice (X c.p) 1 1) w s' w'/\k s' w':=
 Ow.eZ (E:=eW) (y:=y) underlying245 (show qh.info? 248=X akF from by kernel_rfl) (zv:= .pointer Q) qa qa O qb h (by
  have e:akF.bytes=8:=qa
  rw[e];omega) hk
def eU(c:S):Mt:=⟨[],SB c [],SB c (-1)⟩
theorem wH{c:S}(h8:c<=8):dn (eU c):=by
 refine⟨by simp[eU],by simp[eU],by simpa [eU]using h8,λt h=>?_,λt h=>rfl,λn h=>?_,λalf h x hx=>?_⟩
 .simp[eU]at h
 .simp only[eU,VR]at h;exact .inl h.2
 .simp only[eU,VR]at h;rw[h.2]at hx;simp at hx
theorem Ck{n:U}{K:qg qf->U->Pw}(h:Ow B w0 w R)(hK0:¬(1<=n/\n<=8)->∀w',Ow B w0 w' R->K Q 1 w')(hK1:∀c:S,n=(c:U)->1<=c->c<=8->∀b w',Ow B w0 w' (bJ b (eU c)::R)->K b.o 0 w'):YE n K w:=by
 apply aho;intro k2 hk2;refine bh (λe=>hk2 _ _ (aW O (hK0 om w h))) (λe1=>hk2 _ _ ?_);refine bh (λe=>hK0 om w h) (λe2=>?_);obtain⟨c,rfl⟩:=SI (show 0<=n by omega);refine h.a λd w1 h=>?_;have h:Ow B w0 w1 (ag ax ⟨X d.p,1,1⟩ [-1]::R):=h.CO [-1] O;refine CB om om O h λr w h=>?_;refine h.a λt w2 h=>?_;have h:Ow B w0 w2 (ag eW z0 []::_):=Ow.cB h;have h:Ow B w0 w2 (ag gU z0 []::_):=Ow.cB h;intro l9 hl9;have loop:∀(k j:S)(q:Sl)(bs:J S)(w:W),j+k=c->bs.length=j->Ow B w0 w (ae t [bz z0,bz q,bz r]::ag gU z0 []::ag eW q bs::ag ax r (SB c (-1))::(SC aH bs (SB j [])++R))->l9 (j:U) w:=by
  intro k;induction k with
  |zero=>
   intro j q bs w hj hbs h;obtain rfl:j=c:=om
   apply hl9;refine av om ?_;exact hK1 j O om om t w (Ow.cw (m:=eU j) (l:=z0) (q:=q) (r:=r) (bs:=bs) (by simp[eU];exact hbs) h)
  |succ k ih=>
   intro j q bs w hj hbs h;apply hl9;refine az om ?_;refine h.dr λw h=>?_;refine⟨_,O,q,h.aA O,Go.Vc.a2 (px h λb1 w h=>?_)⟩;refine⟨h.aA O,Go.Vc.a2 (h.a λd3 w3 h=>?_)⟩;refine Go.Vc.a2 ?_;refine CG (s:=q) (ys:=bs) (y:=b1) h om λq' w hq' h=>?_;refine⟨_,O,Go.Vc.a2 (h.fD O O λw h=>?_)⟩;rw[wI j om];refine ih (j+1) q' (bs++ [b1]) w om (by simp[hbs]) ?_;have ez:SC aH (bs++ [b1]) (SB (j+1) [])=SC aH bs (SB j [])++ [aH b1 []]:=by rw[List.replicate_succ',List.zipWith_append (by simp[hbs])];rfl
   rw[ez,List.append_assoc];have h2:Ow B w0 w (ae t [bz z0,q'.v,bz r]::ag gU z0 []::ag eW q' (bs++ [b1])::ag ax r (SB c (-1))::aH b1 []::(SC aH bs (SB j [])++R)):=h.sub;exact h2.perm ((((Tw.symm.cons _).cons _).cons _).cons _)
 have h3:Ow B w0 w2 (ae t [bz z0,bz z0,bz r]::ag gU z0 []::ag eW z0 []::ag ax r (SB c (-1))::R):=h.lI;exact loop c 0 z0 [] w2 om O h3
end
section
variable{w0 w:W}{B:S}{R:J aG}{b:S}{m:Mt}
theorem dn.P0(hm:dn m){c n:U}(h:m.dC n=G):dn (m.iS c n):=hm.iS (.inr ⟨(bV h).1,(bV h).2.1⟩)
end
section
variable{B:S}{w0 w:W}{R L:J aG}{b:S}{m:Mt}
theorem pL{c:S}{a e2:U}{K:U->Pw}(h:Ow B w0 w (ae c [.z a,.z e2]::L))(hK:∀w',Ow B w0 w' (ae c [.z a,.z e2]::L)->K (if a≠0 then a else e2) w'):X3 ⟨X c.p,2,2⟩ K w:=by
 apply ahD;have tell:∀(x:U)(w:W)(alf:I->Pw),alf (x !=0) w->acO x alf w:=λx w alf h=>by apply ahG;exact h
 apply afI;intro l3 hl3;refine hl3 _ _ (az (by show(0:U)<2;decide) ?_);refine⟨_,O,qb,by show(0:U)<2;decide,a,h.aA O,aY (tell a w _ ?_)⟩;refine cb (λe=>?_) (λe=>?_)
 .have ea:a≠0:=by simpa using e
  rw[Z ea]at hK;refine av qb ?_;exact⟨_,O,qb,by show(0:U)<2;decide,a,h.aA O,hK w h⟩
 .have ea:a=0:=by simpa using e
  rw[Y (by simpa using ea)]at hK;rw[show qj.wrap ((0:U)+1)=1 from by decide];refine hl3 _ _ (az (by show(1:U)<2;decide) ?_);refine⟨_,O,qb,by show(1:U)<2;decide,e2,h.aA O,aY (tell e2 w _ ?_)⟩;refine cb (λe=>?_) (λe=>?_)
  .refine av qb ?_
   exact⟨_,O,qb,by show(1:U)<2;decide,e2,h.aA O,hK w h⟩
  .have eb:e2=0:=by simpa using e
   rw[show qj.wrap ((1:U)+1)=2 from by decide];refine hl3 _ _ (av (by show ¬(2:U)<2;decide) ?_);refine az qb ?_;rw[eb]at hK h;exact hK w h
def Mt.DK(m:Mt)(n:U)(i:S)(v:U):Mt:=m.aS n { m.th n with rg:=λj=>if j=i then v else(m.th n).rg j}
theorem dn.DK(hm:dn m){n v:U}{i:S}(hn:m.dC n=G):dn (m.DK n i v):=hm.aS (t:={ m.th n with rg:=λj=>if j=i then v else(m.th n).rg j}) (hm.th hn).1 O
theorem PX{n v:U}{i:S}{K:U->Pw}(hm:dn m)(hT:m.dC n=G)(hi:i<8)(h:Ow B w0 w (bJ b m::R))(hK:∀w',Ow B w0 w' (bJ b (m.DK n i v)::R)->K 0 w'):XS b.o n (i:U) v K w:=by
 apply Yf;obtain⟨l,q,r,bs,hbs,h⟩:=h.Cu;obtain⟨n0,n1,hx⟩:=bV hT;refine fC h (λe=>by rw[hT]at e;cases e) λa _ ha=>?_;intro k7 hk7;refine cZ ?_;refine av om ?_;refine cZ ?_;rw[ql (show ¬(i:U)>=8 by omega)];refine h.a λd w2 h=>?_;refine pL h λw h=>?_;have h:=h.drop;refine hk7 _ _ (fh O ?_);refine⟨_,O,om,om,?_⟩;have e1:((a.add (n.toNat*12)).add 4).add ((i:U).toNat*1)=(a.add (n.toNat*12)).add (4+i):=by have:=h.yA l ha;rw[this,aL,aL,aL,aL,SD];congr 1;omega
 rw[e1];refine D2 (c:=4+i) (t':={ m.th n with rg:=λj=>if j=i then v else(m.th n).rg j}) h n0 hx ha ?_ om O λw h=>?_
 .have:i=0\/i=1\/i=2\/i=3\/i=4\/i=5\/i=6\/i=7:=om
  rcases this with rfl|rfl|rfl|rfl|rfl|rfl|rfl|rfl<;>rfl
 .exact hK w (Ow.cw (m:=m.DK n i v) hbs h)
theorem D6{l q r:Sl}{bs:J S}{n s:U}{K:Pw}(hm:dn m)(hn:m.dC n=G)(hbs:bs.length=m.qs.length)(h:Ow B w0 w (ae b [bz l,bz q,bz r]::ag gU l m.bK::ag eW q bs::ag ax r m.runs::(SC aH bs m.qs++R)))
  (hK:∀w',Ow B w0 w' (ae b [bz l,bz q,bz r]::ag gU l (m.leave n s).bK::ag eW q bs::ag ax r (m.leave n s).runs::(SC aH bs (m.leave n s).qs++R))->K w'):Wm b.o n s K w:=by
 apply adI;obtain⟨n0,n1,hx⟩:=bV hn;obtain⟨⟨c0,c1⟩,_⟩:=hm.th hn;have hcr:=hm.gH;obtain⟨b1,hb1⟩:∃x,bs[(m.th n).co.toNat]?=X x:=⟨_,gE om⟩
 refine fC h (λe=>by rw[hn]at e;cases e) λa _ ha=>?_;refine⟨_,O,_,uJ (c:=0) h n0 hx ha O,?_⟩;intro k hk;have fin:∀w,Ow B w0 w (ae b [bz l,bz q,bz r]::ag gU l m.bK::ag eW q bs::ag ax r (m.bL n).runs::(SC aH bs (m.bL n).qs++R))->k w:=λw h=>by
  apply hk;refine⟨_,O,D2 (c:=0) (t':={ m.th n with st:=s}) h n0 hx ha O qb O λw h=>?_⟩;refine hK w ?_;have e:(m.leave n s).bK=m.bK.set n.toNat { m.th n with st:=s}:=by unfold Mt.leave Mt.aS;rw[dI.1]
  rw[e];exact h
 refine dW (λe=>?_) (λe=>?_)
 .have e1:m.bL n=m.jx (m.th n).co (fU (m.q (m.th n).co) n).2:=by unfold Mt.bL;rw[Z e]
  rw[e1]at fin;refine h.dr λw h=>?_;refine⟨_,O,q,h.aA O,_,O,_,uJ (c:=2) h n0 hx ha O,h.cd (s:=q) (j:=(m.th n).co.toNat) (by show(m.th n).co=_;omega) hb1 λa2 ha2 h0 hc=>⟨_,h0 _ O,Go.Vc.a2 ?_⟩⟩
  have h:=h.MX hb1 (tM c0 c1);refine jb h λw h=>?_;exact fin w (h.Qd (qs:=m.qs) hb1 om)
 refine dW (λe2=>?_) (λe2=>?_)
 .have e1:m.bL n=m.iS (m.th n).co (-1):=by unfold Mt.bL;rw[Y e,Z e2]
  rw[e1]at fin;refine h.dr λw h=>?_;refine⟨_,O,r,h.aA O,_,O,_,uJ (c:=2) h n0 hx ha O,h.cd (s:=r) (j:=(m.th n).co.toNat) (by show(m.th n).co=_;omega) (xY (m:=m) c0 om) λa2 ha2 h0 hc=>Go.Vc.a2 ?_⟩;refine Ow.Ce (s:=r) (E:=ax) (xs:=m.runs) (i:=(m.th n).co) (j:=(m.th n).co.toNat) h (-1) om om ha2 O λw h=>?_;exact fin w h.yQ.yQ.yQ
 .have e1:m.bL n=m:=by unfold Mt.bL;rw[Y e,Y e2]
  rw[e1]at fin;exact fin w h
theorem eO{n k:U}{t:vR}(hn:m.dC n=G):(m.aS n t).th k=if k=n then t else m.th k:=by
 obtain⟨n0,n1,_⟩:=bV hn;unfold Mt.th Mt.aS;by_cases hk:k<0
 .rw[Z hk,Z hk,Y om]
 .rw[Y hk,Y hk]
  simp only;rw[To];by_cases e:k=n
  .subst e;rw[Z O,Z om,Z O];rfl
  .rw[Y om,Y e]
theorem BV{c k:U}{alf:Qs}(hc:m.gA c=G):(m.jx c alf).q k=if k=c then alf else m.q k:=by
 obtain⟨n0,n1⟩:=gD.1 hc;unfold Mt.q Mt.jx;by_cases hk:k<0
 .rw[Z hk,Z hk,Y om]
 .rw[Y hk,Y hk]
  simp only;rw[To];by_cases e:k=c
  .subst e;rw[Z O,Z om,Z O];rfl
  .rw[Y om,Y e]
theorem yq{c k v:U}(c0:0<=c)(c1:c<m.runs.length):(m.iS c v).run k=if k=c then v else m.run k:=by
 unfold Mt.run Mt.iS;by_cases hk:k<0
 .rw[Z hk,Z hk,Y om]
 .rw[Y hk,Y hk]
  simp only;rw[To];by_cases e:k=c
  .subst e;rw[Z O,Z om,Z O];rfl
  .rw[Y om,Y e]
theorem wL{n k:U}{t:vR}:(m.aS n t).q k=m.q k:=rfl
theorem rq{n k:U}{t:vR}:(m.aS n t).run k=m.run k:=rfl
theorem B9{n k:U}{t:Qs}:(m.jx n t).th k=m.th k:=rfl
theorem Ly{n k:U}{t:Qs}:(m.jx n t).run k=m.run k:=rfl
theorem wK{n k t:U}:(m.iS n t).th k=m.th k:=rfl
theorem Lz{n k t:U}:(m.iS n t).q k=m.q k:=rfl
theorem Lw{n k:U}{t:Qs}:(m.jx n t).dC k=m.dC k:=rfl
theorem DV{n k:U}{t:Qs}:(m.jx n t).gA k=m.gA k:=by unfold Mt.jx Mt.gA;simp
structure bR(o:U)(m:Mt):Prop where
 ok:dn m
 pr:∀n,m.dC n=G->0<=(m.th n).pr/\(m.th n).pr<256
 le:∀n,m.dC n=G->1<=(m.th n).le/\(m.th n).le<=5
 Il:∀c,AX (m.q c)
 E2:∀c,m.gA c=G->∀(p:S)n,(p,n)∈m.q c↔(m.dC n=G/\n≠o/\(m.th n).co=c/\(m.th n).st=1/\(m.th n).pr=(p:U))
 inr:∀c,m.gA c=G->∀n,m.dC n=G->(m.run c=n↔(n≠o/\(m.th n).co=c/\(m.th n).st=2))
theorem bR.co{o:U}(hi:bR o m){n:U}(hn:m.dC n=G):m.gA (m.th n).co=true:=gD.2 (hi.ok.th hn).1
theorem LL{alf:Qs}{n:U}{p:S}{k:U}:(p,k)∈(fU alf n).2↔(p,k)∈alf/\k≠n:=by
 unfold fU;split
 .rw[SV];simp
 .rename_i e
  exact⟨λh=>⟨h,nL.1 e _ h⟩,λh=>h.1⟩
theorem Nd{alf:Qs}{n:U}(h:AX alf):AX (fU alf n).2:=by
 unfold fU;split
 .exact ⟨h.nodup.sublist (List.Sublist.map _ Vb),λx hx=>h.prio x (SV.1 hx).1,SY (S3 _ _) h.fu⟩
 .exact h
theorem bR.bL(hi:bR (-1) m){n:U}(hn:m.dC n=G):bR n (m.bL n):=by
 have hc:=hi.co hn;have hok:=hi.ok;obtain⟨c0,c1⟩:=gD.1 hc;have hcr:=hi.ok.gH;obtain⟨n0,_,_⟩:=bV hn;have neg:∀k,m.dC k=G->k≠ -1:=λk hk=>by have:=(bV hk).1;omega
 unfold Mt.bL;split
 .rename_i hs
  refine⟨hi.ok.jx (AR hok.xV),hi.pr,hi.le,λc=>?_,λc hc2 p k=>?_,λc hc2 k hk=>?_⟩
  .rw[BV hc];split
   .exact Nd (hi.Il _)
   .exact hi.Il c
  .rw[DV]at hc2
   rw[BV hc,B9,Lw];split
   .rename_i e
    subst e;rw[LL,hi.E2 _ hc];constructor
    .rintro ⟨⟨h1,h2,h3⟩,h4⟩;exact⟨h1,h4,h3⟩
    .rintro ⟨h1,h4,h3⟩;exact⟨⟨h1,neg k h1,h3⟩,h4⟩
   .rename_i e
    rw[hi.E2 _ hc2];constructor
    .rintro ⟨h1,h2,h3⟩;exact⟨h1,λe2=>e (by rw[<-h3.1,e2]),h3⟩
    .rintro ⟨h1,h4,h3⟩;exact⟨h1,neg k h1,h3⟩
  .rw[DV]at hc2
   rw[Ly,B9,hi.inr c hc2 k hk];constructor
   .rintro ⟨h1,h2,h3⟩;exact⟨λe=>by rw[e,hs]at h3;omega,h2,h3⟩
   .rintro ⟨h1,h3⟩;exact⟨neg k hk,h3⟩
 .rename_i hs1
  split
  .rename_i hs
   refine⟨hi.ok.iS (.inl O),hi.pr,hi.le,hi.Il,λc hc2 p k=>?_,λc hc2 k hk=>?_⟩
   .rw[lD]at hc2
    rw[Lz,wK,tW,hi.E2 c hc2];constructor
    .rintro ⟨h1,h2,h3,h4,h5⟩;exact⟨h1,λe=>by rw[e,hs]at h4;omega,h3,h4,h5⟩
    .rintro ⟨h1,h2,h3⟩;exact⟨h1,neg k h1,h3⟩
   .rw[lD]at hc2
    rw[tW]at hk;rw[yq c0 om,wK];split
    .rename_i e
     constructor
     .intro e2;exact qk e2.symm (neg k hk)
     .rintro ⟨h1,h2,h3⟩
      have a1:=(hi.inr c hc2 k hk).2 ⟨neg k hk,h2,h3⟩;have a2:=(hi.inr c hc2 n hn).2 ⟨neg n hn,e.symm,hs⟩;exact qk (a1.symm.trans a2) h1
    .rename_i e
     rw[hi.inr c hc2 k hk];constructor
     .rintro ⟨h1,h2,h3⟩;exact⟨λe2=>e (by rw[<-h2,e2]),h2,h3⟩
     .rintro ⟨h1,h3⟩;exact⟨neg k hk,h3⟩
  .rename_i hs2
   refine⟨hi.ok,hi.pr,hi.le,hi.Il,λc hc2 p k=>?_,λc hc2 k hk=>?_⟩
   .rw[hi.E2 c hc2]
    constructor
    .rintro ⟨h1,h2,h3,h4,h5⟩;exact⟨h1,λe=>by rw[e]at h4;exact hs1 h4,h3,h4,h5⟩
    .rintro ⟨h1,h2,h3⟩;exact⟨h1,neg k h1,h3⟩
   .rw[hi.inr c hc2 k hk]
    constructor
    .rintro ⟨h1,h2,h3⟩;exact⟨λe=>by rw[e]at h3;exact hs2 h3,h2,h3⟩
    .rintro ⟨h1,h3⟩;exact⟨neg k hk,h3⟩
theorem bR.set{n:U}(hi:bR n m)(hn:m.dC n=G){t:vR}(h1:0<=t.co/\t.co<m.qs.length)(h2:0<=t.pr/\t.pr<256)(h3:1<=t.le/\t.le<=5):bR n (m.aS n t):=by
 refine⟨hi.ok.aS h1 O,λk hk=>?_,λk hk=>?_,hi.Il,λc hc p k=>?_,λc hc k hk=>?_⟩
 .rw[eO hn];rw[dN]at hk;split
  .exact h2
  .exact hi.pr k hk
 .rw[eO hn];rw[dN]at hk;split
  .exact h3
  .exact hi.le k hk
 .rw[wL,dN,eO hn,hi.E2 c hc]
  by_cases e:k=n
  .subst e;exact⟨λh=>qk O h.2.1,λh=>qk O h.2.1⟩
  .rw[Y e]
 .rw[dN]at hk
  rw[rq,eO hn,hi.inr c hc k hk];by_cases e:k=n
  .subst e;exact⟨λh=>qk O h.1,λh=>qk O h.1⟩
  .rw[Y e]
theorem p7{n k:U}:(m.bL n).th k=m.th k:=by unfold Mt.th;rw[dI.1]
theorem kX{n k:U}:(m.bL n).dC k=m.dC k:=by unfold Mt.dC;rw[dI.1]
theorem bR.leave(hi:bR (-1) m){n s:U}(hn:m.dC n=G):bR n (m.leave n s):=by
 unfold Mt.leave;have h0:=hi.bL hn;have hn0:(m.bL n).dC n=true:=by rw[kX];exact hn
 refine h0.set hn0 ?_ (hi.pr n hn) (hi.le n hn);rw[dI.2];exact(hi.ok.th hn).1
theorem jS{n s k:U}(hn:m.dC n=G):(m.leave n s).th k=if k=n then { m.th n with st:=s}else m.th k:=by unfold Mt.leave;rw[eO (by rw[kX];exact hn),p7]
theorem kG{n k:U}(hn:m.dC n=G):(m.cW n).th k=if k=n then { m.th n with st:=1}else m.th k:=by unfold Mt.cW;rw[B9,eO hn]
theorem bR.Sr{n:U}(hi:bR n m){c:U}(hc:m.gA c=G):wh (m.q c) n=none:=nL.2 λx hx e=>by obtain⟨p,k⟩:=x;exact((hi.E2 c hc p k).1 hx).2.1 e
theorem bR.up{n:U}(hi:bR n m)(hn:m.dC n=G):bR (-1) (m.cW n):=by
 have hc:=hi.co hn;have hw:=hi.Sr hc;have hp:=hi.pr n hn;have hok:=hi.ok.cW hn;have hids:=Bu (hi.Il _) (hi.ok.xV (c:=(m.th n).co));have hfew:=hi.ok.fu;have neg:∀k,m.dC k=G->k≠ -1:=λk hk=>by have:=(bV hk).1;omega
 have hput:(lq (m.q (m.th n).co) (m.th n).pr n).2=m.q (m.th n).co++ [((m.th n).pr.toNat,n)]:=by unfold lq;rw[Y om,hw]
 have hpt:((m.th n).pr.toNat:U)=(m.th n).pr:=om
 have hc1:(m.aS n { m.th n with st:=1}).gA (m.th n).co=true:=hc;refine⟨hok,λk hk=>?_,λk hk=>?_,λc=>?_,λc hc2 p k=>?_,λc hc2 k hk=>?_⟩
 .rw[kG hn];rw[ib]at hk;split
  .exact hp
  .exact hi.pr k hk
 .rw[kG hn];rw[ib]at hk;split
  .exact hi.le n hn
  .exact hi.le k hk
 .unfold Mt.cW
  rw[BV hc1,hput,wL];split
  .exact Fo (hi.Il _) om hw om
  .exact hi.Il c
 .rw[jq]at hc2
  rw[ib,kG hn];have e0:(m.cW n).q c=if c=(m.th n).co then m.q (m.th n).co++ [((m.th n).pr.toNat,n)]else m.q c:=by unfold Mt.cW;rw[BV hc1,hput,wL]
  rw[e0];by_cases e:c=(m.th n).co
  .subst e
   rw[Z O,Tv,List.mem_singleton,hi.E2 _ hc2];by_cases ek:k=n
   .subst ek
    rw[Z O];constructor
    .rintro (h|h)
     .exact qk O h.2.1
     .cases h;exact⟨hn,neg k hn,O,O,hpt.symm⟩
    .rintro ⟨_,_,_,_,h5⟩
     refine .inr ?_;have:(m.th k).pr.toNat=p:=by have h5:(m.th k).pr=p:=h5;omega
     rw[this]
   .rw[Y ek]
    constructor
    .rintro (⟨h1,h2,h3⟩|h)
     .exact ⟨h1,neg k h1,h3⟩
     .cases h;exact qk O ek
    .rintro ⟨h1,h2,h3⟩;exact .inl ⟨h1,ek,h3⟩
  .rw[Y e,hi.E2 _ hc2]
   by_cases ek:k=n
   .subst ek
    rw[Z O];exact⟨λh=>qk O h.2.1,λh=>qk h.2.2.1.symm e⟩
   .rw[Y ek]
    exact⟨λh=>⟨h.1,neg k h.1,h.2.2⟩,λh=>⟨h.1,ek,h.2.2⟩⟩
 .rw[jq]at hc2
  rw[ib]at hk;rw[kG hn];show m.run c=k↔_;rw[hi.inr c hc2 k hk];by_cases ek:k=n
  .subst ek
   rw[Z O];exact⟨λh=>qk O h.1,λh=>qk (show(1:U)=2 from h.2.2) qb⟩
  .rw[Y ek]
   exact⟨λh=>⟨neg k hk,h.2⟩,λh=>⟨ek,h.2⟩⟩
theorem bR.still{n:U}(hi:bR n m)(h1:(m.th n).st≠1)(h2:(m.th n).st≠2):bR (-1) m:=by
 have neg:∀k,m.dC k=G->k≠ -1:=λk hk=>by have:=(bV hk).1;omega
 refine⟨hi.ok,hi.pr,hi.le,hi.Il,λc hc p k=>?_,λc hc k hk=>?_⟩
 .rw[hi.E2 c hc]
  exact⟨λh=>⟨h.1,neg k h.1,h.2.2⟩,λh=>⟨h.1,λe=>h1 (by rw[<-e];exact h.2.2.2.1),h.2.2⟩⟩
 .rw[hi.inr c hc k hk]
  exact⟨λh=>⟨neg k hk,h.2⟩,λh=>⟨λe=>h2 (by rw[<-e];exact h.2.2),h.2⟩⟩
theorem bR.out{n:U}(hi:bR (-1) m)(h1:(m.th n).st≠1)(h2:(m.th n).st≠2):bR n m:=by
 have neg:∀k,m.dC k=G->k≠ -1:=λk hk=>by have:=(bV hk).1;omega
 refine⟨hi.ok,hi.pr,hi.le,hi.Il,λc hc p k=>?_,λc hc k hk=>?_⟩
 .rw[hi.E2 c hc]
  exact⟨λh=>⟨h.1,λe=>h1 (by rw[<-e];exact h.2.2.2.1),h.2.2⟩,λh=>⟨h.1,neg k h.1,h.2.2⟩⟩
 .rw[hi.inr c hc k hk]
  exact⟨λh=>⟨λe=>h2 (by rw[<-e];exact h.2.2),h.2⟩,λh=>⟨neg k hk,h.2⟩⟩
theorem bR.go{n c:U}(hi:bR n m)(hn:m.dC n=G)(h1:(m.th n).st=2)(h2:(m.th n).co=c)(hc:m.gA c=G)(hr:m.run c= -1):bR (-1) (m.iS c n):=by
 have neg:∀k,m.dC k=G->k≠ -1:=λk hk=>by have:=(bV hk).1;omega
 obtain⟨c0,c1⟩:=gD.1 hc;have hcr:=hi.ok.gH;refine⟨hi.ok.P0 hn,hi.pr,hi.le,hi.Il,λd hd p k=>?_,λd hd k hk=>?_⟩
 .rw[lD]at hd
  rw[Lz,tW,wK,hi.E2 d hd];exact⟨λh=>⟨h.1,neg k h.1,h.2.2⟩,λh=>⟨h.1,λe=>by rw[e,h1]at h;exact qk h.2.2.2.1 qb,h.2.2⟩⟩
 .rw[lD]at hd
  rw[tW]at hk;rw[yq c0 om,wK];by_cases e:d=c
  .subst e
   rw[Z O];constructor
   .intro e2;subst e2;exact⟨neg _ hk,h2,h1⟩
   .rintro ⟨h3,h4⟩
    by_cases ek:k=n
    .exact ek.symm
    .have:=(hi.inr d hd k hk).2 ⟨ek,h4⟩
     rw[hr]at this;exact qk this.symm (neg k hk)
  .rw[Y e,hi.inr d hd k hk]
   exact⟨λh=>⟨neg k hk,h.2⟩,λh=>⟨λe2=>e (by rw[<-h.2.1,e2,h2]),h.2⟩⟩
theorem bR.Kr(hi:bR (-1) m){n:U}(hn:m.dC n=G){t:vR}(h1:t.co=(m.th n).co)(h2:t.st=(m.th n).st)(h3:(m.th n).st=1->t.pr=(m.th n).pr)(h4:0<=t.pr/\t.pr<256)(h5:1<=t.le/\t.le<=5):bR (-1) (m.aS n t):=by
 refine⟨hi.ok.aS (by rw[h1];exact(hi.ok.th hn).1) O,λk hk=>?_,λk hk=>?_,hi.Il,λc hc p k=>?_,λc hc k hk=>?_⟩
 .rw[eO hn];rw[dN]at hk;split
  .exact h4
  .exact hi.pr k hk
 .rw[eO hn];rw[dN]at hk;split
  .exact h5
  .exact hi.le k hk
 .rw[wL,dN,eO hn,hi.E2 c hc]
  by_cases e:k=n
  .subst e
   rw[Z O,h1,h2];exact⟨λh=>⟨h.1,h.2.1,h.2.2.1,h.2.2.2.1,by rw[h3 h.2.2.2.1];exact h.2.2.2.2⟩,λh=>⟨h.1,h.2.1,h.2.2.1,h.2.2.2.1,by rw[<-h3 h.2.2.2.1];exact h.2.2.2.2⟩⟩
  .rw[Y e]
 .rw[dN]at hk
  rw[rq,eO hn,hi.inr c hc k hk];by_cases e:k=n
  .subst e;rw[Z O,h1,h2]
  .rw[Y e]
theorem wO{p c k:U}:(m.make p c).th k=if k=(m.bK.length:U)then⟨0,p,c,5,λ_=>0⟩else m.th k:=by
 unfold Mt.th Mt.make;by_cases hk:k<0
 .rw[Z hk,Y om,Z hk]
 .rw[Y hk]
  simp only;by_cases e:k=(m.bK.length:U)
  .subst e;rw[Z O,SD,List.getElem?_append_right (SA _),Uh];rfl
  .rw[Y e,Y hk]
   by_cases e2:k.toNat<m.bK.length
   .rw[SM e2]
   .rw[SZ (by simp;omega),SZ om]
theorem tE{p c k:U}:(m.make p c).dC k=G↔(m.dC k=G\/k=(m.bK.length:U)):=by unfold Mt.dC Mt.make;simp only[List.length_append,SJ,List.length_nil,S4,qF];omega
theorem bR.make(hi:bR (-1) m){p c:U}(hl:m.bK.length<64)(hc:m.gA c=G)(hp:0<=p/\p<256):bR (-1) (m.make p c):=by
 have notT:m.dC (m.bK.length:U)≠true:=by unfold Mt.dC;simp
 refine⟨hi.ok.make hl hc,λk hk=>?_,λk hk=>?_,hi.Il,λd hd q k=>?_,λd hd k hk=>?_⟩
 .rw[wO]
  rcases tE.1 hk with h|h
  .split
   .exact hp
   .exact hi.pr k h
  .rw[Z h];exact hp
 .rw[wO]
  rcases tE.1 hk with h|h
  .split
   .exact ⟨by show(1:U)<=5;decide,by show(5:U)<=5;decide⟩
   .exact hi.le k h
  .rw[Z h];exact⟨by show(1:U)<=5;decide,by show(5:U)<=5;decide⟩
 .show (q,k)∈m.q d↔_
  rw[hi.E2 d hd,tE,wO];by_cases e:k=(m.bK.length:U)
  .rw[Z e,e]
   exact⟨λh=>qk h.1 notT,λh=>qk (show(0:U)=1 from h.2.2.2.1) qb⟩
  .rw[Y e]
   exact⟨λh=>⟨.inl h.1,h.2⟩,λh=>⟨h.1.resolve_right e,h.2⟩⟩
 .show m.run d=k↔_
  rw[wO];by_cases e:k=(m.bK.length:U)
  .rw[Z e,e]
   refine⟨λh=>?_,λh=>qk (show(0:U)=2 from h.2.2) qb⟩;obtain⟨d0,d1⟩:=gD.1 hd;have d1:d<(m.qs.length:U):=d1;have hcr:=hi.ok.gH;have:=hi.ok.run _ (SU (xY (m:=m) d0 om));omega
  .rw[Y e]
   exact hi.inr d hd k ((tE.1 hk).resolve_right e)
theorem KT{c:S}{d:U}:(eU c).q d= []:=by
 unfold Mt.q eU;split
 .rfl
 .simp only
  cases e:(SB c ([]:Qs))[d.toNat]? with
  |none=>rfl
  |some alf=>have:=SU e;rw[VR]at this;rw[this.2];rfl
theorem tI{c:S}{k:U}:(eU c).dC k≠true:=by unfold Mt.dC eU;simp
theorem KS{c:S}(h8:c<=8):bR (-1) (eU c):=by
 refine⟨wH h8,λk hk=>qk hk tI,λk hk=>qk hk tI,λd=>?_,λd hd p k=>?_,λd hd k hk=>qk hk tI⟩
 .rw[KT];exact⟨qc,qc,qc⟩
 .rw[KT];exact⟨λh=>by simp at h,λh=>qk h.1 tI⟩
def Mt.bW(m:Mt)(n:U):U × Mt:=if m.dC n=qd then(100,m)else if(m.th n).st=1\/(m.th n).st=2 then(101,m)else(0,m.cW n)
def Mt.cy(m:Mt)(n:U):U × Mt:=if m.dC n=qd then(100,m)else if(m.th n).st=0 then(101,m)else(0,m.leave n 0)
def Mt.iE(m:Mt)(n:U):U × Mt:=if m.dC n=qd then(100,m)else if(m.th n).st≠2 then(101,m)else(0,m.leave n 3)
def Mt.gP(m:Mt)(n p:U):U × Mt:=if m.dC n=qd then(100,m)else if ¬(0<=p/\p<256)then(1,m)else
 if(m.th n).st=1 then(0,((m.leave n 1).aS n {(m.leave n 1).th n with pr:=p}).cW n)else(0,m.aS n { m.th n with pr:=p})
def Mt.pB(m:Mt)(n i v:U):U × Mt:=if m.dC n=qd then(100,m)else if ¬(0<=i/\i<8)then(1,m)else(0,m.DK n i.toNat v)
def Mt.df(m:Mt)(p c:U):U × U × Mt:=if ¬(0<=p/\p<256/\m.gA c=G)then(0,1,m)else if 64<=m.bK.length then(0,2,m)else((m.bK.length:U),0,m.make p c)
theorem yg{n:U}{K:U->Pw}(hm:dn m)(h:Ow B w0 w (bJ b m::R))(hK:∀w',Ow B w0 w' (bJ b (m.bW n).2::R)->K (m.bW n).1 w'):Xd b.o n K w:=by
 unfold Mt.bW at hK;refine wj hm h (λe w h=>?_) (λe e1 w h=>?_) (λe e1 e2 w h=>?_)
 .rw[Z e]at hK;exact hK w h
 .rw[Y (by rw[e];simp),Z e1]at hK;exact hK w h
 .rw[Y (by rw[e];simp),Y (λhh=>hh.elim e1 e2)]at hK;exact hK w h
theorem AP{n:U}{K:U->Pw}(hm:dn m)(h:Ow B w0 w (bJ b m::R))(hK:∀w',Ow B w0 w' (bJ b (m.cy n).2::R)->K (m.cy n).1 w'):X1 b.o n K w:=by
 unfold Mt.cy at hK;refine vb hm h (λe w h=>?_) (λe e1 w h=>?_) (λe e1 w h=>?_)
 .rw[Z e]at hK;exact hK w h
 .rw[Y (by rw[e];simp),Z e1]at hK;exact hK w h
 .rw[Y (by rw[e];simp),Y e1]at hK;exact hK w h
theorem Mh{n:U}{K:U->Pw}(hm:dn m)(h:Ow B w0 w (bJ b m::R))(hK:∀w',Ow B w0 w' (bJ b (m.iE n).2::R)->K (m.iE n).1 w'):X8 b.o n K w:=by
 unfold Mt.iE at hK;refine yE hm h (λe w h=>?_) (λe e1 w h=>?_) (λe e1 w h=>?_)
 .rw[Z e]at hK;exact hK w h
 .rw[Y (by rw[e];simp),Z e1]at hK;exact hK w h
 .rw[Y (by rw[e];simp),Y (λhh=>hh e1)]at hK;exact hK w h
theorem Om{p c:U}{K:U->U->Pw}(hm:dn m)(h:Ow B w0 w (bJ b m::R))(hK:∀w',Ow B w0 w' (bJ b (m.df p c).2.2::R)->K (m.df p c).1 (m.df p c).2.1 w'):Wg b.o p c K w:=by
 unfold Mt.df at hK;refine rK hm h (λe w h=>?_) (λe e1 w h=>?_) (λe e1 w h=>?_)
 .rw[Z e]at hK;exact hK w h
 .rw[Y (λhh=>hh e),Z e1]at hK;exact hK w h
 .rw[Y (λhh=>hh e),Y om]at hK;exact hK w h
theorem uE{x y:U}{K:U->Pw}(h:Ow B w0 w L)(hK:∀w',Ow B w0 w' L->K (if x≠0 then x else y) w'):Al w (.cells #[.z x,.z y] 28) λw12=>X3 ⟨X w.heap.size.p,2,2⟩ K w12:=by
 refine h.al λw2 h=>?_;generalize w.heap.size=d at h|-;exact pL h λw h=>hK w h.drop
theorem NM{n i v:U}{K:U->Pw}(hm:dn m)(h:Ow B w0 w (bJ b m::R))(hK:∀w',Ow B w0 w' (bJ b (m.pB n i v).2::R)->K (m.pB n i v).1 w'):XS b.o n i v K w:=by
 unfold Mt.pB at hK;by_cases hT:m.dC n=G
 .rw[Y (by rw[hT];simp)]at hK
  by_cases hi:0<=i/\i<8
  .rw[Y (λhh=>hh hi)]at hK
   obtain⟨k,rfl⟩:=SI hi.1;exact PX hm hT om h hK
  .rw[Z hi]at hK
   apply Yf;obtain⟨l,q,r,bs,hbs,h⟩:=h.Cu;refine fC h (λe=>by rw[hT]at e;cases e) λa _ ha=>?_;intro k7 hk7;refine cZ ?_;refine bh (λe=>?_) (λe=>?_)
   .refine cZ (uE h λw h=>?_)
    exact hk7 _ _ (iw qc (hK w (Ow.cw hbs h)))
   .refine cZ ?_
    rw[qp (show i>=8 by omega)];refine uE h λw h=>?_;exact hk7 _ _ (iw qc (hK w (Ow.cw hbs h)))
 .have hF:m.dC n=false:=by simpa using hT
  rw[Z hF]at hK;apply Yf;obtain⟨l,q,r,bs,hbs,h⟩:=h.Cu;refine fC h (λe=>?_) λa e ha=>by rw[hF]at e;cases e
  intro k7 hk7;refine cZ ?_;refine bh (λe=>?_) (λe=>?_)
  .refine cZ (uE h λw h=>?_)
   exact hk7 _ _ (iw qc (hK w (Ow.cw hbs h)))
  .refine cZ (uE h λw h=>?_)
   exact hk7 _ _ (iw qc (hK w (Ow.cw hbs h)))
theorem OC{n p:U}{K:U->Pw}(hm:dn m)(h:Ow B w0 w (bJ b m::R))(hK:∀w',Ow B w0 w' (bJ b (m.gP n p).2::R)->K (m.gP n p).1 w'):abk b.o n p K w:=by
 unfold Mt.gP at hK;apply ahC;obtain⟨l,q,r,bs,hbs,h⟩:=h.Cu;refine fC h (λe=>?_) λa hT ha=>?_
 .rw[Z e]at hK
  refine cZ (mr (cZ (uE h λw h=>?_)));exact iw qc (hK w (Ow.cw hbs h))
 .rw[Y (by rw[hT];simp)]at hK
  obtain⟨n0,n1,hx⟩:=bV hT;refine cZ (mr (cZ (uE h λw h=>?_)));by_cases hp:0<=p/\p<256
  .rw[Y (λhh=>hh hp)]at hK
   rw[qp hp.1,qp hp.2];refine fh qc ?_;refine⟨_,O,_,uJ (c:=0) h n0 hx ha O,pR (λe=>?_) (λe=>?_)⟩
   .rw[Y e]at hK
    refine⟨_,O,D2 (c:=1) (t':={ m.th n with pr:=p}) h n0 hx ha O qb O λw h=>?_⟩;exact hK w (Ow.cw (m:=m.aS n { m.th n with pr:=p}) hbs h)
   .rw[Z e]at hK
    have Cs:=hm.leave (s:=1) hT;have hT1:(m.leave n 1).dC n=true:=by rw[fe];exact hT
    have hq1:(m.leave n 1).qs.length=m.qs.length:=dI.2;refine D6 hm hT hbs h λw h=>?_;obtain⟨_,_,hx1⟩:=bV hT1;generalize m.leave n 1=mb at*
    refine⟨_,O,D2 (c:=1) (t':={ mb.th n with pr:=p}) h n0 hx1 ha O qb O λw h=>?_⟩;have h:Ow B w0 w (bJ b (mb.aS n { mb.th n with pr:=p})::R):=Ow.cw (m:=mb.aS n { mb.th n with pr:=p}) (by show bs.length=mb.qs.length;omega) h;have Gv:dn (mb.aS n { mb.th n with pr:=p}):=Cs.aS (t:={ mb.th n with pr:=p}) (Cs.th hT1).1 O;have hT2:(mb.aS n { mb.th n with pr:=p}).dC n=true:=by rw[dN];exact hT1
    exact gZ Gv hT2 h hK
  .rw[Z hp]at hK
   have e:(!(qe (0<=p)&&qe (p<256)))=true:=by
    by_cases e1:0<=p
    .rw[qp e1,ql om];rfl
    .rw[ql e1];rfl
   rw[e];exact iw qc (hK w (Ow.cw hbs h))
theorem bR.resume(hi:bR (-1) m)(n:U):bR (-1) (m.bW n).2:=by
 unfold Mt.bW;split
 .exact hi
 .rename_i e
  have hT:m.dC n=true:=by simpa using e
  split
  .exact hi
  .rename_i e1
   exact(hi.out (λh=>e1 (.inl h)) (λh=>e1 (.inr h))).up hT
theorem bR.suspend(hi:bR (-1) m)(n:U):bR (-1) (m.cy n).2:=by
 unfold Mt.cy;split
 .exact hi
 .rename_i e
  have hT:m.dC n=true:=by simpa using e
  split
  .exact hi
  .refine (hi.leave hT).still ?_ ?_<;>(rw[jS hT,Z O];show(0:U)≠_;decide)
theorem bR.block(hi:bR (-1) m)(n:U):bR (-1) (m.iE n).2:=by
 unfold Mt.iE;split
 .exact hi
 .rename_i e
  have hT:m.dC n=true:=by simpa using e
  split
  .exact hi
  .refine (hi.leave hT).still ?_ ?_<;>(rw[jS hT,Z O];show(3:U)≠_;decide)
theorem bR.DK(hi:bR (-1) m)(n i v:U):bR (-1) (m.pB n i v).2:=by
 unfold Mt.pB;split
 .exact hi
 .rename_i e
  have hT:m.dC n=true:=by simpa using e
  split
  .exact hi
  .exact hi.Kr hT O O (λ_=>rfl) (hi.pr n hT) (hi.le n hT)
theorem bR.prio(hi:bR (-1) m)(n p:U):bR (-1) (m.gP n p).2:=by
 unfold Mt.gP;split
 .exact hi
 .rename_i e
  have hT:m.dC n=true:=by simpa using e
  split
  .exact hi
  .rename_i hp
   have hp:0<=p/\p<256:=VY.1 hp;split
   .have h1:=hi.leave (s:=1) hT
    have hT1:(m.leave n 1).dC n=true:=by rw[fe];exact hT
    exact(h1.set (t:={(m.leave n 1).th n with pr:=p}) hT1 (h1.ok.th hT1).1 hp (h1.le n hT1)).up (by rw[dN];exact hT1)
   .rename_i e1
    exact hi.Kr (t:={ m.th n with pr:=p}) hT O O (λh=>qk h e1) hp (hi.le n hT)
theorem bR.df(hi:bR (-1) m)(p c:U):bR (-1) (m.df p c).2.2:=by
 unfold Mt.df;split
 .exact hi
 .rename_i e
  have e:=VY.1 e;split
  .exact hi
  .exact hi.make om e.2.2 ⟨e.1,e.2.1⟩
theorem bR.KU(hi:bR (-1) m){c n:U}(hc:m.gA c=G)(h:ir (m.q c)=X n):m.dC n=G/\(m.th n).co=c/\(m.th n).st=1:=by obtain⟨⟨p,k⟩,hx,e⟩:=Dx h;have e:k=n:=e;subst e;have:=(hi.E2 c hc p k).1 hx;exact⟨this.1,this.2.2.1,this.2.2.2.1⟩
theorem bR.runIn(hi:bR (-1) m){c n:U}(h:m.cj c=X n):m.gA c=G/\m.dC n=G/\(m.th n).co=c/\(m.th n).st=2:=by obtain⟨hc,h1,h2,hT⟩:=hi.ok.runT h;have:=(hi.inr c hc n hT).1 h1;exact⟨hc,hT,this.2⟩
theorem xB{n s:U}(h:(m.th n).st≠2)(c:U):(m.leave n s).run c=m.run c:=by
 unfold Mt.leave Mt.bL;rw[rq];split
 .rfl
 .rfl
theorem zk(hi:bR (-1) m){n s:U}(hn:m.dC n=G)(h:(m.th n).st=2):(m.leave n s).run (m.th n).co= -1:=by obtain⟨c0,c1⟩:=(hi.ok.th hn).1;have hcr:=hi.ok.gH;unfold Mt.leave Mt.bL;rw[rq,Y om,Z h,yq c0 om,Z O]
theorem bR.bj(hi:bR (-1) m)(c:U):bR (-1) (m.bj c):=by
 unfold Mt.bj;split
 .rename_i hc
  unfold Mt.pick;cases hn:ir (m.q c)with
  |none=>exact hi
  |some n=>
   obtain⟨hT,hco,hst⟩:=hi.KU hc hn;simp only;have last:∀m1:Mt,bR (-1) m1->m1.dC n=G->m1.gA c=G->(m1.th n).co=c->(m1.th n).st=1->m1.run c= -1->bR (-1) ((m1.leave n 2).iS c n):=λm1 hi hT hc hco hst hr=>by refine(hi.leave hT).go (by rw[fe];exact hT) (by rw[jS hT,Z O]) (by rw[jS hT,Z O];exact hco) (by rw[jo];exact hc) ?_;rw[xB om];exact hr
   split
   .rename_i hr
    exact last m hi hT hc hco hst hr
   .rename_i hr
    split
    .exact hi
    .have hr2:m.cj c=X (m.run c):=by unfold Mt.cj;rw[Z ⟨hc,hr⟩]
     obtain⟨_,hoT,hoc,hos⟩:=hi.runIn hr2;have hoT1:(m.leave (m.run c) 1).dC (m.run c)=true:=by rw[fe];exact hoT
     have hne:n≠m.run c:=λe=>by rw[<-e]at hos;omega
     refine last _ ((hi.leave hoT).up hoT1) (by rw[ib,fe];exact hT) (by rw[jq,jo];exact hc) ?_ ?_ ?_
     .rw[kG hoT1,Y hne,jS hoT,Y hne];exact hco
     .rw[kG hoT1,Y hne,jS hoT,Y hne];exact hst
     .show (m.leave (m.run c) 1).run c= -1
      have:=zk (s:=1) hi hoT hos;rw[hoc]at this;exact this
 .exact hi
theorem bR.yield(hi:bR (-1) m)(c:U):bR (-1) (m.yield c):=by
 unfold Mt.yield;cases hr:m.cj c with
 |none=>exact hi
 |some o=>
  obtain⟨_,hT,_,_⟩:=hi.runIn hr;have hT1:(m.aS o { m.th o with le:=5}).dC o=true:=by rw[dN];exact hT
  have h1:=hi.Kr (t:={ m.th o with le:=5}) hT O O (λ_=>rfl) (hi.pr o hT) ⟨by show(1:U)<=5;decide,by show(5:U)<=5;decide⟩;exact((h1.leave hT1).up (by rw[fe];exact hT1)).bj c
theorem FW{n:U}{t t':vR}:(m.aS n t).aS n t'=m.aS n t':=by unfold Mt.aS;simp
theorem G4(hi:bR (-1) m){c:U}:m.tick c=match m.cj c with
  |none=>m
  |some o=>if(m.th o).le=1 then m.yield c else m.aS o { m.th o with le:=(m.th o).le-1}:=by
 unfold Mt.tick;cases hr:m.cj c with
 |none=>rfl
 |some o=>
  obtain⟨_,hT,_,_⟩:=hi.runIn hr;have hl:=hi.le o hT;simp only;rw[wr om om];by_cases e:(m.th o).le=1
  .rw[Z om,Z e]
   unfold Mt.yield;have hr2:(m.aS o { m.th o with le:=(m.th o).le-1}).cj c=X o:=hr;rw[hr,hr2];simp only;rw[FW,eO hT,Z O]
  .rw[Y om,Y e]
theorem bR.tick(hi:bR (-1) m)(c:U):bR (-1) (m.tick c):=by
 rw[G4 hi];cases hr:m.cj c with
 |none=>exact hi
 |some o=>
  obtain⟨_,hT,_,_⟩:=hi.runIn hr;have hl:=hi.le o hT;simp only;split
  .exact hi.yield c
  .exact hi.Kr (t:={ m.th o with le:=(m.th o).le-1}) hT O O (λ_=>rfl) (hi.pr o hT) ⟨by show 1<=(m.th o).le-1;omega,by show(m.th o).le-1<=5;omega⟩
end
end Th
namespace Tb
abbrev Pg:=U × U
abbrev gh:=J (U × Pg)
def mz(P:gh):Prop:=P.Pairwise λx y=>x.1<y.1
def look:gh->U->qg Pg
 | [],_=>Q
 |x::P,k=>if x.1=k then X x.2 else look P k
def kU:gh->U->Pg->gh
 | [],k,v=>[(k,v)]
 |x::P,k,v=>if k<x.1 then(k,v)::x::P else if x.1=k then(k,v)::P else x::kU P k v
def od(P:gh)(k:U):gh:=P.filter λx=>x.1 !=k
theorem iL{P:gh}{k:U}{v:Pg}(h:look P k=X v):(k,v)∈P:=by
 induction P with
 |nil=>simp[look]at h
 |cons x P ih=>
  simp only[look]at h;split at h
  .rename_i e;cases h;rw[<-e];exact List.mem_cons_self
  .exact List.mem_cons_of_mem _ (ih h)
theorem dE{P:gh}{k:U}:look P k=Q↔∀x∈P,x.1≠k:=by
 induction P with
 |nil=>simp[look]
 |cons x P ih=>
  simp only[look,SH,forall_eq_or_imp];split
  .rename_i e;simp[e]
  .rename_i e;rw[ih];simp[e]
theorem mz.inj{P:gh}(h:mz P){x y:U × Pg}(hx:x∈P)(hy:y∈P)(e:x.1=y.1):x=y:=by
 induction P with
 |nil=>simp at hx
 |cons a P ih=>
  have h:=TP.1 h;rcases SH.1 hx with hx|hx
  .rcases SH.1 hy with hy|hy
   .rw[hx,hy]
   .have:=h.1 y hy;rw[hx]at e;omega
  .rcases SH.1 hy with hy|hy
   .have:=h.1 x hx;rw[hy]at e;omega
   .exact ih h.2 hx hy
theorem mz.look{P:gh}(h:mz P){k:U}{v:Pg}(hm:(k,v)∈P):look P k=X v:=by
 cases e:Go.Vc.Tb.look P k with
 |none=>exact qk O (dE.1 e _ hm)
 |some u=>have:=h.inj (iL e) hm O;cases this;rfl
theorem mz.Ds{P:gh}(h:mz P){k:U}{v:Pg}:Go.Vc.Tb.look P k=X v↔(k,v)∈P:=⟨iL,h.look⟩
theorem mz.sub{P alf:gh}(h:mz P)(hs:alf.Sublist P):mz alf:=List.Pairwise.sublist hs h
theorem mz.filter{P:gh}(h:mz P)(f:U × Pg->I):mz (P.filter f):=h.sub Vb
theorem mz.nodup{P:gh}(h:mz P):(P.map (·.1)).Nodup:=by unfold List.Nodup;rw[List.pairwise_map];exact h.imp λhab e=>by omega
theorem kp{P:gh}(h:mz P){k:U}{v:Pg}(x:U × Pg):x∈kU P k v↔x=(k,v)\/(x∈P/\x.1≠k):=by
 induction P with
 |nil=>simp[kU]
 |cons a P ih=>
  have h:=TP.1 h;simp only[kU];split
  .rename_i e
   rw[SH];constructor
   .rintro (h1|h1)
    .exact .inl h1
    .refine .inr ⟨h1,?_⟩
     rcases SH.1 h1 with h2|h2
     .rw[h2];omega
     .have:=h.1 x h2;omega
   .rintro (h1|h1)
    .exact .inl h1
    .exact .inr h1.1
  .rename_i e
   split
   .rename_i e2
    rw[SH,SH];constructor
    .rintro (h1|h1)
     .exact .inl h1
     .have:=h.1 x h1;exact .inr ⟨.inr h1,om⟩
    .rintro (h1|⟨h1|h1,h2⟩)
     .exact .inl h1
     .rw[h1]at h2;exact qk e2 h2
     .exact .inr h1
   .rename_i e2
    rw[SH,SH,ih h.2];constructor
    .rintro (h1|h1|h1)
     .rw[h1];exact .inr ⟨.inl O,e2⟩
     .exact .inl h1
     .exact .inr ⟨.inr h1.1,h1.2⟩
    .rintro (h1|⟨h1|h1,h2⟩)
     .exact .inr (.inl h1)
     .exact .inl h1
     .exact .inr (.inr ⟨h1,h2⟩)
theorem pX{P:gh}(h:mz P)(k:U)(v:Pg):mz (kU P k v):=by
 induction P with
 |nil=>simp[kU,mz]
 |cons a P ih=>
  have h':=TP.1 h;simp only[kU];split
  .rename_i e
   refine TP.2 ⟨λx hx=>?_,h⟩;show k<x.1;rcases SH.1 hx with h2|h2
   .rw[h2];exact e
   .have:=h'.1 x h2;omega
  .split
   .rename_i e2
    refine TP.2 ⟨λx hx=>?_,h'.2⟩;show k<x.1;rw[<-e2];exact h'.1 x hx
   .rename_i e e2
    refine TP.2 ⟨λx hx=>?_,ih h'.2⟩;rcases (kp (k:=k) (v:=v) h'.2 x).1 hx with h1|h1
    .rw[h1];show a.1<k;omega
    .exact h'.1 x h1.1
theorem wz{P:gh}{k:U}(x:U × Pg):x∈od P k↔x∈P/\x.1≠k:=by unfold od;rw[SV];simp
theorem ua{P alf:gh}(hP:mz P)(hQ:mz alf)(h:∀x,x∈P↔x∈alf):P=alf:=by
 refine List.Perm.eq_of_pairwise (le:=λx y=>x.1<=y.1/\(x.1=y.1->x=y)) ?_ ?_ ?_ ?_
 .intro a b _ _ h1 h2
  exact h1.2 om
 .exact hP.imp λh=>⟨om,λe=>by omega⟩
 .exact hQ.imp λh=>⟨om,λe=>by omega⟩
 .refine (UU ?_ ?_).2 h
  .exact hP.imp λh e=>by rw[e]at h;omega
  .exact hQ.imp λh e=>by rw[e]at h;omega
theorem KK{P:gh}(h:mz P)(k:U)(v:Pg)(x:U):look (kU P k v) x=if x=k then X v else look P x:=by
 have hs:=pX h k v;by_cases e:x=k
 .subst e;rw[Z O];exact hs.look ((kp h _).2 (.inl O))
 .rw[Y e]
  cases e2:look P x with
  |none=>
   refine dE.2 λy hy=>?_;rcases (kp h y).1 hy with h1|h1
   .rw[h1];exact λe3=>e e3.symm
   .exact dE.1 e2 y h1.1
  |some u=>exact hs.look ((kp h _).2 (.inr ⟨iL e2,e⟩))
theorem KJ{P:gh}(h:mz P)(k x:U):look (od P k) x=if x=k then Q else look P x:=by
 have hs:mz (od P k):=h.filter _;by_cases e:x=k
 .subst e;rw[Z O];exact dE.2 λy hy=>((wz y).1 hy).2
 .rw[Y e]
  cases e2:look P x with
  |none=>exact dE.2 λy hy=>dE.1 e2 y ((wz y).1 hy).1
  |some u=>exact hs.look ((wz _).2 ⟨iL e2,e⟩)
theorem Dq{P:gh}(h:mz P)(f:U × Pg->I)(x:U):look (P.filter f) x=(look P x).filter λv=>f (x,v):=by
 have hs:=h.filter f;cases e2:look P x with
 |none=>exact dE.2 λy hy=>dE.1 e2 y (SV.1 hy).1
 |some u=>
  rw[Option.filter_some];by_cases e:f (x,u)=G
  .rw[Z e];exact hs.look (SV.2 ⟨iL e2,e⟩)
  .rw[Y e]
   refine dE.2 λy hy e3=>?_;obtain⟨h1,h2⟩:=SV.1 hy;have:y=(x,u):=h.inj h1 (iL e2) e3;rw[this]at h2;exact e h2
structure dS where
 tb:S->qg U
 pg:gh
structure fV(m:dS):Prop where
 mo:mz m.pg
 vp:∀x∈m.pg,0<=x.1/\x.1<4096/\(m.tb (x.1.toNat / 64)).isSome=G
 fu:∀i,(m.tb i).isSome=G->i<64
def dt(P:gh)(i:S):gh:=P.filter λx=>x.1.toNat / 64==i
def dS.at(m:dS)(i:U):qg U:=if i<0 then Q else m.tb i.toNat
def ry(tb:S->qg U)(i:S)(v:qg U):S->qg U:=λj=>if j=i then v else tb j
def dS.iX(m:dS)(i n:U):U × dS:=if ¬(0<=i/\i<64/\0<=n)then(1,m)else
 if(m.tb i.toNat).isSome=G\/(SF 64).any (λj=>m.tb j==X n)=G then(140,m)else(0,{ m with tb:=ry m.tb i.toNat (X n)})
def dS.bE(m:dS)(i:U):gh × U × dS:=if ¬(0<=i/\i<64)then([],1,m)else if m.tb i.toNat=Q then([],141,m)else
 (dt m.pg i.toNat,0,⟨ry m.tb i.toNat Q,m.pg.filter λx=>x.1.toNat / 64 !=i.toNat⟩)
def dS.ph(m:dS)(k:U)(p:Pg):U × dS:=if ¬(0<=k/\k<4096/\0<=p.1/\0<=p.2/\p.2<=7)then(1,m)else if m.tb (k.toNat / 64)=Q then(141,m)else
 if(look m.pg k).isSome=G then(140,m)else(0,{ m with pg:=kU m.pg k p})
def dS.cJ(m:dS)(k:U):Pg × U × dS:=if ¬(0<=k/\k<4096)then((0,0),1,m)else match look m.pg k with
 |none=>((0,0),141,m)
 |some p=>(p,0,{ m with pg:=od m.pg k})
def js:dS:=⟨λ_=>Q,[]⟩
section
variable{m:dS}
theorem fV.new:fV js:=⟨List.Pairwise.nil,λx h=>by simp[js]at h,λi h=>by simp[js]at h⟩
theorem fV.out(h:fV m){k:U}(hk:¬(0<=k/\k<4096)):look m.pg k=none:=dE.2 λx hx e=>by have:=h.vp x hx;rw[e]at this;exact hk ⟨this.1,this.2.1⟩
theorem fV.Sd(h:fV m){k:U}{p:Pg}(hl:look m.pg k=X p):0<=k/\k<4096/\(m.tb (k.toNat / 64)).isSome=true:=h.vp _ (iL hl)
theorem fV.table(h:fV m)(i n:U):fV (m.iX i n).2:=by
 unfold dS.iX;split
 .exact h
 .rename_i h1
  have h1:=VY.1 h1;split
  .exact h
  .refine ⟨h.mo,λx hx=>?_,λj hj=>?_⟩
   .have:=h.vp x hx
    refine⟨this.1,this.2.1,?_⟩;show(ry m.tb i.toNat (X n) (x.1.toNat / 64)).isSome=G;unfold ry;split
    .rfl
    .exact this.2.2
   .have hj:(ry m.tb i.toNat (X n) j).isSome=true:=hj
    unfold ry at hj;split at hj
    .omega
    .exact h.fu j hj
theorem fV.drop(h:fV m)(i:U):fV (m.bE i).2.2:=by
 unfold dS.bE;split
 .exact h
 .split
  .exact h
  .refine ⟨h.mo.filter _,λx hx=>?_,λj hj=>?_⟩
   .obtain ⟨h1,h2⟩:=SV.1 hx
    have:=h.vp x h1;refine⟨this.1,this.2.1,?_⟩;show(ry m.tb i.toNat Q (x.1.toNat / 64)).isSome=G;unfold ry;rw[Y (by simpa using h2)];exact this.2.2
   .have hj:(ry m.tb i.toNat Q j).isSome=true:=hj
    unfold ry at hj;split at hj
    .cases hj
    .exact h.fu j hj
theorem fV.ins(h:fV m){k:U}(hk:0<=k/\k<4096)(ht:(m.tb (k.toNat / 64)).isSome=G)(p:Pg):fV { m with pg:=kU m.pg k p}:=by
 refine⟨pX h.mo k p,λx hx=>?_,h.fu⟩;rcases (kp h.mo x).1 hx with h1|h1
 .rw[h1];exact⟨hk.1,hk.2,ht⟩
 .exact h.vp x h1.1
theorem fV.map(h:fV m)(k:U)(p:Pg):fV (m.ph k p).2:=by
 unfold dS.ph;split
 .exact h
 .rename_i h1
  have h1:=VY.1 h1;split
  .exact h
  .rename_i h2
   split
   .exact h
   .exact h.ins ⟨h1.1,h1.2.1⟩ (Option.isSome_iff_ne_none.2 h2) p
theorem fV.mU(h:fV m)(k:U):fV (m.cJ k).2.2:=by
 unfold dS.cJ;split
 .exact h
 .cases e:look m.pg k with
  |none=>exact h
  |some p=>exact⟨h.mo.filter _,λx hx=>h.vp x (SV.1 hx).1,h.fu⟩
theorem Nc{P:gh}(h:mz P)(k:U)(p:Pg)(i:S):dt (kU P k p) i=if k.toNat / 64=i then kU (dt P i) k p else dt P i:=by
 have hs:mz (dt (kU P k p) i):=(pX h k p).filter _;have ht:mz (dt P i):=h.filter _;split
 .rename_i e
  refine ua hs (pX ht k p) λx=>?_;rw[kp ht];unfold dt;rw[SV,SV,kp h];simp only[qN];constructor
  .rintro ⟨h1|h1,h2⟩
   .exact .inl h1
   .exact .inr ⟨⟨h1.1,h2⟩,h1.2⟩
  .rintro (h1|⟨⟨h1,h2⟩,h3⟩)
   .exact ⟨.inl h1,by rw[h1];exact e⟩
   .exact ⟨.inr ⟨h1,h3⟩,h2⟩
 .rename_i e
  refine ua hs ht λx=>?_;unfold dt;rw[SV,SV,kp h];simp only[qN];constructor
  .rintro ⟨h1|h1,h2⟩
   .rw[h1]at h2;exact qk h2 e
   .exact ⟨h1.1,h2⟩
  .rintro ⟨h1,h2⟩
   exact⟨.inr ⟨h1,λe2=>by rw[e2]at h2;exact e h2⟩,h2⟩
theorem G1{P:gh}(k:U)(i:S):dt (od P k) i=od (dt P i) k:=by unfold dt od;rw[Up,Up];congr 1;funext x;exact Bool.and_comm _ _
theorem F3{P:gh}{k:U}{i:S}(e:k.toNat / 64≠i):dt (od P k) i=dt P i:=by rw[G1];unfold od;rw[TF];intro x hx;obtain⟨_,h2⟩:=SV.1 hx;simp only[qN]at h2;simp only[qQ,ne_eq];intro e2;rw[e2]at h2;exact e h2
theorem LH{P:gh}{i j:S}(e:j≠i):dt (P.filter λx=>x.1.toNat / 64 !=i) j=dt P j:=by
 unfold dt;rw[Up];refine List.filter_congr λx _=>?_;by_cases h:x.1.toNat / 64=j
 .simp[h,e]
 .simp[h]
theorem LI(h:fV m):(SF 64).flatMap (dt m.pg)=m.pg:=by
 have key:∀n,(SF n).flatMap (dt m.pg)=m.pg.filter λx=>qe (x.1.toNat / 64<n):=λn=>by
  induction n with
  |zero=>simp
  |succ n ih=>
   rw[List.range_succ,List.flatMap_append,ih];simp only[T5,V6,SL];refine ua ?_ (h.mo.filter _) λx=>?_
   .refine List.pairwise_append.2 ⟨h.mo.filter _,h.mo.filter _,λx hx y hy=>?_⟩
    obtain⟨hx1,hx2⟩:=SV.1 hx;obtain⟨hy1,hy2⟩:=SV.1 hy;simp only[qF]at hx2;simp only[qN]at hy2;have:=h.vp x hx1;have:=h.vp y hy1;omega
   .unfold dt
    rw[Tv,SV,SV,SV];simp only[qF,qN];constructor
    .rintro (h1|h1)
     .exact ⟨h1.1,om⟩
     .exact ⟨h1.1,om⟩
    .rintro ⟨h1,h2⟩
     by_cases e:x.1.toNat / 64=n
     .exact .inr ⟨h1,e⟩
     .exact .inl ⟨h1,om⟩
 rw[key 64,TF];intro x hx;have:=h.vp x hx;simp only[qF];omega
theorem p9{M ak6:gh}(hp:M.Perm ak6)(hS:mz ak6)(k:U):dQ M k=look ak6 k:=by
 have hn:(M.map (·.1)).Nodup:=(hp.map _).nodup_iff.2 hS.nodup;cases e:dQ M k with
 |some v=>exact(hS.look (hp.mem_iff.1 (tG e))).symm
 |none=>
  refine(dE.2 λx hx e2=>?_).symm;exact fW.1 e (Tj.2 ⟨x,hp.mem_iff.2 hx,e2⟩)
theorem tF{M:gh}(hn:(M.map (·.1)).Nodup){k:U}{v:Pg}:(k,v)∈M↔dQ M k=X v:=by
 refine⟨λh=>?_,tG⟩;cases e:dQ M k with
 |none=>exact qk (Tj.2 ⟨_,h,O⟩) (fW.1 e)
 |some u=>
  have h2:=tG e;have:∀(M:gh),(M.map (·.1)).Nodup->(k,v)∈M->(k,u)∈M->v=u:=λM=>by
   induction M with
   |nil=>intro _ h;simp at h
   |cons a M ih=>
    intro hn h1 h2;rw[List.map_cons,Tx]at hn;rcases SH.1 h1 with h1|h1
    .rcases SH.1 h2 with h2|h2
     .have:=h1.trans h2.symm;cases this;rfl
     .exact qk (Tj.2 ⟨_,h2,by rw[<-h1]⟩) hn.1
    .rcases SH.1 h2 with h2|h2
     .exact qk (Tj.2 ⟨_,h1,by rw[<-h2]⟩) hn.1
     .exact ih hn.2 h1 h2
  rw[this M hn h h2]
theorem fX{M:gh}(h:(M.map (·.1)).Nodup):M.Nodup:=List.Pairwise.of_map _ (λa b h e=>h (by rw[e])) h
theorem Hv{M ak6:gh}(hp:M.Perm ak6)(hS:mz ak6)(k:U)(v:Pg):(ko M k v).Perm (kU ak6 k v):=by
 have hn:(M.map (·.1)).Nodup:=(hp.map _).nodup_iff.2 hS.nodup;have hn2:=sq hn k v;have hS2:=pX hS k v;refine(UU (fX hn2) (fX hS2.nodup)).2 λx=>?_;obtain⟨a,b⟩:=x;rw[tF hn2,re,<-hS2.Ds,KK hS,p9 hp hS];by_cases e:k=a
 .rw[Z e,Z e.symm]
 .rw[Y e,Y λh=>e h.symm]
theorem zJ{M ak6:gh}(hp:M.Perm ak6)(hS:mz ak6)(k:U):(mA M k).Perm (od ak6 k):=by
 have hn:(M.map (·.1)).Nodup:=(hp.map _).nodup_iff.2 hS.nodup;have hn2:=sm hn k;have hS2:mz (od ak6 k):=hS.filter _;refine(UU (fX hn2) (fX hS2.nodup)).2 λx=>?_;obtain⟨a,b⟩:=x;rw[tF hn2,uO hn,<-hS2.Ds,KJ hS,p9 hp hS];by_cases e:k=a
 .rw[Z e,Z e.symm]
 .rw[Y e,Y λh=>e h.symm]
end
end Tb
section
variable{N:S}{P:qo}{B:S}{w0 w:W}{R L:J aG}{b:S}{n:rB}{α:Type}{E:dX α}{s t:Sl}{D:J U}{xs r:J α}{x:α}
def ah6{a K w}:=ah (XG a K w) func155 (.v (.y (.y (.r (X [(3,.c .q)]) (.o 0 69504 (.o 1 69504 (.o 2 69504 (.o 3 69504 (.o 4 69504 (.o 5 69504 (.o 6 69504 (.o 7 65536 (.o 8 65536 (.o 9 65536 (.o 10 65536 (.o 11 65536 (.f 12 (.o 13 65536 (.o 14 98304 (.o 15 196608 .HJ))) (.e 16 (.e 12 (.o 13 0 (.o 14 32768 (.o 15 131072 (.e 17 (.o 18 0 .done))))))))))))))))))))) (.v (.t (X []) .Rn .u))) .w))
def ah7{a K w}:=ah (XH a K w) func156 (.v (.y .Rn (.x (.z (.o 0 3968 (.o 1 3968 (.o 2 3968 (.o 3 3968 (.o 4 3968 (.o 5 3968 (.o 6 3968 (.o 7 0 .RW))))))))))))
def ah8{a K w}:=ah (XI a K w) func157 (.v (.x (.z (.o 0 130944 (.o 1 130944 (.o 2 130944 (.o 3 130944 (.o 4 130944 (.o 5 130944 (.o 6 130944 (.o 7 126976 (.o 8 126976 (.o 9 126976 (.o 10 126976 (.o 11 126976 (.o 12 0 (.o 13 0 (.o 14 0 (.o 15 0 (.o 16 0 (.e 17 (.o 18 0 .done))))))))))))))))))))))
def ah9{a K w}:=ah (XJ a K w) func158 (.v (.y (.z (.o 0 393184 (.o 1 393184 (.o 2 393184 (.o 3 393184 (.o 4 393184 (.o 5 389120 (.o 6 389120 (.o 7 389120 (.o 8 389120 (.o 9 389120 (.o 10 389120 (.o 11 389120 (.o 12 262144 (.o 13 262144 (.o 14 262144 (.o 15 262144 (.o 16 262144 (.o 17 262144 (.e 18 (.e 19 .done))))))))))))))))))))) (.y (.r (X [(4,.c .q),(5,.c (.i .i64))]) (.o 0 570412928 (.o 1 570412928 (.o 2 570412928 (.o 3 570412928 (.o 4 570412928 (.o 5 570412928 (.o 6 570412928 (.o 7 570408960 (.o 8 570408960 (.o 9 570408960 (.o 10 570408960 (.o 11 570408960 (.o 12 570408960 (.o 13 570408960 (.o 14 570163200 (.o 15 570163200 (.o 16 570163200 (.o 17 570163200 (.o 18 569901056 (.o 19 536870912 (.o 20 536870912 (.o 21 536870912 (.o 22 536870912 (.o 23 536870912 (.o 24 536870912 (.f 25 (.o 26 536870912 (.o 27 805306368 (.o 28 1610612736 (.e 29 (.e 30 (.o 31 0 .done)))))) (.e 29 (.e 25 (.o 26 0 (.o 27 268435456 (.o 28 1073741824 (.e 30 (.o 31 0 .done)))))))))))))))))))))))))))))))))) (.y (.x (.v (.y .w (.v (.x (.v .w)))))) (.v .w)))))
def aia{a K w}:=ah (XK a K w) func159 (.v (.y (.r (X [(3,.c .q),(4,.c (.i .i64))]) (.o 0 285200256 (.o 1 285200256 (.o 2 285200256 (.o 3 285200256 (.o 4 285200256 (.o 5 285200256 (.o 6 285200256 (.o 7 285196288 (.o 8 285196288 (.o 9 285196288 (.o 10 285196288 (.o 11 285196288 (.o 12 285196288 (.o 13 285196288 (.o 14 284950528 (.o 15 284950528 (.o 16 284950528 (.o 17 284950528 (.o 18 268435456 (.o 19 268435456 (.o 20 268435456 (.o 21 268435456 (.o 22 268435456 (.o 23 268435456 (.f 24 (.o 25 268435456 (.o 26 402653184 (.o 27 805306368 (.e 28 (.e 29 (.o 30 0 .done)))))) (.e 28 (.e 24 (.o 25 0 (.o 26 134217728 (.o 27 536870912 (.e 29 (.o 30 0 .done))))))))))))))))))))))))))))))))) (.y (.x (.v (.y .w (.v (.x (.v .w)))))) (.y (.z (.o 0 126 (.o 1 96 (.o 2 96 (.o 3 96 (.o 4 96 .Mv)))))) .w))))
def aib{a K w}:=ah (XL a K w) func160 (.v (.y (.z (.o 0 65534 (.o 1 32736 (.o 2 32736 (.o 3 32736 (.o 4 32736 (.o 5 31744 (.o 6 31744 (.o 7 31744 (.o 8 31744 (.o 9 31744 (.o 10 0 (.o 11 0 (.o 12 0 (.o 13 0 (.o 14 0 (.e 15 (.o 16 0 .QM)))))))))))))))))) .w))
def aic{a K w}:=ah (XM a K w) func161 (.v (.y (.z (.o 0 16764800 (.o 1 16764800 (.o 2 16764800 (.o 3 16764800 (.o 4 16764800 (.o 5 16764800 (.o 6 16764800 (.o 7 16760832 (.o 8 16760832 (.o 9 16760832 (.o 10 16760832 (.o 11 16760832 (.o 12 16760832 (.o 13 16760832 (.o 14 16515072 (.o 15 16515072 (.o 16 16515072 (.o 17 16515072 (.o 18 0 (.o 19 0 (.o 20 0 (.o 21 0 (.o 22 0 (.o 23 0 (.e 24 (.o 25 0 (.o 26 402653184 (.o 27 805306368 (.o 28 1610612736 (.o 29 0 (.o 30 0 (.o 31 0 .done))))))))))))))))))))))))))))))))) (.y (.x (.v (.y .w .Kc))) (.v .w))))
def aid{a K w}:=ah (XN a K w) func162 (.v (.y .g2 (.y (.v (.x .w)) (.x (.z (.o 0 2095488 (.o 1 2095488 (.o 2 2095488 (.o 3 2095488 (.o 4 2095488 (.o 5 2095488 (.o 6 2095488 (.o 7 2095104 (.o 8 2095104 (.o 9 2095104 (.o 10 2095104 (.o 11 2031616 (.o 12 2031616 (.o 13 2031616 (.o 14 2031616 (.o 15 2031616 (.o 16 0 (.o 17 0 (.o 18 0 (.o 19 0 (.o 20 0 (.e 21 (.o 22 0 .done))))))))))))))))))))))))))))
def aie{a K w}:=ah (XO a K w) func163 (.v (.y .g2 (.y (.v (.x .w)) (.x (.z (.o 0 8589932928 (.o 1 8589932928 (.o 2 8589932928 (.o 3 8589932928 (.o 4 8589932928 (.o 5 8589932928 (.o 6 8589932928 (.o 7 8589932544 (.o 8 8589932544 (.o 9 8589932544 (.o 10 8589932544 (.o 11 8589869056 (.o 12 8589869056 (.o 13 8589869056 (.o 14 8589869056 (.o 15 8589869056 (.o 16 4292870144 (.o 17 4292870144 (.o 18 4292870144 (.o 19 4292870144 (.o 20 4292870144 (.o 21 2080374784 (.o 22 2080374784 (.o 23 2080374784 (.o 24 2080374784 (.o 25 2080374784 (.o 26 0 (.o 27 0 (.o 28 0 (.o 29 0 (.o 30 0 (.o 31 0 (.o 32 0 (.e 33 (.o 34 0 .done))))))))))))))))))))))))))))))))))))))))
def aif{a K w}:=ah (XP a K w) func164 (.v (.y (.r (X [(3,.c .q),(4,.c (.i .i64))]) (.o 0 8900480 (.o 1 8900480 (.o 2 8900480 (.o 3 8900480 (.o 4 8900480 (.o 5 8900480 (.o 6 8900480 (.o 7 8896512 (.o 8 8896512 (.o 9 8896512 (.o 10 8896512 (.o 11 8896512 (.o 12 8896512 (.o 13 8896512 (.o 14 8388608 (.o 15 8388608 (.o 16 8388608 (.o 17 8388608 (.o 18 8388608 (.f 19 (.o 20 8388608 (.o 21 12582912 (.o 22 25165824 (.e 23 (.e 24 (.o 25 0 .done)))))) (.e 23 (.e 19 (.o 20 0 (.o 21 4194304 (.o 22 16777216 (.e 24 (.o 25 0 .done)))))))))))))))))))))))))))) (.y (.v (.x (.z (.o 0 8190 (.o 1 8128 (.o 2 8128 (.o 3 8128 (.o 4 8128 (.o 5 8128 (.o 6 2048 (.o 7 2048 (.o 8 2048 (.o 9 2048 (.o 10 2048 .QN)))))))))))))) .w)))
def aih{a K w}:=ah (XQ a K w) func165 (.v (.y .g2 (.y (.v (.x .w)) (.x (.z (.o 0 65408 (.o 1 65408 (.o 2 65408 (.o 3 65408 (.o 4 65408 (.o 5 65408 (.o 6 65408 (.o 7 61440 (.o 8 61440 (.o 9 61440 (.o 10 61440 (.o 11 61440 (.o 12 49152 (.o 13 49152 (.o 14 0 (.o 15 0 (.e 16 (.o 17 0 .done)))))))))))))))))))))))
def aii{a K w}:=ah (XR a K w) func166 (.v (.y (.z (.o 0 3968 (.o 1 3968 (.o 2 3968 (.o 3 3968 (.o 4 3968 (.o 5 3968 (.o 6 3968 (.o 7 0 (.o 8 0 (.o 9 0 (.o 10 0 (.o 11 0 (.e 12 (.o 13 0 (.o 14 229376 (.o 15 458752 (.o 16 917504 (.o 17 1835008 (.o 18 0 (.o 19 0 (.o 20 0 (.o 21 0 .done))))))))))))))))))))))) (.y (.v .w) .w)))
def aij{a b K w}:=ah (aa9 a b K w) func247 (.v (.y .OY (.v (.y (.r (X [(7,.c .q),(8,.c (.i .i64))]) (.o 0 2160 (.o 1 2160 (.o 2 2160 (.o 3 2160 (.o 4 2144 (.o 5 2048 (.o 6 2048 (.f 7 (.o 8 2048 (.o 9 3072 (.o 10 6144 (.e 11 (.e 12 (.o 13 0 .done)))))) (.e 11 (.e 7 (.o 8 0 (.o 9 1024 (.o 10 4096 (.e 12 (.o 13 0 .done)))))))))))))))) .w))))
def aik{a b K w}:=ah (abb a b K w) func250 (.v (.v (.y (.v (.x (.t (X [(6,.c .s),(12,.c (.i .i64))]) (.v (.y .w (.x (.x (.v (.y (.r (X [(8,.c .q),(9,.c .b)]) (.o 0 34800 (.o 1 34800 (.o 2 34800 (.o 3 34800 (.o 4 33280 (.o 5 33280 (.o 6 33280 (.o 7 33280 (.o 8 33280 .g12)))))))))) (.x (.y (.r (X [(39,.c .b)]) .done) (.x .w))))))))) .u))) .oe)))
def ail{a b c d e f g h i K w}:=ah (abc a b c d e f g h i K w) func251 (.v (.y (.z (.o 0 384 (.o 1 384 (.o 2 384 (.o 3 384 (.o 4 384 (.o 5 384 (.o 6 384 (.o 7 256 (.o 8 0 (.e 9 .done))))))))))) (.z (.o 0 3968 (.o 1 3968 (.o 2 3968 (.o 3 3968 (.o 4 3968 (.o 5 3968 (.o 6 3968 (.o 7 2048 (.o 8 2048 (.o 9 2048 (.o 10 2048 (.o 11 0 (.e 12 .done))))))))))))))))
def aim{a b K w}:=ah (abd a b K w) func252 (.v (.y (.v (.x (.v (.y (.y (.z (.o 0 1048560 (.o 1 1048560 (.o 2 1048560 (.o 4 522248 (.o 5 522248 (.o 6 522248 (.o 7 522248 (.o 8 522248 (.o 9 522248 (.o 10 522248 (.o 11 126984 (.o 12 8 (.o 13 8 (.o 14 8 (.o 15 8 (.o 16 8 (.o 17 8 (.hold 3 786432 4194303 (.e 18 (.e 19 (.o 20 0 (.o 21 0 (.e 22 .done)))))))))))))))))))))))) .w) (.v (.y (.v (.y (.z (.o 0 3968 (.o 1 3968 (.o 2 3968 (.o 3 3968 (.o 4 3968 (.o 5 3968 (.o 6 3968 (.o 7 0 (.o 8 0 (.o 9 0 (.o 10 0 (.o 11 0 (.e 12 (.o 13 0 (.o 14 32768 (.o 15 65536 (.o 16 0 (.o 17 0 .done))))))))))))))))))) .w)) (.v (.y (.v (.y (.z (.o 0 1920 (.o 1 1920 (.o 2 1920 (.o 3 1920 (.o 4 1920 (.o 5 1920 (.o 6 1920 (.o 7 0 (.o 8 0 (.o 9 0 (.o 10 0 (.e 11 (.o 12 0 (.o 13 16384 (.o 14 32768 (.o 15 0 (.o 16 0 .done)))))))))))))))))) .w)) (.v (.y .g7 (.v (.y .g7 (.v (.y .g7 (.v (.x (.v .w))))))))))))))))) (.v .w)))
def ain{a b c K w}:=ah (WS a b c K w) func256 (.v (.y (.z (.o 0 128 (.o 1 128 (.o 2 128 (.o 3 128 (.o 4 128 (.o 5 128 (.o 6 128 (.o 7 0 (.e 8 .done)))))))))) (.y .g6 (.v .w))))
def aio{a b K w}:=ah (abi a b K w) func260 (.y (.v (.x (.t (X [(13,.c (.i .i64))]) .xw .u))) (.v (.x (.t (X [(26,.c (.i .i64))]) .xw .u))))
def aip{a b K w}:=ah (abj a b K w) func261 (.v (.v (.y (.v .w) .w)))
def aiq{a K w}:=ah (abm a K w) func265 (.v (.x (.y .g21 .g21)))
def air{a b c d e f g h i K w}:=ah (abn a b c d e f g h i K w) func266 (.v .RP)
def ais{a b c d e K w}:=ah (abt a b c d e K w) func272 (.v (.z (.o 0 16382 (.o 1 8128 (.o 2 8128 (.o 3 8128 (.o 4 8128 (.o 5 8128 (.o 6 1920 (.o 7 1536 (.o 8 1536 (.o 9 0 (.o 10 0 (.o 11 0 (.e 12 (.e 13 (.o 14 0 (.o 15 0 (.o 16 0 (.e 17 .done))))))))))))))))))))
def ait{a b c K w}:=ah (X6 a b c K w) func338 (.v (.y .g6 .w))
def aiu{a b c d e f g h i K w}:=ah (X7 a b c d e f g h i K w) func346 (.v .w)
def aiv{a b c d e f g K w}:=ah (acx a b c d e f g K w) func348 (.v (.v (.x (.v (.y (.y .RH (.z (.o 0 384 (.o 1 384 (.o 2 384 (.o 3 384 (.o 4 384 (.o 5 384 (.o 6 384 .N5))))))))) (.v (.y (.v (.x (.t (X [(50,.c (.i .i64))]) (.v (.y .w (.x (.x (.v (.v (.x (.t (X [(60,.c (.i .i64))]) (.v (.y .w (.x (.x (.v .w))))) .u)))))))) .u))) (.v (.x (.v (.x (.t (X [(88,.c (.i .i64))]) (.v (.y .w (.x (.x (.v (.v (.x (.t (X [(93,.c (.i .i64))]) (.v (.y .w (.x (.x (.v (.v (.y (.r (X [(108,.c .b)]) .done) (.x (.v (.v (.x (.t (X [(117,.c (.i .i64))]) .xw .u)))))))))))) .u)))))))) .u))))))))))))
def cL:Code->Code| .seq a _=>a|c=>c
def cR:Code->Code| .seq _ b=>b|c=>c
noncomputable def oQ:Code:=kL akh
noncomputable def Nv:Code:= .seq (cL oQ) (.seq (cL (cR oQ)) (cL (cL (cR (cR oQ)))))
noncomputable def zW:Code:=cR (cR (cR oQ))
noncomputable def JR:Code:=cR (cL (cR (cR oQ)))
def Yg(d1:qg qf)(K:qg qf->qf->U->Sl->V->Pw)(w:W):Prop:=Al w (.cells #[.pointer d1] 153) λw2=>Dr w2 λw3=>∃t4:qg qf,w3.cell? w.heap.size.p=X (.pointer t4)/\∃a5:qf,t4=X a5/\∃kernel6:qg qf,w3.cell? a5=X (.pointer kernel6)/\∃a7:qf,kernel6=X a7/\∃tr8:qg qf,w3.cell? (a7.add 1)=X (.pointer tr8)/\∃t9:qg qf,w3.cell? w.heap.size.p=X (.pointer t9)/\∃a10:qf,t9=X a10/\hI w3 (a10.add 9) 0 [.o,.o] λ(s11:U)(s12:U)=>(XZ tr8 s11 s12 (λOD w14=>abh OD (λPT w16=>K d1 w.heap.size.p (0:U) OD PT w16) w14) w3)/\qu
def wy:An:= .t Q (.u) (.t Q (.r Q (.one 0 1920 (.one 1 1920 (.one 2 1920 (.one 3 1920 (.one 4 1920 (.one 5 1920 (.one 6 1920 (.one 7 0 (.one 8 0 (.one 9 0 (.one 10 0 (.alt 11 (.one 12 0 (.done)) (.none)))))))))))))) (.u))
def Gi:J (S × Sh):=[(0,.c (.p)),(1,.c (.q)),(2,.c (.i .i64)),(3,.c (.s)),(4,.c (.v))]
noncomputable def NY:Func:={ akh with results:= #[.tmp 0,.tmp 1,.tmp 2,.tmp 3,.tmp 19],body:=X Nv}
theorem aiw(d1:qg qf)(K:qg qf->qf->U->Sl->V->Pw)(w:W):vc qh Nv wy (λe w'=>tP qh NY.results.toList e w' [] λvs=>jT Gi K (nth vs) w') (λ_ _ _=>qm) (λ_ _=>qm) (nth [.pointer d1]) w=Yg d1 K w:=qa
def Yh(d1:qg qf)(d2:qf)(t3:U)(l4:Sl)(K:U->Pw)(w:W):Prop:=∃t5:qg qf,w.cell? d2=X (.pointer t5)/\∃a6:qf,t5=X a6/\St w ((a6.add 17).add 1) (.y (qA.wrap (l4.len:U))) λw7=>∃t8:qg qf,w7.cell? d2=X (.pointer t8)/\∃a9:qf,t8=X a9/\∃kind10:U,w7.cell? (a9.add 11)=X (.z kind10)/\bif kind10==(1:U)then(Dr w7 λw11=>∃t12:qg qf,w11.cell? d2=X (.pointer t12)/\∃a13:qf,t12=X a13/\∃kernel14:qg qf,w11.cell? a13=X (.pointer kernel14)/\∃a15:qf,kernel14=X a15/\∃u16:Sl,w11.cell? (a15.add 4)=X u16.v/\∃t17:qg qf,w11.cell? d2=X (.pointer t17)/\∃a18:qf,t17=X a18/\∃obj19:U,w11.cell? ((a18.add 11).add 1)=X (.z obj19)/\∃a20:qf,u16.a=X a20/\0<=obj19/\obj19<(u16.len:U)/\hI w11 (a20.add (obj19.toNat*3)) 0 [.u,.o,.u] λ(t21:U)(t22:U)(t23:U)=>∃t24:qg qf,w11.cell? d2=X (.pointer t24)/\∃a25:qf,t24=X a25/\∃kernel26:qg qf,w11.cell? a25=X (.pointer kernel26)/\∃a27:qf,kernel26=X a27/\∃u28:Sl,w11.cell? (a27.add 4)=X u28.v/\∃t29:qg qf,w11.cell? d2=X (.pointer t29)/\∃a30:qf,t29=X a30/\∃obj31:U,w11.cell? ((a30.add 11).add 1)=X (.z obj31)/\(X0 t21 t22 t23 (λr32 r33 r34 w35=>w35.cell? ((a30.add 11).add 1)=X (.z obj31)/\w35.cell? d2=X (.pointer t29)/\w35.cell? (a27.add 4)=X u28.v/\w35.cell? a25=X (.pointer kernel26)/\w35.cell? d2=X (.pointer t24)/\∃a36:qf,u28.a=X a36/\0<=obj31/\obj31<(u28.len:U)/\(oy w35 (a36.add (obj31.toNat*3)) 0 [.y r32,.z r33,.y r34] λw37=>K (0:U) w37)/\qu) w11)/\qu)else(K (0:U) w7)
def Gj:An:= .t Q (.u) (.t Q (.t Q (.u) (.t Q (.r Q (.one 12 16257023 (.one 13 16257023 (.one 14 16257023 (.one 15 16257023 (.one 16 16257023 (.one 17 16257023 (.one 18 16257023 (.one 19 4095 (.one 20 4095 (.one 21 4095 (.one 22 4095 (.one 23 4095 (.one 24 4095 (.one 25 4095 (.hold 0 67112832 268435455 (.one 1 67112832 (.one 2 67112832 (.hold 3 67112832 268435455 (.one 4 67112832 (.one 5 67112832 (.hold 6 67112832 268435455 (.hold 7 67108864 268435455 (.one 8 67108864 (.one 9 67108864 (.one 10 67108864 (.hold 11 67108864 268435455 (.alt 26 (.one 27 0 (.alt 28 (.done) (.none))) (.none))))))))))))))))))))))))))))) (.u))) (.t Q (.u) (.u)))
def Gk:J (S × Sh):=[(0,.c (.i .i64))]
noncomputable def JS:Func:={ akh with results:= #[.tmp 2],body:=X zW}
theorem aix(d1:qg qf)(d2:qf)(t3:U)(l4:Sl)(K:U->Pw)(w:W):Pv qh JS zW Gj Gk [.pointer d1,.pointer (X d2),.z t3,l4.v] K w=Yh d1 d2 t3 l4 K w:=qa
def aiy{a b c d e f g h i j K w}:=ah (aai a b c d e f g h i j K w) func183 (.v (.y (.v (.x .w)) (.y (.v (.x (.v (.v .w)))) (.y (.v (.x .g22)) .w))))
def aiz{a b c K w}:=ah (aaj a b c K w) func184 (.v (.y (.v (.x .w)) (.y (.v (.x (.v (.v .w)))) (.y (.v .w) .w))))
def aiA{a b K w}:=ah (abJ a b K w) func288 (.v (.y (.v (.x .w)) (.v (.y (.v (.x (.t (X [(5,.c .s),(7,.c (.i .i64))]) .Br .u))) (.y (.v (.x (.t (X [(6,.c .s),(8,.c (.i .i64))]) .Br .u))) (.v (.v .w)))))))
def aiC{a b K w}:=ah (abM a b K w) func291 (.v (.y .RF .RB))
def aiD{a K w}:=ah (YS a K w) func62 (.v (.v (.y (.v (.x (.t (X [(4,.c (.i .u64)),(5,.c (.i .i64))]) (.y (.v .w) (.x .w)) .u))) (.x (.z (.o 0 126 (.o 1 128 (.o 2 128 (.o 3 128 .RY)))))))))
def aiE{a b c K w}:=ah (aag a b c K w) func181 (.v (.y (.v (.x (.t (X [(9,.c (.i .i64))]) .Qa .u))) (.v (.y (.v (.x (.v .w))) (.y (.v .w) .w)))))
def aiF{a b K w}:=ah (aau a b K w) func196 (.v (.y (.v (.x (.v (.v .w)))) (.v .w)))
def aiG{a b K w}:=ah (abK a b K w) func289 (.v (.v (.y .Qw (.v (.v .w)))))
def aiH{a K w}:=ah (YK a K w) func46 .Mz
def aiI{a b K w}:=ah (Y8 a b K w) func77 (.v (.y (.v (.x .w)) (.v (.y (.v (.x .w)) .Rl))))
def aiJ{a b c d K w}:=ah (aap a b c d K w) func190 (.v (.y (.v (.x .w)) .QC))
def aiK{a b K w}:=ah (aaq a b K w) func191 (.v (.y (.v (.x .w)) (.v (.y (.y .N6 (.x .w)) .Rl))))
def aiL{a b K w}:=ah (aat a b K w) func195 (.v .w)
theorem Hu{T el:qi}{inf:qL}{zv:V}{c:S}{k:Sl->Pw}[ale:bG s L α E xs]
  (hu:P.underlying T=X (.slice el)) (hi:P.info? el=X inf) (hz:inf.zero=X zv) (hsz:inf.size=E.z) (hzc:zv.cells.size=E.z) (hb:1<=inf.bytes)
  (h:Ow B w0 w (ae c []::L)) (hbig:(17*xs.length+16000)*inf.bytes<=2^48) (hk:∀s' w',Ow B w0 w' (ag E s' xs::L)->k s' w'):
  ∃s' w',dO P [T,T] T (.slice (X c.p) 0 0) s.v w s' w'/\k s' w':=by
 have hlen:=h.aF s;have h2:Ow B w0 w (ag E ⟨X c.p,0,0⟩ []::L):=Ow.empty h;exact Ow.app (s:=⟨X c.p,0,0⟩) (xs:=[]) (ys:=xs) hu hi hz hsz hzc hb h2 0 O (h2.tX (ale.i+1) (by simpa using ale.at_)) hlen (by simpa using hbig) λs' w _ h=>hk _ w h
theorem oE{T el:qi}{inf:qL}{zv:V}{c:S}{k:Sl->Pw}[ale:bG s L α E (x::r)]
  (hu:P.underlying T=X (.slice el)) (hi:P.info? el=X inf) (hz:inf.zero=X zv) (hsz:inf.size=E.z) (hzc:zv.cells.size=E.z) (hb:1<=inf.bytes)
  (h:Ow B w0 w (ae c []::L)) (hbig:(17*r.length+16000)*inf.bytes<=2^48) (hk:∀s' w',Ow B w0 w' (ag E s' r::L)->k s' w'):
  ∃s' w',dO P [T,T] T (.slice (X c.p) 0 0) (.slice (mn s.a ((1:U).toNat) s.cap E.z) (s.len-((1:U).toNat)) (s.cap-((1:U).toNat))) w s' w'/\k s' w':=by
 have hlen:=h.aF s;simp only[SJ]at hlen;have h2:Ow B w0 w (ag E ⟨X c.p,0,0⟩ []::L):=Ow.empty h;have hy:=(h2.tX (ale.i+1) (by simpa using ale.at_)).sub (l:=1) (hh:=s.len) om (SA _);rw[SE (by rw[aO,hlen];simp),T5,Nat.one_mul,<-E.len x,List.drop_left]at hy;rw[E.len x]at hy;show ∃s' w',dO P [T,T] T (.slice (X c.p) 0 0) (.slice (mn s.a 1 s.cap E.z) (s.len-1) (s.cap-1)) w s' w'/\k s' w';exact Ow.app (s:=⟨X c.p,0,0⟩) (x:=⟨mn s.a 1 s.cap E.z,s.len-1,s.cap-1⟩) (xs:=[]) (ys:=r) hu hi hz hsz hzc hb h2 0 O hy (by show s.len-1=_;omega) (by simpa using hbig) λs' w _ h=>hk _ w h
abbrev vJ(s:Sl):V:= s.v
def zb:dX U:=⟨1,λo=>[.y o],λ_=>rfl,λx v h=>by simp at h;subst h;rfl,SA _⟩
def AA(l:J U):U:=l.foldl (λa b=>MP .u64 a b) 0
structure Ex(N:S)(n:rB)(D:J U):Prop where
 word:n.word=AA D
 is:n.is= !D.isEmpty
 fu:D.length<=N
 MH:n.l.length<=1000000
def cq(N b:S)(n:rB):aG:=oA λx:(Sl × Sl)× J U=>aQ [dw (Ex N n x.2),ae b [vJ x.1.1,vJ x.1.2],ag zb x.1.1 x.2,ag ax x.1.2 n.l]
theorem u5(h:Ow B w0 w (cq N b n::R)):∃s t D,Ex N n D/\Ow B w0 w (ae b [vJ s,vJ t]::ag zb s D::ag ax t n.l::R):=by obtain⟨⟨⟨s,t⟩,D⟩,h⟩:=h.ex;obtain⟨h1,h⟩:=Ow.pure h.star;exact⟨s,t,D,h1,h⟩
theorem gp(h1:Ex N n D)(h:Ow B w0 w (ae b [vJ s,vJ t]::ag zb s D::ag ax t n.l::R)):Ow B w0 w (cq N b n::R):=Ow.eu ((s,t),D) (Ow.aR (Ow.cI h1 h))
theorem yl{M:S}(hm:N<=M)(h:Ow B w0 w (cq N b n::R)):Ow B w0 w (cq M b n::R):=by obtain⟨s,t,D,h1,h⟩:=u5 h;exact gp ⟨h1.word,h1.is,by have:=h1.fu;omega,h1.MH⟩ h
theorem IC(h:Ow B w0 w (ae b [.slice Q 0 0,.slice Q 0 0]::R)):Ow B w0 w (cq N b ⟨0,qd,[]⟩::R):=
 gp (s:=z0) (t:=z0) (D:=[]) ⟨O,O,UA _,UA _⟩ (Ow.sub (Ow.cB (E:=zb) (Ow.cB (E:=ax) h)))
theorem FK{K:U->I->Pw}(hN:N<=1000000)(h:Ow B w0 w (cq N b n::R))(hK:∀w',Ow B w0 w' (cq N b n::R)->K n.word n.is w'):YS b.o K w:=by
 apply aiD;obtain⟨s,t,D,h1,h⟩:=u5 h;have hl:=h.aF s;have hf:=h1.fu;intro l hL;have loop:∀(m j:S)(w:W),j+m=D.length->Ow B w0 w (ae b [vJ s,vJ t]::ag zb s D::ag ax t n.l::R)->l (AA (D.take j)) (j:U) w:=by
  intro m;induction m with
  |zero=>
   intro j w hj h;apply hL;refine⟨_,O,s,h.aE O,av om (h.dr λw h=>⟨_,O,s,h.aE O,?_⟩)⟩
   have hK2:=hK w (gp h1 h);rw[h1.word,h1.is]at hK2;rw[SE om,show qe ((s.len:U)>0)= !D.isEmpty from by rw[hl];cases D<;>simp];exact hK2
  |succ m ih=>
   intro j w hj h;have hx:D[j]?=X D[j]:=gE om;apply hL;refine⟨_,O,s,h.aE O,az om ⟨_,O,s,h.aE O,h.cd (s:=s) O hx λa ha h0 hc=>⟨_,h0 _ O,?_⟩⟩⟩;rw[wr om om];have e:MP .u64 (AA (D.take j)) D[j]=AA (D.take (j+1)):=by unfold AA;rw[SO,hx,VZ];rfl
   rw[e];exact ih (j+1) w om h
 exact loop D.length 0 w om h
theorem FG{who:U}{wt:I}{K:U->I->U->Pw}(hN:N<=1000000)(hbig:n.l.length<1000000)(h:Ow B w0 w (cq N b n::R))
  (hK:∀w',Ow B w0 w' (cq N b (n.wait who wt).2::R)->K (n.wait who wt).1.1 (n.wait who wt).1.2.1 (n.wait who wt).1.2.2 w'):aag b.o who wt K w:=by
 apply aiE;obtain⟨s,t,D,h1,h⟩:=u5 h;have hl:=h.aF t;unfold rB.wait at hK;intro l hL;have loop:∀(m j:S)(w:W),j+m=n.l.length->(∀i y,i<j->n.l[i]?=X y->y≠who)->Ow B w0 w (ae b [vJ s,vJ t]::ag zb s D::ag ax t n.l::R)->l (j:U) w:=by
  intro m;induction m with
  |zero=>
   intro j w hj hno h;apply hL;refine⟨_,O,t,h.aE O,av om ?_⟩;have ht:(n.l.any λx=>who==x)=false:=by rw[List.any_eq_false];intro y hy;obtain⟨i,hi⟩:=List.mem_iff_getElem?.1 hy;have:=hno i y (by have:=(Sz.1 hi).1;omega) hi;simp only[qN];omega
   rw[ht,Y qc]at hK;refine FK hN (gp h1 h) λw h=>?_;obtain⟨s,t,D,h1,h⟩:=u5 h;cases hi:n.is with
   |true=>
    rw[hi]at hK;refine aW O ⟨_,O,?_⟩;refine h.jD O O λw h=>?_;have hK:∀w',Ow B w0 w' (cq N b { n with word:=0,is:=qd}::R)->K n.word G 0 w':=hK;exact hK w (gp (n:={ n with word:=0,is:=qd}) (s:=z0) (t:=t) (D:=[]) ⟨O,O,UA _,h1.MH⟩ (Ow.sub (Ow.cB (E:=zb) h)))
   |false=>
    rw[hi]at hK;refine aV O ?_;cases wt with
    |true=>
     refine aW O ⟨_,O,t,h.aE O,?_⟩;refine h.a λd w2 h=>?_;have hK:∀w',Ow B w0 w' (cq N b ⟨n.word,qd,n.l++ [who]⟩::R)->K 0 qd 0 w':=hK;refine eS (s:=t) (y:=who) h om λt' w ht' h=>⟨_,O,?_⟩
     refine h.jD O O λw h=>?_;exact hK w (gp (s:=s) (t:=t') (D:=D) (n:=⟨n.word,qd,n.l++ [who]⟩) ⟨h1.word,hi▸h1.is,h1.fu,by simp;omega⟩ h.sub)
    |false=>exact aV O (hK w (gp h1 h))
  |succ m ih=>
   intro j w hj hno h;have hx:n.l[j]?=X n.l[j]:=gE om;apply hL;refine⟨_,O,t,h.aE O,az om ⟨_,O,t,h.aE O,h.cd (s:=t) O hx λa ha h0 hc=>⟨_,h0 _ O,?_⟩⟩⟩;by_cases e:n.l[j]=who
   .have ht:(n.l.any λx=>who==x)=true:=List.any_eq_true.2 ⟨n.l[j],List.getElem_mem _,by simp[e]⟩
    rw[ht]at hK;exact gC e (hK w (gp h1 h))
   .refine jk e ?_
    rw[wr om om];refine ih (j+1) w om (λi y hi hy=>?_) h;by_cases e2:i=j
    .subst e2;rw[hx]at hy;cases hy;exact e
    .exact hno i y om hy
 exact loop n.l.length 0 w om (λi y hi=>by omega) h
theorem BZ{g:U}{K:U->U->I->Pw}(hN:N<1000000)(h:Ow B w0 w (cq N b n::R))
  (hK:∀w',Ow B w0 w' (cq (N+1) b (n.bq g).2::R)->K ((n.bq g).1.getD 0) (if(n.bq g).1.isSome then g else 0) (n.bq g).1.isSome w'):aau b.o g K w:=by
 apply aiF;obtain⟨s,t,D,h1,h⟩:=u5 h;have hl:=h.aF t;have hf:=h1.fu;have hlf:=h1.MH;unfold rB.bq at hK;refine⟨_,O,t,h.aE O,?_⟩;cases hn:n.l with
 |nil=>
  rw[hn]at hK hl;refine av (by simp at hl;omega) ⟨_,rfl,s,h.aE O,?_⟩;refine h.a λd w2 h=>?_;refine Ow.eZ (s:=s) (E:=zb) (y:=g) akB (el:=39) (inf:=akf) qa (zv:= .y 0) qa qa O qb h (by rw[show akf.bytes=8 from by kernel_rfl];omega) λs' w hs' h=>⟨_,O,?_⟩
  refine h.jD O O λw h=>?_;refine hK w (gp (s:=s') (t:=t) (D:=D++ [g]) (n:=⟨MP .u64 n.word g,G,[]⟩) ⟨?_,?_,?_,?_⟩ ?_)
  .unfold AA
   rw[VZ,h1.word];rfl
  .show G=_
   simp
  .simp;omega
  .simp
  .rw[hn]at h;exact h.sub
 |cons x r=>
  rw[hn]at hK hl h;simp only[SJ]at hl;rw[hn]at hlf;simp only[SJ]at hlf;refine az om ⟨_,O,t,h.aE O,?_⟩;refine h.cd (s:=t) (i:=0) (j:=0) O O λa ha hc0 hc=>⟨_,hc0 _ O,?_⟩
  refine h.a λd w2 h=>?_;refine⟨_,O,t,h.aE O,om,om,oE (s:=t) (E:=ax) (x:=x) (r:=r) qJ tB (zv:= .z 0) qa qa O qb h (by rw[td];omega) λt' w h=>⟨_,O,?_⟩⟩
  refine h.jD O O λw h=>?_;exact hK w (gp (s:=s) (t:=t') (D:=D) (n:={ n with l:=r}) ⟨h1.word,h1.is,om,by show r.length<=_;omega⟩ h.sub)
theorem zo{who:U}{K:I->Pw}(h:Ow B w0 w (cq N b n::R))(hK:∀r w',Ow B w0 w' (cq N b (n.cancel who)::R)->K r w'):abK b.o who K w:=by
 apply aiG;obtain⟨s,t,D,h1,h⟩:=u5 h;have hl:=h.aF t;have hlf:=h1.MH;refine h.a λc w1 h=>?_;have h:Ow B w0 w1 (ag ax ⟨X c.p,0,0⟩ []::_):=Ow.empty h;intro l hL;have loop:∀(m j:S)(o:Sl)(w:W),j+m=n.l.length->Ow B w0 w (ag ax o ((n.l.take j).filter λx=> !(x==who))::ae b [vJ s,vJ t]::ag zb s D::ag ax t n.l::R)->l o (j:U) w:=by
  intro m;induction m with
  |zero=>
   intro j o w hj h;apply hL;refine⟨_,O,t,h.aE O,av om ⟨_,O,t,h.aE O,_,O,?_⟩⟩;rw[SE om]at h;refine h.jD O O λw h=>?_;exact hK _ w (gp (s:=s) (t:=o) (D:=D) (n:=n.cancel who) ⟨h1.word,h1.is,h1.fu,SY (S3 _ _) hlf⟩ (show Ow B w0 w (ae b [vJ s,vJ o]::ag zb s D::ag ax o (n.l.filter λx=> !(x==who))::R)from h.sub))
  |succ m ih=>
   intro j o w hj h;have hx:n.l[j]?=X n.l[j]:=gE om;have ht:n.l.take (j+1)=n.l.take j++ [n.l[j]]:=by rw[SO,hx];rfl
   apply hL;refine⟨_,O,t,h.aE O,az om ⟨_,O,t,h.aE O,h.cd (s:=t) O hx λa ha h0 hc=>⟨_,h0 _ O,?_⟩⟩⟩;rw[wr om om];by_cases e:n.l[j]=who
   .refine fh e ?_
    refine ih (j+1) o w om ?_;rw[ht,Tm,Tk,show(!(n.l[j]==who))=qd from by simp[e]];simpa using h
   .refine iw e ⟨_,O,t,h.aE O,a,ha,om,om,_,h0 _ O,?_⟩
    refine h.a λd w2 h=>?_;refine eS (s:=o) (y:=n.l[j]) h (SY (S3 _ _) (by rw[List.length_take];omega)) λo' w ho' h=>?_;refine ih (j+1) o' w om ?_;rw[ht,Tm,Tk,show(!(n.l[j]==who))=G from by simp[e],Z O,List.filter_nil];exact h.sub
 exact loop n.l.length 0 _ w1 om h
def aiM{a b c d K w}:=ah (Yi a b c d K w) func6 (.v (.v (.v (.y (.v (.x (.t (X [(5,.c (.i .i64))]) (.y (.v .w) (.x (.x (.v (.x (.v (.t (X [(6,.c (.i .i64))]) .u .u))))))) .u))) .w))))
def aiN{K w}:=ah (Zf K w) func91 (.v .w)
def aiO{a b c d e f g K w}:=ah (W6 a b c d e f g K w) func5 (.v (.v (.v (.v (.y (.y (.r (X [(51,.c .b)]) .done) (.x .w)) (.y (.v (.x (.t (X [(6,.c .p),(10,.c (.i .i64))]) (.y (.y (.r (X [(59,.c .b)]) .done) .w) (.x (.x (.y (.v (.t (X [(6,.c .p)]) (.v (.v (.v (.v (.v (.x .w)))))) .u)) (.v (.v (.y (.r (X [(111,.c .b)]) .done) (.x .w)))))))) .u))) .w))))))
def aiP{a b c d e f K w}:=ah (Ys a b c d e f K w) func19 (.v (.x (.z (.o 0 63480 (.o 1 63480 (.o 4 62412 (.o 6 61484 (.o 12 4012 (.hold 5 58252 129023 (.hold 7 57356 129023 (.o 8 57356 (.o 9 57356 (.o 10 57356 (.hold 13 2060 131071 (.o 14 2060 (.o 15 2060 (.f 2 (.e 3 (.e 11 (.o 16 0 (.e 17 .done)))) (.e 3 (.e 2 (.e 11 (.o 16 0 (.e 17 .done))))))))))))))))))))))
def aiQ{K w}:=ah (Yu K w) func28 (.v (.v (.y (.y (.r (X [(35,.c .b)]) .done) (.x .w)) (.v (.v (.v (.v (.v (.v (.v (.v (.v (.v .w)))))))))))))
def aiR{a b K w}:=ah (VV a b K w) func22 .g8
def aiS{a K w}:=ah (VW a K w) func24 (.v (.v (.y (.v (.x (.t (X [(3,.c .s),(4,.c (.i .i64))]) (.y (.v .w) .Ru) .u))) .w)))
def aiT{a b K w}:=ah (YL a b K w) func47 (.v (.y (.y (.r (X [(11,.c .b)]) .done) (.x .w)) (.y (.v (.x .w)) (.y (.r (X []) (.o 0 2046 (.o 1 992 (.o 2 992 (.o 3 992 (.o 5 16 (.f 4 (.e 6 (.o 7 0 .RZ)) (.e 6 (.o 7 16 (.f 4 .RZ (.e 8 (.o 4 512 .QA)))))))))))) .w))))
def aiU{a b c d e f g h i K w}:=ah (ZQ a b c d e f g h i K w) func130 (.v (.y (.v (.x .w)) (.v (.y (.v (.x .w)) (.y (.v (.x .w)) (.y .g13 .g14))))))
def aiV{a b c d e K w}:=ah (Z9 a b c d e K w) func173 (.v (.y (.y .N8 (.x .w)) (.y .g13 (.y .g13 (.y (.z (.o 0 4194096 (.o 1 4194096 (.o 2 4194096 (.o 3 4194096 (.o 4 4194048 (.o 5 4194048 (.o 6 4194048 (.o 7 4194048 (.o 8 4193280 (.o 9 4193280 (.o 10 835584 (.o 11 835584 (.o 12 835584 (.o 13 835584 (.o 14 786432 (.o 15 786432 (.o 16 786432 (.o 17 786432 (.o 18 0 (.o 19 0 (.o 20 0 (.o 21 0 (.o 22 0 (.e 23 .done))))))))))))))))))))))))) .g14)))))
def aiW{a b c K w}:=ah (aa1 a b c K w) func235 (.v (.x (.z (.o 0 0 (.o 1 0 (.o 2 0 (.o 3 0 (.o 4 1984 (.o 5 1984 (.o 6 0 (.o 7 0 (.o 8 0 (.o 9 0 (.o 10 0 (.o 11 0 (.o 12 0 (.o 13 0 (.o 14 0 (.o 15 0 (.o 16 0 (.o 17 0 (.o 18 0 (.o 19 1071644672 (.o 20 1071644672 (.o 21 100663296 (.o 22 100663296 (.o 23 100663296 (.o 24 100663296 (.o 25 0 (.o 26 0 (.o 27 0 (.o 28 0 (.o 29 0 (.o 30 0 (.o 31 0 (.o 32 0 .done))))))))))))))))))))))))))))))))))))
def aiX{a b c K w}:=ah (abw a b c K w) func275 (.v (.y (.v (.x .w)) (.x (.z (.o 0 816 (.o 1 816 (.o 2 816 (.o 3 816 (.o 4 768 (.o 5 768 (.o 6 768 (.o 7 768 .RW))))))))))))
def aiY{a b c K w}:=ah (abD a b c K w) func282 (.v (.y (.v (.x .w)) (.y (.z (.o 0 4912 (.o 1 4912 (.o 2 4912 (.o 3 4912 (.o 4 4864 (.o 5 4864 (.o 6 4864 (.o 7 4864 (.o 8 4096 (.o 9 4096 (.o 10 4096 (.o 11 4096 (.e 12 (.e 13 .done))))))))))))))) (.y (.v (.x .w)) .g14))))
def aiZ{a b c K w}:=ah (ZR a b c K w) func131 (.v (.y (.v (.x .w)) (.y (.z (.o 0 126 (.o 1 64 (.o 2 64 (.o 3 64 .QE))))) .w)))
def ai0{a b c d e K w}:=ah (aaa a b c d e K w) func174 (.v (.v (.y (.v (.x .w)) (.y (.v (.x .w)) (.y .RC .w)))))
def ai1{a b c K w}:=ah (aac a b c K w) func176 (.v (.v (.y (.v (.x .w)) (.x (.z (.o 1 993 (.o 2 993 (.o 3 993 (.o 5 913 (.o 6 913 (.o 7 273 (.o 8 17 (.hold 4 513 6143 (.f 0 .QG (.e 9 (.o 10 1 (.e 0 (.e 11 (.o 12 0 .done)))))))))))))))))))
def ai2{a b c K w}:=ah (aa3 a b c K w) func237 (.v (.y (.v (.x (.t (X [(5,.c (.i .i64))]) (.y (.v .w) (.x (.x (.y (.z (.o 0 144 (.o 1 144 (.o 2 144 (.o 3 144 .RY))))) (.x .w))))) .u))) .w))
def ai3{a b c d e K w}:=ah (XX a b c d e K w) func238 (.v (.v (.y (.v (.x (.t (X [(8,.c .s),(9,.c .s),(10,.c (.i .i64))]) (.y (.v .w) (.x (.x (.y (.v (.t (X [(8,.c .s),(9,.c .s)]) .w .u)) (.v (.x .w)))))) .u))) .w)))
def ai4{a b c d e K w}:=ah (abB a b c d e K w) func280 (.v (.v (.y (.v (.x .w)) (.y (.v (.x .w)) (.y (.z (.o 0 4094 (.o 1 4088 (.o 2 4088 (.o 3 4080 (.o 4 256 (.o 5 256 (.o 6 256 .RT)))))))) .w)))))
def ai5{a b c K w}:=ah (abC a b c K w) func281 (.v (.v (.y (.v (.x .w)) (.v (.y (.v (.x (.t (X [(7,.c .s),(8,.c .s),(9,.c (.i .i64))]) (.y (.v .w) (.x (.x (.y (.v .w) (.v (.y (.y (.r (X [(47,.c .b)]) .done) (.t (X [(10,.c (.i .i64))]) .u .u)) .w)))))) .u))) (.v (.v .w)))))))
def ai6{a b K w}:=ah (abI a b K w) func287 (.v (.y (.v (.x (.t (X [(5,.c (.i .i64))]) (.y (.v .w) (.x (.x (.y (.z (.o 0 16272 (.o 1 16272 (.o 2 16272 (.o 3 16272 (.o 4 16256 (.o 5 16256 (.o 6 16256 (.o 7 2048 (.o 8 2048 (.o 9 2048 (.o 10 2048 (.o 11 0 (.o 12 0 .Kd)))))))))))))) (.x .w))))) .u))) .w))
def ai7{a b K w}:=ah (VH a b K w) func25 .g8
def ai8{a K w}:=ah (VP a K w) func27 (.v (.v (.y (.v (.x (.t (X [(3,.c .s),(4,.c (.i .i64))]) (.y (.y .N7 .w) .Ru) .u))) .w)))
def ai9{a b c K w}:=ah (aal a b c K w) func186 (.v (.y .QB (.y (.v (.x (.t (X [(7,.c (.i .i64))]) (.y (.v .w) (.x (.x (.y (.r (X [(48,.c .b)]) .done) (.x .w))))) .u))) (.v .w))))
def aja{a b c d K w}:=ah (aam a b c d K w) func187 (.v (.y (.y (.r (X [(29,.c .b)]) .done) (.x .w)) (.v (.y (.v (.x .w)) (.y (.v (.x .w)) (.y .g22 .w))))))
def ajb{a b K w}:=ah (aan a b K w) func188 (.v (.y (.y (.r (X [(15,.c .b)]) .done) (.x .w)) (.v (.y (.v (.x .w)) (.v (.y (.v (.x (.t (X [(7,.c .s),(9,.c (.i .i64))]) .Br .u))) (.v .w)))))))
def ajc{a b K w}:=ah (abF a b K w) func284 (.v (.v (.y (.v (.x (.t (X [(6,.c .s),(7,.c (.i .i64))]) .Br .u))) .w)))
def ajd{a b K w}:=ah (abG a b K w) func285 .Ry
def aje{a b K w}:=ah (abH a b K w) func286 (.v (.y .P7 (.v (.y (.v (.x .w)) (.v (.y (.v (.x (.t (X [(9,.c .s),(10,.c .s),(12,.c (.i .i64))]) .Br .u))) (.y (.v (.x (.t (X [(11,.c .s),(13,.c (.i .i64))]) .Br .u))) (.v (.v .w)))))))))
def ajf{a b K w}:=ah (abN a b K w) func292 .Rz
def ajg{a b K w}:=ah (X4 a b K w) func309 .C7
def ajh{a K w}:=ah (Zp a K w) func101 .Mz
def aji{a b K w}:=ah (ZB a b K w) func113 .g8
def ajj{a b c K w}:=ah (aaO a b c K w) func221 (.v (.v (.y (.v (.x (.t (X [(7,.c .s),(8,.c (.i .i64))]) (.y (.v .w) (.x (.x (.y (.r (X [(41,.c .b)]) .done) .w)))) .u))) (.v (.v .w)))))
def ajk{a b c K w}:=ah (ab1 a b c K w) func308 (.v (.y (.v (.x (.t (X [(8,.c (.i .i64))]) (.y (.v .w) (.x (.x (.y (.r (X [(39,.c .b)]) .done) (.x .w))))) .u))) .w))
def ajl{a b c d e K w}:=ah (ab2 a b c d e K w) func310 (.v (.v (.y (.y (.r (X [(24,.c .b)]) (.o 0 0 (.o 1 0 (.o 2 0 (.o 3 3840 (.o 4 3840 (.o 5 3840 (.o 6 3840 (.o 7 3840 .RR))))))))) (.t (X []) .u .u)) .Qt)))
end
end Go.Vc
