/- What the row rests on: the declarations that it needs, out of my texts (part 9). -/
import Derived.Test.YtogmbmdbgkopjaaGreatZb8
set_option linter.unusedVariables false
set_option linter.unusedSimpArgs false
set_option linter.unusedSectionVars false
section
set_option maxRecDepth 8000
namespace Go.Proofs.YtogmbmdbgkopjaaGreat
open Go Go.Vc Go.Proofs Go.RowKit Go.Shelf
attribute [local go_sem] Oper.semAt_some
theorem lit66 (t:Array Value) (h:t.size=66):∃f:Nat->Value,(∀i,f i=t.getD i undef)/\t= #[f 0,f 1,f 2,f 3,f 4,f 5,f 6,f 7,f 8,f 9,f 10,f 11,f 12,f 13,f 14,f 15,f 16,f 17,f 18,f 19,f 20,f 21,f 22,f 23,f 24,f 25,f 26,f 27,f 28,f 29,f 30,f 31,f 32,f 33,f 34,f 35,f 36,f 37,f 38,f 39,f 40,f 41,f 42,f 43,f 44,f 45,f 46,f 47,f 48,f 49,f 50,f 51,f 52,f 53,f 54,f 55,f 56,f 57,f 58,f 59,f 60,f 61,f 62,f 63,f 64,f 65]:=by
 refine ⟨fun i=>t.getD i undef,fun _=>rfl,?_⟩
 have e:t=((List.range 66).map fun i=>t.getD i undef).toArray:=by
  apply Array.ext
  ·simp[h]
  ·intro i h1 h2
   simp[h1]
 exact e
set_option maxRecDepth 100000 in
set_option maxHeartbeats 2000000 in
theorem back_nil_in (n:Nat) (hn:1≤n) (l box:Nat) (J:List (Int × Slot)->Pw) (W:World) (hB:W.cell? ⟨box,0,none⟩=some (.slice none 0 0)) (h0:J [] W):
  CallsIn Fence.wide n Tryz.prog 291 #[.func (.yield l) #[] #[], .pointer (some ⟨box,0,none⟩)] W fun e W'=>(∃v,e= .returned v)/\J [] W':=by
 refine callsIn_of_wp Tryz.func291 rfl trivial ?_ rfl;simp only[Tryz.ntmps291,List.size_toArray,List.length_cons,List.length_nil,Nat.reduceAdd,Nat.reduceSub,Array.replicate_succ,Array.replicate_zero,List.push_toArray,List.append_toArray,List.nil_append,List.cons_append]
 gi_wp2
 gi_loopw [3] (fun i wr=>i= .z (-1)/\J [] wr) (fun _ _=>0)
 case atStart=>exact ⟨rfl,h0⟩
 case round=>
  obtain ⟨rfl,hJs⟩:=hrel
  gi_wp2
  go_end0
  exact ⟨⟨_,rfl⟩,hJs⟩
section
variable {B:Nat} {w0 w:World} {R L:List Asn} {bd bk:Nat} {k:Ker} {d:Dng} {ec wv wk:Int} {fs:Sl} {N:Nat}
def revI (bd bk c0 bx:Nat) (d:Dng) (ec wv wk:Int) (k:Ker) (s2:Sl) (xs:List Slot) (pre:List (Int × Slot)):Asn:=
 ExA fun fs:Sl=>StarA [BlkA bd (dcells bk d ec wv wk fs),SlT lneE fs (Ker.gones (pre.map (·.2)) k).1,KerA bk (Ker.gones (pre.map (·.2)) k).2,BlkA c0 [.pointer (some ⟨bd,0,none⟩)],SlT Tr.slotE s2 xs,BlkA bx [.slice s2.a s2.len s2.cap]]
def revR (s2:Sl) (xs:List Slot) (bx:Nat) (V:World):Prop:=V.cell? ⟨bx,0,none⟩=some (.slice s2.a s2.len s2.cap)/\SlO 2 V s2 (xs.flatMap Tr.slotE.enc)
theorem revI_out {c0 bx:Nat} {s2:Sl} {xs:List Slot} {pre:List (Int × Slot)} (h:Vc.Own B w0 w (revI bd bk c0 bx d ec wv wk k s2 xs pre::R)):
  ∃fs:Sl,Vc.Own B w0 w (BlkA bd (dcells bk d ec wv wk fs)::SlT lneE fs (Ker.gones (pre.map (·.2)) k).1::KerA bk (Ker.gones (pre.map (·.2)) k).2::BlkA c0 [.pointer (some ⟨bd,0,none⟩)]::SlT Tr.slotE s2 xs::BlkA bx [.slice s2.a s2.len s2.cap]::R):=by
 obtain ⟨fs,h⟩:=Vc.Own.ex h;exact ⟨fs,h.star⟩
theorem revI_in {c0 bx:Nat} {s2:Sl} {xs:List Slot} {pre:List (Int × Slot)} (fs:Sl)
  (h:Vc.Own B w0 w (BlkA bd (dcells bk d ec wv wk fs)::SlT lneE fs (Ker.gones (pre.map (·.2)) k).1::KerA bk (Ker.gones (pre.map (·.2)) k).2::BlkA c0 [.pointer (some ⟨bd,0,none⟩)]::SlT Tr.slotE s2 xs::BlkA bx [.slice s2.a s2.len s2.cap]::R)):
  Vc.Own B w0 w (revI bd bk c0 bx d ec wv wk k s2 xs pre::R):=Vc.Own.mk_ex fs (Vc.Own.mk_star h)
theorem rev_reads {c0 bx:Nat} {s2:Sl} {xs:List Slot} {pre:List (Int × Slot)} (h:Vc.Own B w0 w (revI bd bk c0 bx d ec wv wk k s2 xs pre::R)):revR s2 xs bx w:=by
 obtain ⟨fs,h⟩:=revI_out h;exact ⟨h.ldc rfl,h.slO 4 rfl⟩
theorem rev_seq {s2:Sl} {xs:List Slot} {bx:Nat} (hl:s2.len=xs.length) (hx:xs.length≤1000000) (l:Nat) (J:List (Int × Slot)->Pw) (W:World)
  (hJR:∀pre V,J pre V->revR s2 xs bx V)
  (hY:∀pre x V,J pre V->(pre++ [x]) <+: back xs xs.length->YieldAt Fence.wide 2 Tryz.prog l (bkV x) V fun e V'=>e= .returned (.bool true)/\J (pre++ [x]) V') (h0:J [] W):
  CallsIn Fence.wide 3 Tryz.prog 291 (#[.func (.yield l) #[] #[]]++ #[.pointer (some ⟨bx,0,none⟩)]) W fun e W'=>(∃v,e= .returned v)/\J (back xs xs.length) W':=by
 obtain ⟨h1,h2⟩:=hJR _ _ h0;rw[hl] at h1;cases h2 with
 |nil ha hl' hc hcs=>
  have hx0:xs= []:=List.eq_nil_of_length_eq_zero (by omega);subst hx0;rw[ha,hc] at h1;exact back_nil_in 3 (by decide) l bx J W h1 h0
 |mk b o l' ha hb hl' hc hcs=>
  refine back_in 3 (by decide) l bx b o xs.length s2.cap xs rfl hx J (fun pre V hJ=>?_) hY W h0;obtain ⟨r1,r2⟩:=hJR _ _ hJ;rw[hl,ha] at r1;refine ⟨r1,fun j x hj u v hv=>?_⟩;obtain ⟨b',o',ha',hc'⟩:=SlO.get (E:=Tr.slotE) r2 hj;rw[ha] at ha';cases ha';have:=hc' u v hv;rw[add_mk,Nat.add_assoc];exact this
set_option maxRecDepth 100000 in
set_option maxHeartbeats 4000000 in
theorem rev_loop {c0 bx:Nat} {s2:Sl} {xs:List Slot} {t:Array Value} {Q:Exit->Act->Pw} (hk:KOk N k) (hN:N≤200000) (hnd:xs.Nodup) (hheld:∀s∈xs,(k.H s).isSome=true) (hlen:xs.length≤1000000)
  (ht:t.size=66) (h1:t.getD 1 undef= .pointer (some ⟨c0,0,none⟩)) (h19:t.getD 19 undef= .func (.func 291) #[] #[.pointer (some ⟨bx,0,none⟩)])
  (h:Vc.Own B w0 w (revI bd bk c0 bx d ec wv wk k s2 xs []::R))
  (hQ:∀(D:Nat) (V:World),Vc.Own B w0 V (ObjA D (.deferred (some []))::revI bd bk c0 bx d ec wv wk k s2 xs (back xs xs.length)::R)->Q .normal { tmps:=t,defers:=[{ target:= .collected D,args:= #[]}]} V):
  codeL.wpIn Fence.wide 4 Tryz.prog Q { tmps:=t,defers:=[]} w:=by
 obtain ⟨f,hf,he⟩:=lit66 t ht;rw[←hf] at h1 h19
 have hl:s2.len=xs.length:=by
  obtain ⟨fs,h⟩:=revI_out h;exact (h.lenc s2)
 show (Code.block 0 (.rangeFunc _ _ _ _)).wpIn Fence.wide 4 Tryz.prog Q { tmps:=t,defers:=[]} w;refine wpIn_block ?_
 refine range_own (n:=4) (α:=Int × Slot) rfl (by decide) (gf:=291) (lb:= #[.pointer (some ⟨bx,0,none⟩)]) ?_ trivial (enters_of Tryz.func291 (by kernel_rfl) rfl) bkV (fun _=>rfl) (back xs xs.length)
  (revI bd bk c0 bx d ec wv wk k s2 xs) (fun a' x=>ExA fun p:Nat=>StarA [PureA (a'={ tmps:=((t.setIfInBounds 20 (.z x.1)).setIfInBounds 21 (.agg #[.z x.2.1, .z x.2.2])).setIfInBounds 5 (.pointer (some ⟨p,0,none⟩)),defers:=[]}),BlkA p [.z x.2.1, .z x.2.2]])
  (revR s2 xs bx) h (fun Z pre V h=>rev_reads h) (fun l J W _ hJR hY h0=>rev_seq hl hlen l J W hJR hY h0) ?_ ?_ hQ
 ·show t.getD 19 undef=_
  rw[←hf];exact h19
 ·intro l Z pre x V K hO hK
  have hK:=fun w' h=>hK { tmps:=((t.setIfInBounds 20 (.z x.1)).setIfInBounds 21 (.agg #[.z x.2.1, .z x.2.2])).setIfInBounds 5 (.pointer (some ⟨V.heap.size,0,none⟩)),defers:=[]} w' (Vc.Own.mk_ex V.heap.size (Vc.Own.mk_star (Vc.Own.mk_pure rfl h)))
  have hO:=hO.al (t:=40) (l:=[.z x.2.1, .z x.2.2]) (k:=fun w'=>Vc.Own B w0 w' (BlkA V.heap.size [.z x.2.1, .z x.2.2]::revI bd bk c0 bx d ec wv wk k s2 xs pre::Z++R)) (fun w' h=>h);have hK:=hK _ hO;clear hO hf;obtain ⟨x1,x2,x3⟩:=x;dsimp only at hK⊢;subst he;dsimp only[bkV]
  gi_wp2
  simpa [h1,h19] using hK
 ·intro l Z pre x a' V hpre hO
  obtain ⟨p,hO⟩:=Vc.Own.ex (hO:Vc.Own B w0 V (ExA _::(revI bd bk c0 bx d ec wv wk k s2 xs pre::Z++R)));have hO:=hO.star;obtain ⟨ea,hO1⟩:=Vc.Own.pure (hO:Vc.Own B w0 V (PureA _::(BlkA p [.z x.2.1, .z x.2.2]::revI bd bk c0 bx d ec wv wk k s2 xs pre::Z++R)));clear hO;have hO1:=hO1.perm (List.Perm.swap _ _ _);obtain ⟨fs,hO⟩:=revI_out hO1
  have hx2:(pre.map (·.2)++ [x.2]) <+: xs.reverse:=by
   have:=hpre.map (·.2);rw[back_rev] at this;simpa using this
  have hnd2:(pre.map (·.2)++ [x.2]).Nodup:=(hx2.sublist).nodup (List.pairwise_reverse.2 (hnd.imp Ne.symm));have hall:∀s∈pre.map (·.2)++ [x.2],(k.H s).isSome=true:=fun s hs=>hheld s (List.mem_reverse.1 (hx2.subset hs))
  obtain ⟨g1,g2⟩:=gones_ok (pre.map (·.2)) k hk (List.nodup_append.1 hnd2).1 (fun s hs=>hall s (List.mem_append_left _ hs));have g3:=gones_pg (pre.map (·.2)) k;have g4:=pgN_le k.spaces hk.sok;have g5:=hk.ns
  have hg:C.qan (some ⟨bd,0,none⟩) x.2.1 x.2.2 (fun w'=>Vc.Own B w0 w' (revI bd bk c0 bx d ec wv wk k s2 xs (pre++ [x])::Z++R)) V:=by
   refine gone_spec (F:=(Ker.gones (pre.map (·.2)) k).1) (k:=(Ker.gones (pre.map (·.2)) k).2) (s:=x.2) g1 hN ?_ (by omega) hO fun fs' w' h=>?_
   ·rw[g2,if_neg]
    ·exact hall _ (List.mem_append_right _ List.mem_cons_self)
    ·intro hm
     have:=(List.nodup_append.1 hnd2).2.2 _ hm _ List.mem_cons_self;exact this rfl
   ·refine revI_in fs' ?_
    rw[List.map_append,List.map_cons,List.map_nil,gones_snoc];exact h.sub
  dsimp only[C.qan] at hg;have hg:=okF_out hg;have hg:=(callsIn_wide (n:=1)).2 hg;have c1:V.cell? ⟨c0,0,none⟩=some (.pointer (some ⟨bd,0,none⟩)):=hO.ldc rfl;have c2:V.cell? ⟨p,0,none⟩=some (.z x.2.1):=hO.ldc rfl;have c3:V.cell? ⟨p,1,none⟩=some (.z x.2.2):=hO.ldc rfl;clear hO hO1 hall hnd2 hx2 hQ h g1 g2 g3 g4 g5 hpre hheld hnd hl;obtain ⟨x1,x2,x3⟩:=x;dsimp only at ea hg c2 c3⊢;subst ea;subst he;clear hf;have hg:=hg.inRound l
  gi_wp2
  refine ⟨trivial,hg.mono ?_⟩;rintro e w' ⟨rfl,hw⟩
  gi_wp2
  exact hw
theorem under_in {s x:Slot} (hx:x∈Tr.underN k.T s):x∈k.T.map (·.1):=by
 unfold Tr.underN at hx;split at hx
 ·simp at hx
 ·obtain ⟨y,hy,rfl⟩:=List.mem_map.1 hx
  exact List.mem_map.2 ⟨y,List.mem_of_mem_drop (List.mem_of_mem_take hy),rfl⟩
theorem under_nd {s:Slot} (h:Tr.TOk k.T):(Tr.underN k.T s).Nodup:=by
 unfold Tr.underN;split
 ·exact List.nodup_nil
 ·exact ((List.take_sublist _ _).trans (List.drop_sublist _ _) |>.map (fun x:Tr.Leaf=>x.1)).nodup h.nd
theorem under_len {s:Slot} (hk:KOk N k):(Tr.underN k.T s).length≤64:=by
 have:=hk.few;unfold Tr.underN;split
 ·simp
 ·simp;omega
theorem gones_u:∀(l:List Slot) (k:Ker),KOk N k->l.Nodup->(∀s∈l,(k.H s).isSome=true)->(Ker.gones l k).2.u=k.u
 | [],k,_,_,_=>rfl
 |a::l,k,h,hn,hs=>by
  obtain ⟨h1,h2,h3⟩:=h.gone (hs a List.mem_cons_self);rw[List.nodup_cons] at hn
  have hl:∀s∈l,((k.gone a).2.H s).isSome=true:=fun s hm=>by
   rw[h2];unfold Sl.updH;rw[if_neg (fun e:s=a=>hn.1 (e▸hm))];exact hs s (List.mem_cons_of_mem _ hm)
  have h4:(Ker.gones (a::l) k).2.u=(k.gone a).2.u:=gones_u l _ h1 hn.2 hl;rw[h4];unfold Ker.gone;split
  ·rfl
  ·unfold Ker.last
   split
   ·rfl
   split
   ·rfl
   split
   ·rfl
   ·rfl
set_option maxHeartbeats 1000000 in
theorem revoke_spec {K:Int->Pw} (hk:KOk N k) (hN:N≤200000) (ho:k.objOk d.c) (h:Vc.Own B w0 w (BlkA bd (dcells bk d ec wv wk fs)::SlT lneE fs []::KerA bk k::R))
  (hK:∀fs' w',Vc.Own B w0 w' (BlkA bd (dcells bk d ec ((Tr.underN k.T d.s).length:Int) wk fs')::SlT lneE fs' (Ker.gones (Tr.underN k.T d.s).reverse k).1::KerA bk (k.revoke d).2::R)->K 0 w'):C.qdn (some ⟨bd,0,none⟩) K w:=by
 have hlen:=under_len (s:=d.s) hk;have hnd:=under_nd (s:=d.s) hk.tok;have hheld:∀s∈Tr.underN k.T d.s,(k.H s).isSome=true:=fun s hs=>(hk.mem s).1 (under_in hs)
 unfold C.qdn;refine okF_mk Tryz.func123 rfl ((callsIn_wide (n:=4)).1 ?_);refine callsIn_of_wp_marks (c:= .seq (cL codeB) (.seq (cL (cR codeB)) (.seq (.seq (cL (cL (cR (cR codeB)))) codeL) codeZ))) Tryz.func123 (by kernel_rfl) trivial ?_ rfl
 have hA:=revA_run (fs:=fs) h (K:=fun d1 c t s v w'=>∃c0 bx,d1=some ⟨bd,0,none⟩/\c=⟨c0,0,none⟩/\t=0/\v= .func (.func 291) #[] #[.pointer (some ⟨bx,0,none⟩)]/\
  Vc.Own B w0 w' (BlkA bd (dcells bk d ec wv wk fs)::SlT lneE fs []::KerA bk k::BlkA c0 [.pointer (some ⟨bd,0,none⟩)]::SlT Tr.slotE s (Tr.underN k.T d.s)::BlkA bx [.slice s.a s.len s.cap]::R)) (fun c0 s2 bx w' h=>⟨c0,bx,rfl,rfl,rfl,rfl,h⟩)
 rw[←S.qdw1] at hA;unfold Ker.revoke at hK;dsimp only at hK;generalize Tr.underN k.T d.s=xs at hA hK hlen hnd hheld;refine wpIn_seq (wpIn_wide.2 (wp_mono (vc_sound (ds:=[]) (n:=66) names_ok follows_ok (cL codeB) codeAAn.a _ (fun _ _ _=>False) (fun _ _=>False) (nth [.pointer (some ⟨bd,0,none⟩)]) _ w (by kernel_rfl) ?_ hA) ?_))
 ·refine ⟨by simp[Tryz.ntmps123],rfl,fun t v ht=>?_⟩
  rw[nth_eq] at ht
  match t,ht with
  |0,ht=>simp at ht;subst ht;simp
  |t+1,ht=>simp at ht
 intro en a1 w1 hq;cases en with
 |exit i=>obtain ⟨_,_,_,h⟩:=hq;exact h.elim
 |ret=>obtain ⟨_,_,_,h⟩:=hq;exact h.elim
 |goto l=>exact hq.elim
 |panic ch=>exact hq.elim
 |outgrown=>exact hq.elim
 |normal=>
 obtain ⟨_,e1,hr1,h1⟩:=hq;refine wpIn_seq (wpIn_wide.2 (wp_mono (vc_sound (ds:=[]) (n:=66) names_ok follows_ok (cL (cR codeB)) codeAAn.b.a _ (fun _ _ _=>False) (fun _ _=>False) e1 _ w1 (by kernel_rfl) hr1 h1) ?_));intro en a2 w2 hq;cases en with
 |exit i=>obtain ⟨_,_,_,h⟩:=hq;exact h.elim
 |ret=>obtain ⟨_,_,_,h⟩:=hq;exact h.elim
 |goto l=>exact hq.elim
 |panic ch=>exact hq.elim
 |outgrown=>exact hq.elim
 |normal=>
 obtain ⟨_,e2,hr2,h2⟩:=hq;refine wpIn_seq (wpIn_seq (wpIn_wide.2 (wp_mono (vc_sound (ds:=[]) (n:=66) names_ok follows_ok (cL (cL (cR (cR codeB)))) codeAAn.b.b _ (fun _ _ _=>False) (fun _ _=>False) e2 _ w2 (by kernel_rfl) hr2 h2) ?_)));intro en a3 w3 hq;cases en with
 |exit i=>obtain ⟨_,_,_,h⟩:=hq;exact h.elim
 |ret=>obtain ⟨_,_,_,h⟩:=hq;exact h.elim
 |goto l=>exact hq.elim
 |panic ch=>exact hq.elim
 |outgrown=>exact hq.elim
 |normal=>
 obtain ⟨_,e3,⟨hs3,hd3,hr3⟩,h3⟩:=hq;obtain ⟨vs,hv1,hv2,h3⟩:=resTmp [0,1,2,3,19] [] _ h3;obtain ⟨d0,c,t,s,v,v0,v1,v2,v3,v4,c0,bx,rfl,rfl,rfl,rfl,h3⟩:=appA5 h3
 have key:∀(i t:Nat) (v:Value),[0,1,2,3,19][i]?=some t->nth ([].reverse++vs) i=some v->a3.tmps.getD t undef=v:=fun i t v hi hv=>by
  obtain ⟨v',h1,h2⟩:=hv2 i t hi;rw[nth_eq] at hv;simp only[List.reverse_nil,List.nil_append] at hv;rw[h1] at hv;cases hv;exact hr3 t v h2
 have k0:=key 0 0 _ rfl v0;have k1:=key 1 1 _ rfl v1;have k2:=key 2 2 _ rfl v2;have k3:=key 3 3 _ rfl v3;have k4:=key 4 19 _ rfl v4;have hsl:s.len=xs.length:=h3.lenc s;obtain ⟨t3,d3⟩:=a3;dsimp only at hs3 hd3 k0 k1 k2 k3 k4;subst hd3;have hO:Vc.Own B w0 w3 (revI bd bk c0 bx d ec wv wk k s xs []::R):=revI_in fs h3;show codeL.wpIn Fence.wide 4 Tryz.prog _ { tmps:=t3,defers:=[]} w3;refine rev_loop hk hN hnd hheld (by omega) hs3 k1 k4 hO fun D V hO=>?_
 obtain ⟨fs',hO⟩:=revI_out (hO.perm (List.Perm.swap _ _ _));rw[back_rev] at hO;show codeZ.wpIn Fence.wide 4 Tryz.prog _ { tmps:=t3,defers:=[{ target:= .collected D,args:= #[]}]} V;have hnd2:xs.reverse.Nodup:=List.pairwise_reverse.2 (hnd.imp Ne.symm);have hu2:=gones_u xs.reverse k hk hnd2 (fun s hs=>hheld s (List.mem_reverse.1 hs))
 have hZ:=revZ_run (K:=fun r w'=>r=0/\Vc.Own B w0 w' (ObjA D (.deferred (some []))::BlkA bd (dcells bk d ec (xs.length:Int) wk fs')::SlT lneE fs' (Ker.gones xs.reverse k).1::KerA bk (if d.c.kind=1 then (Ker.gones xs.reverse k).2.resetU d.c.obj else (Ker.gones xs.reverse k).2)::R)) (bx:=bx) hsl (by omega) (fun e=>by
   rw[hu2];exact ⟨ho.1,ho.2.1 e⟩) (show Vc.Own B w0 V (BlkA bd (dcells bk d ec wv wk fs')::SlT lneE fs' (Ker.gones xs.reverse k).1::KerA bk (Ker.gones xs.reverse k).2::BlkA c0 [.pointer (some ⟨bd,0,none⟩)]::ObjA D (.deferred (some []))::R) from hO.sub) fun w' h=>⟨rfl,h.sub⟩
 rw[←S.qdx1] at hZ;refine wpIn_wide.2 (wp_mono (vc_sound (ds:=[{ target:= .collected D,args:= #[]}]) (n:=66) names_ok follows_ok codeZ codeZAn _ (fun _ _ _=>False) _ (nth [.pointer (some ⟨bd,0,none⟩), .pointer (some ⟨c0,0,none⟩), .z 0, .slice s.a s.len s.cap]) _ V (by kernel_rfl) ?_ hZ) ?_)
 ·refine ⟨hs3,rfl,fun t v ht=>?_⟩
  rw[nth_eq] at ht
  match t,ht with
  |0,ht=>simp at ht;subst ht;exact k0
  |1,ht=>simp at ht;subst ht;exact k1
  |2,ht=>simp at ht;subst ht;exact k2
  |3,ht=>simp at ht;subst ht;exact k3
  |t+4,ht=>simp at ht
 have fin:∀(a:Act) (w':World),At [{ target:= .collected D,args:= #[]}] 66 (dm codeZ) { tmps:=t3,defers:=[{ target:= .collected D,args:= #[]}]} (fun e w'=>resL Tryz.prog codeZF.results.toList e w' [] fun vs=>appE codeZCs (fun r w'=>r=0/\Vc.Own B w0 w' (ObjA D (.deferred (some []))::BlkA bd (dcells bk d ec (xs.length:Int) wk fs')::SlT lneE fs' (Ker.gones xs.reverse k).1::KerA bk (if d.c.kind=1 then (Ker.gones xs.reverse k).2.resetU d.c.obj else (Ker.gones xs.reverse k).2)::R)) (nth vs) w') a w'->
   LeavesInM Fence.wide 4 Tryz.prog Tryz.f123 a.tmps (fun en w'=>∃r2:Int,en= .returned (.z r2)/\K r2 w') a.defers .returning w':=by
  rintro ⟨t4,d4⟩ w' ⟨_,e,⟨hs,hd,hr⟩,hN⟩;obtain ⟨vs,hv1,hv2,hN⟩:=resTmp [2] [] _ hN;obtain ⟨r,hr0,rfl,hO⟩:=appC hN;obtain ⟨v',e1,e2⟩:=hv2 0 2 rfl;rw[nth_eq] at hr0;simp only[List.reverse_nil,List.nil_append] at hr0;rw[e1] at hr0;cases hr0;have hr2:=hr 2 _ e2;dsimp only at hd hr2⊢;subst hd;refine ⟨by simp, .inl ⟨D,_,rfl,run_takeDeferred hO.obj,?_⟩⟩;have hO:=(hO.putObj (.deferred none)).drop;refine ⟨_,results_tmp rfl _ _ _,0,?_,hK fs' _ ?_⟩
  ·rw[hr2]
  ·exact hO
 intro en a4 w4 hq;cases en with
 |normal=>exact fin a4 w4 hq
 |ret=>exact fin a4 w4 hq
 |exit i=>obtain ⟨_,_,_,h⟩:=hq;exact h.elim
 |goto l=>exact hq.elim
 |panic ch=>exact hq.elim
 |outgrown=>exact hq.elim
end
end Go.Proofs.YtogmbmdbgkopjaaGreat
end
section
set_option maxRecDepth 8000
namespace Go.Proofs.YtogmbmdbgkopjaaGreat
open Go Go.Vc Go.Proofs
def needC:List Value:=[.z (1:Int), .z (0:Int), .z (0:Int), .z (0:Int), .z (0:Int), .z (0:Int), .z (0:Int), .z (0:Int), .z (0:Int), .z (0:Int), .z (3:Int), .z (0:Int), .z (3:Int), .z (0:Int), .z (3:Int), .z (0:Int), .z (4:Int), .z (2:Int), .z (4:Int), .z (1:Int), .z (5:Int), .z (2:Int), .z (5:Int), .z (1:Int), .z (7:Int), .z (0:Int), .z (6:Int), .z (0:Int), .z (8:Int), .z (0:Int), .z (9:Int), .z (0:Int), .z (9:Int), .z (0:Int), .z (0:Int), .z (0:Int)]
theorem need_at:∀n:Nat,n<18->(needC.drop (n*2)).take 2= [.z (Ker.needK (n:Int)).1, .z (Ker.needK (n:Int)).2]
 |0,_=>rfl|1,_=>rfl|2,_=>rfl|3,_=>rfl|4,_=>rfl|5,_=>rfl|6,_=>rfl|7,_=>rfl|8,_=>rfl
 |9,_=>rfl|10,_=>rfl|11,_=>rfl|12,_=>rfl|13,_=>rfl|14,_=>rfl|15,_=>rfl|16,_=>rfl|17,_=>rfl
 |n+18,h=>absurd h (by omega)
section
variable {B:Nat} {w0 w:World} {R L:List Asn} {bd bk:Nat} {k:Ker} {d:Dng} {ec wv wk:Int} {fs:Sl} {N:Nat}
theorem needs_spec {ask:Int} {K:Int->Int->Pw} (h0:0≤ask) (h1:ask<18) (h:Vc.Own B w0 w R) (hK:∀w',Vc.Own B w0 w' R->K (Ker.needK ask).1 (Ker.needK ask).2 w'):C.qcJ ask K w:=by
 apply S.qcJ0;obtain ⟨n,rfl⟩:=Int.eq_ofNat_of_zero_le h0;refine h.al fun w1 h=>?_
 generalize w.heap.size=c0 at h⊢;refine h.al fun w2 h=>?_
 generalize w1.heap.size=c1 at h⊢;refine h.stLc rfl rfl fun w h=>?_
 have h:Vc.Own B w0 w (BlkA c1 needC::BlkA c0 [.z 0, .z 0]::R):=h;refine ⟨h0,h1,?_⟩;refine LdL_add (h.lc_2 (o:=0+(n:Int).toNat*2) (c0:= .i .i64) (c1:= .i .i64) (x0:=(Ker.needK (n:Int)).1) (x1:=(Ker.needK (n:Int)).2) ?_ ?_)
 ·rw[Nat.zero_add]
  exact need_at n (by omega)
 refine h.stLc rfl rfl fun w h=>?_
 (try dsimp only[putAt,List.set_cons_zero,List.set_cons_succ] at h)
 refine h.lc_2 rfl ?_;exact hK w h.sub
def askT:List (Int × Nat):=[(0,119),(1,120),(2,121),(3,122),(4,123),(5,124),(6,125),(7,126),
 (8,127),(9,128),(10,129),(11,130),(12,131),(13,132),(14,133),(15,134),(16,135)]
def methV (bd:Nat) (f:Nat):Value:= .func (.func f) #[.pointer (some ⟨bd,0,none⟩)] #[]
theorem asked_main {K:Int->Pw} {m:Nat} (hk:KOk N k) (hN:N+64≤100000) (hcore:k.t.isC d.core=true) (hH:k.H d.s=some d.c) (hr:Sl.CapR d.c) (ho:k.objOk d.c) (ha0:0≤d.call.ask) (ha1:d.call.ask<17)
  (hkind:(Ker.needK d.call.ask).1≠0->d.c.kind=(Ker.needK d.call.ask).1) (hw0: -9223372036854775808≤d.call.with_) (hw1:d.call.with_<9223372036854775808)
  (h:Vc.Own B w0 w (MapA (Value.int .i64) (methV bd) m askT::BlkA bd (dcells bk d 0 0 (-1) ⟨none,0,0⟩)::SlT lneE ⟨none,0,0⟩ []::KerA bk k::R))
  (hK:∀fs' w',Vc.Own B w0 w' (BlkA bd (dcells bk d 0 (k.asks d).1.w (k.asks d).1.wakes fs')::SlT lneE fs' (k.asks d).1.forget::KerA bk (k.asks d).2::R)->K (k.asks d).1.e w'):
  ∃t50:Value,Lk1 Tryz.prog 217 (.map (some m)) (.z d.call.ask) t50 w/\CallV Tryz.prog t50 [] w fun en w'=>∃r:Int,en= .returned (.z r)/\K r w':=by
 have hN2:N≤200000:=by omega
 have hsome:(k.H d.s).isSome=true:=by rw[hH];rfl
 have hlook:∀f,mget askT d.call.ask=some f->Lk1 Tryz.prog 217 (.map (some m)) (.z d.call.ask) (methV bd f) w:=fun f hf=>
  (h.mlook (enc:=Value.int .i64) (encV:=methV bd) Tryz.underlying217 (keyOk_int .i64 Tryz.underlying3) 0 rfl hf).2
 have hask:d.call.ask=0∨d.call.ask=1∨d.call.ask=2∨d.call.ask=3∨d.call.ask=4∨d.call.ask=5∨d.call.ask=6∨d.call.ask=7∨d.call.ask=8∨d.call.ask=9∨d.call.ask=10∨d.call.ask=11∨d.call.ask=12∨d.call.ask=13∨d.call.ask=14∨d.call.ask=15∨d.call.ask=16:=by omega
 rcases hask with e|e|e|e|e|e|e|e|e|e|e|e|e|e|e|e|e
 ·refine ⟨methV bd 119,hlook _ (by rw[e];rfl),callV_mk ?_⟩
  show C.qaD (some ⟨bd,0,none⟩) K w;have hkd:(Ker.needK 0).1≠0->d.c.kind=(Ker.needK 0).1:=by rw[e] at hkind;exact hkind
  have hkd:=hkd (by decide)
  have ea:k.asks d=Ker.tell (k.retype d).1 (k.retype d).2:=by
   unfold Ker.asks;rw[e];rfl
  rw[ea] at hK
  try dsimp only[Ker.tell,Ker.tellW] at hK
  exact retype_spec hk hN hsome (hkd) ho hcore hw0 hw1 (show Vc.Own B w0 w (BlkA bd (dcells bk d 0 0 (-1) ⟨none,0,0⟩)::KerA bk k::SlT lneE ⟨none,0,0⟩ []::R) from h.sub) fun w' h=>hK ⟨none,0,0⟩ w' h.sub
 ·refine ⟨methV bd 120,hlook _ (by rw[e];rfl),callV_mk ?_⟩
  show C.qbk (some ⟨bd,0,none⟩) K w;have hkd:(Ker.needK 1).1≠0->d.c.kind=(Ker.needK 1).1:=by rw[e] at hkind;exact hkind
  have ea:k.asks d=Ker.tell (k.mint d).1 (k.mint d).2:=by
   unfold Ker.asks;rw[e];rfl
  rw[ea] at hK
  try dsimp only[Ker.tell,Ker.tellW] at hK
  exact mint_spec hk hr hw0 hw1 (show Vc.Own B w0 w (BlkA bd (dcells bk d 0 0 (-1) ⟨none,0,0⟩)::KerA bk k::SlT lneE ⟨none,0,0⟩ []::R) from h.sub) fun w' h=>hK ⟨none,0,0⟩ w' h.sub
 ·refine ⟨methV bd 121,hlook _ (by rw[e];rfl),callV_mk ?_⟩
  show C.qbl (some ⟨bd,0,none⟩) K w;have hkd:(Ker.needK 2).1≠0->d.c.kind=(Ker.needK 2).1:=by rw[e] at hkind;exact hkind
  have ea:k.asks d=Ker.tell (k.move d).1 (k.move d).2:=by
   unfold Ker.asks;rw[e];rfl
  rw[ea] at hK
  try dsimp only[Ker.tell,Ker.tellW] at hK
  exact move_spec hk hw0 hw1 (show Vc.Own B w0 w (BlkA bd (dcells bk d 0 0 (-1) ⟨none,0,0⟩)::KerA bk k::SlT lneE ⟨none,0,0⟩ []::R) from h.sub) fun w' h=>hK ⟨none,0,0⟩ w' h.sub
 ·refine ⟨methV bd 122,hlook _ (by rw[e];rfl),callV_mk ?_⟩
  show C.qaE (some ⟨bd,0,none⟩) K w;have hkd:(Ker.needK 3).1≠0->d.c.kind=(Ker.needK 3).1:=by rw[e] at hkind;exact hkind
  have ea:k.asks d=if d.call.at_=0 then Ker.tell 181 k else (⟨0,0, -1,(k.gone d.s).1⟩,(k.gone d.s).2):=by
   unfold Ker.asks;rw[e];rfl
  rw[ea] at hK
  try dsimp only[Ker.tell,Ker.tellW] at hK
  refine delete_spec hk hN2 hsome (show Vc.Own B w0 w (BlkA bd (dcells bk d 0 0 (-1) ⟨none,0,0⟩)::SlT lneE ⟨none,0,0⟩ []::KerA bk k::R) from h.sub) (fun e0 w' h=>?_) (fun e0 fs' w' h=>?_)
  ·rw[if_pos e0] at hK;exact hK ⟨none,0,0⟩ w' h.sub
  ·rw[if_neg e0] at hK;exact hK fs' w' h.sub
 ·refine ⟨methV bd 123,hlook _ (by rw[e];rfl),callV_mk ?_⟩
  show C.qdn (some ⟨bd,0,none⟩) K w;have hkd:(Ker.needK 4).1≠0->d.c.kind=(Ker.needK 4).1:=by rw[e] at hkind;exact hkind
  have ea:k.asks d=k.revoke d:=by
   unfold Ker.asks;rw[e];rfl
  rw[ea] at hK
  try dsimp only[Ker.tell,Ker.tellW] at hK
  exact revoke_spec hk hN2 ho (show Vc.Own B w0 w (BlkA bd (dcells bk d 0 0 (-1) ⟨none,0,0⟩)::SlT lneE ⟨none,0,0⟩ []::KerA bk k::R) from h.sub) fun fs' w' h=>hK fs' w' h
 ·refine ⟨methV bd 124,hlook _ (by rw[e];rfl),callV_mk ?_⟩
  show C.qaF (some ⟨bd,0,none⟩) K w;have hkd:(Ker.needK 5).1≠0->d.c.kind=(Ker.needK 5).1:=by rw[e] at hkind;exact hkind
  have hkd:=hkd (by decide)
  have ea:k.asks d=Ker.tellW (k.resume d):=by
   unfold Ker.asks;rw[e];rfl
  rw[ea] at hK
  try dsimp only[Ker.tell,Ker.tellW] at hK
  exact resume_spec hk hN2 (show Vc.Own B w0 w (BlkA bd (dcells bk d 0 0 (-1) ⟨none,0,0⟩)::KerA bk k::SlT lneE ⟨none,0,0⟩ []::R) from h.sub) fun w' h=>hK ⟨none,0,0⟩ w' h.sub
 ·refine ⟨methV bd 125,hlook _ (by rw[e];rfl),callV_mk ?_⟩
  show C.qau (some ⟨bd,0,none⟩) K w;have hkd:(Ker.needK 6).1≠0->d.c.kind=(Ker.needK 6).1:=by rw[e] at hkind;exact hkind
  have hkd:=hkd (by decide)
  have ea:k.asks d=Ker.tell (k.t.suspendR d.c.obj).1 ((k.freed d.c.obj).setT (k.t.suspendR d.c.obj).2):=by
   unfold Ker.asks;rw[e];rfl
  rw[ea] at hK
  try dsimp only[Ker.tell,Ker.tellW] at hK
  exact suspend_spec hk hN2 (show Vc.Own B w0 w (BlkA bd (dcells bk d 0 0 (-1) ⟨none,0,0⟩)::KerA bk k::SlT lneE ⟨none,0,0⟩ []::R) from h.sub) fun w' h=>hK ⟨none,0,0⟩ w' h.sub
 ·refine ⟨methV bd 126,hlook _ (by rw[e];rfl),callV_mk ?_⟩
  show C.qbm (some ⟨bd,0,none⟩) K w;have hkd:(Ker.needK 7).1≠0->d.c.kind=(Ker.needK 7).1:=by rw[e] at hkind;exact hkind
  have hkd:=hkd (by decide)
  have ea:k.asks d=Ker.tell (k.t.prioR d.c.obj d.call.a).1 (k.setT (k.t.prioR d.c.obj d.call.a).2):=by
   unfold Ker.asks;rw[e];rfl
  rw[ea] at hK
  try dsimp only[Ker.tell,Ker.tellW] at hK
  exact prio_spec hk.inv.ok (show Vc.Own B w0 w (BlkA bd (dcells bk d 0 0 (-1) ⟨none,0,0⟩)::KerA bk k::SlT lneE ⟨none,0,0⟩ []::R) from h.sub) fun w' h=>hK ⟨none,0,0⟩ w' h.sub
 ·refine ⟨methV bd 127,hlook _ (by rw[e];rfl),callV_mk ?_⟩
  show C.qbn (some ⟨bd,0,none⟩) K w;have hkd:(Ker.needK 8).1≠0->d.c.kind=(Ker.needK 8).1:=by rw[e] at hkind;exact hkind
  have hkd:=hkd (by decide)
  have ea:k.asks d=k.send d:=by
   unfold Ker.asks;rw[e];rfl
  rw[ea] at hK
  try dsimp only[Ker.tell,Ker.tellW] at hK
  have t1:(k.send d).1.w=0/\(k.send d).1.forget= []:=by
   unfold Ker.send Ker.tell Ker.tellW;split
   ·exact ⟨rfl,rfl⟩
   split
   ·exact ⟨rfl,rfl⟩
   ·exact ⟨rfl,rfl⟩
  rw[t1.1,t1.2] at hK;exact send_spec hk hN2 ho.1 (ho.2.2.2.2.1 (hkd)) (show Vc.Own B w0 w (BlkA bd (dcells bk d 0 0 (-1) ⟨none,0,0⟩)::KerA bk k::SlT lneE ⟨none,0,0⟩ []::R) from h.sub) fun w' h=>hK ⟨none,0,0⟩ w' h.sub
 ·refine ⟨methV bd 128,hlook _ (by rw[e];rfl),callV_mk ?_⟩
  show C.qbo (some ⟨bd,0,none⟩) K w;have hkd:(Ker.needK 9).1≠0->d.c.kind=(Ker.needK 9).1:=by rw[e] at hkind;exact hkind
  have hkd:=hkd (by decide)
  have ea:k.asks d=k.recv d:=by
   unfold Ker.asks;rw[e];rfl
  rw[ea] at hK
  try dsimp only[Ker.tell,Ker.tellW] at hK
  have t1:(k.recv d).1.w=0/\(k.recv d).1.forget= []:=by
   unfold Ker.recv Ker.tell Ker.tellW;split
   ·exact ⟨rfl,rfl⟩
   split
   ·exact ⟨rfl,rfl⟩
   ·exact ⟨rfl,rfl⟩
  rw[t1.1,t1.2] at hK;exact recv_spec hk hN2 ho.1 (ho.2.2.2.2.1 (hkd)) (show Vc.Own B w0 w (BlkA bd (dcells bk d 0 0 (-1) ⟨none,0,0⟩)::KerA bk k::SlT lneE ⟨none,0,0⟩ []::R) from h.sub) fun w' h=>hK ⟨none,0,0⟩ w' h.sub
 ·refine ⟨methV bd 129,hlook _ (by rw[e];rfl),callV_mk ?_⟩
  show C.qaf (some ⟨bd,0,none⟩) K w;have hkd:(Ker.needK 10).1≠0->d.c.kind=(Ker.needK 10).1:=by rw[e] at hkind;exact hkind
  have hkd:=hkd (by decide)
  have ea:k.asks d=(⟨0,0,(k.signal d.c.obj d.c.badge).1,[]⟩,(k.signal d.c.obj d.c.badge).2):=by
   unfold Ker.asks;rw[e];rfl
  rw[ea] at hK
  try dsimp only[Ker.tell,Ker.tellW] at hK
  exact signalled_spec hk hN2 ho.1 (ho.2.2.2.2.2.1 (hkd)) (show Vc.Own B w0 w (BlkA bd (dcells bk d 0 0 (-1) ⟨none,0,0⟩)::KerA bk k::SlT lneE ⟨none,0,0⟩ []::R) from h.sub) fun w' h=>hK ⟨none,0,0⟩ w' h.sub
 ·refine ⟨methV bd 130,hlook _ (by rw[e];rfl),callV_mk ?_⟩
  show C.qbp (some ⟨bd,0,none⟩) K w;have hkd:(Ker.needK 11).1≠0->d.c.kind=(Ker.needK 11).1:=by rw[e] at hkind;exact hkind
  have hkd:=hkd (by decide)
  have ea:k.asks d=k.wait d:=by
   unfold Ker.asks;rw[e];rfl
  rw[ea] at hK
  try dsimp only[Ker.tell,Ker.tellW] at hK
  have t1:(k.wait d).1.wakes= -1/\(k.wait d).1.forget= []:=by
   unfold Ker.wait Ker.tell;split
   ·exact ⟨rfl,rfl⟩
   ·exact ⟨rfl,rfl⟩
  rw[t1.1,t1.2] at hK;exact wait_spec hk hN2 ho.1 (ho.2.2.2.2.2.1 (hkd)) (show Vc.Own B w0 w (BlkA bd (dcells bk d 0 0 (-1) ⟨none,0,0⟩)::KerA bk k::SlT lneE ⟨none,0,0⟩ []::R) from h.sub) fun w' h=>hK ⟨none,0,0⟩ w' h.sub
 ·refine ⟨methV bd 131,hlook _ (by rw[e];rfl),callV_mk ?_⟩
  show C.qaT (some ⟨bd,0,none⟩) K w;have hkd:(Ker.needK 12).1≠0->d.c.kind=(Ker.needK 12).1:=by rw[e] at hkind;exact hkind
  have hkd:=hkd (by decide)
  have ea:k.asks d=k.table d:=by
   unfold Ker.asks;rw[e];rfl
  rw[ea] at hK
  try dsimp only[Ker.tell,Ker.tellW] at hK
  have t1:(k.table d).1.w=0/\(k.table d).1.wakes= -1/\(k.table d).1.forget= []:=by
   unfold Ker.table Ker.tell;split
   ·exact ⟨rfl,rfl,rfl⟩
   ·exact ⟨rfl,rfl,rfl⟩
  rw[t1.1,t1.2.1,t1.2.2] at hK;exact table_spec hk (show Vc.Own B w0 w (BlkA bd (dcells bk d 0 0 (-1) ⟨none,0,0⟩)::KerA bk k::SlT lneE ⟨none,0,0⟩ []::R) from h.sub) fun w' h=>hK ⟨none,0,0⟩ w' h.sub
 ·refine ⟨methV bd 132,hlook _ (by rw[e];rfl),callV_mk ?_⟩
  show C.qaG (some ⟨bd,0,none⟩) K w;have hkd:(Ker.needK 13).1≠0->d.c.kind=(Ker.needK 13).1:=by rw[e] at hkind;exact hkind
  have hkd:=hkd (by decide)
  have ea:k.asks d=k.mapped d:=by
   unfold Ker.asks;rw[e];rfl
  rw[ea] at hK
  try dsimp only[Ker.tell,Ker.tellW] at hK
  have t1:(k.mapped d).1.w=0/\(k.mapped d).1.wakes= -1/\(k.mapped d).1.forget= []:=by
   unfold Ker.mapped Ker.tell;split
   ·exact ⟨rfl,rfl,rfl⟩
   ·exact ⟨rfl,rfl,rfl⟩
  rw[t1.1,t1.2.1,t1.2.2] at hK;exact mapped_spec hk (show Vc.Own B w0 w (BlkA bd (dcells bk d 0 0 (-1) ⟨none,0,0⟩)::KerA bk k::SlT lneE ⟨none,0,0⟩ []::R) from h.sub) fun w' h=>hK ⟨none,0,0⟩ w' h.sub
 ·refine ⟨methV bd 133,hlook _ (by rw[e];rfl),callV_mk ?_⟩
  show C.qaU (some ⟨bd,0,none⟩) K w;have hkd:(Ker.needK 14).1≠0->d.c.kind=(Ker.needK 14).1:=by rw[e] at hkind;exact hkind
  have hkd:=hkd (by decide)
  have ea:k.asks d=k.unmap d:=by
   unfold Ker.asks;rw[e];rfl
  rw[ea] at hK
  try dsimp only[Ker.tell,Ker.tellW] at hK
  exact unmap_spec hk ho.1 (ho.2.2.2.2.2.2.2.2.1 (hkd)) (show Vc.Own B w0 w (BlkA bd (dcells bk d 0 0 (-1) ⟨none,0,0⟩)::SlT lneE ⟨none,0,0⟩ []::KerA bk k::R) from h.sub) fun fs' w' h=>hK fs' w' h
 ·refine ⟨methV bd 134,hlook _ (by rw[e];rfl),callV_mk ?_⟩
  show C.qbq (some ⟨bd,0,none⟩) K w;have hkd:(Ker.needK 15).1≠0->d.c.kind=(Ker.needK 15).1:=by rw[e] at hkind;exact hkind
  have hkd:=hkd (by decide)
  have ea:k.asks d=k.bind d:=by
   unfold Ker.asks;rw[e];rfl
  rw[ea] at hK
  try dsimp only[Ker.tell,Ker.tellW] at hK
  have t1:(k.bind d).1.w=0/\(k.bind d).1.wakes= -1/\(k.bind d).1.forget= []:=by
   unfold Ker.bind Ker.tell;split
   ·exact ⟨rfl,rfl,rfl⟩
   ·exact ⟨rfl,rfl,rfl⟩
  rw[t1.1,t1.2.1,t1.2.2] at hK;exact bind_spec hk (show Vc.Own B w0 w (BlkA bd (dcells bk d 0 0 (-1) ⟨none,0,0⟩)::KerA bk k::SlT lneE ⟨none,0,0⟩ []::R) from h.sub) fun w' h=>hK ⟨none,0,0⟩ w' h.sub
 ·refine ⟨methV bd 135,hlook _ (by rw[e];rfl),callV_mk ?_⟩
  show C.qbC (some ⟨bd,0,none⟩) K w;have hkd:(Ker.needK 16).1≠0->d.c.kind=(Ker.needK 16).1:=by rw[e] at hkind;exact hkind
  have hkd:=hkd (by decide)
  have ea:k.asks d=Ker.tellW (k.lined (ackL k.ln d.c.obj)):=by
   unfold Ker.asks;rw[e];rfl
  rw[ea] at hK
  try dsimp only[Ker.tell,Ker.tellW] at hK
  exact ack_spec hk hN2 (show Vc.Own B w0 w (BlkA bd (dcells bk d 0 0 (-1) ⟨none,0,0⟩)::KerA bk k::SlT lneE ⟨none,0,0⟩ []::R) from h.sub) fun w' h=>hK ⟨none,0,0⟩ w' h.sub
set_option maxHeartbeats 1000000 in
theorem asked_spec {core cur:Int} {c:Call} {K:Int->Pw} (hk:KOk N k) (hN:N+64≤100000) (hcore:k.t.isC core=true) (ha0:0≤c.ask) (ha1:c.ask<17)
  (hw0: -9223372036854775808≤c.with_) (hw1:c.with_<9223372036854775808)
  (h:Vc.Own B w0 w (BlkA bd (dcells bk ⟨core,cur,c,(0,0),Sl.zeroCap⟩ 0 0 (-1) ⟨none,0,0⟩)::SlT lneE ⟨none,0,0⟩ []::KerA bk k::R))
  (hK:∀d' fs' w',Vc.Own B w0 w' (BlkA bd (dcells bk d' 0 (k.asked core cur c).1.w (k.asked core cur c).1.wakes fs')::SlT lneE fs' (k.asked core cur c).1.forget::KerA bk (k.asked core cur c).2::R)->K (k.asked core cur c).1.e w'):
  C.qaQ (some ⟨bd,0,none⟩) K w:=by
 apply S.qaQ0;unfold Ker.asked at hK;refine ⟨_,rfl,_,h.ldd rfl,?_⟩;refine needs_spec (ask:=c.ask) ha0 (by omega) h fun w h=>?_
 have hask:(Ker.needK c.ask).1=(Ker.needK c.ask).1:=rfl;refine h.al fun w1 h=>?_
 generalize w.heap.size=nb at h⊢;refine h.stLc rfl rfl fun w h=>?_
 (try dsimp only[putAt,List.set_cons_zero,List.set_cons_succ] at h)
 intro k9 hk9
 have hbad:k.heldB c.at_ (Ker.needK c.ask).1=false->∀(sb cb:Addr) (w:World),Vc.Own B w0 w (BlkA bd (dcells bk ⟨core,cur,c,(0,0),Sl.zeroCap⟩ 0 0 (-1) ⟨none,0,0⟩)::SlT lneE ⟨none,0,0⟩ []::KerA bk k::R)->k9 sb cb false w:=fun hB sb cb w h=>by
  rw[if_pos hB] at hK;apply hk9;intro k14 hk14;have hfin:k14 true w:=hk14 _ _ (cbT rfl (hK _ _ w h));exact cbT rfl hfin
 have hgood:k.heldB c.at_ (Ker.needK c.ask).1=true->∀(sb cb:Nat) (cc:Cap) (w:World),cc=k.capAt c.at_->Vc.Own B w0 w (BlkA sb [.z 0, .z c.at_]::BlkA cb [.z cc.kind, .z cc.obj, .z cc.rights, .y cc.badge, .y cc.guard, .z cc.bits]::BlkA nb [.z (Ker.needK c.ask).1, .z (Ker.needK c.ask).2]::BlkA bd (dcells bk ⟨core,cur,c,(0,0),Sl.zeroCap⟩ 0 0 (-1) ⟨none,0,0⟩)::SlT lneE ⟨none,0,0⟩ []::KerA bk k::R)->k9 ⟨sb,0,none⟩ ⟨cb,0,none⟩ true w:=fun hB sb cb cc w hcc h=>by
  subst hcc;rw[if_neg (by rw[hB];decide)] at hK;obtain ⟨hb1,hb2⟩:=heldB_out hB;obtain ⟨_,hH,ho,hcr,_⟩:=hk.cap hb1;apply hk9;intro k14 hk14;refine cbF rfl ⟨_,h.ldd rfl,_,h.ldd rfl,_,h.ldd rfl,?_⟩;apply hk14;refine cne (fun e=>?_) (fun e=>?_)
  ·rw[if_pos e] at hK
   exact hK ⟨core,cur,c,(0,0),Sl.zeroCap⟩ ⟨none,0,0⟩ w (show Vc.Own B w0 w (BlkA bd (dcells bk ⟨core,cur,c,(0,0),Sl.zeroCap⟩ 0 0 (-1) ⟨none,0,0⟩)::SlT lneE ⟨none,0,0⟩ []::KerA bk k::R) from h.sub)
  rw[if_neg (by rw[e];exact fun hh=>hh rfl)] at hK;refine h.dr fun w h=>?_
  refine h.lc_2 rfl ⟨_,rfl,?_⟩;refine h.lc_6 rfl ⟨?_,trivial⟩;refine StL_add (h.stLc rfl rfl fun w h=>?_)
  (try dsimp only[putAt,List.set_cons_zero,List.set_cons_succ] at h)
  refine h.hd rfl ⟨_,rfl,?_,trivial⟩;refine StL_add (h.stLc rfl rfl fun w h=>?_)
  (try dsimp only[putAt,List.set_cons_zero,List.set_cons_succ] at h)
  have h:Vc.Own B w0 w (BlkA bd (dcells bk ⟨core,cur,c,(0,c.at_),k.capAt c.at_⟩ 0 0 (-1) ⟨none,0,0⟩)::SlT lneE ⟨none,0,0⟩ []::KerA bk k::R):=h.sub;refine h.alMap (Value.int .i64) (methV bd) fun w1 h=>?_
  generalize w.heap.size=m at h⊢;refine h.mput (k:=(0:Int)) (v:=119) (enc:=Value.int .i64) (encV:=methV bd) Tryz.underlying217 (keyOk_int .i64 Tryz.underlying3) 0 rfl fun w h=>?_
  refine h.mput (k:=(1:Int)) (v:=120) (enc:=Value.int .i64) (encV:=methV bd) Tryz.underlying217 (keyOk_int .i64 Tryz.underlying3) 0 rfl fun w h=>?_
  refine h.mput (k:=(2:Int)) (v:=121) (enc:=Value.int .i64) (encV:=methV bd) Tryz.underlying217 (keyOk_int .i64 Tryz.underlying3) 0 rfl fun w h=>?_
  refine h.mput (k:=(3:Int)) (v:=122) (enc:=Value.int .i64) (encV:=methV bd) Tryz.underlying217 (keyOk_int .i64 Tryz.underlying3) 0 rfl fun w h=>?_
  refine h.mput (k:=(4:Int)) (v:=123) (enc:=Value.int .i64) (encV:=methV bd) Tryz.underlying217 (keyOk_int .i64 Tryz.underlying3) 0 rfl fun w h=>?_
  refine h.mput (k:=(5:Int)) (v:=124) (enc:=Value.int .i64) (encV:=methV bd) Tryz.underlying217 (keyOk_int .i64 Tryz.underlying3) 0 rfl fun w h=>?_
  refine h.mput (k:=(6:Int)) (v:=125) (enc:=Value.int .i64) (encV:=methV bd) Tryz.underlying217 (keyOk_int .i64 Tryz.underlying3) 0 rfl fun w h=>?_
  refine h.mput (k:=(7:Int)) (v:=126) (enc:=Value.int .i64) (encV:=methV bd) Tryz.underlying217 (keyOk_int .i64 Tryz.underlying3) 0 rfl fun w h=>?_
  refine h.mput (k:=(8:Int)) (v:=127) (enc:=Value.int .i64) (encV:=methV bd) Tryz.underlying217 (keyOk_int .i64 Tryz.underlying3) 0 rfl fun w h=>?_
  refine h.mput (k:=(9:Int)) (v:=128) (enc:=Value.int .i64) (encV:=methV bd) Tryz.underlying217 (keyOk_int .i64 Tryz.underlying3) 0 rfl fun w h=>?_
  refine h.mput (k:=(10:Int)) (v:=129) (enc:=Value.int .i64) (encV:=methV bd) Tryz.underlying217 (keyOk_int .i64 Tryz.underlying3) 0 rfl fun w h=>?_
  refine h.mput (k:=(11:Int)) (v:=130) (enc:=Value.int .i64) (encV:=methV bd) Tryz.underlying217 (keyOk_int .i64 Tryz.underlying3) 0 rfl fun w h=>?_
  refine h.mput (k:=(12:Int)) (v:=131) (enc:=Value.int .i64) (encV:=methV bd) Tryz.underlying217 (keyOk_int .i64 Tryz.underlying3) 0 rfl fun w h=>?_
  refine h.mput (k:=(13:Int)) (v:=132) (enc:=Value.int .i64) (encV:=methV bd) Tryz.underlying217 (keyOk_int .i64 Tryz.underlying3) 0 rfl fun w h=>?_
  refine h.mput (k:=(14:Int)) (v:=133) (enc:=Value.int .i64) (encV:=methV bd) Tryz.underlying217 (keyOk_int .i64 Tryz.underlying3) 0 rfl fun w h=>?_
  refine h.mput (k:=(15:Int)) (v:=134) (enc:=Value.int .i64) (encV:=methV bd) Tryz.underlying217 (keyOk_int .i64 Tryz.underlying3) 0 rfl fun w h=>?_
  refine h.mput (k:=(16:Int)) (v:=135) (enc:=Value.int .i64) (encV:=methV bd) Tryz.underlying217 (keyOk_int .i64 Tryz.underlying3) 0 rfl fun w h=>?_
  have h:Vc.Own B w0 w (MapA (Value.int .i64) (methV bd) m askT::BlkA bd (dcells bk ⟨core,cur,c,(0,c.at_),k.capAt c.at_⟩ 0 0 (-1) ⟨none,0,0⟩)::SlT lneE ⟨none,0,0⟩ []::KerA bk k::R):=h;refine ⟨_,rfl,_,h.ldd rfl,?_⟩;exact asked_main (d:=⟨core,cur,c,(0,c.at_),k.capAt c.at_⟩) hk hN hcore hH hcr ho ha0 ha1 hb2 hw0 hw1 h fun fs' w' h=>hK _ fs' w' h
 refine h.dr fun w h=>?_
 refine ⟨_,rfl,_,h.ldc rfl,_,rfl,_,ld_add (h.ldd rfl),_,h.ldc rfl,?_⟩
 (repeat' (first|exact trivial|(exact hbad (by assumption) _ _ _ h.sub)|(exact hgood (by assumption) _ _ _ _ (by assumption) h.sub)|(refine held_spec hk (h.pick (A:=KerA bk k)) (fun hB s c w h=>?_) (fun hB w c hc h=>?_))|(refine h.al fun w h=>?_)|(refine h.dr fun w h=>?_)|(refine h.lc_2 rfl ?_)|(refine h.lc_6 rfl ?_)|(refine ⟨_,h.ldc rfl,?_⟩)|(refine ⟨_,h.ldd rfl,?_⟩)|(refine h.hd rfl ?_)|(refine ⟨h.ldc rfl,?_⟩)|(refine ⟨h.ldd rfl,?_⟩)|((refine h.stLc rfl rfl fun w h=>?_);(try dsimp only[putAt,List.set_cons_zero,List.set_cons_succ] at h))|(refine exs ?_)|(refine _root_.Go.Vc.a2 ?_)|(refine h.stc rfl rfl fun w h=>?_)|(refine h.std rfl rfl fun w h=>?_)|(refine And.intro ?_ ?_)))
end
theorem and7 (x:Int) (y:Int) (hy:0≤y/\y≤7):0≤andI .i64 x y/\andI .i64 x y≤7:=by
 obtain ⟨m,rfl⟩:=Int.eq_ofNat_of_zero_le hy.1;obtain ⟨p,hp,e⟩:=Sl.andle x m (by omega);rw[e];omega
theorem capBad_iff {c:Cap}:Sl.capBad c=false↔((0<c.kind/\c.kind<10)/\0≤c.obj/\c.obj<2147483648)/\(0≤c.rights/\c.rights≤7)/\Sl.guardB c.guard c.bits=true/\(Sl.limitedB c.kind=false->c.rights=7)/\(c.badge≠0->Sl.badgedB c.kind=true)/\(c.bits≠0->c.kind=2):=by
 unfold Sl.capBad;simp only[Bool.or_eq_false_iff,Bool.not_eq_false',Bool.and_eq_true,decide_eq_true_eq,Bool.and_eq_false_imp,bne_iff_ne,ne_eq,bne_eq_false_iff_eq,Bool.not_eq_true',and_assoc]
theorem capErr0 {c:Cap} (h:Sl.capBad c=false):Sl.capErr c=0:=by
 unfold Sl.capErr;rw[h];split
 ·rfl
 ·rfl
theorem mintC_ok {c:Cap} {r g:Int} (hc:Sl.capErr c=0) (hm:(Ker.mintC c r g).2=0):Sl.capErr (Ker.mintC c r g).1=0/\(Ker.mintC c r g).1.kind=c.kind/\(Ker.mintC c r g).1.obj=c.obj/\c.kind≠0:=by
 unfold Ker.mintC at*
 rw[if_neg (by rw[hc];exact fun h=>h rfl)] at*
 by_cases hr:¬(0≤r/\r≤7)
 ·rw[if_pos hr] at hm;cases hm
 rw[if_neg hr] at hm⊢;by_cases h2:c.kind=0∨(g≠0/\(Sl.badgedB c.kind=false∨c.badge≠0))
 ·rw[if_pos h2] at hm;cases hm
 rw[if_neg h2];have hk:c.kind≠0:=fun e=>h2 (.inl e)
 refine ⟨?_,rfl,rfl,hk⟩;have hz:c≠Sl.zeroCap:=fun e=>hk (by rw[e];rfl)
 have hb:Sl.capBad c=false:=by
  unfold Sl.capErr at hc;rw[if_neg hz] at hc;cases e:Sl.capBad c with
  |false=>rfl
  |true=>rw[e,if_pos rfl] at hc;cases hc
 obtain ⟨b1,b2,b3,b4,b5,b6⟩:=capBad_iff.1 hb;have hr7:0≤r/\r≤7:=Decidable.byContradiction hr;have ha:=and7 c.rights r hr7
 have hb2:Sl.capBad { c with rights:=if Sl.limitedB c.kind then andI .i64 c.rights r else c.rights,badge:=if g≠0 then g else c.badge}=false:=by
  refine capBad_iff.2 ⟨b1,?_,b3,fun e=>?_,fun e=>?_,b6⟩
  ·dsimp only
   split
   ·exact ha
   ·exact b2
  ·dsimp only at e⊢
   rw[if_neg (by rw[e];decide)];exact b4 e
  ·dsimp only at e⊢
   by_cases e0:g≠0
   ·cases hh:Sl.badgedB c.kind with
    |true=>rfl
    |false=>exact absurd (.inr ⟨e0, .inl hh⟩) h2
   ·rw[if_neg e0] at e;exact b5 e
 exact capErr0 hb2
section
variable {N:Nat} {k:Ker} {d:Dng}
theorem freeK1 (hk:KOk N k) {w:Int} (hf:k.freeK w 1=0):0≤w/\w<64/\k.H (0,w)=none:=by
 obtain ⟨h1,h2,h3⟩:=hk.freeK_out hf;refine ⟨h1,by omega,?_⟩;have:=h3 0 (by omega);rw[show w+((0:Nat):Int)=w from by omega] at this;exact this
theorem KOk.mint (hk:KOk N k) (hs:k.H d.s=some d.c) (hr:Sl.CapR d.c) (ho:k.objOk d.c):KOk N (k.mint d).2:=by
 unfold Ker.mint;split
 ·exact hk
 split
 ·exact hk
 rename_i hf;split
 ·exact hk
 rename_i hm;obtain ⟨h1,h2,h3⟩:=freeK1 hk (Decidable.byContradiction hf);obtain ⟨_,he,_,_⟩:=hk.nok.held _ _ hs;obtain ⟨m1,m2,m3,m4⟩:=mintC_ok he (by omega:(Ker.mintC d.c d.call.a (IntKind.u64.wrap d.call.b)).2=0);refine (hk.laid (by rw[hs];rfl) ⟨rfl,h1,h2⟩ h3 m1 (by rw[m2];exact m4) (mintC_rng hr (wrap_u64_rng _)) ?_).1;unfold Ker.objOk at ho⊢;rw[m2,m3];exact ho
theorem KOk.move (hk:KOk N k) (hs:k.H d.s=some d.c):KOk N (k.move d).2:=by
 unfold Ker.move;split
 ·exact hk
 rename_i hf;obtain ⟨h1,h2,h3⟩:=freeK1 hk (Decidable.byContradiction hf);have hsl:=(hk.held _ _ hs).1;obtain ⟨i,hi⟩:=place_yes ((hk.mem d.s).2 (by rw[hs];rfl));obtain ⟨x,hx,hxs⟩:=Tr.place_some hi;have hno:Tr.placeN k.T (0,d.call.with_)=none:=place_no fun e=>by rw[hk.mem,h3] at e;cases e
 have hH:(Sl.moveN k.bits k.H d.s (0,d.call.with_)).2=Sl.updH (Sl.updH k.H d.s none) (0,d.call.with_) (some d.c):=by
  unfold Sl.moveN;rw[there0 hk.b0 hsl,there0 hk.b0 (s:=(0,d.call.with_)) ⟨rfl,h1,h2⟩,if_neg (by simp),hs];dsimp only;rw[h3,if_neg (by decide)]
 have hT:(Tr.moveN k.T d.s (0,d.call.with_)).2=k.T.set i ((0,d.call.with_),Tr.dOf k.T i):=by
  unfold Tr.moveN;rw[hi];dsimp only;rw[hno]
 obtain ⟨n1,n2,n3,n4⟩:=hk.nok.held _ _ hs;rw[hH,hT];have hgi:(k.T.map (·.1))[i]?=some d.s:=by rw[List.getElem?_map,hx];exact congrArg some hxs
 show KOk N { k with H:=Sl.updH (Sl.updH k.H d.s none) (0,d.call.with_) (some d.c),T:=k.T.set i ((0,d.call.with_),Tr.dOf k.T i)}
 refine { hk with
  nok:=(hk.nok.del d.s).put (there0 hk.b0 ⟨rfl,h1,h2⟩) n2 n3 n4
  held:=fun t c hc=>?_
  tok:=hk.tok.move hi hno
  mem:=fun t=>?_}
 ·have hc:Sl.updH (Sl.updH k.H d.s none) (0,d.call.with_) (some d.c) t=some c:=hc
  unfold Sl.updH at hc;split at hc
  ·rename_i e
   cases hc;rw[e];exact ⟨⟨rfl,h1,h2⟩,(hk.held _ _ hs).2⟩
  split at hc
  ·cases hc
  ·exact hk.held t c hc
 ·rw[List.map_set]
  have hnd:=hk.tok.nd;have hlt:=(List.getElem?_eq_some_iff.1 hgi).1;have hne:(0,d.call.with_)≠d.s:=fun e=>by rw[←e,h3] at hs;cases hs
  have hm:t∈(k.T.map (·.1)).set i (0,d.call.with_)↔t=(0,d.call.with_)∨(t∈k.T.map (·.1)/\t≠d.s):=by
   rw[List.set_eq_take_append_cons_drop,if_pos hlt,←Sl.mem_erase' hnd hgi,List.eraseIdx_eq_take_drop_succ];simp only[List.mem_append,List.mem_cons];constructor
   ·rintro (h|h|h)
    ·exact .inr (.inl h)
    ·exact .inl h
    ·exact .inr (.inr h)
   ·rintro (h|h|h)
    ·exact .inr (.inl h)
    ·exact .inl h
    ·exact .inr (.inr h)
  show t∈(k.T.map (·.1)).set i (0,d.call.with_)↔_;rw[hm,hk.mem];show _↔(Sl.updH (Sl.updH k.H d.s none) (0,d.call.with_) (some d.c) t).isSome=true;unfold Sl.updH;by_cases e1:t=(0,d.call.with_)
  ·simp[e1]
  ·rw[if_neg e1]
   by_cases e2:t=d.s
   ·rw[if_pos e2];simp[e2,hne.symm]
   ·rw[if_neg e2];simp[e1,e2]
theorem KOk.setS (hk:KOk N k) {n:Int} {m:Tb.Spc} (hm:Tb.SOk m):KOk N (k.setS n m):=
 hk.spaces (by rw[List.length_set]) fun y hy=>by
  rcases List.mem_or_eq_of_mem_set hy with hy|hy
  ·exact hk.sok y hy
  ·rw[hy];exact hm
theorem KOk.sAtOk (hk:KOk N k) (n:Int):Tb.SOk (k.sAt n):=by
 unfold Ker.sAt;cases e:k.spaces[n.toNat]? with
 |none=>exact Tb.SOk.new
 |some m=>exact hk.sok m (List.mem_of_getElem? e)
theorem KOk.resetU (hk:KOk N k) (n:Int):KOk N (k.resetU n):=by
 unfold Ker.resetU
 have hu:∀x∈k.u.set n.toNat { k.uAt n with used:=0},UOk x:=fun x hx=>by
  by_cases hlt:n.toNat<k.u.length
  ·rcases List.mem_or_eq_of_mem_set hx with hx|hx
   ·exact hk.u x hx
   ·have h1:UOk (k.uAt n):=by
     unfold Ker.uAt;rw[gE hlt];exact hk.u _ (List.getElem_mem _)
    rw[hx];exact ⟨h1.bits,h1.top,h1.dvd,Nat.zero_le _⟩
  ·rw[List.set_eq_of_length_le (by omega)] at hx
   exact hk.u x hx
 exact hk.ulift hu (by rw[List.length_set];exact Nat.le_refl _) (by rw[List.length_set];exact hk.nu)
theorem KOk.revoke (hk:KOk N k):KOk N (k.revoke d).2:=by
 have hnd:=under_nd (s:=d.s) hk.tok;have hheld:∀s∈Tr.underN k.T d.s,(k.H s).isSome=true:=fun s hs=>(hk.mem s).1 (under_in hs)
 obtain ⟨h1,_⟩:=gones_ok (Tr.underN k.T d.s).reverse k hk (List.pairwise_reverse.2 (hnd.imp Ne.symm)) (fun s hs=>hheld s (List.mem_reverse.1 hs));unfold Ker.revoke;dsimp only;split
 ·exact h1.resetU _
 ·exact h1
theorem KOk.send (hk:KOk N k) (h0:0≤d.c.obj) (h1:d.c.obj<(k.ends.length:Int)):KOk (N+1) (k.send d).2:=by
 obtain ⟨_,hl⟩:=hk.eAt h0 h1;have hse:=send_le (k.eAt d.c.obj) d.cur (Ker.msgOf d) (d.call.c !=0);have hE:=hk.setE (n:=d.c.obj) (p:=((k.eAt d.c.obj).send d.cur (Ker.msgOf d) (d.call.c !=0)).2.2) (by omega);unfold Ker.send;split
 ·exact hE
 split
 ·exact hE.rest
 ·exact hE.gets.woken _
theorem KOk.recv (hk:KOk N k) (h0:0≤d.c.obj) (h1:d.c.obj<(k.ends.length:Int)):KOk (N+1) (k.recv d).2:=by
 obtain ⟨_,hl⟩:=hk.eAt h0 h1;have hse:=recv_le (k.eAt d.c.obj) d.cur (d.call.c !=0);have hE:=hk.setE (n:=d.c.obj) (p:=((k.eAt d.c.obj).recv d.cur (d.call.c !=0)).2.2) (by omega);unfold Ker.recv;split
 ·exact hE
 split
 ·exact hE.rest
 ·exact hE.gets.woken _
theorem KOk.wait (hk:KOk N k) (h0:0≤d.c.obj) (h1:d.c.obj<(k.notes.length:Int)):KOk (N+1) (k.wait d).2:=by
 obtain ⟨_,hl⟩:=hk.nAt h0 h1;have hwl:=wait_le (k.nAt d.c.obj) d.cur (d.call.c !=0);have hE:=hk.setN (n:=d.c.obj) (p:=((k.nAt d.c.obj).wait d.cur (d.call.c !=0)).2) (by omega);unfold Ker.wait;split
 ·exact hE
 dsimp only;split
 ·exact hE
 ·exact hE.rest
theorem KOk.bind (hk:KOk N k):KOk N (k.bind d).2:=by
 unfold Ker.bind;split
 ·exact hk
 rename_i hB
 have hB:k.heldB d.call.with_ 5=true:=by
  cases e:k.heldB d.call.with_ 5 with
  |true=>rfl
  |false=>exact absurd e hB
 obtain ⟨hb1,hb2⟩:=heldB_out hB;obtain ⟨_,_,ho,_,_⟩:=hk.cap hb1;unfold Ker.tell;dsimp only;unfold bindL;cases hx:lnAt k.ln d.c.obj with
 |none=>exact hk
 |some x=>
  dsimp only;split
  ·exact hk
  split
  ·exact hk
  ·refine hk.lns (by rw[List.length_set];exact hk.ln) fun y hy hy2=>?_
   rcases List.mem_or_eq_of_mem_set hy with hy|hy
   ·exact hk.lnb y hy hy2
   ·rw[hy];exact ⟨ho.1,ho.2.2.2.2.2.1 (hb2 (by decide))⟩
theorem KOk.lined (hk:KOk N k) {r:(Option (Int × Int)× Int)× Lns} (h1:KOk N { k with ln:=r.2}) (h2:∀y,r.1.1=some y->0≤y.1/\y.1<(k.notes.length:Int)):KOk (N+1) (k.lined r).2.2:=by
 unfold Ker.lined;split
 ·exact h1.mono (by omega)
 ·rename_i x e
  obtain ⟨a,b⟩:=h2 x e;exact h1.signal a b
theorem KOk.asks (hk:KOk N k) (hN:N+64≤100000) (hcore:k.t.isC d.core=true) (hH:k.H d.s=some d.c) (hr:Sl.CapR d.c) (ho:k.objOk d.c) (ha0:0≤d.call.ask) (ha1:d.call.ask<17)
  (hkind:(Ker.needK d.call.ask).1≠0->d.c.kind=(Ker.needK d.call.ask).1):KOk (N+64) (k.asks d).2:=by
 have hsome:(k.H d.s).isSome=true:=by rw[hH];rfl
 have hask:d.call.ask=0∨d.call.ask=1∨d.call.ask=2∨d.call.ask=3∨d.call.ask=4∨d.call.ask=5∨d.call.ask=6∨d.call.ask=7∨d.call.ask=8∨d.call.ask=9∨d.call.ask=10∨d.call.ask=11∨d.call.ask=12∨d.call.ask=13∨d.call.ask=14∨d.call.ask=15∨d.call.ask=16:=by omega
 have m0:∀{x:Ker},KOk N x->KOk (N+64) x:=fun h=>h.mono (by omega)
 have m1:∀{x:Ker},KOk (N+1) x->KOk (N+64) x:=fun h=>h.mono (by omega)
 rcases hask with e|e|e|e|e|e|e|e|e|e|e|e|e|e|e|e|e
 ·have ea:k.asks d=Ker.tell (k.retype d).1 (k.retype d).2:=by
   unfold Ker.asks;rw[e];rfl
  rw[ea];have hkd:(Ker.needK 0).1≠0->d.c.kind=(Ker.needK 0).1:=by rw[e] at hkind;exact hkind
  have hkd:=hkd (by decide);exact hk.retype hN hsome hkd ho hcore
 ·have ea:k.asks d=Ker.tell (k.mint d).1 (k.mint d).2:=by
   unfold Ker.asks;rw[e];rfl
  rw[ea];exact m0 (hk.mint hH hr ho)
 ·have ea:k.asks d=Ker.tell (k.move d).1 (k.move d).2:=by
   unfold Ker.asks;rw[e];rfl
  rw[ea];exact m0 (hk.move hH)
 ·have ea:k.asks d=if d.call.at_=0 then Ker.tell 181 k else (⟨0,0, -1,(k.gone d.s).1⟩,(k.gone d.s).2):=by
   unfold Ker.asks;rw[e];rfl
  rw[ea];split
  ·exact m0 hk
  ·exact m0 (hk.gone hsome).1
 ·have ea:k.asks d=k.revoke d:=by
   unfold Ker.asks;rw[e];rfl
  rw[ea];exact m0 hk.revoke
 ·have ea:k.asks d=Ker.tellW (k.resume d):=by
   unfold Ker.asks;rw[e];rfl
  rw[ea];have hkd:(Ker.needK 5).1≠0->d.c.kind=(Ker.needK 5).1:=by rw[e] at hkind;exact hkind
  have hkd:=hkd (by decide)
  have h2:KOk N (if k.t.isT d.c.obj=true/\(k.t.th d.c.obj).st=3 then k.freed d.c.obj else k):=by
   split
   ·exact hk.freed _
   ·exact hk
  exact m0 (h2.woken _)
 ·have ea:k.asks d=Ker.tell (k.t.suspendR d.c.obj).1 ((k.freed d.c.obj).setT (k.t.suspendR d.c.obj).2):=by
   unfold Ker.asks;rw[e];rfl
  rw[ea];have hkd:(Ker.needK 6).1≠0->d.c.kind=(Ker.needK 6).1:=by rw[e] at hkind;exact hkind
  have hkd:=hkd (by decide);exact m0 ((hk.freed d.c.obj).setT (hk.inv.suspend _) (by rw[suspend_len];exact Nat.le_refl _))
 ·have ea:k.asks d=Ker.tell (k.t.prioR d.c.obj d.call.a).1 (k.setT (k.t.prioR d.c.obj d.call.a).2):=by
   unfold Ker.asks;rw[e];rfl
  rw[ea];have hkd:(Ker.needK 7).1≠0->d.c.kind=(Ker.needK 7).1:=by rw[e] at hkind;exact hkind
  have hkd:=hkd (by decide);exact m0 (hk.setT (hk.inv.prio _ _) (by rw[prioR_len];exact Nat.le_refl _))
 ·have ea:k.asks d=k.send d:=by
   unfold Ker.asks;rw[e];rfl
  rw[ea];have hkd:(Ker.needK 8).1≠0->d.c.kind=(Ker.needK 8).1:=by rw[e] at hkind;exact hkind
  have hkd:=hkd (by decide);exact m1 (hk.send ho.1 (ho.2.2.2.2.1 hkd))
 ·have ea:k.asks d=k.recv d:=by
   unfold Ker.asks;rw[e];rfl
  rw[ea];have hkd:(Ker.needK 9).1≠0->d.c.kind=(Ker.needK 9).1:=by rw[e] at hkind;exact hkind
  have hkd:=hkd (by decide);exact m1 (hk.recv ho.1 (ho.2.2.2.2.1 hkd))
 ·have ea:k.asks d=(⟨0,0,(k.signal d.c.obj d.c.badge).1,[]⟩,(k.signal d.c.obj d.c.badge).2):=by
   unfold Ker.asks;rw[e];rfl
  rw[ea];have hkd:(Ker.needK 10).1≠0->d.c.kind=(Ker.needK 10).1:=by rw[e] at hkind;exact hkind
  have hkd:=hkd (by decide);exact m1 (hk.signal ho.1 (ho.2.2.2.2.2.1 hkd))
 ·have ea:k.asks d=k.wait d:=by
   unfold Ker.asks;rw[e];rfl
  rw[ea];have hkd:(Ker.needK 11).1≠0->d.c.kind=(Ker.needK 11).1:=by rw[e] at hkind;exact hkind
  have hkd:=hkd (by decide);exact m1 (hk.wait ho.1 (ho.2.2.2.2.2.1 hkd))
 ·have ea:k.asks d=k.table d:=by
   unfold Ker.asks;rw[e];rfl
  rw[ea];have hkd:(Ker.needK 12).1≠0->d.c.kind=(Ker.needK 12).1:=by rw[e] at hkind;exact hkind
  have hkd:=hkd (by decide);unfold Ker.table;split
  ·exact m0 hk
  ·exact m0 (hk.setS ((hk.sAtOk _).table _ _))
 ·have ea:k.asks d=k.mapped d:=by
   unfold Ker.asks;rw[e];rfl
  rw[ea];have hkd:(Ker.needK 13).1≠0->d.c.kind=(Ker.needK 13).1:=by rw[e] at hkind;exact hkind
  have hkd:=hkd (by decide);unfold Ker.mapped;split
  ·exact m0 hk
  ·exact m0 (hk.setS ((hk.sAtOk _).map _ _))
 ·have ea:k.asks d=k.unmap d:=by
   unfold Ker.asks;rw[e];rfl
  rw[ea];have hkd:(Ker.needK 14).1≠0->d.c.kind=(Ker.needK 14).1:=by rw[e] at hkind;exact hkind
  have hkd:=hkd (by decide);exact m0 (hk.setS ((hk.sAtOk _).unmap _))
 ·have ea:k.asks d=k.bind d:=by
   unfold Ker.asks;rw[e];rfl
  rw[ea];have hkd:(Ker.needK 15).1≠0->d.c.kind=(Ker.needK 15).1:=by rw[e] at hkind;exact hkind
  have hkd:=hkd (by decide);exact m0 hk.bind
 ·have ea:k.asks d=Ker.tellW (k.lined (ackL k.ln d.c.obj)):=by
   unfold Ker.asks;rw[e];rfl
  rw[ea];have hkd:(Ker.needK 16).1≠0->d.c.kind=(Ker.needK 16).1:=by rw[e] at hkind;exact hkind
  have hkd:=hkd (by decide);exact m1 (hk.lined hk.ack fun y hy=>ack_note hk hy)
end
section
variable {B:Nat} {w0 w:World} {R L:List Asn} {bd bk:Nat} {k:Ker} {d:Dng} {ec wv wk:Int} {fs:Sl} {N:Nat}
theorem KOk.pick (hk:KOk N k) (core:Int):KOk N (k.setT (k.t.pickC core)):=hk.setT (hk.inv.pickC _) (by rw[pickC_len];exact Nat.le_refl _)
theorem KOk.asked (hk:KOk N k) (hN:N+64≤100000) {core cur:Int} {c:Call} (hcore:k.t.isC core=true) (ha0:0≤c.ask) (ha1:c.ask<17):KOk (N+64) (k.asked core cur c).2:=by
 unfold Ker.asked;split
 ·exact hk.mono (by omega)
 rename_i hB
 have hB:k.heldB c.at_ (Ker.needK c.ask).1=true:=by
  cases e:k.heldB c.at_ (Ker.needK c.ask).1 with
  |true=>rfl
  |false=>exact absurd e hB
 split
 ·exact hk.mono (by omega)
 obtain ⟨hb1,hb2⟩:=heldB_out hB;obtain ⟨_,hH,ho,hcr,_⟩:=hk.cap hb1;exact hk.asks hN hcore hH hcr ho ha0 ha1 hb2
theorem KOk.do (hk:KOk N k) (hN:N+64≤100000) (core:Int) (c:Call):KOk (N+64) (k.do core c).2:=by
 have hp:=hk.pick core;unfold Ker.do
 cases hr:(k.t.pickC core).runs? core with
 |none=>exact hp.mono (by omega)
 |some cur=>
  dsimp only;split
  ·exact hp.mono (by omega)
  split
  ·exact (hp.setT (hp.inv.yield core) (by rw[yield_len];exact Nat.le_refl _)).mono (by omega)
  ·rename_i h1 h2
   exact hp.asked hN (hp.inv.runIn hr).1 (by omega) (by omega)
theorem Do_spec {core:Int} {c:Call} {K:Int->Int->Int->Sl->Pw} (hk:KOk N k) (hN:N+64≤100000) (hw0: -9223372036854775808≤c.with_) (hw1:c.with_<9223372036854775808)
  (h:Vc.Own B w0 w (KerA bk k::R))
  (hK:∀fs' w',Vc.Own B w0 w' (SlT lneE fs' (k.do core c).1.forget::KerA bk (k.do core c).2::R)->K (k.do core c).1.e (k.do core c).1.w (k.do core c).1.wakes fs' w'):
  C.qz (some ⟨bk,0,none⟩) core c.ask c.at_ c.with_ c.a c.b c.c K w:=by
 apply S.qz0;refine h.al fun w1 h=>?_
 generalize w.heap.size=cb at h⊢;refine h.al fun w2 h=>?_
 generalize w1.heap.size=ob at h⊢;refine h.lc_6 rfl ?_;refine h.al fun w3 h=>?_
 generalize w2.heap.size=bd at h⊢;have h:=Vc.Own.nilS (E:=lneE) h;have h:Vc.Own B w0 w3 (SlT lneE ⟨none,0,0⟩ []::BlkA bd (dcells bk ⟨core,0,c,(0,0),Sl.zeroCap⟩ 0 0 (-1) ⟨none,0,0⟩)::BlkA ob [.z 0, .y 0, .z 0, .slice none 0 0]::BlkA cb [.z c.ask, .z c.at_, .z c.with_, .z c.a, .z c.b, .z c.c]::KerA bk k::R):=h;have h:Vc.Own B w0 w3 (KerA bk k::BlkA bd (dcells bk ⟨core,0,c,(0,0),Sl.zeroCap⟩ 0 0 (-1) ⟨none,0,0⟩)::SlT lneE ⟨none,0,0⟩ []::BlkA ob [.z 0, .y 0, .z 0, .slice none 0 0]::BlkA cb [.z c.ask, .z c.at_, .z c.with_, .z c.a, .z c.b, .z c.c]::R):=h.sub;obtain ⟨bt,Y,h,hc2,hback⟩:=h.kthr;refine ⟨_,rfl,_,hc2,?_⟩;refine Th.thr_Pick_spec hk.inv.ok h fun w h=>?_
 have h:=hback _ w _ pickC_len h;have hp:=hk.pick core;unfold Ker.do at hK
 refine ⟨_,rfl,?_⟩;refine h.std rfl rfl fun w h=>?_
 (try dsimp only[putAt,List.set_cons_zero,List.set_cons_succ] at h)
 intro k25 hk25
 have fin:∀(d':Dng) (e wv wk:Int) (fs:Sl) (F:List Lne) (k':Ker) (w:World),(∀w',Vc.Own B w0 w' (SlT lneE fs F::KerA bk k'::R)->K e wv wk fs w')->
   Vc.Own B w0 w (BlkA bd (dcells bk d' e wv wk fs)::SlT lneE fs F::KerA bk k'::BlkA ob [.z 0, .y 0, .z 0, .slice none 0 0]::R)->k25 w:=fun d' e wv wk fs F k' w hK h=>by
  apply hk25;refine ⟨_,rfl,?_⟩;refine LdL_add (h.lc_4 rfl ?_);refine h.stLc rfl rfl fun w h=>?_
  (try dsimp only[putAt,List.set_cons_zero,List.set_cons_succ] at h)
  refine h.lc_4 rfl ?_;exact hK w h.sub
 cases hr:(k.t.pickC core).runs? core with
 |none=>
  rw[hr] at hK;refine cbT rfl ?_;refine ⟨_,rfl,?_⟩;refine h.std rfl rfl fun w h=>?_
  (try dsimp only[putAt,List.set_cons_zero,List.set_cons_succ] at h)
  refine fin ⟨core,0,c,(0,0),Sl.zeroCap⟩ 182 0 (-1) ⟨none,0,0⟩ [] (k.setT (k.t.pickC core)) w (fun w' h=>hK _ w' h) ?_;have h:Vc.Own B w0 w (KerA bk (k.setT (k.t.pickC core))::BlkA bd (dcells bk ⟨core,0,c,(0,0),Sl.zeroCap⟩ 182 0 (-1) ⟨none,0,0⟩)::SlT lneE ⟨none,0,0⟩ []::BlkA ob [.z 0, .y 0, .z 0, .slice none 0 0]::BlkA cb [.z c.ask, .z c.at_, .z c.with_, .z c.a, .z c.b, .z c.c]::R):=by rw[hr] at h;exact h
  exact h.sub
 |some cur=>
  rw[hr] at hK;dsimp only at hK;have h:Vc.Own B w0 w (KerA bk (k.setT (k.t.pickC core))::BlkA bd (dcells bk ⟨core,cur,c,(0,0),Sl.zeroCap⟩ 0 0 (-1) ⟨none,0,0⟩)::SlT lneE ⟨none,0,0⟩ []::BlkA ob [.z 0, .y 0, .z 0, .slice none 0 0]::BlkA cb [.z c.ask, .z c.at_, .z c.with_, .z c.a, .z c.b, .z c.c]::R):=by rw[hr] at h;exact h
  refine cbF rfl ?_;intro k39 hk39
  have hbad:c.ask<0∨18≤c.ask->k39 true w:=fun hb=>by
   rw[if_pos hb] at hK;apply hk39;refine cbT rfl ?_;refine ⟨_,rfl,?_⟩;refine h.std rfl rfl fun w h=>?_
   (try dsimp only[putAt,List.set_cons_zero,List.set_cons_succ] at h)
   refine fin ⟨core,cur,c,(0,0),Sl.zeroCap⟩ 180 0 (-1) ⟨none,0,0⟩ [] (k.setT (k.t.pickC core)) w (fun w' h=>hK _ w' h) ?_;have h:Vc.Own B w0 w (KerA bk (k.setT (k.t.pickC core))::BlkA bd (dcells bk ⟨core,cur,c,(0,0),Sl.zeroCap⟩ 180 0 (-1) ⟨none,0,0⟩)::SlT lneE ⟨none,0,0⟩ []::BlkA ob [.z 0, .y 0, .z 0, .slice none 0 0]::BlkA cb [.z c.ask, .z c.at_, .z c.with_, .z c.a, .z c.b, .z c.c]::R):=h;exact h.sub
  have hgood:¬(c.ask<0∨18≤c.ask)->k39 false w:=fun hb=>by
   rw[if_neg hb] at hK;apply hk39;refine cbF rfl ?_;refine ⟨_,h.ldc rfl,?_⟩;refine ceq (fun e=>?_) (fun e=>?_)
   ·rw[if_pos e] at hK
    obtain ⟨bt,Y,h,hc2,hback⟩:=h.kthr;refine ⟨_,rfl,_,hc2,?_⟩;refine Th.thr_Yield_spec hp.inv.ok h fun w h=>?_
    have h:=hback _ w _ yield_len h;refine fin ⟨core,cur,c,(0,0),Sl.zeroCap⟩ 0 0 (-1) ⟨none,0,0⟩ [] ((k.setT (k.t.pickC core)).setT ((k.t.pickC core).yield core)) w (fun w' h=>hK _ w' h) ?_;have h:Vc.Own B w0 w (KerA bk ((k.setT (k.t.pickC core)).setT ((k.t.pickC core).yield core))::BlkA bd (dcells bk ⟨core,cur,c,(0,0),Sl.zeroCap⟩ 0 0 (-1) ⟨none,0,0⟩)::SlT lneE ⟨none,0,0⟩ []::BlkA ob [.z 0, .y 0, .z 0, .slice none 0 0]::BlkA cb [.z c.ask, .z c.at_, .z c.with_, .z c.a, .z c.b, .z c.c]::R):=h;exact h.sub
   ·rw[if_neg e] at hK
    have hk1:=hp.asked (core:=core) (cur:=cur) (c:=c) hN (hp.inv.runIn hr).1 (by omega) (by omega);refine asked_spec (core:=core) (cur:=cur) (c:=c) hp hN (hp.inv.runIn hr).1 (by omega) (by omega) hw0 hw1 (show Vc.Own B w0 w (BlkA bd (dcells bk ⟨core,cur,c,(0,0),Sl.zeroCap⟩ 0 0 (-1) ⟨none,0,0⟩)::SlT lneE ⟨none,0,0⟩ []::KerA bk (k.setT (k.t.pickC core))::BlkA ob [.z 0, .y 0, .z 0, .slice none 0 0]::R) from h.sub) fun d' fs' w h=>?_
    refine ⟨_,rfl,?_⟩;refine h.std rfl rfl fun w h=>?_
    (try dsimp only[putAt,List.set_cons_zero,List.set_cons_succ] at h)
    generalize (k.setT (k.t.pickC core)).asked core cur c=A at h hK;exact fin d' A.1.e A.1.w A.1.wakes fs' A.1.forget A.2 w (fun w' h=>hK _ w' h) h
  refine ⟨_,h.ldc rfl,?_⟩;refine cdec (fun e=>?_) (fun e=>?_)
  ·exact hbad (.inl e)
  ·refine ⟨_,h.ldc rfl,?_⟩
   by_cases e2:c.ask≥18
   ·rw[decide_eq_true e2];exact hbad (.inr e2)
   ·rw[decide_eq_false e2];exact hgood (by omega)
end
end Go.Proofs.YtogmbmdbgkopjaaGreat
end
section
set_option maxRecDepth 8000
namespace Go.Proofs.YtogmbmdbgkopjaaGreat
open Go Go.Vc Go.Proofs
namespace Ker
def inB {α:Type} (l:List α) (n:Int):Bool:=decide (0≤n)&&decide (n<(l.length:Int))
def pagesR (k:Ker) (n:Int):Tb.Pgs:=if inB k.spaces n then (k.sAt n).pg else []
def untR (k:Ker) (n:Int):Unt × Bool:=if inB k.u n then (k.uAt n,true) else (zU,false)
def thR (k:Ker) (n:Int):Th.Thd:=if k.t.isT n then k.t.th n else Th.zTh
end Ker
theorem inB_iff {α:Type} {l:List α} {n:Int}:Ker.inB l n=true↔0≤n/\n<(l.length:Int):=by unfold Ker.inB;simp
theorem set_get {α:Type} {l:List α} {j:Nat} {x:α} (h:l[j]?=some x):l.set j x=l:=by
 obtain ⟨hi,rfl⟩:=List.getElem?_eq_some_iff.1 h;exact List.set_getElem_self hi
section
variable {B:Nat} {w0 w:World} {R L:List Asn} {bd bk:Nat} {k:Ker} {d:Dng} {ec wv wk:Int} {fs:Sl} {N:Nat}
theorem Runs_spec {core:Int} {K:Int->Bool->Pw} (hk:KOk N k) (h:Vc.Own B w0 w (KerA bk k::R)) (hK:∀w',Vc.Own B w0 w' (KerA bk k::R)->K ((k.t.runs? core).getD 0) (k.t.runs? core).isSome w'):C.qaq (some ⟨bk,0,none⟩) core K w:=by
 apply S.qaq0;obtain ⟨bt,Y,h,hc2,hback⟩:=h.kthr;refine ⟨_,rfl,_,hc2,?_⟩;refine Th.thr_Runs_spec hk.inv.ok h fun w h=>?_
 exact hK w (show Vc.Own B w0 w (KerA bk k::R) from hback _ w _ rfl h)
theorem Thread_spec {n:Int} {K:Int->Int->Int->Int->Int->Int->Int->Int->Int->Int->Int->Int->Int->Pw} (h:Vc.Own B w0 w (KerA bk k::R))
  (hK:∀w' t,t=k.thR n->Vc.Own B w0 w' (KerA bk k::R)->K t.st t.pr t.co t.le (t.rg 0) (t.rg 1) (t.rg 2) (t.rg 3) (t.rg 4) (t.rg 5) (t.rg 6) (t.rg 7) (if k.t.isT n then 0 else 100) w'):C.qar (some ⟨bk,0,none⟩) n K w:=by
 apply S.qar0;refine h.al fun w1 h=>?_
 generalize w.heap.size=c at h⊢;obtain ⟨bt,Y,h,hc2,hback⟩:=(h.pick (A:=KerA bk k)).kthr;refine ⟨_,rfl,_,hc2,?_⟩;refine Th.thr_Get_spec h fun w t ht h=>?_
 have h:Vc.Own B w0 w (KerA bk k::_):=hback _ w _ rfl h;refine h.stLc rfl rfl fun w h=>?_
 (try dsimp only[putAt,List.set_cons_zero,List.set_cons_succ] at h)
 refine h.lc_12 rfl ?_;exact hK w t ht h.sub
theorem Held_spec {K:Sl->Pw} (hk:KOk N k) (h:Vc.Own B w0 w (KerA bk k::R)) (hK:∀s w',Vc.Own B w0 w' (SlT Sl.heldE s (heldL k.H)::KerA bk k::R)->K s w'):C.qp (some ⟨bk,0,none⟩) K w:=by
 apply S.qp0;obtain ⟨x,h⟩:=h.ker;refine ⟨_,rfl,_,h.ldc rfl,?_⟩;refine Sl.slots_Nodes_Held_spec (h.pick (A:=Sl.NodesA x.n k.bits k.H)) fun s2 hs2 w hih h=>?_
 have e2:hs2=heldL k.H:=hih.uniq (heldL_ok fun t c hc=>(hk.held t c hc).1);subst e2;have h:Vc.Own B w0 w (KerA bk k::SlT Sl.heldE s2 (heldL k.H)::R):=Vc.Own.mk_ker x h.sub;exact hK s2 w h.sub
theorem KTree_spec {K:Sl->Pw} (h:Vc.Own B w0 w (KerA bk k::R)) (hK:∀s w',Vc.Own B w0 w' (SlT Tr.slotE s (k.T.map (·.1))::KerA bk k::R)->K s w'):C.qae (some ⟨bk,0,none⟩) K w:=by
 apply S.qae0;obtain ⟨x,h⟩:=h.ker;refine ⟨_,rfl,_,h.ldd rfl,?_⟩;refine Tr.tree_All_spec (h.pick (A:=Tr.TreeA x.tr k.T)) fun s2 w h=>?_
 have h:Vc.Own B w0 w (KerA bk k::SlT Tr.slotE s2 (k.T.map (·.1))::R):=Vc.Own.mk_ker x h.sub;exact hK s2 w h.sub
theorem Untyped_spec {n:Int} {K:Int->Int->Int->Bool->Pw} (h:Vc.Own B w0 w (KerA bk k::R))
  (hK:∀w',Vc.Own B w0 w' (KerA bk k::R)->K ((k.untR n).1.base:Int) ((k.untR n).1.bits:Int) ((k.untR n).1.used:Int) (k.untR n).2 w'):C.qH (some ⟨bk,0,none⟩) n K w:=by
 apply S.qH0;unfold S.qH;unfold Ker.untR at hK;refine h.al fun w1 h=>?_
 generalize w.heap.size=c at h⊢;obtain ⟨x,h⟩:=(h.pick (A:=KerA bk k)).ker;refine ⟨_,rfl,x.su,h.ldd rfl,?_⟩;have hlen:=h.lenc x.su;have hno:Ker.inB k.u n=false->S.qH (some ⟨bk,0,none⟩) n K w1->True:=fun _ _=>trivial
 have bad:Ker.inB k.u n=false->StL w1 ⟨c,0,none⟩ 0 [.y 0, .z 0, .y 0] fun w8=>LdL w8 ⟨c,0,none⟩ 0 [.u, .o, .u] fun (r9:Int) (r10:Int) (r11:Int)=>K r9 r10 r11 false w8:=fun e=>by
  rw[if_neg (by rw[e];decide)] at hK;refine h.stLc rfl rfl fun w h=>?_
  (try dsimp only[putAt,List.set_cons_zero,List.set_cons_succ] at h)
  refine h.lc_3 rfl ?_;exact hK w ((show Vc.Own B w0 w (KerA bk k::R) from Vc.Own.mk_ker x h.sub))
 apply S.qaN0;refine cdec (fun e0=>?_) (fun e0=>?_)
 ·by_cases e1:n<(x.su.len:Int)
  ·rw[decide_eq_true e1]
   refine cbF rfl ?_;have hin:Ker.inB k.u n=true:=inB_iff.2 ⟨e0,by omega⟩;rw[if_pos hin] at hK
   have hux:k.u[n.toNat]?=some (k.uAt n):=by
    unfold Ker.uAt;rw[gE (by omega)];rfl
   refine ⟨_,rfl,x.su,h.ldd rfl,?_⟩;refine h.ixc (s:=x.su) (i:=n) (j:=n.toNat) (by omega) hux fun a ha _ hcu=>?_
   refine ⟨_,hcu 0 _ rfl,_,hcu 1 _ rfl,_,hcu 2 _ rfl,?_⟩;refine h.stLc rfl rfl fun w h=>?_
   (try dsimp only[putAt,List.set_cons_zero,List.set_cons_succ] at h)
   refine h.lc_3 rfl ?_;exact hK w ((show Vc.Own B w0 w (KerA bk k::R) from Vc.Own.mk_ker x h.sub))
  ·rw[decide_eq_false e1]
   refine cbT rfl ?_
   exact bad (by
    cases e:Ker.inB k.u n with
    |false=>rfl
    |true=>have:=(inB_iff.1 e).2;omega)
 ·refine cbT rfl ?_
  exact bad (by
    cases e:Ker.inB k.u n with
    |false=>rfl
    |true=>have:=(inB_iff.1 e).1;omega)
theorem Pages_spec {n:Int} {K:Sl->Pw} (h:Vc.Own B w0 w (KerA bk k::R)) (hK:∀s w',Vc.Own B w0 w' (SlT Tb.laidE s (k.pagesR n)::KerA bk k::R)->K s w'):C.qaC (some ⟨bk,0,none⟩) n K w:=by
 apply S.qaC0;unfold Ker.pagesR at hK;have h0:=h;obtain ⟨ss,ps,Y,h,hc2,hp,hback⟩:=h.kspaces;have hlen:=h.lenc ss;refine ⟨_,rfl,ss,hc2,?_⟩
 have bad:Ker.inB k.spaces n=false->K ⟨none,0,0⟩ w:=fun e=>by
  rw[if_neg (by rw[e];decide)] at hK;exact hK _ w (Vc.Own.nilS h0)
 apply S.qaA0;refine cdec (fun e0=>?_) (fun e0=>?_)
 ·by_cases e1:n<(ss.len:Int)
  ·rw[decide_eq_true e1]
   refine cbF rfl ?_;have hin:Ker.inB k.spaces n=true:=inB_iff.2 ⟨e0,by omega⟩;rw[if_pos hin] at hK
   have hx:k.spaces[n.toNat]?=some (k.sAt n):=by
    unfold Ker.sAt;rw[gE (by omega)];rfl
   refine ⟨_,rfl,ss,hc2,?_⟩;have hq:ps[n.toNat]?=some ps[n.toNat]:=gE (by omega);generalize ps[n.toNat]=pp at hq;refine ptE_ix (s:=ss) (i:=n) (j:=n.toNat) h (by omega) hq fun a ha hcc=>⟨_,hcc,?_⟩
   have h:=(h.pick (A:=PtsA Tb.SpcA ps k.spaces)).ptS hq hx;refine Tb.Pages_spec h fun s w h=>?_
   have h:=(h.pick (A:=Tb.SpcA pp (k.sAt n))).perm (List.Perm.cons _ (List.Perm.swap _ _ _));have h:=(h.ptS_back hp hq)
   rw[set_get hx] at h;have h:Vc.Own B w0 w (KerA bk k::_):=hback (SlT Tb.laidE s (k.sAt n).pg::R) w _ h.sub;exact hK s w h.sub
  ·rw[decide_eq_false e1]
   refine cbT rfl ?_
   exact bad (by
    cases e:Ker.inB k.spaces n with
    |false=>rfl
    |true=>have:=(inB_iff.1 e).2;omega)
 ·refine cbT rfl ?_
  exact bad (by
    cases e:Ker.inB k.spaces n with
    |false=>rfl
    |true=>have:=(inB_iff.1 e).1;omega)
end
end Go.Proofs.YtogmbmdbgkopjaaGreat
end
section
set_option maxRecDepth 8000
namespace Go.Proofs.YtogmbmdbgkopjaaGreat
open Go Go.Vc Go.Proofs
namespace Ker
def newK (c:Nat) (bits:Nat):Ker:=⟨[6],fun _=>none,[],Th.newM c,List.replicate 8 ⟨0,0,0⟩,[⟨0,bits,0⟩],[],[],[Tb.newS],0,0⟩
def rootK (k:Ker) (i kind obj:Int):Ker:={ k with H:=(Sl.putN k.bits k.H (0,i) ⟨kind,obj,7,0,0,0⟩).2,T:=(Tr.rootN k.T (0,i)).2}
def bootT:List Int->Nat->Ker->Ker
 | [],_,k=>k
 |p::r,j,k=>bootT r (j+1) ((k.setT (((k.t.makeR p (j:Int)).2.2.resumeR (k.t.makeR p (j:Int)).1).2.pickC (j:Int))).rootK ((2+j:Nat):Int) 3 (k.t.makeR p (j:Int)).1)
def bootL:Nat->Nat->Nat->Ker->Ker
 |0,_,_,k=>k
 |q+1,j,i,k=>bootL q (j+1) i (k.rootK ((i+j:Nat):Int) 9 (j:Int))
def bootK (c bits lines:Nat) (prios:List Int):Ker:=
 bootL lines 0 (3+prios.length) ((bootT prios 0 (((newK c bits).rootK 0 2 0).rootK 1 1 0)).rootK ((2+prios.length:Nat):Int) 8 0)
def rightB (c bits lines:Int) (prios:List Int):Bool:=decide (1≤c/\c≤8/\4≤bits/\bits≤20/\0≤lines/\lines≤8/\(prios.length:Int)=c/\∀p∈prios,0≤p/\p<256)
end Ker
section
variable {m:Th.Mt}
theorem pickC_isC {c k:Int}:(m.pickC c).isC k=m.isC k:=by
 unfold Th.Mt.pickC Th.Mt.pick;split
 ·split
  ·rfl
  ·split
   ·rw[Th.setR_isC,Th.leave_isC]
   ·split
    ·rfl
    ·rw[Th.setR_isC,Th.leave_isC,Th.lineUp_isC,Th.leave_isC]
 ·rfl
theorem resumeR_isC {n k:Int}:(m.resumeR n).2.isC k=m.isC k:=by
 unfold Th.Mt.resumeR;split
 ·rfl
 split
 ·rfl
 ·exact Th.lineUp_isC
theorem make_isC {p c k:Int}:(m.make p c).isC k=m.isC k:=rfl
end
structure BOk (c n:Nat) (k:Ker):Prop where
 ok:KOk 1 k
 free:∀i:Int,(n:Int)≤i->k.H (0,i)=none
 bits:k.bits= [6]
 core:∀j:Int,k.t.isC j=true↔0≤j/\j<(c:Int)
 sp:k.spaces= [Tb.newS]
 u1:k.u.length=1
section
variable {N c:Nat} {k:Ker}
theorem KOk.root (h:KOk N k) {i kind obj:Int} (hi:0≤i/\i<64) (hn:k.H (0,i)=none) (hc:Sl.capErr ⟨kind,obj,7,0,0,0⟩=0) (h0:kind≠0) (ho:k.objOk ⟨kind,obj,7,0,0,0⟩):
  KOk N (k.rootK i kind obj)/\(k.rootK i kind obj).H=Sl.updH k.H (0,i) (some ⟨kind,obj,7,0,0,0⟩):=by
 have ht:((0,i):Slot).1=0/\0≤((0,i):Slot).2/\((0,i):Slot).2<64:=⟨rfl,hi.1,hi.2⟩
 have hput:=h.put ht hn hc h0;have hno:Tr.placeN k.T (0,i)=none:=place_no fun e=>by rw[h.mem,hn] at e;cases e
 have hT:Tr.rootN k.T (0,i)=(0,k.T++ [((0,i),0)]):=by unfold Tr.rootN;rw[hno]
 have hH:(k.rootK i kind obj).H=Sl.updH k.H (0,i) (some ⟨kind,obj,7,0,0,0⟩):=by unfold Ker.rootK;rw[hput]
 have hT2:(k.rootK i kind obj).T=k.T++ [((0,i),0)]:=by unfold Ker.rootK;rw[hT]
 have hfew:=h.few
 refine ⟨{ h with
  nok:=by rw[hH];exact h.nok.put (there0 h.b0 ht) hc h0 capR_new
  held:=fun s x hx=>?_
  tok:=by rw[hT2];exact h.tok.root (by omega) hno
  mem:=fun s=>?_},hH⟩
 ·rw[hH] at hx
  unfold Sl.updH at hx;by_cases e:s=(0,i)
  ·rw[if_pos e] at hx;cases hx;rw[e];exact ⟨ht,ho⟩
  ·rw[if_neg e] at hx;exact h.held s x hx
 ·rw[hH,hT2]
  unfold Sl.updH;rw[List.map_append,List.mem_append];simp only[List.map_cons,List.map_nil,List.mem_singleton];by_cases e:s=(0,i)
  ·simp[e]
  ·rw[if_neg e,←h.mem];simp[e]
theorem BOk.root {n:Nat} (h:BOk c n k) {kind obj:Int} (hn:n<64) (hc:Sl.capErr ⟨kind,obj,7,0,0,0⟩=0) (h0:kind≠0) (ho:k.objOk ⟨kind,obj,7,0,0,0⟩):BOk c (n+1) (k.rootK (n:Int) kind obj):=by
 obtain ⟨h1,h2⟩:=h.ok.root (i:=(n:Int)) ⟨by omega,by omega⟩ (h.free _ (Int.le_refl _)) hc h0 ho;refine ⟨h1,fun i hi=>?_,h.bits,h.core,h.sp,h.u1⟩;rw[h2];unfold Sl.updH;rw[if_neg (fun e=>by cases e;omega)];exact h.free i (by omega)
theorem newK_ok {bits:Nat} (h8:c≤8) (hb:4≤bits/\bits≤20):BOk c 0 (Ker.newK c bits):=by
 refine ⟨⟨rfl,⟨by show 1≤64;decide,fun z hz=>by simp[Ker.newK] at hz;subst hz;exact .inr ⟨by decide,by decide⟩,fun s x hx=>by cases hx⟩,fun s x hx=>(by cases hx),⟨by show 0≤1000000;decide,trivial,List.nodup_nil⟩,fun s=>by simp[Ker.newK],Th.newM_inv h8,by simp[Ker.newK],fun x hx hx2=>?_,fun x hx=>?_,fun m hm=>?_,
  by simp[Ker.newK],by simp[Ker.newK],by simp[Ker.newK],by simp[Ker.newK],Nat.zero_le _,Nat.zero_le _,fun p hp=>by simp[Ker.newK] at hp,fun p hp=>by simp[Ker.newK] at hp⟩,fun i hi=>rfl,rfl,fun j=>?_,rfl,rfl⟩
 ·simp only[Ker.newK,List.mem_replicate] at hx
  rw[hx.2] at hx2;exact absurd rfl hx2
 ·simp[Ker.newK] at hx
  subst hx;refine ⟨hb.2,?_,Nat.zero_mod _,Nat.zero_le _⟩;show 0+2^bits≤2^20;rw[Nat.zero_add];exact Nat.pow_le_pow_right (by decide) hb.2
 ·simp[Ker.newK] at hm
  subst hm;exact Tb.SOk.new
 ·rw[Th.isC_iff]
  simp[Ker.newK,Th.newM]
theorem ok3 {a n:Int} (h0:0≤n) (h1:a≠1) (h2:a=2->n<(k.bits.length:Int)) (h3:a=3->n<(k.t.ths.length:Int)) (h4:a≠4) (h5:a≠5) (h6:a≠6) (h7:a≠7) (h8:a=8->n<(k.spaces.length:Int)) (h9:a=9->n<8):k.objOk ⟨a,n,7,0,0,0⟩:=
 objOk_mk h0 (fun e=>absurd e h1) h2 h3 (fun e=>absurd e h4) (fun e=>absurd e h5) (fun e=>absurd e h6) (fun e=>absurd e h7) h8 h9
theorem BOk.thread {j:Nat} {p:Int} (h:BOk c (2+j) k) (hj:j<c) (h8:c≤8) (ht:k.t.ths.length=j) (hp:0≤p/\p<256):
  BOk c (2+(j+1)) ((k.setT (((k.t.makeR p (j:Int)).2.2.resumeR (k.t.makeR p (j:Int)).1).2.pickC (j:Int))).rootK ((2+j:Nat):Int) 3 (k.t.makeR p (j:Int)).1)/\
  ((k.setT (((k.t.makeR p (j:Int)).2.2.resumeR (k.t.makeR p (j:Int)).1).2.pickC (j:Int))).rootK ((2+j:Nat):Int) 3 (k.t.makeR p (j:Int)).1).t.ths.length=j+1/\k.t.makeR p (j:Int)=((j:Int),0,k.t.make p (j:Int)):=by
 have hc:k.t.isC (j:Int)=true:=(h.core _).2 ⟨by omega,by omega⟩
 have hm:k.t.makeR p (j:Int)=((j:Int),0,k.t.make p (j:Int)):=by
  unfold Th.Mt.makeR;rw[if_neg (fun hh=>hh ⟨hp.1,hp.2,hc⟩),if_neg (by omega),ht]
 rw[hm];dsimp only
 have hl:(((k.t.make p (j:Int)).resumeR (j:Int)).2.pickC (j:Int)).ths.length=j+1:=by
  rw[pickC_len,resumeR_len];unfold Th.Mt.make;simp[ht]
 have hi:=((h.ok.inv.make (p:=p) (c:=(j:Int)) (by omega) hc hp).resume (j:Int)).pickC (j:Int)
 have hb:BOk c (2+j) (k.setT (((k.t.make p (j:Int)).resumeR (j:Int)).2.pickC (j:Int))):=by
  refine ⟨h.ok.setT hi (by rw[hl];omega),h.free,h.bits,fun n=>?_,h.sp,h.u1⟩;show (((k.t.make p (j:Int)).resumeR (j:Int)).2.pickC (j:Int)).isC n=true↔_;rw[pickC_isC,resumeR_isC,make_isC];exact h.core n
 refine ⟨?_,hl,rfl⟩
 have:=hb.root (kind:=3) (obj:=(j:Int)) (by omega) (capErr_new ⟨by decide,by decide⟩ ⟨by omega,by omega⟩) (by decide) (ok3 (by omega) (by decide) (fun e=>absurd e (by decide)) (fun _=>by
  show (j:Int)<((((k.t.make p (j:Int)).resumeR (j:Int)).2.pickC (j:Int)).ths.length:Int);rw[hl];omega) (by decide) (by decide) (by decide) (by decide) (fun e=>absurd e (by decide)) (fun e=>absurd e (by decide)))
 exact this
theorem bootT_ok (h8:c≤8):∀(ps:List Int) (j:Nat) (k:Ker),j+ps.length≤c->(∀p∈ps,0≤p/\p<256)->BOk c (2+j) k->k.t.ths.length=j->BOk c (2+(j+ps.length)) (Ker.bootT ps j k)/\(Ker.bootT ps j k).t.ths.length=j+ps.length
 | [],j,k,_,_,h,ht=>⟨h,ht⟩
 |p::ps,j,k,hj,hp,h,ht=>by
  rw[List.length_cons] at hj⊢;obtain ⟨h1,h2,_⟩:=h.thread (by omega) h8 ht (hp p List.mem_cons_self);have:=bootT_ok h8 ps (j+1) _ (by omega) (fun q hq=>hp q (List.mem_cons_of_mem _ hq)) h1 h2;rw[show j+1+ps.length=j+(ps.length+1) from by omega] at this;exact this
theorem BOk.line {i j:Nat} (h:BOk c (i+j) k) (hi:i+j<64) (hj:j<8):BOk c (i+(j+1)) (k.rootK ((i+j:Nat):Int) 9 (j:Int)):=
 h.root hi (capErr_new ⟨by decide,by decide⟩ ⟨by omega,by omega⟩) (by decide) (ok3 (by omega) (by decide) (fun e=>absurd e (by decide)) (fun e=>absurd e (by decide)) (by decide) (by decide) (by decide) (by decide) (fun e=>absurd e (by decide)) (fun _=>by omega))
theorem bootL_ok:∀(q j i:Nat) (k:Ker),j+q≤8->i≤20->BOk c (i+j) k->BOk c (i+(j+q)) (Ker.bootL q j i k)/\(Ker.bootL q j i k).t=k.t
 |0,j,i,k,_,_,h=>⟨h,rfl⟩
 |q+1,j,i,k,hj,hi,h=>by
  have h1:=h.line (by omega) (by omega);have:=bootL_ok q (j+1) i _ (by omega) hi h1;rw[show j+1+q=j+(q+1) from by omega] at this;exact ⟨this.1,this.2.trans rfl⟩
theorem boot_two {bits:Nat} (h8:c≤8) (hb:4≤bits/\bits≤20):BOk c 1 ((Ker.newK c bits).rootK 0 2 0)/\BOk c 2 (((Ker.newK c bits).rootK 0 2 0).rootK 1 1 0):=by
 have h0:=newK_ok h8 hb;have h1:=h0.root (kind:=2) (obj:=0) (by decide) (capErr_new ⟨by decide,by decide⟩ ⟨by decide,by decide⟩) (by decide) (ok3 (by decide) (by decide) (fun _=>by show (0:Int)<1;decide) (fun e=>absurd e (by decide)) (by decide) (by decide) (by decide) (by decide) (fun e=>absurd e (by decide)) (fun e=>absurd e (by decide)));have h2:=h1.root (kind:=1) (obj:=0) (by decide) (capErr_new ⟨by decide,by decide⟩ ⟨by decide,by decide⟩) (by decide) (objOk_mk (by decide) (fun _=>by show (0:Int)<1;decide) (fun e=>absurd e (by decide)) (fun e=>absurd e (by decide)) (fun e=>absurd e (by decide)) (fun e=>absurd e (by decide)) (fun e=>absurd e (by decide)) (fun e=>absurd e (by decide)) (fun e=>absurd e (by decide)) (fun e=>absurd e (by decide)));exact ⟨h1,h2⟩
theorem BOk.space {i:Nat} (h:BOk c i k) (hi:i<64):BOk c (i+1) (k.rootK (i:Int) 8 0):=
 h.root hi (capErr_new ⟨by decide,by decide⟩ ⟨by decide,by decide⟩) (by decide) (ok3 (by decide) (by decide) (fun e=>absurd e (by decide)) (fun e=>absurd e (by decide)) (by decide) (by decide) (by decide) (by decide) (fun _=>by rw[h.sp];decide) (fun e=>absurd e (by decide)))
theorem bootK_ok {bits lines:Nat} {prios:List Int} (h8:c≤8) (hb:4≤bits/\bits≤20) (hl:lines≤8) (hp:prios.length=c) (hps:∀p∈prios,0≤p/\p<256):
  BOk c (3+c+lines) (Ker.bootK c bits lines prios)/\(Ker.bootK c bits lines prios).t.ths.length=c:=by
 obtain ⟨_,h2⟩:=boot_two h8 hb;obtain ⟨h3,h4⟩:=bootT_ok h8 prios 0 _ (by omega) hps h2 rfl;rw[Nat.zero_add] at h3 h4;have h5:=h3.space (by omega)
 have h6:=bootL_ok lines 0 (3+prios.length) _ (by omega) (by omega) (show BOk c (3+prios.length+0) _ from by
  rw[show 3+prios.length+0=2+prios.length+1 from by omega];exact h5)
 refine ⟨?_,?_⟩
 ·have:=h6.1
  rw[show 3+prios.length+(0+lines)=3+c+lines from by omega] at this;exact this
 ·show (Ker.bootL _ _ _ _).t.ths.length=c
  rw[h6.2];exact h4.trans hp
end
end Go.Proofs.YtogmbmdbgkopjaaGreat
end
section
set_option maxRecDepth 8000
namespace Go.Proofs.YtogmbmdbgkopjaaGreat
open Go Go.Vc Go.Proofs
section
variable {B:Nat} {w0 w:World} {R L:List Asn} {b bd bk:Nat} {k:Ker} {N:Nat} {s:Sl}
theorem IndexFunc_int {p:Int->Bool} {f:Value} {xs:List Int} {K:Int->Pw} [I:SlIn s L Int intE xs] (h:Vc.Own B w0 w L) (hbig:xs.length≤1000000000)
  (hf:∀(y:Int) (w:World) (Q:Bool->Pw),y∈xs->Vc.Own B w0 w L->(∀w',Vc.Own B w0 w' L->Q (p y) w')->CallV Tryz.prog f [.z y] w fun en w'=>∃r:Bool,en= .returned (.bool r)/\Q r w')
  (hK:∀w',Vc.Own B w0 w' L->K (idxI p xs) w'):C.qo s f K w:=by
 apply S.qo0;have hlen:s.len=xs.length:=h.lenc s;intro l hl
 have loop:∀m j w,j+m=xs.length->(∀i,i<j->∀z,xs[i]?=some z->p z=false)->Vc.Own B w0 w L->l (j:Int) w:=by
  intro m
  induction m with
  |zero=>
   intro j w hj hno h;apply hl;refine cdecF (by omega) ?_
   have hn:xs.findIdx? p=none:=by
    rw[List.findIdx?_eq_none_iff];intro y hy;obtain ⟨i,hi⟩:=List.mem_iff_getElem?.1 hy;exact hno i (by have:=(List.getElem?_eq_some_iff.1 hi).1;omega) y hi
   have e:idxI p xs= -1:=by unfold idxI;rw[hn]
   rw[←e];exact hK _ h
  |succ m ih=>
   intro j w hj hno h;have hx:xs[j]?=some xs[j]:=gE (by omega);apply hl;refine cdecT (by omega) ?_;refine h.ixc (s:=s) rfl hx fun a ha h0 hc=>?_
   refine ⟨_,h0 _ rfl,?_⟩;refine hf xs[j] w _ (List.getElem_mem _) h fun w h=>?_
   cases hp:p xs[j] with
   |true=>
    refine cbT rfl ?_
    have hn:xs.findIdx? p=some j:=by
     rw[List.findIdx?_eq_some_iff_getElem];refine ⟨by omega,hp,fun i hi=>?_⟩;have:=hno i hi xs[i] (gE (by omega));simp[this]
    have e:idxI p xs=(j:Int):=by unfold idxI;rw[hn]
    rw[←e];exact hK _ h
   |false=>
    refine cbF rfl ?_;rw[wr (by omega) (by omega)];refine ih (j+1) w (by omega) (fun i hi z hz=>?_) h;by_cases e:i=j
    ·subst e;rw[hx] at hz;cases hz;exact hp
    ·exact hno i (by omega) z hz
 exact loop xs.length 0 w (by omega) (fun i hi=>by omega) h
theorem right_spec {c bits lines:Int} {prios:List Int} {K:Bool->Pw} [I:SlIn s L Int intE prios] (h:Vc.Own B w0 w L) (hbig:prios.length≤1000000000)
  (hK:∀w',Vc.Own B w0 w' L->K (Ker.rightB c bits lines prios) w'):C.qcI c bits lines s K w:=by
 apply S.qcI0;have hlen:s.len=prios.length:=h.lenc s;refine h.al fun w1 h=>?_
 generalize w.heap.size=cb at h⊢;intro k6 hk6
 have hno:∀{w},¬(1≤c/\c≤8/\4≤bits/\bits≤20/\0≤lines/\lines≤8)->Vc.Own B w0 w (BlkA cb [.z c, .z bits, .z lines, .slice s.a s.len s.cap]::L)->k6 false w:=fun {w} hb h=>by
  apply hk6;refine cbF rfl ?_;have:=hK w h.drop;rw[show Ker.rightB c bits lines prios=false from decide_eq_false fun hh=>hb ⟨hh.1,hh.2.1,hh.2.2.1,hh.2.2.2.1,hh.2.2.2.2.1,hh.2.2.2.2.2.1⟩] at this;exact this
 have hyes:∀{w},(1≤c/\c≤8/\4≤bits/\bits≤20/\0≤lines/\lines≤8)->Vc.Own B w0 w (BlkA cb [.z c, .z bits, .z lines, .slice s.a s.len s.cap]::L)->k6 true w:=fun {w} hb h=>by
  apply hk6;refine cbT rfl ?_;refine ⟨s,h.ldd rfl,_,h.ldc rfl,?_⟩;refine ceq (fun e=>?_) (fun e=>?_)
  ·refine ⟨s,h.ldd rfl,?_⟩
   apply S.qV0;refine IndexFunc_int (p:=fun y=>decide (y<0)||decide (y≥256)) h hbig (fun y w Q _ h hQ=>callV_mk ?_) fun w h=>?_
   ·show C.qcC y Q w
    apply S.qcC0;have:=hQ w h;refine cdec (fun e=>?_) (fun e=>?_)
    ·rw[decide_eq_true e,Bool.true_or] at this;exact this
    ·rw[decide_eq_false e,Bool.false_or] at this;exact this
   ·have:=hK w h.drop
    rw[idxI_pos]
    have e2:Ker.rightB c bits lines prios= !(prios.any fun y=>decide (y<0)||decide (y≥256)):=by
     unfold Ker.rightB;rw[Bool.eq_iff_iff];simp only[decide_eq_true_eq,Bool.not_eq_true',List.any_eq_false,Bool.or_eq_true,not_or];obtain ⟨b1,b2,b3,b4,b5,b6⟩:=hb;constructor
     ·rintro ⟨_,_,_,_,_,_,_,hp⟩ y hy
      have:=hp y hy;omega
     ·intro hp
      refine ⟨b1,b2,b3,b4,b5,b6,by omega,fun y hy=>?_⟩;have:=hp y hy;omega
    rw[e2] at this;exact this
  ·have:=hK w h.drop
   rw[show Ker.rightB c bits lines prios=false from decide_eq_false fun hh=>by have:=hh.2.2.2.2.2.2.1;omega] at this;exact this
 refine ⟨_,h.ldc rfl,?_⟩;refine cdec (fun e1=>?_) (fun e1=>hno (by omega) h);refine ⟨_,h.ldc rfl,?_⟩;refine cdec (fun e2=>?_) (fun e2=>hno (by omega) h);refine ⟨_,h.ldd rfl,?_⟩;refine cdec (fun e3=>?_) (fun e3=>hno (by omega) h);refine ⟨_,h.ldd rfl,?_⟩;refine cdec (fun e4=>?_) (fun e4=>hno (by omega) h);refine ⟨_,h.ldd rfl,?_⟩;refine cdec (fun e5=>?_) (fun e5=>hno (by omega) h);refine ⟨_,h.ldd rfl,?_⟩;by_cases e6:lines≤8
 ·rw[decide_eq_true e6];exact hyes (by omega) h
 ·rw[decide_eq_false e6];exact hno (by omega) h
end
def KerN (b nb nt:Nat) (k:Ker):Asn:=ExA fun x:Kx=>StarA [BlkA b (kcells x k.frames k.tabs nb nt),Sl.NodesA x.n k.bits k.H,Tr.TreeA x.tr k.T,Th.ThrA x.t k.t,LinesA x.ln k.ln,SlT untE x.su k.u,SlT ptE x.se x.pe,PtsA EndA x.pe k.ends,SlT ptE x.sn x.pn,PtsA NoteA x.pn k.notes,SlT ptE x.ss x.ps,PtsA Tb.SpcA x.ps k.spaces]
section
variable {B:Nat} {w0 w:World} {R L:List Asn} {b nb nt:Nat} {k:Ker} {N:Nat} {s:Sl}
theorem kerN (h:Vc.Own B w0 w (KerN b nb nt k::R)):∃x:Kx,Vc.Own B w0 w (BlkA b (kcells x k.frames k.tabs nb nt)::Sl.NodesA x.n k.bits k.H::Tr.TreeA x.tr k.T::Th.ThrA x.t k.t::LinesA x.ln k.ln::SlT untE x.su k.u::SlT ptE x.se x.pe::PtsA EndA x.pe k.ends::SlT ptE x.sn x.pn::PtsA NoteA x.pn k.notes::SlT ptE x.ss x.ps::PtsA Tb.SpcA x.ps k.spaces::R):=by
 obtain ⟨x,h⟩:=Vc.Own.ex h;exact ⟨x,h.star⟩
theorem mk_kerN (x:Kx) {bits:List Int} {H:Sl.Hs} {T:Tr.Tr} {t:Th.Mt} {ln:Lns} {u:List Unt} {ends:List Ept} {notes:List Nte} {spaces:List Tb.Spc} {fr tb:Nat}
  (h:Vc.Own B w0 w (BlkA b (kcells x fr tb nb nt)::Sl.NodesA x.n bits H::Tr.TreeA x.tr T::Th.ThrA x.t t::LinesA x.ln ln::SlT untE x.su u::SlT ptE x.se x.pe::PtsA EndA x.pe ends::SlT ptE x.sn x.pn::PtsA NoteA x.pn notes::SlT ptE x.ss x.ps::PtsA Tb.SpcA x.ps spaces::R)):
  Vc.Own B w0 w (KerN b nb nt ⟨bits,H,T,t,ln,u,ends,notes,spaces,fr,tb⟩::R):=Vc.Own.mk_ex x (Vc.Own.mk_star h)
theorem kerN_thr (h:Vc.Own B w0 w (KerN b nb nt k::R)):∃(bt:Nat) (Y:Asn),Vc.Own B w0 w (Th.ThrA bt k.t::Y::R)/\w.cell? ((Addr.mk b 0 none).add 2)=some (.pointer (some ⟨bt,0,none⟩))/\
  (∀R' w',Vc.Own B w0 w' (Th.ThrA bt k.t::Y::R')->w'.cell? ((Addr.mk b 0 none).add 2)=some (.pointer (some ⟨bt,0,none⟩)))/\
  (∀R' w' t,Vc.Own B w0 w' (Th.ThrA bt t::Y::R')->w'.cell? ((Addr.mk b 0 none).add 2)=some (.pointer (some ⟨bt,0,none⟩))/\Vc.Own B w0 w' (KerN b nb nt (k.setT t)::R')):=by
 obtain ⟨x,h⟩:=kerN h
 have hback:∀R' w' t,Vc.Own B w0 w' (Th.ThrA x.t t::StarA [BlkA b (kcells x k.frames k.tabs nb nt),Sl.NodesA x.n k.bits k.H,Tr.TreeA x.tr k.T,LinesA x.ln k.ln,SlT untE x.su k.u,SlT ptE x.se x.pe,PtsA EndA x.pe k.ends,SlT ptE x.sn x.pn,PtsA NoteA x.pn k.notes,SlT ptE x.ss x.ps,PtsA Tb.SpcA x.ps k.spaces]::R')->w'.cell? ((Addr.mk b 0 none).add 2)=some (.pointer (some ⟨x.t,0,none⟩))/\Vc.Own B w0 w' (KerN b nb nt (k.setT t)::R'):=fun R' w' t h=>by
  have h:Vc.Own B w0 w' (BlkA b (kcells x k.frames k.tabs nb nt)::Sl.NodesA x.n k.bits k.H::Tr.TreeA x.tr k.T::LinesA x.ln k.ln::SlT untE x.su k.u::SlT ptE x.se x.pe::PtsA EndA x.pe k.ends::SlT ptE x.sn x.pn::PtsA NoteA x.pn k.notes::SlT ptE x.ss x.ps::PtsA Tb.SpcA x.ps k.spaces::Th.ThrA x.t t::R'):=(h.up1).star;refine ⟨h.ldd rfl,?_⟩;exact (show Vc.Own B w0 w' (KerN b nb nt (k.setT t)::R') from mk_kerN x h.sub)
 have h1:Vc.Own B w0 w (Th.ThrA x.t k.t::StarA [BlkA b (kcells x k.frames k.tabs nb nt),Sl.NodesA x.n k.bits k.H,Tr.TreeA x.tr k.T,LinesA x.ln k.ln,SlT untE x.su k.u,SlT ptE x.se x.pe,PtsA EndA x.pe k.ends,SlT ptE x.sn x.pn,PtsA NoteA x.pn k.notes,SlT ptE x.ss x.ps,PtsA Tb.SpcA x.ps k.spaces]::R):=Vc.Own.up1 (Vc.Own.mk_star (show Vc.Own B w0 w (BlkA b (kcells x k.frames k.tabs nb nt)::Sl.NodesA x.n k.bits k.H::Tr.TreeA x.tr k.T::LinesA x.ln k.ln::SlT untE x.su k.u::SlT ptE x.se x.pe::PtsA EndA x.pe k.ends::SlT ptE x.sn x.pn::PtsA NoteA x.pn k.notes::SlT ptE x.ss x.ps::PtsA Tb.SpcA x.ps k.spaces::Th.ThrA x.t k.t::R) from h.sub));exact ⟨x.t,_,h1,(hback R w k.t h1).1,fun R' w' h=>(hback R' w' k.t h).1,hback⟩
theorem root_spec {i kind obj:Int} {K:Int->Pw} (hT:k.T.length<1000000) (h:Vc.Own B w0 w (KerN b nb nt k::R)) (hK:∀w',Vc.Own B w0 w' (KerN b nb nt (k.rootK i kind obj)::R)->K (IntKind.i64.wrap (i+1)) w'):C.qF (some ⟨b,0,none⟩) i kind obj K w:=by
 apply S.qF0;refine h.al fun w1 h=>?_
 generalize w.heap.size=c at h⊢;refine h.stLc rfl rfl fun w h=>?_
 (try dsimp only[putAt,List.set_cons_zero,List.set_cons_succ] at h)
 obtain ⟨x,h⟩:=kerN (h.pick (A:=KerN b nb nt k));refine h.dr fun w h=>?_
 refine ⟨_,rfl,_,h.ldc rfl,?_⟩;refine h.lc_2 rfl ⟨?_,trivial⟩;refine Sl.slots_Nodes_Put_spec (s:=(0,i)) (c:=⟨kind,obj,7,0,0,0⟩) capR_new (h.pick (A:=Sl.NodesA x.n k.bits k.H)) fun w h=>?_
 refine h.dr fun w h=>?_
 refine ⟨_,rfl,_,h.ldd rfl,?_⟩;refine h.lc_2 rfl ⟨?_,trivial⟩;refine Tr.tree_Root_spec (s:=(0,i)) hT (h.pick (A:=Tr.TreeA x.tr k.T)) fun w h=>?_
 refine hK w ?_;exact (show Vc.Own B w0 w (KerN b nb nt (k.rootK i kind obj)::R) from mk_kerN x h.sub)
theorem makeR_spec {t:Th.Mt} {bt:Nat} {p c:Int} {K:Int->Int->Pw} (hm:Th.MOk t) (h:Vc.Own B w0 w (Th.ThrA bt t::R)) (hK:∀w',Vc.Own B w0 w' (Th.ThrA bt (t.makeR p c).2.2::R)->K (t.makeR p c).1 (t.makeR p c).2.1 w'):C.qC (some ⟨bt,0,none⟩) p c K w:=by
 unfold Th.Mt.makeR at hK;refine Th.thr_Make_spec hm h (fun e w h=>?_) (fun e e1 w h=>?_) (fun e e1 w h=>?_)
 ·rw[if_pos e] at hK;exact hK w h
 ·rw[if_neg (fun hh=>hh e),if_pos e1] at hK;exact hK w h
 ·rw[if_neg (fun hh=>hh e),if_neg (by omega)] at hK;exact hK w h
set_option maxHeartbeats 2000000 in
theorem Boot_spec {c bits lines:Int} {prios:List Int} {K:Option Addr->Int->Pw} [I:SlIn s L Int intE prios] (h:Vc.Own B w0 w L) (hbig:prios.length≤1000000000)
  (hK0:Ker.rightB c bits lines prios=false->∀w',Vc.Own B w0 w' L->K none 1 w')
  (hK1:Ker.rightB c bits lines prios=true->∀b w',Vc.Own B w0 w' (KerA b (Ker.bootK c.toNat bits.toNat lines.toNat prios)::L)->K (some ⟨b,0,none⟩) 0 w'):C.qcm c bits lines s K w:=by
 apply S.qcm0;refine h.al fun w1 h=>?_
 generalize w.heap.size=cb at h⊢;refine h.lc_4 rfl ?_;refine right_spec (s:=s) h hbig fun w h=>?_
 cases hr:Ker.rightB c bits lines prios with
 |false=>exact cbT rfl (hK0 hr w h.drop)
 |true=>
 have hK:=hK1 hr;clear hK0 hK1;obtain ⟨b1,b2,b3,b4,b5,b6,b7,b8⟩:=of_decide_eq_true hr;clear hr;obtain ⟨c,rfl⟩:=Int.eq_ofNat_of_zero_le (show 0≤c by omega);obtain ⟨bits,rfl⟩:=Int.eq_ofNat_of_zero_le (show 0≤bits by omega);obtain ⟨lines,rfl⟩:=Int.eq_ofNat_of_zero_le b5;have b2:c≤8:=by omega
 have b9:4≤bits/\bits≤20:=⟨by omega,by omega⟩
 have b6:lines≤8:=by omega
 have b7:prios.length=c:=by omega
 simp only[Int.toNat_natCast] at hK;have hlen:s.len=prios.length:=(h.drop).lenc s;refine cbF rfl ?_;intro k12 hk12
 have fin:∀(kb n tr ub sp pb:Nat) (w:World),Vc.Own B w0 w (BlkA kb [.pointer (some ⟨n,0,none⟩), .pointer (some ⟨tr,0,none⟩), .pointer none, .pointer none, .slice (some ⟨ub,0,none⟩) 1 1, .slice none 0 0, .slice none 0 0, .slice (some ⟨pb,0,none⟩) 1 1, .z 0, .z 0, .z 1, .z c]::Sl.NodesA n [] (fun _=>none)::Tr.TreeA tr []::BlkA ub [.y 0, .z bits, .y 0]::Tb.SpcA sp Tb.newS::BlkA pb [.pointer (some ⟨sp,0,none⟩)]::BlkA cb [.z c, .z bits, .z lines, .slice s.a s.len s.cap]::L)->k12 (some ⟨kb,0,none⟩) w:=fun kb n tr ub sp pb w h=>by
  apply hk12;refine ⟨_,h.ldc rfl,?_⟩;refine Th.thr_New_spec h (fun e=>absurd ⟨by omega,by omega⟩ e) fun cc ecc _ _ bt w h=>?_
  obtain rfl:c=cc:=by omega
  refine ⟨_,rfl,?_⟩;refine h.std rfl rfl fun w h=>?_
  (try dsimp only[putAt,List.set_cons_zero,List.set_cons_succ] at h)
  refine irq_New_spec h fun bl w h=>?_
  refine ⟨_,rfl,?_⟩;refine h.std rfl rfl fun w h=>?_
  (try dsimp only[putAt,List.set_cons_zero,List.set_cons_succ] at h)
  refine ⟨_,rfl,_,h.ldc rfl,?_⟩;refine Sl.slots_Nodes_Make_spec (h.pick (A:=Sl.NodesA n [] (fun _=>none))) fun w h=>?_
  have h:=(h.pick (A:=BlkA ub [.y 0, .z bits, .y 0])).asSl (E:=untE) [⟨0,bits,0⟩] rfl;have h:=(h.pick (A:=BlkA pb [.pointer (some ⟨sp,0,none⟩)])).asSl (E:=ptE) [sp] rfl;have h:=Vc.Own.mk_pts (A:=EndA) (ps:=[]) (xs:=[]) rfl h;have h:=Vc.Own.nilS (E:=ptE) h;have h:=Vc.Own.mk_pts (A:=NoteA) (ps:=[]) (xs:=[]) rfl h;have h:=Vc.Own.nilS (E:=ptE) h;have h:=Vc.Own.mk_pts (A:=Tb.SpcA) (ps:=[sp]) (xs:=[Tb.newS]) rfl (h.pick (A:=Tb.SpcA sp Tb.newS));have h:Vc.Own B w0 w (PtsA Tb.SpcA [sp] [Tb.newS]::SlT ptE ⟨none,0,0⟩ []::PtsA NoteA [] []::SlT ptE ⟨none,0,0⟩ []::PtsA EndA [] []::SlT ptE ⟨some ⟨pb,0,none⟩,1,1⟩ [sp]::SlT untE ⟨some ⟨ub,0,none⟩,1,1⟩ [⟨0,bits,0⟩]::Sl.NodesA n [6] (fun _=>none)::LinesA bl (List.replicate 8 ⟨0,0,0⟩)::Th.ThrA bt (Th.newM c)::BlkA kb [.pointer (some ⟨n,0,none⟩), .pointer (some ⟨tr,0,none⟩), .pointer (some ⟨bt,0,none⟩), .pointer (some ⟨bl,0,none⟩), .slice (some ⟨ub,0,none⟩) 1 1, .slice none 0 0, .slice none 0 0, .slice (some ⟨pb,0,none⟩) 1 1, .z 0, .z 0, .z 1, .z c]::Tr.TreeA tr []::BlkA cb [.z c, .z bits, .z lines, .slice s.a s.len s.cap]::L):=h;have h:Vc.Own B w0 w (BlkA kb [.pointer (some ⟨n,0,none⟩), .pointer (some ⟨tr,0,none⟩), .pointer (some ⟨bt,0,none⟩), .pointer (some ⟨bl,0,none⟩), .slice (some ⟨ub,0,none⟩) 1 1, .slice none 0 0, .slice none 0 0, .slice (some ⟨pb,0,none⟩) 1 1, .z 0, .z 0, .z 1, .z c]::Sl.NodesA n [6] (fun _=>none)::Tr.TreeA tr []::Th.ThrA bt (Th.newM c)::LinesA bl (List.replicate 8 ⟨0,0,0⟩)::SlT untE ⟨some ⟨ub,0,none⟩,1,1⟩ [⟨0,bits,0⟩]::SlT ptE ⟨none,0,0⟩ []::PtsA EndA [] []::SlT ptE ⟨none,0,0⟩ []::PtsA NoteA [] []::SlT ptE ⟨some ⟨pb,0,none⟩,1,1⟩ [sp]::PtsA Tb.SpcA [sp] [Tb.newS]::BlkA cb [.z c, .z bits, .z lines, .slice s.a s.len s.cap]::L):=h.sub;have h:Vc.Own B w0 w (KerN kb 1 c (Ker.newK c bits)::BlkA cb [.z c, .z bits, .z lines, .slice s.a s.len s.cap]::L):=mk_kerN ⟨n,tr,bt,bl,⟨some ⟨ub,0,none⟩,1,1⟩,⟨none,0,0⟩,⟨none,0,0⟩,⟨some ⟨pb,0,none⟩,1,1⟩,[],[],[sp]⟩ h;have g0:=newK_ok (c:=c) b2 b9;obtain ⟨g1,g2⟩:=boot_two (c:=c) b2 b9;have few:∀{m:Nat} {k:Ker},BOk c m k->k.T.length<1000000:=fun g=>by have:=g.ok.few;omega
  refine root_spec (i:=0) (kind:=2) (obj:=0) (few g0) h fun w h=>?_
  rw[show IntKind.i64.wrap (0+1)=1 from by decide];refine root_spec (i:=1) (kind:=1) (obj:=0) (few g1) h fun w h=>?_
  rw[show IntKind.i64.wrap (1+1)=2 from by decide];refine ⟨s,h.ldd rfl,?_⟩;intro l36 hl36
  have loop:∀(ps:List Int) (j:Nat) (k:Ker) (w:World),prios.drop j=ps->j+ps.length=c->BOk c (2+j) k->k.t.ths.length=j->Ker.bootT ps j k=Ker.bootT prios 0 (((Ker.newK c bits).rootK 0 2 0).rootK 1 1 0)->
    Vc.Own B w0 w (KerN kb 1 c k::BlkA cb [.z c, .z bits, .z lines, .slice s.a s.len s.cap]::L)->l36 ((2+j:Nat):Int) (j:Int) w:=by
   intro ps
   induction ps with
   |nil=>
    intro j k w hd hj g ht he h;have hj:j=c:=hj;have he:k=_:=he;apply hl36;refine cdecF (by omega) ?_;refine root_spec (i:=((2+j:Nat):Int)) (kind:=8) (obj:=0) (few g) h fun w h=>?_
    refine ⟨_,h.ldd rfl,?_⟩;intro l61 hl61;have g3:=g.space (by omega)
    have lines_loop:∀(q t:Nat) (k:Ker) (w:World),t+q=lines->BOk c (3+c+t) k->Ker.bootL q t (3+prios.length) k=Ker.bootK c bits lines prios->k.t.ths.length=c->Vc.Own B w0 w (KerN kb 1 c k::BlkA cb [.z c, .z bits, .z lines, .slice s.a s.len s.cap]::L)->l61 ((3+c+t:Nat):Int) (t:Int) w:=by
     intro q
     induction q with
     |zero=>
      intro t k w hq g he ht h;have he:k=Ker.bootK c bits lines prios:=he;apply hl61;refine cdecF (by omega) ?_;refine hK kb w ?_;rw[←he]
      have h2:KerN kb 1 c k=KerA kb k:=by
       unfold KerN KerA;rw[ht,g.bits];rfl
      rw[h2] at h;exact h.sub
     |succ q ih=>
      intro t k w hq g he ht h;apply hl61;refine cdecT (by omega) ?_;refine root_spec (i:=((3+c+t:Nat):Int)) (kind:=9) (obj:=(t:Int)) (few g) h fun w h=>?_
      rw[show IntKind.i64.wrap (((3+c+t:Nat):Int)+1)=((3+c+(t+1):Nat):Int) from by rw[wr (by omega) (by omega)];omega,
       show IntKind.i64.wrap ((t:Int)+1)=((t+1:Nat):Int) from by rw[wr (by omega) (by omega)];omega]
      refine ih (t+1) _ w (by omega) (g.line (by omega) (by omega)) ?_ ht h;rw[←he,b7];rfl
    have hi:IntKind.i64.wrap (((2+j:Nat):Int)+1)=((3+c+0:Nat):Int):=by rw[wr (by omega) (by omega)];omega
    rw[hi];refine lines_loop lines 0 (k.rootK ((2+j:Nat):Int) 8 0) w (by omega) (show BOk c (3+c+0) (k.rootK ((2+j:Nat):Int) 8 0) from by rw[show 3+c+0=2+j+1 from by omega];exact g3) ?_ (ht.trans hj) h;unfold Ker.bootK;rw[←he,hj,b7]
   |cons p ps ih=>
    intro j k w hd hj g ht he h;rw[List.length_cons] at hj
    have hx:prios[j]?=some p:=by
     have:=congrArg (fun l=>l[0]?) hd;simpa using this
    have hp:0≤p/\p<256:=b8 p (List.mem_of_getElem? hx);obtain ⟨g3,g4,g5⟩:=g.thread (by omega) b2 ht hp;apply hl36;refine cdecT (by omega) ?_;refine h.ixc (s:=s) (i:=(j:Int)) (j:=j) rfl hx fun a ha h0 hcc=>⟨_,h0 _ rfl,?_⟩
    obtain ⟨bt,Y,h,hc2,_,hback⟩:=kerN_thr h;refine ⟨_,rfl,_,hc2,?_⟩;refine makeR_spec g.ok.inv.ok h fun w h=>?_
    refine ⟨_,rfl,_,(hback _ w _ h).1,?_⟩;have i1:=g.ok.inv.makeR p (j:Int);refine Th.resume_g i1.ok h fun w h=>?_
    refine ⟨_,rfl,_,(hback _ w _ h).1,?_⟩;refine Th.thr_Pick_spec (i1.resume _).ok h fun w h=>?_
    have h:=(hback _ w _ h).2;refine root_spec (k:=k.setT (((k.t.makeR p (j:Int)).2.2.resumeR (k.t.makeR p (j:Int)).1).2.pickC (j:Int))) (i:=((2+j:Nat):Int)) (kind:=3) (obj:=(k.t.makeR p (j:Int)).1) (show k.T.length<1000000 from few g) h fun w h=>?_
    rw[show IntKind.i64.wrap (((2+j:Nat):Int)+1)=((2+(j+1):Nat):Int) from by rw[wr (by omega) (by omega)];omega,
     show IntKind.i64.wrap ((j:Int)+1)=((j+1:Nat):Int) from by rw[wr (by omega) (by omega)];omega]
    refine ih (j+1) _ w ?_ (by omega) g3 g4 (he▸rfl) h;rw[←List.drop_drop,hd];rfl
  exact loop prios 0 _ w rfl (by omega) g2 rfl rfl h
 refine h.dr fun w h=>?_
 refine ⟨_,h.ldd rfl,_,h.ldc rfl,?_,?_,trivial⟩
 ·refine Sl.slots_New_spec h fun n w h=>?_
  refine ⟨h.ldc rfl,h.ldd rfl,?_,?_,trivial⟩
  ·refine Tr.tree_New_spec h fun tr w h=>?_
   refine ⟨h.ldc rfl,h.ldd rfl,?_,?_,trivial⟩
   ·refine h.al fun v1 h=>?_
    generalize w.heap.size=ub at h⊢;refine ⟨?_,trivial⟩;refine Tb.New_spec h fun sp w h=>?_
    refine ⟨h.ldc rfl,?_,trivial⟩;refine h.al fun v2 h=>⟨?_,trivial⟩
    generalize w.heap.size=pb at h⊢;refine h.al fun v3 h=>?_
    generalize v2.heap.size=kb at h⊢;exact fin kb n tr ub sp pb _ h.sub
   ·refine Tb.New_spec h fun sp w h=>?_
    refine ⟨h.ldc rfl,h.ldd rfl,?_,?_,trivial⟩
    ·refine h.al fun v1 h=>⟨?_,trivial⟩
     generalize w.heap.size=ub at h⊢;refine h.al fun v2 h=>⟨?_,trivial⟩
     generalize v1.heap.size=pb at h⊢;refine h.al fun v3 h=>?_
     generalize v2.heap.size=kb at h⊢;exact fin kb n tr ub sp pb _ h.sub
    ·refine h.al fun v1 h=>⟨?_,trivial⟩
     generalize w.heap.size=pb at h⊢;refine h.al fun v2 h=>⟨?_,trivial⟩
     generalize v1.heap.size=ub at h⊢;refine h.al fun v3 h=>?_
     generalize v2.heap.size=kb at h⊢;exact fin kb n tr ub sp pb _ h.sub
  ·refine h.al fun v1 h=>⟨?_,trivial⟩
   generalize w.heap.size=ub at h⊢;refine Tr.tree_New_spec h fun tr w h=>?_
   refine ⟨h.ldc rfl,?_,trivial⟩;refine Tb.New_spec h fun sp w h=>?_
   refine ⟨h.ldc rfl,?_,trivial⟩;refine h.al fun v2 h=>⟨?_,trivial⟩
   generalize w.heap.size=pb at h⊢;refine h.al fun v3 h=>?_
   generalize v2.heap.size=kb at h⊢;exact fin kb n tr ub sp pb _ h.sub
 ·refine h.al fun v1 h=>⟨?_,trivial⟩
  generalize w.heap.size=ub at h⊢;refine Sl.slots_New_spec h fun n w h=>?_
  refine ⟨h.ldc rfl,?_,trivial⟩;refine Tr.tree_New_spec h fun tr w h=>?_
  refine ⟨h.ldc rfl,?_,trivial⟩;refine Tb.New_spec h fun sp w h=>?_
  refine ⟨h.ldc rfl,?_,trivial⟩;refine h.al fun v2 h=>⟨?_,trivial⟩
  generalize w.heap.size=pb at h⊢;refine h.al fun v3 h=>?_
  generalize v2.heap.size=kb at h⊢;exact fin kb n tr ub sp pb _ h.sub
end
end Go.Proofs.YtogmbmdbgkopjaaGreat
end
section
set_option maxRecDepth 100000
namespace Go.Proofs.YtogmbmdbgkopjaaGreat
open Go Go.Vc Go.Proofs
def fk0:Ker:=Ker.bootK 1 10 2 [5]
theorem f1:(fk0.do 0 ⟨0,1,20,4,0,1⟩).1=⟨0,0, -1,[]⟩:=by kernel_rfl
def fk1:Ker:=(fk0.do 0 ⟨0,1,20,4,0,1⟩).2
theorem f2:(fk1.do 0 ⟨1,20,21,2,7,0⟩).1=⟨0,0, -1,[]⟩:=by kernel_rfl
def fk2:Ker:=(fk1.do 0 ⟨1,20,21,2,7,0⟩).2
theorem f3:(fk2.do 0 ⟨9,21,0,0,0,0⟩).1=⟨181,0, -1,[]⟩:=by kernel_rfl
def fk3:Ker:=(fk2.do 0 ⟨9,21,0,0,0,0⟩).2
theorem fh3:(heldL fk3.H).length=8:=by kernel_rfl
theorem f4:(fk3.do 0 ⟨4,1,0,0,0,0⟩).1=⟨0,2, -1,[]⟩:=by kernel_rfl
def fk4:Ker:=(fk3.do 0 ⟨4,1,0,0,0,0⟩).2
theorem f5:(fk4.do 0 ⟨18,0,0,0,0,0⟩).1=⟨180,0, -1,[]⟩:=by kernel_rfl
def fk5:Ker:=(fk4.do 0 ⟨18,0,0,0,0,0⟩).2
theorem f6:(fk5.do 1 ⟨0,0,0,0,0,0⟩).1=⟨182,0, -1,[]⟩:=by kernel_rfl
def fk6:Ker:=(fk5.do 1 ⟨0,0,0,0,0,0⟩).2
theorem fu6:fk6.untR 0=(⟨0,10,0⟩,true):=by kernel_rfl
theorem f7:(fk6.do 0 ⟨6,2,0,0,0,0⟩).1=⟨0,0, -1,[]⟩:=by kernel_rfl
def fk7:Ker:=(fk6.do 0 ⟨6,2,0,0,0,0⟩).2
theorem f8:(fk7.do 0 ⟨17,0,0,0,0,0⟩).1=⟨182,0, -1,[]⟩:=by kernel_rfl
def fk8:Ker:=(fk7.do 0 ⟨17,0,0,0,0,0⟩).2
theorem fh8:(heldL fk8.H).length=6:=by kernel_rfl
end Go.Proofs.YtogmbmdbgkopjaaGreat
end
section
set_option maxRecDepth 8000
namespace Go.Proofs.YtogmbmdbgkopjaaGreat
open Go Go.Vc Go.Proofs
theorem fk0_ok:KOk 1 fk0:=(bootK_ok (c:=1) (bits:=10) (lines:=2) (prios:=[5]) (by decide) (by decide) (by decide) rfl (by decide)).1.ok
theorem fk1_ok:KOk 65 fk1:=fk0_ok.do (by decide) 0 ⟨0,1,20,4,0,1⟩
theorem fk2_ok:KOk 129 fk2:=fk1_ok.do (by decide) 0 ⟨1,20,21,2,7,0⟩
theorem fk3_ok:KOk 193 fk3:=fk2_ok.do (by decide) 0 ⟨9,21,0,0,0,0⟩
theorem fk4_ok:KOk 257 fk4:=fk3_ok.do (by decide) 0 ⟨4,1,0,0,0,0⟩
theorem fk5_ok:KOk 321 fk5:=fk4_ok.do (by decide) 0 ⟨18,0,0,0,0,0⟩
theorem fk6_ok:KOk 385 fk6:=fk5_ok.do (by decide) 1 ⟨0,0,0,0,0,0⟩
theorem fk7_ok:KOk 449 fk7:=fk6_ok.do (by decide) 0 ⟨6,2,0,0,0,0⟩
theorem fk8_ok:KOk 513 fk8:=fk7_ok.do (by decide) 0 ⟨17,0,0,0,0,0⟩
section
variable {B:Nat} {w0 w:World} {R L:List Asn}
set_option maxHeartbeats 1000000 in
theorem fixed_spec {K:Bool->Pw} (h:Vc.Own B w0 w R) (hK:∀w',Vc.Own B w0 w' R->K true w'):C.qaO K w:=by
 apply S.qaO0;apply S.qdo0;refine h.al fun w1 h=>?_
 generalize w.heap.size=cf at h⊢;refine h.al fun w2 h=>?_
 generalize w1.heap.size=pb at h⊢;refine h.stLc rfl rfl fun w h=>?_
 (try dsimp only[putAt,List.set_cons_zero,List.set_cons_succ] at h)
 refine h.lc_4 (c0:= .i .i64) (c1:= .i .i64) (c2:= .i .i64) (c3:= .s) (x3:=Vc.Sl.mk (some ⟨pb,0,none⟩) 1 1) rfl ?_;have h:=(h.pick (A:=BlkA pb [.z 5])).asSl (E:=intE) [5] rfl;have h:Vc.Own B w0 w (SlT intE ⟨some ⟨pb,0,none⟩,1,1⟩ [5]::R):=h.sub;refine Boot_spec (s:=⟨some ⟨pb,0,none⟩,1,1⟩) (prios:=[5]) h (by decide) (fun e=>absurd e (by decide)) fun _ kb w h=>?_
 have h:Vc.Own B w0 w (KerA kb fk0::SlT intE ⟨some ⟨pb,0,none⟩,1,1⟩ [5]::R):=h;have h:Vc.Own B w0 w (KerA kb fk0::R):=h.sub;intro k9 hk9;refine cbF rfl ?_;refine hk9 _ _ (cbF rfl ?_);refine Do_spec (core:=0) (c:=⟨0,1,20,4,0,1⟩) fk0_ok (by decide) (by decide) (by decide) (h.pick (A:=KerA kb fk0)) fun f0 w h=>?_
 rw[f1] at h⊢;dsimp only at h⊢;refine h.al fun w1 h=>?_
 generalize w.heap.size=o0 at h⊢;refine h.stLc rfl rfl fun w h=>?_
 (try dsimp only[putAt,List.set_cons_zero,List.set_cons_succ] at h)
 have h:Vc.Own B w0 w (BlkA o0 [.z 0, .y 0, .z (-1), .slice f0.a f0.len f0.cap]::SlT lneE f0 []::KerA kb fk1::_):=h;have h:Vc.Own B w0 w (KerA kb fk1::BlkA o0 [.z 0, .y 0, .z (-1), .slice f0.a f0.len f0.cap]::R):=h.sub;refine Do_spec (core:=0) (c:=⟨1,20,21,2,7,0⟩) fk1_ok (by decide) (by decide) (by decide) (h.pick (A:=KerA kb fk1)) fun f1 w h=>?_
 rw[f2] at h⊢;dsimp only at h⊢;refine h.al fun w1 h=>?_
 generalize w.heap.size=o1 at h⊢;refine h.stLc rfl rfl fun w h=>?_
 (try dsimp only[putAt,List.set_cons_zero,List.set_cons_succ] at h)
 have h:Vc.Own B w0 w (BlkA o1 [.z 0, .y 0, .z (-1), .slice f1.a f1.len f1.cap]::SlT lneE f1 []::KerA kb fk2::_):=h;have h:Vc.Own B w0 w (KerA kb fk2::BlkA o0 [.z 0, .y 0, .z (-1), .slice f0.a f0.len f0.cap]::BlkA o1 [.z 0, .y 0, .z (-1), .slice f1.a f1.len f1.cap]::R):=h.sub;refine Do_spec (core:=0) (c:=⟨9,21,0,0,0,0⟩) fk2_ok (by decide) (by decide) (by decide) (h.pick (A:=KerA kb fk2)) fun f2 w h=>?_
 rw[f3] at h⊢;dsimp only at h⊢;refine h.al fun w1 h=>?_
 generalize w.heap.size=o2 at h⊢;refine h.stLc rfl rfl fun w h=>?_
 (try dsimp only[putAt,List.set_cons_zero,List.set_cons_succ] at h)
 have h:Vc.Own B w0 w (BlkA o2 [.z 181, .y 0, .z (-1), .slice f2.a f2.len f2.cap]::SlT lneE f2 []::KerA kb fk3::_):=h;have h:Vc.Own B w0 w (KerA kb fk3::BlkA o0 [.z 0, .y 0, .z (-1), .slice f0.a f0.len f0.cap]::BlkA o1 [.z 0, .y 0, .z (-1), .slice f1.a f1.len f1.cap]::BlkA o2 [.z 181, .y 0, .z (-1), .slice f2.a f2.len f2.cap]::R):=h.sub;refine Held_spec fk3_ok h fun hs w h=>?_
 have hl:=h.lenc hs;rw[fh3] at hl;have h:=h.drop;refine Do_spec (core:=0) (c:=⟨4,1,0,0,0,0⟩) fk3_ok (by decide) (by decide) (by decide) (h.pick (A:=KerA kb fk3)) fun f3 w h=>?_
 rw[f4] at h⊢;dsimp only at h⊢;refine h.al fun w1 h=>?_
 generalize w.heap.size=o3 at h⊢;refine h.stLc rfl rfl fun w h=>?_
 (try dsimp only[putAt,List.set_cons_zero,List.set_cons_succ] at h)
 have h:Vc.Own B w0 w (BlkA o3 [.z 0, .y 2, .z (-1), .slice f3.a f3.len f3.cap]::SlT lneE f3 []::KerA kb fk4::_):=h;have h:Vc.Own B w0 w (KerA kb fk4::BlkA o0 [.z 0, .y 0, .z (-1), .slice f0.a f0.len f0.cap]::BlkA o1 [.z 0, .y 0, .z (-1), .slice f1.a f1.len f1.cap]::BlkA o2 [.z 181, .y 0, .z (-1), .slice f2.a f2.len f2.cap]::BlkA o3 [.z 0, .y 2, .z (-1), .slice f3.a f3.len f3.cap]::R):=h.sub;refine Do_spec (core:=0) (c:=⟨18,0,0,0,0,0⟩) fk4_ok (by decide) (by decide) (by decide) (h.pick (A:=KerA kb fk4)) fun f4 w h=>?_
 rw[f5] at h⊢;dsimp only at h⊢;refine h.al fun w1 h=>?_
 generalize w.heap.size=o4 at h⊢;refine h.stLc rfl rfl fun w h=>?_
 (try dsimp only[putAt,List.set_cons_zero,List.set_cons_succ] at h)
 have h:Vc.Own B w0 w (BlkA o4 [.z 180, .y 0, .z (-1), .slice f4.a f4.len f4.cap]::SlT lneE f4 []::KerA kb fk5::_):=h;have h:Vc.Own B w0 w (KerA kb fk5::BlkA o0 [.z 0, .y 0, .z (-1), .slice f0.a f0.len f0.cap]::BlkA o1 [.z 0, .y 0, .z (-1), .slice f1.a f1.len f1.cap]::BlkA o2 [.z 181, .y 0, .z (-1), .slice f2.a f2.len f2.cap]::BlkA o3 [.z 0, .y 2, .z (-1), .slice f3.a f3.len f3.cap]::BlkA o4 [.z 180, .y 0, .z (-1), .slice f4.a f4.len f4.cap]::R):=h.sub;refine Do_spec (core:=1) (c:=⟨0,0,0,0,0,0⟩) fk5_ok (by decide) (by decide) (by decide) (h.pick (A:=KerA kb fk5)) fun f5 w h=>?_
 rw[f6] at h⊢;dsimp only at h⊢;refine h.al fun w1 h=>?_
 generalize w.heap.size=o5 at h⊢;refine h.stLc rfl rfl fun w h=>?_
 (try dsimp only[putAt,List.set_cons_zero,List.set_cons_succ] at h)
 have h:Vc.Own B w0 w (BlkA o5 [.z 182, .y 0, .z (-1), .slice f5.a f5.len f5.cap]::SlT lneE f5 []::KerA kb fk6::_):=h;have h:Vc.Own B w0 w (KerA kb fk6::BlkA o0 [.z 0, .y 0, .z (-1), .slice f0.a f0.len f0.cap]::BlkA o1 [.z 0, .y 0, .z (-1), .slice f1.a f1.len f1.cap]::BlkA o2 [.z 181, .y 0, .z (-1), .slice f2.a f2.len f2.cap]::BlkA o3 [.z 0, .y 2, .z (-1), .slice f3.a f3.len f3.cap]::BlkA o4 [.z 180, .y 0, .z (-1), .slice f4.a f4.len f4.cap]::BlkA o5 [.z 182, .y 0, .z (-1), .slice f5.a f5.len f5.cap]::R):=h.sub;refine Untyped_spec (n:=0) h fun w h=>?_
 rw[fu6];dsimp only;refine h.al fun w1 h=>?_
 generalize w.heap.size=ub at h⊢;refine h.stLc rfl rfl fun w h=>?_
 (try dsimp only[putAt,List.set_cons_zero,List.set_cons_succ] at h)
 have h:Vc.Own B w0 w (BlkA ub [.y 0, .z 10, .y 0]::KerA kb fk6::_):=h;refine Do_spec (core:=0) (c:=⟨6,2,0,0,0,0⟩) fk6_ok (by decide) (by decide) (by decide) (h.pick (A:=KerA kb fk6)) fun f6 w h=>?_
 rw[f7] at h⊢;dsimp only at h⊢;refine h.al fun w1 h=>?_
 generalize w.heap.size=o6 at h⊢;refine h.stLc rfl rfl fun w h=>?_
 (try dsimp only[putAt,List.set_cons_zero,List.set_cons_succ] at h)
 have h:Vc.Own B w0 w (BlkA o6 [.z 0, .y 0, .z (-1), .slice f6.a f6.len f6.cap]::SlT lneE f6 []::KerA kb fk7::_):=h;have h:Vc.Own B w0 w (KerA kb fk7::BlkA o0 [.z 0, .y 0, .z (-1), .slice f0.a f0.len f0.cap]::BlkA o1 [.z 0, .y 0, .z (-1), .slice f1.a f1.len f1.cap]::BlkA o2 [.z 181, .y 0, .z (-1), .slice f2.a f2.len f2.cap]::BlkA o3 [.z 0, .y 2, .z (-1), .slice f3.a f3.len f3.cap]::BlkA o4 [.z 180, .y 0, .z (-1), .slice f4.a f4.len f4.cap]::BlkA o5 [.z 182, .y 0, .z (-1), .slice f5.a f5.len f5.cap]::BlkA o6 [.z 0, .y 0, .z (-1), .slice f6.a f6.len f6.cap]::BlkA ub [.y 0, .z 10, .y 0]::R):=h.sub;refine Do_spec (core:=0) (c:=⟨17,0,0,0,0,0⟩) fk7_ok (by decide) (by decide) (by decide) (h.pick (A:=KerA kb fk7)) fun f7 w h=>?_
 rw[f8] at h⊢;dsimp only at h⊢;refine h.al fun w1 h=>?_
 generalize w.heap.size=o7 at h⊢;refine h.stLc rfl rfl fun w h=>?_
 (try dsimp only[putAt,List.set_cons_zero,List.set_cons_succ] at h)
 have h:Vc.Own B w0 w (BlkA o7 [.z 182, .y 0, .z (-1), .slice f7.a f7.len f7.cap]::SlT lneE f7 []::KerA kb fk8::_):=h;have h:Vc.Own B w0 w (KerA kb fk8::BlkA o0 [.z 0, .y 0, .z (-1), .slice f0.a f0.len f0.cap]::BlkA o1 [.z 0, .y 0, .z (-1), .slice f1.a f1.len f1.cap]::BlkA o2 [.z 181, .y 0, .z (-1), .slice f2.a f2.len f2.cap]::BlkA o3 [.z 0, .y 2, .z (-1), .slice f3.a f3.len f3.cap]::BlkA o4 [.z 180, .y 0, .z (-1), .slice f4.a f4.len f4.cap]::BlkA o5 [.z 182, .y 0, .z (-1), .slice f5.a f5.len f5.cap]::BlkA o6 [.z 0, .y 0, .z (-1), .slice f6.a f6.len f6.cap]::BlkA o7 [.z 182, .y 0, .z (-1), .slice f7.a f7.len f7.cap]::BlkA ub [.y 0, .z 10, .y 0]::R):=h.sub;have h:=Vc.Own.nilS (E:=intE) h;refine Boot_spec (c:=0) (bits:=0) (lines:=0) (s:=⟨none,0,0⟩) (prios:=[]) h (by decide) (fun _ w h=>?_) fun e=>absurd e (by decide)
 have h:=h.drop;refine ⟨_,h.ldc rfl,cbT rfl ?_⟩;refine ⟨_,h.ldd rfl,cbT rfl ?_⟩;refine ⟨_,h.ldc rfl,cbT rfl ?_⟩;refine ⟨_,h.ldc rfl,cbT rfl ?_⟩;refine ceqT (by omega) ?_;refine ⟨_,h.ldc rfl,cbT rfl ?_⟩;refine ⟨_,h.ldd rfl,cbT rfl ?_⟩;refine Held_spec fk8_ok h fun hs2 w h=>?_
 have hl2:=h.lenc hs2;rw[fh8] at hl2;refine ceqT (by omega) ?_;refine ⟨_,h.ldc rfl,cbT rfl ?_⟩;refine ⟨_,h.ldc rfl,cbT rfl ?_⟩;refine h.lc_3 rfl ?_;refine ⟨true,eqB_x (by kernel_rfl) (by kernel_rfl) (by kernel_rfl) (by kernel_rfl),cbT rfl ?_⟩;refine cbT rfl ?_;refine ⟨_,h.ldc rfl,cbT rfl ?_⟩;refine ⟨_,h.ldc rfl,cbT rfl ?_⟩;exact hK w h.sub
end
end Go.Proofs.YtogmbmdbgkopjaaGreat
end
section
set_option maxRecDepth 8000
namespace Go.Proofs.YtogmbmdbgkopjaaGreat.Sl
open Go Go.Vc Go.Proofs
structure UpTo (H:Hs) (t:Slot) (hs:List (Slot × Cap)):Prop where
 srt:hs.Pairwise (fun x y=>ltS x.1 y.1=true)
 mem:∀k c,(k,c)∈hs↔H k=some c/\ltS k t=true
theorem UpTo.none {H:Hs} {t t':Slot} {hs:List (Slot × Cap)} (h:UpTo H t hs) (hn:∀k c,H k=some c->(ltS k t=true↔ltS k t'=true)):UpTo H t' hs:=
 ⟨h.srt,fun k c=>by
  rw[h.mem];constructor
  ·rintro ⟨h1,h2⟩;exact ⟨h1,(hn k c h1).1 h2⟩
  ·rintro ⟨h1,h2⟩;exact ⟨h1,(hn k c h1).2 h2⟩⟩
theorem UpTo.add {H:Hs} {i k:Int} {c:Cap} {hs:List (Slot × Cap)} (h:UpTo H (i,k) hs) (hc:H (i,k)=some c):UpTo H (i,k+1) (hs++ [((i,k),c)]):=by
 refine ⟨?_,fun s d=>?_⟩
 ·rw[List.pairwise_append]
  refine ⟨h.srt,by simp,fun x hx y hy=>?_⟩;simp only[List.mem_singleton] at hy;subst hy;exact ((h.mem x.1 x.2).1 hx).2
 ·rw[List.mem_append,h.mem,List.mem_singleton]
  constructor
  ·rintro (⟨h1,h2⟩|e)
   ·exact ⟨h1,by simp only[ltS,decide_eq_true_eq] at *;omega⟩
   ·cases e
    exact ⟨hc,by simp only[ltS,decide_eq_true_eq];exact .inr ⟨trivial,Int.lt_succ k⟩⟩
  ·rintro ⟨h1,h2⟩
   by_cases e:s=(i,k)
   ·subst e
    rw[hc] at h1;cases h1;exact .inr rfl
   ·refine .inl ⟨h1,?_⟩
    have:s.1≠i∨s.2≠k:=by
     by_cases e1:s.1=i
     ·exact .inr fun e2=>e (Prod.ext e1 e2)
     ·exact .inl e1
    simp only[ltS,decide_eq_true_eq] at*
    omega
section
variable {B:Nat} {w0 w:World} {R L:List Asn} {b:Nat} {bits:List Int} {H:Hs}
theorem upto_len {t:Slot} {hs:List (Slot × Cap)} (hk:NOk bits H) (hu:UpTo H t hs):hs.length≤16384:=by
 have:=pigeonS 16384 (hs.map fun x=>x.1.1*256+x.1.2) (by
  refine List.pairwise_map.2 (List.Pairwise.imp_of_mem (fun {x y} hx hy hne e=>?_) hu.srt);have:=hk.bound ((hu.mem x.1 x.2).1 hx).1;have:=hk.bound ((hu.mem y.1 y.2).1 hy).1;simp only[ltS,decide_eq_true_eq] at hne;omega) fun z hz=>by
  obtain ⟨x,hx,rfl⟩:=List.mem_map.1 hz;have:=hk.bound ((hu.mem x.1 x.2).1 hx).1;omega
 simpa using this
theorem held_row {i:Nat} {z:Int} (hk:NOk bits H) (hb:bits[i]?=some z) {k:Slot} {c:Cap} (e:H k=some c) (ek:k.1=(i:Int)):0≤k.2/\k.2<((rowOf H i z).length:Int):=by
 obtain ⟨n',k',z',e2,hb',hz',hk'⟩:=there_some (hk.held _ _ e).1;subst e2;have:n'=i:=by simp only at ek;omega
 subst this;rw[hb] at hb';cases hb';rw[row_len hz'];exact ⟨by simp only;omega,by simp only;omega⟩
theorem ref05_Held_spec {K:Sl->Pw} (h:Vc.Own B w0 w (RNodesA b bits H::R)) (hK:∀s hs w',IsHeld H hs->Vc.Own B w0 w' (SlT heldE s hs::RNodesA b bits H::R)->K s w'):C.qbA (some ⟨b,0,none⟩) K w:=by
 apply S.qbA0;refine h.al fun w1 h=>?_
 generalize w.heap.size=p at h⊢;have h:=Vc.Own.asSl (E:=heldE) h [] rfl;have h:=h.up1;obtain ⟨sl,ss,hk,hsl,h⟩:=h.rnodes;have hfew:=hk.few;intro l3 hl3
 have loop:∀(j i:Nat) (out:Sl) (hs:List (Slot × Cap)) (w:World),i+j=bits.length->UpTo H ((i:Int),0) hs->Vc.Own B w0 w (SlT heldE out hs::RowsA capE ss (rowsOf bits H)::BlkA b [slV sl]::SlT slE sl ss::R)->l3 out (i:Int) w:=by
  intro j
  induction j with
  |zero=>
   intro i out hs w hi hu h;apply hl3;have hlen:=h.lenc sl
   (repeat (first|(refine h.al fun w h=>?_)|(refine h.dr fun w h=>?_)|(refine h.lc_2 rfl ?_)|(refine h.lc_6 rfl ?_)|(refine ⟨_,h.ldc rfl,?_⟩)|(refine ⟨_,h.ldd rfl,?_⟩)|(refine h.hd rfl ?_)|(refine ⟨h.ldc rfl,?_⟩)|(refine ⟨h.ldd rfl,?_⟩)|(refine h.stLc rfl rfl fun w h=>?_)|(refine exs ?_)|(refine _root_.Go.Vc.a2 ?_)|(refine h.stc rfl rfl fun w h=>?_)|(refine h.std rfl rfl fun w h=>?_)))
   refine cdecF (by omega) ?_;refine hK out hs _ ⟨hu.srt,fun k c=>?_⟩ (Vc.Own.up1 (Vc.Own.mk_rnodes (s:=sl) (ss:=ss) hk h.sub));rw[hu.mem];refine ⟨fun e=>e.1,fun e=>⟨e,?_⟩⟩;obtain ⟨n',k',z',rfl,hb',hz',hk'⟩:=there_some (hk.held _ _ e).1;have:=(List.getElem?_eq_some_iff.1 hb').1;simp only[ltS,decide_eq_true_eq];omega
  |succ j ih=>
   intro i out hs w hi hu h;apply hl3;have hlen:=h.lenc sl
   (repeat (first|(refine h.al fun w h=>?_)|(refine h.dr fun w h=>?_)|(refine h.lc_2 rfl ?_)|(refine h.lc_6 rfl ?_)|(refine ⟨_,h.ldc rfl,?_⟩)|(refine ⟨_,h.ldd rfl,?_⟩)|(refine h.hd rfl ?_)|(refine ⟨h.ldc rfl,?_⟩)|(refine ⟨h.ldd rfl,?_⟩)|(refine h.stLc rfl rfl fun w h=>?_)|(refine exs ?_)|(refine _root_.Go.Vc.a2 ?_)|(refine h.stc rfl rfl fun w h=>?_)|(refine h.std rfl rfl fun w h=>?_)))
   refine cdecT (by omega) ?_;have hb:bits[i]?=some bits[i]:=gE (by omega);generalize bits[i]=z at hb;obtain ⟨sn,hss⟩:∃sn,ss[i]?=some sn:=⟨_,gE (by omega)⟩
   have hrl:=h.up1.row_len hss (rows_get hb)
   have hr256:(rowOf H i z).length≤256:=by
    by_cases hz:z= -1
    ·unfold rowOf;rw[if_pos hz];simp
    ·rw[row_len hz]
     rcases hk.rng z (List.mem_of_getElem? hb) with e|e
     ·exact absurd e hz
     ·have:2^z.toNat≤2^8:=Nat.pow_le_pow_right (by omega) (by omega)
      omega
   intro l9 hl9
   have loop2:∀(j k:Nat) (out:Sl) (hs:List (Slot × Cap)) (w:World),k+j=(rowOf H i z).length->UpTo H ((i:Int),(k:Int)) hs->Vc.Own B w0 w (SlT heldE out hs::RowsA capE ss (rowsOf bits H)::BlkA b [slV sl]::SlT slE sl ss::R)->l9 out (k:Int) w:=by
    intro j2
    induction j2 with
    |zero=>
     intro k out hs w hkj hu h;apply hl9
     (repeat (first|(refine h.al fun w h=>?_)|(refine h.dr fun w h=>?_)|(refine h.lc_2 rfl ?_)|(refine h.lc_6 rfl ?_)|(refine ⟨_,h.ldc rfl,?_⟩)|(refine ⟨_,h.ldd rfl,?_⟩)|(refine h.hd rfl ?_)|(refine ⟨h.ldc rfl,?_⟩)|(refine ⟨h.ldd rfl,?_⟩)|(refine h.stLc rfl rfl fun w h=>?_)|(refine exs ?_)|(refine _root_.Go.Vc.a2 ?_)|(refine h.stc rfl rfl fun w h=>?_)|(refine h.std rfl rfl fun w h=>?_)))
     refine h.ixc rfl hss fun a ha hc0 hc1=>?_
     refine ⟨_,hc0 _ rfl,?_⟩;refine cdecF (by omega) ?_;rw[show IntKind.i64.wrap ((i:Int)+1)=((i+1:Nat):Int) from by rw[wr (by omega) (by omega)];omega];refine ih (i+1) out hs w (by omega) (hu.none fun s c e=>?_) h;have hbd:=hk.bound e;have:s.1=(i:Int)->s.2<((rowOf H i z).length:Int):=fun ek=>(held_row hk hb e ek).2
     simp only[ltS,decide_eq_true_eq];omega
    |succ j2 ih2=>
     intro k out hs w hkj hu h;apply hl9
     (repeat (first|(refine h.al fun w h=>?_)|(refine h.dr fun w h=>?_)|(refine h.lc_2 rfl ?_)|(refine h.lc_6 rfl ?_)|(refine ⟨_,h.ldc rfl,?_⟩)|(refine ⟨_,h.ldd rfl,?_⟩)|(refine h.hd rfl ?_)|(refine ⟨h.ldc rfl,?_⟩)|(refine ⟨h.ldd rfl,?_⟩)|(refine h.stLc rfl rfl fun w h=>?_)|(refine exs ?_)|(refine _root_.Go.Vc.a2 ?_)|(refine h.stc rfl rfl fun w h=>?_)|(refine h.std rfl rfl fun w h=>?_)))
     refine h.ixc rfl hss fun a ha hc0 hc1=>?_
     refine ⟨_,hc0 _ rfl,?_⟩;refine cdecT (by omega) ?_
     have hz:z≠ -1:=fun e=>by
      have:(rowOf H i z).length=0:=by unfold rowOf;rw[if_pos e];rfl
      omega
     have hkl:k<2^z.toNat:=by rw[row_len hz] at hkj;omega
     (repeat (first|(refine h.al fun w h=>?_)|(refine h.dr fun w h=>?_)|(refine h.lc_2 rfl ?_)|(refine h.lc_6 rfl ?_)|(refine ⟨_,h.ldc rfl,?_⟩)|(refine ⟨_,h.ldd rfl,?_⟩)|(refine h.hd rfl ?_)|(refine ⟨h.ldc rfl,?_⟩)|(refine ⟨h.ldd rfl,?_⟩)|(refine h.stLc rfl rfl fun w h=>?_)|(refine exs ?_)|(refine _root_.Go.Vc.a2 ?_)|(refine h.stc rfl rfl fun w h=>?_)|(refine h.std rfl rfl fun w h=>?_)))
     refine h.ixc rfl hss fun a ha hc0 hc1=>?_
     refine ⟨_,hc0 _ rfl,?_⟩;refine h.up1.rget hss (rows_get hb) (k:=k) rfl (row_get hz hkl) fun a2 ha2 hd0 hd=>?_
     refine ⟨((H ((i:Int),(k:Int))).getD zeroCap).kind,hd0 _ rfl,?_⟩;have hw1:IntKind.i64.wrap ((k:Int)+1)=((k+1:Nat):Int):=by rw[wr (by omega) (by omega)];omega
     cases hx:H ((i:Int),(k:Int)) with
     |none=>
      refine cneF rfl ?_;rw[hw1];refine ih2 (k+1) out hs w (by omega) (hu.none fun s c e=>?_) h;have:s≠((i:Int),(k:Int)):=fun e2=>by rw[e2,hx] at e;cases e
      have:s.1≠(i:Int)∨s.2≠(k:Int):=by
       by_cases e1:s.1=(i:Int)
       ·exact .inr fun e2=>this (Prod.ext e1 e2)
       ·exact .inl e1
      simp only[ltS,decide_eq_true_eq];omega
     |some x=>
      refine cneT (hk.held _ _ hx).2.2.1 ?_;have hul:=upto_len hk hu
      (repeat (first|(refine h.al fun w h=>?_)|(refine h.dr fun w h=>?_)|(refine h.lc_2 rfl ?_)|(refine h.lc_6 rfl ?_)|(refine ⟨_,h.ldc rfl,?_⟩)|(refine ⟨_,h.ldd rfl,?_⟩)|(refine h.hd rfl ?_)|(refine ⟨h.ldc rfl,?_⟩)|(refine ⟨h.ldd rfl,?_⟩)|(refine h.stLc rfl rfl fun w h=>?_)|(refine exs ?_)|(refine _root_.Go.Vc.a2 ?_)|(refine h.stc rfl rfl fun w h=>?_)|(refine h.std rfl rfl fun w h=>?_)))
      refine h.ixc rfl hss fun a ha hc0 hc1=>?_
      refine ⟨_,hc0 _ rfl,?_⟩;refine h.up1.rget hss (rows_get hb) (k:=k) rfl (row_get hz hkl) fun a2 ha2 hd0 hd=>?_
      rw[hx] at hd;refine ldCap hd ?_;refine h.al fun w3 h=>?_
      generalize w.heap.size=d3 at h⊢;refine app1_held (s:=out) (y:=(((i:Int),(k:Int)),x)) h (by omega) fun s' w hs' h=>?_
      rw[hw1]
      exact ih2 (k+1) s' _ w (by omega) (by
       have:=hu.add hx
       rwa [show ((k:Int)+1)=((k+1:Nat):Int) from by omega] at this) h.sub
   exact loop2 (rowOf H i z).length 0 out hs w (by omega) hu h
 refine loop bits.length 0 _ [] w1 (by omega) ⟨List.Pairwise.nil,fun k c=>?_⟩ h.sub;constructor
 ·intro e;cases e
 ·rintro ⟨e,e2⟩
  have:=hk.bound e;simp only[ltS,decide_eq_true_eq] at e2;omega
end
end Go.Proofs.YtogmbmdbgkopjaaGreat.Sl
end
