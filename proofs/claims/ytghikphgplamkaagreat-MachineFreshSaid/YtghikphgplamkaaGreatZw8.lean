/- What the row rests on: the declarations that it needs, out of my texts (part 8). -/
import Derived.Test.YtghikphgplamkaaGreatZw7
set_option linter.unusedVariables false
set_option linter.unusedSimpArgs false
set_option linter.unusedSectionVars false
section
set_option maxRecDepth 8000
namespace Go.Proofs.YtghikphgplamkaaGreat
open Go Go.Vc Go.Proofs Go.RowKit Go.Shelf
attribute [local go_sem] Oper.semAt_some
theorem lit66 (t:Array Value) (h:t.size=66):∃f:Nat->Value,(∀i,f i=t.getD i undef)/\t= #[f 0,f 1,f 2,f 3,f 4,f 5,f 6,f 7,f 8,f 9,f 10,f 11,f 12,f 13,f 14,f 15,f 16,f 17,f 18,f 19,f 20,f 21,f 22,f 23,f 24,f 25,f 26,f 27,f 28,f 29,f 30,f 31,f 32,f 33,f 34,f 35,f 36,f 37,f 38,f 39,f 40,f 41,f 42,f 43,f 44,f 45,f 46,f 47,f 48,f 49,f 50,f 51,f 52,f 53,f 54,f 55,f 56,f 57,f 58,f 59,f 60,f 61,f 62,f 63,f 64,f 65]:=by
 refine ⟨fun i=>t.getD i undef,fun _=>rfl,?_⟩
 have e:t=((List.range 66).map fun i=>t.getD i undef).toArray:=by
  apply Array.ext
  ·simp[h]
  ·intro i h1 h2
   simp[h1]
 exact e
set_option maxRecDepth 100000 in
set_option maxHeartbeats 2000000 in
theorem back_nil_in (n:Nat) (hn:1≤n) (l box:Nat) (J:List (Int × Slot)->Pw) (W:World) (hB:W.cell? ⟨box,0,none⟩=some (.slice none 0 0)) (h0:J [] W):
  CallsIn Fence.wide n Tryz.prog 254 #[.func (.yield l) #[] #[], .pointer (some ⟨box,0,none⟩)] W fun e W'=>(∃v,e= .returned v)/\J [] W':=by
 refine callsIn_of_wp Tryz.func254 rfl trivial ?_ rfl;simp only[Tryz.ntmps254,List.size_toArray,List.length_cons,List.length_nil,Nat.reduceAdd,Nat.reduceSub,Array.replicate_succ,Array.replicate_zero,List.push_toArray,List.append_toArray,List.nil_append,List.cons_append]
 gi_wp2
 gi_loopw [3] (fun i wr=>i= .z (-1)/\J [] wr) (fun _ _=>0)
 case atStart=>exact ⟨rfl,h0⟩
 case round=>
  obtain ⟨rfl,hJs⟩:=hrel
  gi_wp2
  go_end0
  exact ⟨⟨_,rfl⟩,hJs⟩
section
variable {B:Nat} {w0 w:World} {R L:List Asn} {bd bk:Nat} {k:Ker} {d:Dng} {ec wv wk:Int} {fs:Sl} {N:Nat}
def revI (bd bk c0 bx:Nat) (d:Dng) (ec wv wk:Int) (k:Ker) (s2:Sl) (xs:List Slot) (pre:List (Int × Slot)):Asn:=
 ExA fun fs:Sl=>StarA [BlkA bd (dcells bk d ec wv wk fs),SlT lneE fs (Ker.gones (pre.map (·.2)) k).1,KerA bk (Ker.gones (pre.map (·.2)) k).2,BlkA c0 [.pointer (some ⟨bd,0,none⟩)],SlT Tr.slotE s2 xs,BlkA bx [.slice s2.a s2.len s2.cap]]
def revR (s2:Sl) (xs:List Slot) (bx:Nat) (V:World):Prop:=V.cell? ⟨bx,0,none⟩=some (.slice s2.a s2.len s2.cap)/\SlO 2 V s2 (xs.flatMap Tr.slotE.enc)
theorem revI_out {c0 bx:Nat} {s2:Sl} {xs:List Slot} {pre:List (Int × Slot)} (h:Vc.Own B w0 w (revI bd bk c0 bx d ec wv wk k s2 xs pre::R)):
  ∃fs:Sl,Vc.Own B w0 w (BlkA bd (dcells bk d ec wv wk fs)::SlT lneE fs (Ker.gones (pre.map (·.2)) k).1::KerA bk (Ker.gones (pre.map (·.2)) k).2::BlkA c0 [.pointer (some ⟨bd,0,none⟩)]::SlT Tr.slotE s2 xs::BlkA bx [.slice s2.a s2.len s2.cap]::R):=by
 obtain ⟨fs,h⟩:=Vc.Own.ex h;exact ⟨fs,h.star⟩
theorem revI_in {c0 bx:Nat} {s2:Sl} {xs:List Slot} {pre:List (Int × Slot)} (fs:Sl)
  (h:Vc.Own B w0 w (BlkA bd (dcells bk d ec wv wk fs)::SlT lneE fs (Ker.gones (pre.map (·.2)) k).1::KerA bk (Ker.gones (pre.map (·.2)) k).2::BlkA c0 [.pointer (some ⟨bd,0,none⟩)]::SlT Tr.slotE s2 xs::BlkA bx [.slice s2.a s2.len s2.cap]::R)):
  Vc.Own B w0 w (revI bd bk c0 bx d ec wv wk k s2 xs pre::R):=Vc.Own.mk_ex fs (Vc.Own.mk_star h)
theorem rev_reads {c0 bx:Nat} {s2:Sl} {xs:List Slot} {pre:List (Int × Slot)} (h:Vc.Own B w0 w (revI bd bk c0 bx d ec wv wk k s2 xs pre::R)):revR s2 xs bx w:=by
 obtain ⟨fs,h⟩:=revI_out h;exact ⟨h.ldc rfl,h.slO 4 rfl⟩
theorem rev_seq {s2:Sl} {xs:List Slot} {bx:Nat} (hl:s2.len=xs.length) (hx:xs.length≤1000000) (l:Nat) (J:List (Int × Slot)->Pw) (W:World)
  (hJR:∀pre V,J pre V->revR s2 xs bx V)
  (hY:∀pre x V,J pre V->(pre++ [x]) <+: back xs xs.length->YieldAt Fence.wide 2 Tryz.prog l (bkV x) V fun e V'=>e= .returned (.bool true)/\J (pre++ [x]) V') (h0:J [] W):
  CallsIn Fence.wide 3 Tryz.prog 254 (#[.func (.yield l) #[] #[]]++ #[.pointer (some ⟨bx,0,none⟩)]) W fun e W'=>(∃v,e= .returned v)/\J (back xs xs.length) W':=by
 obtain ⟨h1,h2⟩:=hJR _ _ h0;rw[hl] at h1;cases h2 with
 |nil ha hl' hc hcs=>
  have hx0:xs= []:=List.eq_nil_of_length_eq_zero (by omega);subst hx0;rw[ha,hc] at h1;exact back_nil_in 3 (by decide) l bx J W h1 h0
 |mk b o l' ha hb hl' hc hcs=>
  refine back_in 3 (by decide) l bx b o xs.length s2.cap xs rfl hx J (fun pre V hJ=>?_) hY W h0;obtain ⟨r1,r2⟩:=hJR _ _ hJ;rw[hl,ha] at r1;refine ⟨r1,fun j x hj u v hv=>?_⟩;obtain ⟨b',o',ha',hc'⟩:=SlO.get (E:=Tr.slotE) r2 hj;rw[ha] at ha';cases ha';have:=hc' u v hv;rw[add_mk,Nat.add_assoc];exact this
set_option maxRecDepth 100000 in
set_option maxHeartbeats 4000000 in
theorem rev_loop {c0 bx:Nat} {s2:Sl} {xs:List Slot} {t:Array Value} {Q:Exit->Act->Pw} (hk:KOk N k) (hN:N≤200000) (hnd:xs.Nodup) (hheld:∀s∈xs,(k.H s).isSome=true) (hlen:xs.length≤1000000)
  (ht:t.size=66) (h1:t.getD 1 undef= .pointer (some ⟨c0,0,none⟩)) (h19:t.getD 19 undef= .func (.func 254) #[] #[.pointer (some ⟨bx,0,none⟩)])
  (h:Vc.Own B w0 w (revI bd bk c0 bx d ec wv wk k s2 xs []::R))
  (hQ:∀(D:Nat) (V:World),Vc.Own B w0 V (ObjA D (.deferred (some []))::revI bd bk c0 bx d ec wv wk k s2 xs (back xs xs.length)::R)->Q .normal { tmps:=t,defers:=[{ target:= .collected D,args:= #[]}]} V):
  codeL.wpIn Fence.wide 4 Tryz.prog Q { tmps:=t,defers:=[]} w:=by
 obtain ⟨f,hf,he⟩:=lit66 t ht;rw[←hf] at h1 h19
 have hl:s2.len=xs.length:=by
  obtain ⟨fs,h⟩:=revI_out h;exact (h.lenc s2)
 show (Code.block 0 (.rangeFunc _ _ _ _)).wpIn Fence.wide 4 Tryz.prog Q { tmps:=t,defers:=[]} w;refine wpIn_block ?_
 refine range_own (n:=4) (α:=Int × Slot) rfl (by decide) (gf:=254) (lb:= #[.pointer (some ⟨bx,0,none⟩)]) ?_ trivial (enters_of Tryz.func254 (by kernel_rfl) rfl) bkV (fun _=>rfl) (back xs xs.length)
  (revI bd bk c0 bx d ec wv wk k s2 xs) (fun a' x=>ExA fun p:Nat=>StarA [PureA (a'={ tmps:=((t.setIfInBounds 20 (.z x.1)).setIfInBounds 21 (.agg #[.z x.2.1, .z x.2.2])).setIfInBounds 5 (.pointer (some ⟨p,0,none⟩)),defers:=[]}),BlkA p [.z x.2.1, .z x.2.2]])
  (revR s2 xs bx) h (fun Z pre V h=>rev_reads h) (fun l J W _ hJR hY h0=>rev_seq hl hlen l J W hJR hY h0) ?_ ?_ hQ
 ·show t.getD 19 undef=_
  rw[←hf];exact h19
 ·intro l Z pre x V K hO hK
  have hK:=fun w' h=>hK { tmps:=((t.setIfInBounds 20 (.z x.1)).setIfInBounds 21 (.agg #[.z x.2.1, .z x.2.2])).setIfInBounds 5 (.pointer (some ⟨V.heap.size,0,none⟩)),defers:=[]} w' (Vc.Own.mk_ex V.heap.size (Vc.Own.mk_star (Vc.Own.mk_pure rfl h)))
  have hO:=hO.al (t:=109) (l:=[.z x.2.1, .z x.2.2]) (k:=fun w'=>Vc.Own B w0 w' (BlkA V.heap.size [.z x.2.1, .z x.2.2]::revI bd bk c0 bx d ec wv wk k s2 xs pre::Z++R)) (fun w' h=>h);have hK:=hK _ hO;clear hO hf;obtain ⟨x1,x2,x3⟩:=x;dsimp only at hK⊢;subst he;dsimp only[bkV]
  gi_wp2
  simpa [h1,h19] using hK
 ·intro l Z pre x a' V hpre hO
  obtain ⟨p,hO⟩:=Vc.Own.ex (hO:Vc.Own B w0 V (ExA _::(revI bd bk c0 bx d ec wv wk k s2 xs pre::Z++R)));have hO:=hO.star;obtain ⟨ea,hO1⟩:=Vc.Own.pure (hO:Vc.Own B w0 V (PureA _::(BlkA p [.z x.2.1, .z x.2.2]::revI bd bk c0 bx d ec wv wk k s2 xs pre::Z++R)));clear hO;have hO1:=hO1.perm (List.Perm.swap _ _ _);obtain ⟨fs,hO⟩:=revI_out hO1
  have hx2:(pre.map (·.2)++ [x.2]) <+: xs.reverse:=by
   have:=hpre.map (·.2);rw[back_rev] at this;simpa using this
  have hnd2:(pre.map (·.2)++ [x.2]).Nodup:=(hx2.sublist).nodup (List.pairwise_reverse.2 (hnd.imp Ne.symm));have hall:∀s∈pre.map (·.2)++ [x.2],(k.H s).isSome=true:=fun s hs=>hheld s (List.mem_reverse.1 (hx2.subset hs))
  obtain ⟨g1,g2⟩:=gones_ok (pre.map (·.2)) k hk (List.nodup_append.1 hnd2).1 (fun s hs=>hall s (List.mem_append_left _ hs));have g3:=gones_pg (pre.map (·.2)) k;have g4:=pgN_le k.spaces hk.sok;have g5:=hk.ns
  have hg:C.qay (some ⟨bd,0,none⟩) x.2.1 x.2.2 (fun w'=>Vc.Own B w0 w' (revI bd bk c0 bx d ec wv wk k s2 xs (pre++ [x])::Z++R)) V:=by
   refine gone_spec (F:=(Ker.gones (pre.map (·.2)) k).1) (k:=(Ker.gones (pre.map (·.2)) k).2) (s:=x.2) g1 hN ?_ (by omega) hO fun fs' w' h=>?_
   ·rw[g2,if_neg]
    ·exact hall _ (List.mem_append_right _ List.mem_cons_self)
    ·intro hm
     have:=(List.nodup_append.1 hnd2).2.2 _ hm _ List.mem_cons_self;exact this rfl
   ·refine revI_in fs' ?_
    rw[List.map_append,List.map_cons,List.map_nil,gones_snoc];exact h.sub
  dsimp only[C.qay] at hg;have hg:=okF_out hg;have hg:=(callsIn_wide (n:=1)).2 hg;have c1:V.cell? ⟨c0,0,none⟩=some (.pointer (some ⟨bd,0,none⟩)):=hO.ldc rfl;have c2:V.cell? ⟨p,0,none⟩=some (.z x.2.1):=hO.ldc rfl;have c3:V.cell? ⟨p,1,none⟩=some (.z x.2.2):=hO.ldc rfl;clear hO hO1 hall hnd2 hx2 hQ h g1 g2 g3 g4 g5 hpre hheld hnd hl;obtain ⟨x1,x2,x3⟩:=x;dsimp only at ea hg c2 c3⊢;subst ea;subst he;clear hf;have hg:=hg.inRound l
  gi_wp2
  refine ⟨trivial,hg.mono ?_⟩;rintro e w' ⟨rfl,hw⟩
  gi_wp2
  exact hw
theorem under_in {s x:Slot} (hx:x∈Tr.underN k.T s):x∈k.T.map (·.1):=by
 unfold Tr.underN at hx;split at hx
 ·simp at hx
 ·obtain ⟨y,hy,rfl⟩:=List.mem_map.1 hx
  exact List.mem_map.2 ⟨y,List.mem_of_mem_drop (List.mem_of_mem_take hy),rfl⟩
theorem under_nd {s:Slot} (h:Tr.TOk k.T):(Tr.underN k.T s).Nodup:=by
 unfold Tr.underN;split
 ·exact List.nodup_nil
 ·exact ((List.take_sublist _ _).trans (List.drop_sublist _ _) |>.map (fun x:Tr.Leaf=>x.1)).nodup h.nd
theorem under_len {s:Slot} (hk:KOk N k):(Tr.underN k.T s).length≤64:=by
 have:=hk.few;unfold Tr.underN;split
 ·simp
 ·simp;omega
theorem gones_u:∀(l:List Slot) (k:Ker),KOk N k->l.Nodup->(∀s∈l,(k.H s).isSome=true)->(Ker.gones l k).2.u=k.u
 | [],k,_,_,_=>rfl
 |a::l,k,h,hn,hs=>by
  obtain ⟨h1,h2,h3⟩:=h.gone (hs a List.mem_cons_self);rw[List.nodup_cons] at hn
  have hl:∀s∈l,((k.gone a).2.H s).isSome=true:=fun s hm=>by
   rw[h2];unfold Sl.updH;rw[if_neg (fun e:s=a=>hn.1 (e▸hm))];exact hs s (List.mem_cons_of_mem _ hm)
  have h4:(Ker.gones (a::l) k).2.u=(k.gone a).2.u:=gones_u l _ h1 hn.2 hl;rw[h4];unfold Ker.gone;split
  ·rfl
  ·unfold Ker.last
   split
   ·rfl
   split
   ·rfl
   split
   ·rfl
   ·rfl
set_option maxHeartbeats 1000000 in
theorem revoke_spec {K:Int->Pw} (hk:KOk N k) (hN:N≤200000) (ho:k.objOk d.c) (h:Vc.Own B w0 w (BlkA bd (dcells bk d ec wv wk fs)::SlT lneE fs []::KerA bk k::R))
  (hK:∀fs' w',Vc.Own B w0 w' (BlkA bd (dcells bk d ec ((Tr.underN k.T d.s).length:Int) wk fs')::SlT lneE fs' (Ker.gones (Tr.underN k.T d.s).reverse k).1::KerA bk (k.revoke d).2::R)->K 0 w'):C.qdF (some ⟨bd,0,none⟩) K w:=by
 have hlen:=under_len (s:=d.s) hk;have hnd:=under_nd (s:=d.s) hk.tok;have hheld:∀s∈Tr.underN k.T d.s,(k.H s).isSome=true:=fun s hs=>(hk.mem s).1 (under_in hs)
 unfold C.qdF;refine okF_mk Tryz.func157 rfl ((callsIn_wide (n:=4)).1 ?_);refine callsIn_of_wp_marks (c:= .seq (cL codeB) (.seq (cL (cR codeB)) (.seq (.seq (cL (cL (cR (cR codeB)))) codeL) codeZ))) Tryz.func157 (by kernel_rfl) trivial ?_ rfl
 have hA:=revA_run (fs:=fs) h (K:=fun d1 c t s v w'=>∃c0 bx,d1=some ⟨bd,0,none⟩/\c=⟨c0,0,none⟩/\t=0/\v= .func (.func 254) #[] #[.pointer (some ⟨bx,0,none⟩)]/\
  Vc.Own B w0 w' (BlkA bd (dcells bk d ec wv wk fs)::SlT lneE fs []::KerA bk k::BlkA c0 [.pointer (some ⟨bd,0,none⟩)]::SlT Tr.slotE s (Tr.underN k.T d.s)::BlkA bx [.slice s.a s.len s.cap]::R)) (fun c0 s2 bx w' h=>⟨c0,bx,rfl,rfl,rfl,rfl,h⟩)
 rw[←S.qdQ1] at hA;unfold Ker.revoke at hK;dsimp only at hK;generalize Tr.underN k.T d.s=xs at hA hK hlen hnd hheld;refine wpIn_seq (wpIn_wide.2 (wp_mono (vc_sound (ds:=[]) (n:=66) names_ok follows_ok (cL codeB) codeAAn.a _ (fun _ _ _=>False) (fun _ _=>False) (nth [.pointer (some ⟨bd,0,none⟩)]) _ w (by kernel_rfl) ?_ hA) ?_))
 ·refine ⟨by simp[Tryz.ntmps157],rfl,fun t v ht=>?_⟩
  rw[nth_eq] at ht
  match t,ht with
  |0,ht=>simp at ht;subst ht;simp
  |t+1,ht=>simp at ht
 intro en a1 w1 hq;cases en with
 |exit i=>obtain ⟨_,_,_,h⟩:=hq;exact h.elim
 |ret=>obtain ⟨_,_,_,h⟩:=hq;exact h.elim
 |goto l=>exact hq.elim
 |panic ch=>exact hq.elim
 |outgrown=>exact hq.elim
 |normal=>
 obtain ⟨_,e1,hr1,h1⟩:=hq;refine wpIn_seq (wpIn_wide.2 (wp_mono (vc_sound (ds:=[]) (n:=66) names_ok follows_ok (cL (cR codeB)) codeAAn.b.a _ (fun _ _ _=>False) (fun _ _=>False) e1 _ w1 (by kernel_rfl) hr1 h1) ?_));intro en a2 w2 hq;cases en with
 |exit i=>obtain ⟨_,_,_,h⟩:=hq;exact h.elim
 |ret=>obtain ⟨_,_,_,h⟩:=hq;exact h.elim
 |goto l=>exact hq.elim
 |panic ch=>exact hq.elim
 |outgrown=>exact hq.elim
 |normal=>
 obtain ⟨_,e2,hr2,h2⟩:=hq;refine wpIn_seq (wpIn_seq (wpIn_wide.2 (wp_mono (vc_sound (ds:=[]) (n:=66) names_ok follows_ok (cL (cL (cR (cR codeB)))) codeAAn.b.b _ (fun _ _ _=>False) (fun _ _=>False) e2 _ w2 (by kernel_rfl) hr2 h2) ?_)));intro en a3 w3 hq;cases en with
 |exit i=>obtain ⟨_,_,_,h⟩:=hq;exact h.elim
 |ret=>obtain ⟨_,_,_,h⟩:=hq;exact h.elim
 |goto l=>exact hq.elim
 |panic ch=>exact hq.elim
 |outgrown=>exact hq.elim
 |normal=>
 obtain ⟨_,e3,⟨hs3,hd3,hr3⟩,h3⟩:=hq;obtain ⟨vs,hv1,hv2,h3⟩:=resTmp [0,1,2,3,19] [] _ h3;obtain ⟨d0,c,t,s,v,v0,v1,v2,v3,v4,c0,bx,rfl,rfl,rfl,rfl,h3⟩:=appA5 h3
 have key:∀(i t:Nat) (v:Value),[0,1,2,3,19][i]?=some t->nth ([].reverse++vs) i=some v->a3.tmps.getD t undef=v:=fun i t v hi hv=>by
  obtain ⟨v',h1,h2⟩:=hv2 i t hi;rw[nth_eq] at hv;simp only[List.reverse_nil,List.nil_append] at hv;rw[h1] at hv;cases hv;exact hr3 t v h2
 have k0:=key 0 0 _ rfl v0;have k1:=key 1 1 _ rfl v1;have k2:=key 2 2 _ rfl v2;have k3:=key 3 3 _ rfl v3;have k4:=key 4 19 _ rfl v4;have hsl:s.len=xs.length:=h3.lenc s;obtain ⟨t3,d3⟩:=a3;dsimp only at hs3 hd3 k0 k1 k2 k3 k4;subst hd3;have hO:Vc.Own B w0 w3 (revI bd bk c0 bx d ec wv wk k s xs []::R):=revI_in fs h3;show codeL.wpIn Fence.wide 4 Tryz.prog _ { tmps:=t3,defers:=[]} w3;refine rev_loop hk hN hnd hheld (by omega) hs3 k1 k4 hO fun D V hO=>?_
 obtain ⟨fs',hO⟩:=revI_out (hO.perm (List.Perm.swap _ _ _));rw[back_rev] at hO;show codeZ.wpIn Fence.wide 4 Tryz.prog _ { tmps:=t3,defers:=[{ target:= .collected D,args:= #[]}]} V;have hnd2:xs.reverse.Nodup:=List.pairwise_reverse.2 (hnd.imp Ne.symm);have hu2:=gones_u xs.reverse k hk hnd2 (fun s hs=>hheld s (List.mem_reverse.1 hs))
 have hZ:=revZ_run (K:=fun r w'=>r=0/\Vc.Own B w0 w' (ObjA D (.deferred (some []))::BlkA bd (dcells bk d ec (xs.length:Int) wk fs')::SlT lneE fs' (Ker.gones xs.reverse k).1::KerA bk (if d.c.kind=1 then (Ker.gones xs.reverse k).2.resetU d.c.obj else (Ker.gones xs.reverse k).2)::R)) (bx:=bx) hsl (by omega) (fun e=>by
   rw[hu2];exact ⟨ho.1,ho.2.1 e⟩) (show Vc.Own B w0 V (BlkA bd (dcells bk d ec wv wk fs')::SlT lneE fs' (Ker.gones xs.reverse k).1::KerA bk (Ker.gones xs.reverse k).2::BlkA c0 [.pointer (some ⟨bd,0,none⟩)]::ObjA D (.deferred (some []))::R) from hO.sub) fun w' h=>⟨rfl,h.sub⟩
 rw[←S.qdR1] at hZ;refine wpIn_wide.2 (wp_mono (vc_sound (ds:=[{ target:= .collected D,args:= #[]}]) (n:=66) names_ok follows_ok codeZ codeZAn _ (fun _ _ _=>False) _ (nth [.pointer (some ⟨bd,0,none⟩), .pointer (some ⟨c0,0,none⟩), .z 0, .slice s.a s.len s.cap]) _ V (by kernel_rfl) ?_ hZ) ?_)
 ·refine ⟨hs3,rfl,fun t v ht=>?_⟩
  rw[nth_eq] at ht
  match t,ht with
  |0,ht=>simp at ht;subst ht;exact k0
  |1,ht=>simp at ht;subst ht;exact k1
  |2,ht=>simp at ht;subst ht;exact k2
  |3,ht=>simp at ht;subst ht;exact k3
  |t+4,ht=>simp at ht
 have fin:∀(a:Act) (w':World),At [{ target:= .collected D,args:= #[]}] 66 (dm codeZ) { tmps:=t3,defers:=[{ target:= .collected D,args:= #[]}]} (fun e w'=>resL Tryz.prog codeZF.results.toList e w' [] fun vs=>appE codeZCs (fun r w'=>r=0/\Vc.Own B w0 w' (ObjA D (.deferred (some []))::BlkA bd (dcells bk d ec (xs.length:Int) wk fs')::SlT lneE fs' (Ker.gones xs.reverse k).1::KerA bk (if d.c.kind=1 then (Ker.gones xs.reverse k).2.resetU d.c.obj else (Ker.gones xs.reverse k).2)::R)) (nth vs) w') a w'->
   LeavesInM Fence.wide 4 Tryz.prog Tryz.f157 a.tmps (fun en w'=>∃r2:Int,en= .returned (.z r2)/\K r2 w') a.defers .returning w':=by
  rintro ⟨t4,d4⟩ w' ⟨_,e,⟨hs,hd,hr⟩,hN⟩;obtain ⟨vs,hv1,hv2,hN⟩:=resTmp [2] [] _ hN;obtain ⟨r,hr0,rfl,hO⟩:=appC hN;obtain ⟨v',e1,e2⟩:=hv2 0 2 rfl;rw[nth_eq] at hr0;simp only[List.reverse_nil,List.nil_append] at hr0;rw[e1] at hr0;cases hr0;have hr2:=hr 2 _ e2;dsimp only at hd hr2⊢;subst hd;refine ⟨by simp, .inl ⟨D,_,rfl,run_takeDeferred hO.obj,?_⟩⟩;have hO:=(hO.putObj (.deferred none)).drop;refine ⟨_,results_tmp rfl _ _ _,0,?_,hK fs' _ ?_⟩
  ·rw[hr2]
  ·exact hO
 intro en a4 w4 hq;cases en with
 |normal=>exact fin a4 w4 hq
 |ret=>exact fin a4 w4 hq
 |exit i=>obtain ⟨_,_,_,h⟩:=hq;exact h.elim
 |goto l=>exact hq.elim
 |panic ch=>exact hq.elim
 |outgrown=>exact hq.elim
end
end Go.Proofs.YtghikphgplamkaaGreat
end
section
set_option maxRecDepth 8000
namespace Go.Proofs.YtghikphgplamkaaGreat
open Go Go.Vc Go.Proofs
def needC:List Value:=[.z (1:Int), .z (0:Int), .z (0:Int), .z (0:Int), .z (0:Int), .z (0:Int), .z (0:Int), .z (0:Int), .z (0:Int), .z (0:Int), .z (3:Int), .z (0:Int), .z (3:Int), .z (0:Int), .z (3:Int), .z (0:Int), .z (4:Int), .z (2:Int), .z (4:Int), .z (1:Int), .z (5:Int), .z (2:Int), .z (5:Int), .z (1:Int), .z (7:Int), .z (0:Int), .z (6:Int), .z (0:Int), .z (8:Int), .z (0:Int), .z (9:Int), .z (0:Int), .z (9:Int), .z (0:Int), .z (0:Int), .z (0:Int)]
theorem need_at:∀n:Nat,n<18->(needC.drop (n*2)).take 2= [.z (Ker.needK (n:Int)).1, .z (Ker.needK (n:Int)).2]
 |0,_=>rfl|1,_=>rfl|2,_=>rfl|3,_=>rfl|4,_=>rfl|5,_=>rfl|6,_=>rfl|7,_=>rfl|8,_=>rfl
 |9,_=>rfl|10,_=>rfl|11,_=>rfl|12,_=>rfl|13,_=>rfl|14,_=>rfl|15,_=>rfl|16,_=>rfl|17,_=>rfl
 |n+18,h=>absurd h (by omega)
section
variable {B:Nat} {w0 w:World} {R L:List Asn} {bd bk:Nat} {k:Ker} {d:Dng} {ec wv wk:Int} {fs:Sl} {N:Nat}
theorem needs_spec {ask:Int} {K:Int->Int->Pw} (h0:0≤ask) (h1:ask<18) (h:Vc.Own B w0 w R) (hK:∀w',Vc.Own B w0 w' R->K (Ker.needK ask).1 (Ker.needK ask).2 w'):C.qdc ask K w:=by
 apply S.qdc0;obtain ⟨n,rfl⟩:=Int.eq_ofNat_of_zero_le h0;refine h.al fun w1 h=>?_
 generalize w.heap.size=c0 at h⊢;refine h.al fun w2 h=>?_
 generalize w1.heap.size=c1 at h⊢;refine h.stLc rfl rfl fun w h=>?_
 have h:Vc.Own B w0 w (BlkA c1 needC::BlkA c0 [.z 0, .z 0]::R):=h;refine ⟨h0,h1,?_⟩;refine LdL_add (h.lc_2 (o:=0+(n:Int).toNat*2) (c0:= .i .i64) (c1:= .i .i64) (x0:=(Ker.needK (n:Int)).1) (x1:=(Ker.needK (n:Int)).2) ?_ ?_)
 ·rw[Nat.zero_add]
  exact need_at n (by omega)
 refine h.stLc rfl rfl fun w h=>?_
 (try dsimp only[putAt,List.set_cons_zero,List.set_cons_succ] at h)
 refine h.lc_2 rfl ?_;exact hK w h.sub
def askT:List (Int × Nat):=[(0,153),(1,154),(2,155),(3,156),(4,157),(5,158),(6,159),(7,160),
 (8,161),(9,162),(10,163),(11,164),(12,165),(13,166),(14,167),(15,168),(16,169)]
def methV (bd:Nat) (f:Nat):Value:= .func (.func f) #[.pointer (some ⟨bd,0,none⟩)] #[]
theorem asked_main {K:Int->Pw} {m:Nat} (hk:KOk N k) (hN:N+64≤100000) (hcore:k.t.isC d.core=true) (hH:k.H d.s=some d.c) (hr:Sl.CapR d.c) (ho:k.objOk d.c) (ha0:0≤d.call.ask) (ha1:d.call.ask<17)
  (hkind:(Ker.needK d.call.ask).1≠0->d.c.kind=(Ker.needK d.call.ask).1) (hw0: -9223372036854775808≤d.call.with_) (hw1:d.call.with_<9223372036854775808)
  (h:Vc.Own B w0 w (MapA (Value.int .i64) (methV bd) m askT::BlkA bd (dcells bk d 0 0 (-1) ⟨none,0,0⟩)::SlT lneE ⟨none,0,0⟩ []::KerA bk k::R))
  (hK:∀fs' w',Vc.Own B w0 w' (BlkA bd (dcells bk d 0 (k.asks d).1.w (k.asks d).1.wakes fs')::SlT lneE fs' (k.asks d).1.forget::KerA bk (k.asks d).2::R)->K (k.asks d).1.e w'):
  ∃t50:Value,Lk1 Tryz.prog 292 (.map (some m)) (.z d.call.ask) t50 w/\CallV Tryz.prog t50 [] w fun en w'=>∃r:Int,en= .returned (.z r)/\K r w':=by
 have hN2:N≤200000:=by omega
 have hsome:(k.H d.s).isSome=true:=by rw[hH];rfl
 have hlook:∀f,mget askT d.call.ask=some f->Lk1 Tryz.prog 292 (.map (some m)) (.z d.call.ask) (methV bd f) w:=fun f hf=>
  (h.mlook (enc:=Value.int .i64) (encV:=methV bd) Tryz.underlying292 (keyOk_int .i64 Tryz.underlying3) 0 rfl hf).2
 have hask:d.call.ask=0∨d.call.ask=1∨d.call.ask=2∨d.call.ask=3∨d.call.ask=4∨d.call.ask=5∨d.call.ask=6∨d.call.ask=7∨d.call.ask=8∨d.call.ask=9∨d.call.ask=10∨d.call.ask=11∨d.call.ask=12∨d.call.ask=13∨d.call.ask=14∨d.call.ask=15∨d.call.ask=16:=by omega
 rcases hask with e|e|e|e|e|e|e|e|e|e|e|e|e|e|e|e|e
 ·refine ⟨methV bd 153,hlook _ (by rw[e];rfl),callV_mk ?_⟩
  show C.qaW (some ⟨bd,0,none⟩) K w;have hkd:(Ker.needK 0).1≠0->d.c.kind=(Ker.needK 0).1:=by rw[e] at hkind;exact hkind
  have hkd:=hkd (by decide)
  have ea:k.asks d=Ker.tell (k.retype d).1 (k.retype d).2:=by
   unfold Ker.asks;rw[e];rfl
  rw[ea] at hK
  try dsimp only[Ker.tell,Ker.tellW] at hK
  exact retype_spec hk hN hsome (hkd) ho hcore hw0 hw1 (show Vc.Own B w0 w (BlkA bd (dcells bk d 0 0 (-1) ⟨none,0,0⟩)::KerA bk k::SlT lneE ⟨none,0,0⟩ []::R) from h.sub) fun w' h=>hK ⟨none,0,0⟩ w' h.sub
 ·refine ⟨methV bd 154,hlook _ (by rw[e];rfl),callV_mk ?_⟩
  show C.qbE (some ⟨bd,0,none⟩) K w;have hkd:(Ker.needK 1).1≠0->d.c.kind=(Ker.needK 1).1:=by rw[e] at hkind;exact hkind
  have ea:k.asks d=Ker.tell (k.mint d).1 (k.mint d).2:=by
   unfold Ker.asks;rw[e];rfl
  rw[ea] at hK
  try dsimp only[Ker.tell,Ker.tellW] at hK
  exact mint_spec hk hr hw0 hw1 (show Vc.Own B w0 w (BlkA bd (dcells bk d 0 0 (-1) ⟨none,0,0⟩)::KerA bk k::SlT lneE ⟨none,0,0⟩ []::R) from h.sub) fun w' h=>hK ⟨none,0,0⟩ w' h.sub
 ·refine ⟨methV bd 155,hlook _ (by rw[e];rfl),callV_mk ?_⟩
  show C.qbF (some ⟨bd,0,none⟩) K w;have hkd:(Ker.needK 2).1≠0->d.c.kind=(Ker.needK 2).1:=by rw[e] at hkind;exact hkind
  have ea:k.asks d=Ker.tell (k.move d).1 (k.move d).2:=by
   unfold Ker.asks;rw[e];rfl
  rw[ea] at hK
  try dsimp only[Ker.tell,Ker.tellW] at hK
  exact move_spec hk hw0 hw1 (show Vc.Own B w0 w (BlkA bd (dcells bk d 0 0 (-1) ⟨none,0,0⟩)::KerA bk k::SlT lneE ⟨none,0,0⟩ []::R) from h.sub) fun w' h=>hK ⟨none,0,0⟩ w' h.sub
 ·refine ⟨methV bd 156,hlook _ (by rw[e];rfl),callV_mk ?_⟩
  show C.qaX (some ⟨bd,0,none⟩) K w;have hkd:(Ker.needK 3).1≠0->d.c.kind=(Ker.needK 3).1:=by rw[e] at hkind;exact hkind
  have ea:k.asks d=if d.call.at_=0 then Ker.tell 181 k else (⟨0,0, -1,(k.gone d.s).1⟩,(k.gone d.s).2):=by
   unfold Ker.asks;rw[e];rfl
  rw[ea] at hK
  try dsimp only[Ker.tell,Ker.tellW] at hK
  refine delete_spec hk hN2 hsome (show Vc.Own B w0 w (BlkA bd (dcells bk d 0 0 (-1) ⟨none,0,0⟩)::SlT lneE ⟨none,0,0⟩ []::KerA bk k::R) from h.sub) (fun e0 w' h=>?_) (fun e0 fs' w' h=>?_)
  ·rw[if_pos e0] at hK;exact hK ⟨none,0,0⟩ w' h.sub
  ·rw[if_neg e0] at hK;exact hK fs' w' h.sub
 ·refine ⟨methV bd 157,hlook _ (by rw[e];rfl),callV_mk ?_⟩
  show C.qdF (some ⟨bd,0,none⟩) K w;have hkd:(Ker.needK 4).1≠0->d.c.kind=(Ker.needK 4).1:=by rw[e] at hkind;exact hkind
  have ea:k.asks d=k.revoke d:=by
   unfold Ker.asks;rw[e];rfl
  rw[ea] at hK
  try dsimp only[Ker.tell,Ker.tellW] at hK
  exact revoke_spec hk hN2 ho (show Vc.Own B w0 w (BlkA bd (dcells bk d 0 0 (-1) ⟨none,0,0⟩)::SlT lneE ⟨none,0,0⟩ []::KerA bk k::R) from h.sub) fun fs' w' h=>hK fs' w' h
 ·refine ⟨methV bd 158,hlook _ (by rw[e];rfl),callV_mk ?_⟩
  show C.qaY (some ⟨bd,0,none⟩) K w;have hkd:(Ker.needK 5).1≠0->d.c.kind=(Ker.needK 5).1:=by rw[e] at hkind;exact hkind
  have hkd:=hkd (by decide)
  have ea:k.asks d=Ker.tellW (k.resume d):=by
   unfold Ker.asks;rw[e];rfl
  rw[ea] at hK
  try dsimp only[Ker.tell,Ker.tellW] at hK
  exact resume_spec hk hN2 (show Vc.Own B w0 w (BlkA bd (dcells bk d 0 0 (-1) ⟨none,0,0⟩)::KerA bk k::SlT lneE ⟨none,0,0⟩ []::R) from h.sub) fun w' h=>hK ⟨none,0,0⟩ w' h.sub
 ·refine ⟨methV bd 159,hlook _ (by rw[e];rfl),callV_mk ?_⟩
  show C.qaO (some ⟨bd,0,none⟩) K w;have hkd:(Ker.needK 6).1≠0->d.c.kind=(Ker.needK 6).1:=by rw[e] at hkind;exact hkind
  have hkd:=hkd (by decide)
  have ea:k.asks d=Ker.tell (k.t.suspendR d.c.obj).1 ((k.freed d.c.obj).setT (k.t.suspendR d.c.obj).2):=by
   unfold Ker.asks;rw[e];rfl
  rw[ea] at hK
  try dsimp only[Ker.tell,Ker.tellW] at hK
  exact suspend_spec hk hN2 (show Vc.Own B w0 w (BlkA bd (dcells bk d 0 0 (-1) ⟨none,0,0⟩)::KerA bk k::SlT lneE ⟨none,0,0⟩ []::R) from h.sub) fun w' h=>hK ⟨none,0,0⟩ w' h.sub
 ·refine ⟨methV bd 160,hlook _ (by rw[e];rfl),callV_mk ?_⟩
  show C.qbG (some ⟨bd,0,none⟩) K w;have hkd:(Ker.needK 7).1≠0->d.c.kind=(Ker.needK 7).1:=by rw[e] at hkind;exact hkind
  have hkd:=hkd (by decide)
  have ea:k.asks d=Ker.tell (k.t.prioR d.c.obj d.call.a).1 (k.setT (k.t.prioR d.c.obj d.call.a).2):=by
   unfold Ker.asks;rw[e];rfl
  rw[ea] at hK
  try dsimp only[Ker.tell,Ker.tellW] at hK
  exact prio_spec hk.inv.ok (show Vc.Own B w0 w (BlkA bd (dcells bk d 0 0 (-1) ⟨none,0,0⟩)::KerA bk k::SlT lneE ⟨none,0,0⟩ []::R) from h.sub) fun w' h=>hK ⟨none,0,0⟩ w' h.sub
 ·refine ⟨methV bd 161,hlook _ (by rw[e];rfl),callV_mk ?_⟩
  show C.qbH (some ⟨bd,0,none⟩) K w;have hkd:(Ker.needK 8).1≠0->d.c.kind=(Ker.needK 8).1:=by rw[e] at hkind;exact hkind
  have hkd:=hkd (by decide)
  have ea:k.asks d=k.send d:=by
   unfold Ker.asks;rw[e];rfl
  rw[ea] at hK
  try dsimp only[Ker.tell,Ker.tellW] at hK
  have t1:(k.send d).1.w=0/\(k.send d).1.forget= []:=by
   unfold Ker.send Ker.tell Ker.tellW;split
   ·exact ⟨rfl,rfl⟩
   split
   ·exact ⟨rfl,rfl⟩
   ·exact ⟨rfl,rfl⟩
  rw[t1.1,t1.2] at hK;exact send_spec hk hN2 ho.1 (ho.2.2.2.2.1 (hkd)) (show Vc.Own B w0 w (BlkA bd (dcells bk d 0 0 (-1) ⟨none,0,0⟩)::KerA bk k::SlT lneE ⟨none,0,0⟩ []::R) from h.sub) fun w' h=>hK ⟨none,0,0⟩ w' h.sub
 ·refine ⟨methV bd 162,hlook _ (by rw[e];rfl),callV_mk ?_⟩
  show C.qbI (some ⟨bd,0,none⟩) K w;have hkd:(Ker.needK 9).1≠0->d.c.kind=(Ker.needK 9).1:=by rw[e] at hkind;exact hkind
  have hkd:=hkd (by decide)
  have ea:k.asks d=k.recv d:=by
   unfold Ker.asks;rw[e];rfl
  rw[ea] at hK
  try dsimp only[Ker.tell,Ker.tellW] at hK
  have t1:(k.recv d).1.w=0/\(k.recv d).1.forget= []:=by
   unfold Ker.recv Ker.tell Ker.tellW;split
   ·exact ⟨rfl,rfl⟩
   split
   ·exact ⟨rfl,rfl⟩
   ·exact ⟨rfl,rfl⟩
  rw[t1.1,t1.2] at hK;exact recv_spec hk hN2 ho.1 (ho.2.2.2.2.1 (hkd)) (show Vc.Own B w0 w (BlkA bd (dcells bk d 0 0 (-1) ⟨none,0,0⟩)::KerA bk k::SlT lneE ⟨none,0,0⟩ []::R) from h.sub) fun w' h=>hK ⟨none,0,0⟩ w' h.sub
 ·refine ⟨methV bd 163,hlook _ (by rw[e];rfl),callV_mk ?_⟩
  show C.qam (some ⟨bd,0,none⟩) K w;have hkd:(Ker.needK 10).1≠0->d.c.kind=(Ker.needK 10).1:=by rw[e] at hkind;exact hkind
  have hkd:=hkd (by decide)
  have ea:k.asks d=(⟨0,0,(k.signal d.c.obj d.c.badge).1,[]⟩,(k.signal d.c.obj d.c.badge).2):=by
   unfold Ker.asks;rw[e];rfl
  rw[ea] at hK
  try dsimp only[Ker.tell,Ker.tellW] at hK
  exact signalled_spec hk hN2 ho.1 (ho.2.2.2.2.2.1 (hkd)) (show Vc.Own B w0 w (BlkA bd (dcells bk d 0 0 (-1) ⟨none,0,0⟩)::KerA bk k::SlT lneE ⟨none,0,0⟩ []::R) from h.sub) fun w' h=>hK ⟨none,0,0⟩ w' h.sub
 ·refine ⟨methV bd 164,hlook _ (by rw[e];rfl),callV_mk ?_⟩
  show C.qbJ (some ⟨bd,0,none⟩) K w;have hkd:(Ker.needK 11).1≠0->d.c.kind=(Ker.needK 11).1:=by rw[e] at hkind;exact hkind
  have hkd:=hkd (by decide)
  have ea:k.asks d=k.wait d:=by
   unfold Ker.asks;rw[e];rfl
  rw[ea] at hK
  try dsimp only[Ker.tell,Ker.tellW] at hK
  have t1:(k.wait d).1.wakes= -1/\(k.wait d).1.forget= []:=by
   unfold Ker.wait Ker.tell;split
   ·exact ⟨rfl,rfl⟩
   ·exact ⟨rfl,rfl⟩
  rw[t1.1,t1.2] at hK;exact wait_spec hk hN2 ho.1 (ho.2.2.2.2.2.1 (hkd)) (show Vc.Own B w0 w (BlkA bd (dcells bk d 0 0 (-1) ⟨none,0,0⟩)::KerA bk k::SlT lneE ⟨none,0,0⟩ []::R) from h.sub) fun w' h=>hK ⟨none,0,0⟩ w' h.sub
 ·refine ⟨methV bd 165,hlook _ (by rw[e];rfl),callV_mk ?_⟩
  show C.qbm (some ⟨bd,0,none⟩) K w;have hkd:(Ker.needK 12).1≠0->d.c.kind=(Ker.needK 12).1:=by rw[e] at hkind;exact hkind
  have hkd:=hkd (by decide)
  have ea:k.asks d=k.table d:=by
   unfold Ker.asks;rw[e];rfl
  rw[ea] at hK
  try dsimp only[Ker.tell,Ker.tellW] at hK
  have t1:(k.table d).1.w=0/\(k.table d).1.wakes= -1/\(k.table d).1.forget= []:=by
   unfold Ker.table Ker.tell;split
   ·exact ⟨rfl,rfl,rfl⟩
   ·exact ⟨rfl,rfl,rfl⟩
  rw[t1.1,t1.2.1,t1.2.2] at hK;exact table_spec hk (show Vc.Own B w0 w (BlkA bd (dcells bk d 0 0 (-1) ⟨none,0,0⟩)::KerA bk k::SlT lneE ⟨none,0,0⟩ []::R) from h.sub) fun w' h=>hK ⟨none,0,0⟩ w' h.sub
 ·refine ⟨methV bd 166,hlook _ (by rw[e];rfl),callV_mk ?_⟩
  show C.qaZ (some ⟨bd,0,none⟩) K w;have hkd:(Ker.needK 13).1≠0->d.c.kind=(Ker.needK 13).1:=by rw[e] at hkind;exact hkind
  have hkd:=hkd (by decide)
  have ea:k.asks d=k.mapped d:=by
   unfold Ker.asks;rw[e];rfl
  rw[ea] at hK
  try dsimp only[Ker.tell,Ker.tellW] at hK
  have t1:(k.mapped d).1.w=0/\(k.mapped d).1.wakes= -1/\(k.mapped d).1.forget= []:=by
   unfold Ker.mapped Ker.tell;split
   ·exact ⟨rfl,rfl,rfl⟩
   ·exact ⟨rfl,rfl,rfl⟩
  rw[t1.1,t1.2.1,t1.2.2] at hK;exact mapped_spec hk (show Vc.Own B w0 w (BlkA bd (dcells bk d 0 0 (-1) ⟨none,0,0⟩)::KerA bk k::SlT lneE ⟨none,0,0⟩ []::R) from h.sub) fun w' h=>hK ⟨none,0,0⟩ w' h.sub
 ·refine ⟨methV bd 167,hlook _ (by rw[e];rfl),callV_mk ?_⟩
  show C.qbn (some ⟨bd,0,none⟩) K w;have hkd:(Ker.needK 14).1≠0->d.c.kind=(Ker.needK 14).1:=by rw[e] at hkind;exact hkind
  have hkd:=hkd (by decide)
  have ea:k.asks d=k.unmap d:=by
   unfold Ker.asks;rw[e];rfl
  rw[ea] at hK
  try dsimp only[Ker.tell,Ker.tellW] at hK
  exact unmap_spec hk ho.1 (ho.2.2.2.2.2.2.2.2.1 (hkd)) (show Vc.Own B w0 w (BlkA bd (dcells bk d 0 0 (-1) ⟨none,0,0⟩)::SlT lneE ⟨none,0,0⟩ []::KerA bk k::R) from h.sub) fun fs' w' h=>hK fs' w' h
 ·refine ⟨methV bd 168,hlook _ (by rw[e];rfl),callV_mk ?_⟩
  show C.qbK (some ⟨bd,0,none⟩) K w;have hkd:(Ker.needK 15).1≠0->d.c.kind=(Ker.needK 15).1:=by rw[e] at hkind;exact hkind
  have hkd:=hkd (by decide)
  have ea:k.asks d=k.bind d:=by
   unfold Ker.asks;rw[e];rfl
  rw[ea] at hK
  try dsimp only[Ker.tell,Ker.tellW] at hK
  have t1:(k.bind d).1.w=0/\(k.bind d).1.wakes= -1/\(k.bind d).1.forget= []:=by
   unfold Ker.bind Ker.tell;split
   ·exact ⟨rfl,rfl,rfl⟩
   ·exact ⟨rfl,rfl,rfl⟩
  rw[t1.1,t1.2.1,t1.2.2] at hK;exact bind_spec hk (show Vc.Own B w0 w (BlkA bd (dcells bk d 0 0 (-1) ⟨none,0,0⟩)::KerA bk k::SlT lneE ⟨none,0,0⟩ []::R) from h.sub) fun w' h=>hK ⟨none,0,0⟩ w' h.sub
 ·refine ⟨methV bd 169,hlook _ (by rw[e];rfl),callV_mk ?_⟩
  show C.qbZ (some ⟨bd,0,none⟩) K w;have hkd:(Ker.needK 16).1≠0->d.c.kind=(Ker.needK 16).1:=by rw[e] at hkind;exact hkind
  have hkd:=hkd (by decide)
  have ea:k.asks d=Ker.tellW (k.lined (ackL k.ln d.c.obj)):=by
   unfold Ker.asks;rw[e];rfl
  rw[ea] at hK
  try dsimp only[Ker.tell,Ker.tellW] at hK
  exact ack_spec hk hN2 (show Vc.Own B w0 w (BlkA bd (dcells bk d 0 0 (-1) ⟨none,0,0⟩)::KerA bk k::SlT lneE ⟨none,0,0⟩ []::R) from h.sub) fun w' h=>hK ⟨none,0,0⟩ w' h.sub
set_option maxHeartbeats 1000000 in
theorem asked_spec {core cur:Int} {c:Call} {K:Int->Pw} (hk:KOk N k) (hN:N+64≤100000) (hcore:k.t.isC core=true) (ha0:0≤c.ask) (ha1:c.ask<17)
  (hw0: -9223372036854775808≤c.with_) (hw1:c.with_<9223372036854775808)
  (h:Vc.Own B w0 w (BlkA bd (dcells bk ⟨core,cur,c,(0,0),Sl.zeroCap⟩ 0 0 (-1) ⟨none,0,0⟩)::SlT lneE ⟨none,0,0⟩ []::KerA bk k::R))
  (hK:∀d' fs' w',Vc.Own B w0 w' (BlkA bd (dcells bk d' 0 (k.asked core cur c).1.w (k.asked core cur c).1.wakes fs')::SlT lneE fs' (k.asked core cur c).1.forget::KerA bk (k.asked core cur c).2::R)->K (k.asked core cur c).1.e w'):
  C.qbk (some ⟨bd,0,none⟩) K w:=by
 apply S.qbk0;unfold Ker.asked at hK;refine ⟨_,rfl,_,h.ldd rfl,?_⟩;refine needs_spec (ask:=c.ask) ha0 (by omega) h fun w h=>?_
 have hask:(Ker.needK c.ask).1=(Ker.needK c.ask).1:=rfl;refine h.al fun w1 h=>?_
 generalize w.heap.size=nb at h⊢;refine h.stLc rfl rfl fun w h=>?_
 (try dsimp only[putAt,List.set_cons_zero,List.set_cons_succ] at h)
 intro k9 hk9
 have hbad:k.heldB c.at_ (Ker.needK c.ask).1=false->∀(sb cb:Addr) (w:World),Vc.Own B w0 w (BlkA bd (dcells bk ⟨core,cur,c,(0,0),Sl.zeroCap⟩ 0 0 (-1) ⟨none,0,0⟩)::SlT lneE ⟨none,0,0⟩ []::KerA bk k::R)->k9 sb cb false w:=fun hB sb cb w h=>by
  rw[if_pos hB] at hK;apply hk9;intro k14 hk14;have hfin:k14 true w:=hk14 _ _ (cbT rfl (hK _ _ w h));exact cbT rfl hfin
 have hgood:k.heldB c.at_ (Ker.needK c.ask).1=true->∀(sb cb:Nat) (cc:Cap) (w:World),cc=k.capAt c.at_->Vc.Own B w0 w (BlkA sb [.z 0, .z c.at_]::BlkA cb [.z cc.kind, .z cc.obj, .z cc.rights, .y cc.badge, .y cc.guard, .z cc.bits]::BlkA nb [.z (Ker.needK c.ask).1, .z (Ker.needK c.ask).2]::BlkA bd (dcells bk ⟨core,cur,c,(0,0),Sl.zeroCap⟩ 0 0 (-1) ⟨none,0,0⟩)::SlT lneE ⟨none,0,0⟩ []::KerA bk k::R)->k9 ⟨sb,0,none⟩ ⟨cb,0,none⟩ true w:=fun hB sb cb cc w hcc h=>by
  subst hcc;rw[if_neg (by rw[hB];decide)] at hK;obtain ⟨hb1,hb2⟩:=heldB_out hB;obtain ⟨_,hH,ho,hcr,_⟩:=hk.cap hb1;apply hk9;intro k14 hk14;refine cbF rfl ⟨_,h.ldd rfl,_,h.ldd rfl,_,h.ldd rfl,?_⟩;apply hk14;refine cne (fun e=>?_) (fun e=>?_)
  ·rw[if_pos e] at hK
   exact hK ⟨core,cur,c,(0,0),Sl.zeroCap⟩ ⟨none,0,0⟩ w (show Vc.Own B w0 w (BlkA bd (dcells bk ⟨core,cur,c,(0,0),Sl.zeroCap⟩ 0 0 (-1) ⟨none,0,0⟩)::SlT lneE ⟨none,0,0⟩ []::KerA bk k::R) from h.sub)
  rw[if_neg (by rw[e];exact fun hh=>hh rfl)] at hK;refine h.dr fun w h=>?_
  refine h.lc_2 rfl ⟨_,rfl,?_⟩;refine h.lc_6 rfl ⟨?_,trivial⟩;refine StL_add (h.stLc rfl rfl fun w h=>?_)
  (try dsimp only[putAt,List.set_cons_zero,List.set_cons_succ] at h)
  refine h.hd rfl ⟨_,rfl,?_,trivial⟩;refine StL_add (h.stLc rfl rfl fun w h=>?_)
  (try dsimp only[putAt,List.set_cons_zero,List.set_cons_succ] at h)
  have h:Vc.Own B w0 w (BlkA bd (dcells bk ⟨core,cur,c,(0,c.at_),k.capAt c.at_⟩ 0 0 (-1) ⟨none,0,0⟩)::SlT lneE ⟨none,0,0⟩ []::KerA bk k::R):=h.sub;refine h.alMap (Value.int .i64) (methV bd) fun w1 h=>?_
  generalize w.heap.size=m at h⊢;refine h.mput (k:=(0:Int)) (v:=153) (enc:=Value.int .i64) (encV:=methV bd) Tryz.underlying292 (keyOk_int .i64 Tryz.underlying3) 0 rfl fun w h=>?_
  refine h.mput (k:=(1:Int)) (v:=154) (enc:=Value.int .i64) (encV:=methV bd) Tryz.underlying292 (keyOk_int .i64 Tryz.underlying3) 0 rfl fun w h=>?_
  refine h.mput (k:=(2:Int)) (v:=155) (enc:=Value.int .i64) (encV:=methV bd) Tryz.underlying292 (keyOk_int .i64 Tryz.underlying3) 0 rfl fun w h=>?_
  refine h.mput (k:=(3:Int)) (v:=156) (enc:=Value.int .i64) (encV:=methV bd) Tryz.underlying292 (keyOk_int .i64 Tryz.underlying3) 0 rfl fun w h=>?_
  refine h.mput (k:=(4:Int)) (v:=157) (enc:=Value.int .i64) (encV:=methV bd) Tryz.underlying292 (keyOk_int .i64 Tryz.underlying3) 0 rfl fun w h=>?_
  refine h.mput (k:=(5:Int)) (v:=158) (enc:=Value.int .i64) (encV:=methV bd) Tryz.underlying292 (keyOk_int .i64 Tryz.underlying3) 0 rfl fun w h=>?_
  refine h.mput (k:=(6:Int)) (v:=159) (enc:=Value.int .i64) (encV:=methV bd) Tryz.underlying292 (keyOk_int .i64 Tryz.underlying3) 0 rfl fun w h=>?_
  refine h.mput (k:=(7:Int)) (v:=160) (enc:=Value.int .i64) (encV:=methV bd) Tryz.underlying292 (keyOk_int .i64 Tryz.underlying3) 0 rfl fun w h=>?_
  refine h.mput (k:=(8:Int)) (v:=161) (enc:=Value.int .i64) (encV:=methV bd) Tryz.underlying292 (keyOk_int .i64 Tryz.underlying3) 0 rfl fun w h=>?_
  refine h.mput (k:=(9:Int)) (v:=162) (enc:=Value.int .i64) (encV:=methV bd) Tryz.underlying292 (keyOk_int .i64 Tryz.underlying3) 0 rfl fun w h=>?_
  refine h.mput (k:=(10:Int)) (v:=163) (enc:=Value.int .i64) (encV:=methV bd) Tryz.underlying292 (keyOk_int .i64 Tryz.underlying3) 0 rfl fun w h=>?_
  refine h.mput (k:=(11:Int)) (v:=164) (enc:=Value.int .i64) (encV:=methV bd) Tryz.underlying292 (keyOk_int .i64 Tryz.underlying3) 0 rfl fun w h=>?_
  refine h.mput (k:=(12:Int)) (v:=165) (enc:=Value.int .i64) (encV:=methV bd) Tryz.underlying292 (keyOk_int .i64 Tryz.underlying3) 0 rfl fun w h=>?_
  refine h.mput (k:=(13:Int)) (v:=166) (enc:=Value.int .i64) (encV:=methV bd) Tryz.underlying292 (keyOk_int .i64 Tryz.underlying3) 0 rfl fun w h=>?_
  refine h.mput (k:=(14:Int)) (v:=167) (enc:=Value.int .i64) (encV:=methV bd) Tryz.underlying292 (keyOk_int .i64 Tryz.underlying3) 0 rfl fun w h=>?_
  refine h.mput (k:=(15:Int)) (v:=168) (enc:=Value.int .i64) (encV:=methV bd) Tryz.underlying292 (keyOk_int .i64 Tryz.underlying3) 0 rfl fun w h=>?_
  refine h.mput (k:=(16:Int)) (v:=169) (enc:=Value.int .i64) (encV:=methV bd) Tryz.underlying292 (keyOk_int .i64 Tryz.underlying3) 0 rfl fun w h=>?_
  have h:Vc.Own B w0 w (MapA (Value.int .i64) (methV bd) m askT::BlkA bd (dcells bk ⟨core,cur,c,(0,c.at_),k.capAt c.at_⟩ 0 0 (-1) ⟨none,0,0⟩)::SlT lneE ⟨none,0,0⟩ []::KerA bk k::R):=h;refine ⟨_,rfl,_,h.ldd rfl,?_⟩;exact asked_main (d:=⟨core,cur,c,(0,c.at_),k.capAt c.at_⟩) hk hN hcore hH hcr ho ha0 ha1 hb2 hw0 hw1 h fun fs' w' h=>hK _ fs' w' h
 refine h.dr fun w h=>?_
 refine ⟨_,rfl,_,h.ldc rfl,_,rfl,_,ld_add (h.ldd rfl),_,h.ldc rfl,?_⟩
 (repeat' (first|exact trivial|(exact hbad (by assumption) _ _ _ h.sub)|(exact hgood (by assumption) _ _ _ _ (by assumption) h.sub)|(refine held_spec hk (h.pick (A:=KerA bk k)) (fun hB s c w h=>?_) (fun hB w c hc h=>?_))|(refine h.al fun w h=>?_)|(refine h.dr fun w h=>?_)|(refine h.lc_2 rfl ?_)|(refine h.lc_6 rfl ?_)|(refine ⟨_,h.ldc rfl,?_⟩)|(refine ⟨_,h.ldd rfl,?_⟩)|(refine h.hd rfl ?_)|(refine ⟨h.ldc rfl,?_⟩)|(refine ⟨h.ldd rfl,?_⟩)|((refine h.stLc rfl rfl fun w h=>?_);(try dsimp only[putAt,List.set_cons_zero,List.set_cons_succ] at h))|(refine exs ?_)|(refine _root_.Go.Vc.a2 ?_)|(refine h.stc rfl rfl fun w h=>?_)|(refine h.std rfl rfl fun w h=>?_)|(refine And.intro ?_ ?_)))
end
theorem and7 (x:Int) (y:Int) (hy:0≤y/\y≤7):0≤andI .i64 x y/\andI .i64 x y≤7:=by
 obtain ⟨m,rfl⟩:=Int.eq_ofNat_of_zero_le hy.1;obtain ⟨p,hp,e⟩:=Sl.andle x m (by omega);rw[e];omega
theorem capBad_iff {c:Cap}:Sl.capBad c=false↔((0<c.kind/\c.kind<10)/\0≤c.obj/\c.obj<2147483648)/\(0≤c.rights/\c.rights≤7)/\Sl.guardB c.guard c.bits=true/\(Sl.limitedB c.kind=false->c.rights=7)/\(c.badge≠0->Sl.badgedB c.kind=true)/\(c.bits≠0->c.kind=2):=by
 unfold Sl.capBad;simp only[Bool.or_eq_false_iff,Bool.not_eq_false',Bool.and_eq_true,decide_eq_true_eq,Bool.and_eq_false_imp,bne_iff_ne,ne_eq,bne_eq_false_iff_eq,Bool.not_eq_true',and_assoc]
theorem capErr0 {c:Cap} (h:Sl.capBad c=false):Sl.capErr c=0:=by
 unfold Sl.capErr;rw[h];split
 ·rfl
 ·rfl
theorem mintC_ok {c:Cap} {r g:Int} (hc:Sl.capErr c=0) (hm:(Ker.mintC c r g).2=0):Sl.capErr (Ker.mintC c r g).1=0/\(Ker.mintC c r g).1.kind=c.kind/\(Ker.mintC c r g).1.obj=c.obj/\c.kind≠0:=by
 unfold Ker.mintC at*
 rw[if_neg (by rw[hc];exact fun h=>h rfl)] at*
 by_cases hr:¬(0≤r/\r≤7)
 ·rw[if_pos hr] at hm;cases hm
 rw[if_neg hr] at hm⊢;by_cases h2:c.kind=0∨(g≠0/\(Sl.badgedB c.kind=false∨c.badge≠0))
 ·rw[if_pos h2] at hm;cases hm
 rw[if_neg h2];have hk:c.kind≠0:=fun e=>h2 (.inl e)
 refine ⟨?_,rfl,rfl,hk⟩;have hz:c≠Sl.zeroCap:=fun e=>hk (by rw[e];rfl)
 have hb:Sl.capBad c=false:=by
  unfold Sl.capErr at hc;rw[if_neg hz] at hc;cases e:Sl.capBad c with
  |false=>rfl
  |true=>rw[e,if_pos rfl] at hc;cases hc
 obtain ⟨b1,b2,b3,b4,b5,b6⟩:=capBad_iff.1 hb;have hr7:0≤r/\r≤7:=Decidable.byContradiction hr;have ha:=and7 c.rights r hr7
 have hb2:Sl.capBad { c with rights:=if Sl.limitedB c.kind then andI .i64 c.rights r else c.rights,badge:=if g≠0 then g else c.badge}=false:=by
  refine capBad_iff.2 ⟨b1,?_,b3,fun e=>?_,fun e=>?_,b6⟩
  ·dsimp only
   split
   ·exact ha
   ·exact b2
  ·dsimp only at e⊢
   rw[if_neg (by rw[e];decide)];exact b4 e
  ·dsimp only at e⊢
   by_cases e0:g≠0
   ·cases hh:Sl.badgedB c.kind with
    |true=>rfl
    |false=>exact absurd (.inr ⟨e0, .inl hh⟩) h2
   ·rw[if_neg e0] at e;exact b5 e
 exact capErr0 hb2
section
variable {N:Nat} {k:Ker} {d:Dng}
theorem freeK1 (hk:KOk N k) {w:Int} (hf:k.freeK w 1=0):0≤w/\w<64/\k.H (0,w)=none:=by
 obtain ⟨h1,h2,h3⟩:=hk.freeK_out hf;refine ⟨h1,by omega,?_⟩;have:=h3 0 (by omega);rw[show w+((0:Nat):Int)=w from by omega] at this;exact this
theorem KOk.mint (hk:KOk N k) (hs:k.H d.s=some d.c) (hr:Sl.CapR d.c) (ho:k.objOk d.c):KOk N (k.mint d).2:=by
 unfold Ker.mint;split
 ·exact hk
 split
 ·exact hk
 rename_i hf;split
 ·exact hk
 rename_i hm;obtain ⟨h1,h2,h3⟩:=freeK1 hk (Decidable.byContradiction hf);obtain ⟨_,he,_,_⟩:=hk.nok.held _ _ hs;obtain ⟨m1,m2,m3,m4⟩:=mintC_ok he (by omega:(Ker.mintC d.c d.call.a (IntKind.u64.wrap d.call.b)).2=0);refine (hk.laid (by rw[hs];rfl) ⟨rfl,h1,h2⟩ h3 m1 (by rw[m2];exact m4) (mintC_rng hr (wrap_u64_rng _)) ?_).1;unfold Ker.objOk at ho⊢;rw[m2,m3];exact ho
theorem KOk.move (hk:KOk N k) (hs:k.H d.s=some d.c):KOk N (k.move d).2:=by
 unfold Ker.move;split
 ·exact hk
 rename_i hf;obtain ⟨h1,h2,h3⟩:=freeK1 hk (Decidable.byContradiction hf);have hsl:=(hk.held _ _ hs).1;obtain ⟨i,hi⟩:=place_yes ((hk.mem d.s).2 (by rw[hs];rfl));obtain ⟨x,hx,hxs⟩:=Tr.place_some hi;have hno:Tr.placeN k.T (0,d.call.with_)=none:=place_no fun e=>by rw[hk.mem,h3] at e;cases e
 have hH:(Sl.moveN k.bits k.H d.s (0,d.call.with_)).2=Sl.updH (Sl.updH k.H d.s none) (0,d.call.with_) (some d.c):=by
  unfold Sl.moveN;rw[there0 hk.b0 hsl,there0 hk.b0 (s:=(0,d.call.with_)) ⟨rfl,h1,h2⟩,if_neg (by simp),hs];dsimp only;rw[h3,if_neg (by decide)]
 have hT:(Tr.moveN k.T d.s (0,d.call.with_)).2=k.T.set i ((0,d.call.with_),Tr.dOf k.T i):=by
  unfold Tr.moveN;rw[hi];dsimp only;rw[hno]
 obtain ⟨n1,n2,n3,n4⟩:=hk.nok.held _ _ hs;rw[hH,hT];have hgi:(k.T.map (·.1))[i]?=some d.s:=by rw[List.getElem?_map,hx];exact congrArg some hxs
 show KOk N { k with H:=Sl.updH (Sl.updH k.H d.s none) (0,d.call.with_) (some d.c),T:=k.T.set i ((0,d.call.with_),Tr.dOf k.T i)}
 refine { hk with
  nok:=(hk.nok.del d.s).put (there0 hk.b0 ⟨rfl,h1,h2⟩) n2 n3 n4
  held:=fun t c hc=>?_
  tok:=hk.tok.move hi hno
  mem:=fun t=>?_}
 ·have hc:Sl.updH (Sl.updH k.H d.s none) (0,d.call.with_) (some d.c) t=some c:=hc
  unfold Sl.updH at hc;split at hc
  ·rename_i e
   cases hc;rw[e];exact ⟨⟨rfl,h1,h2⟩,(hk.held _ _ hs).2⟩
  split at hc
  ·cases hc
  ·exact hk.held t c hc
 ·rw[List.map_set]
  have hnd:=hk.tok.nd;have hlt:=(List.getElem?_eq_some_iff.1 hgi).1;have hne:(0,d.call.with_)≠d.s:=fun e=>by rw[←e,h3] at hs;cases hs
  have hm:t∈(k.T.map (·.1)).set i (0,d.call.with_)↔t=(0,d.call.with_)∨(t∈k.T.map (·.1)/\t≠d.s):=by
   rw[List.set_eq_take_append_cons_drop,if_pos hlt,←Sl.mem_erase' hnd hgi,List.eraseIdx_eq_take_drop_succ];simp only[List.mem_append,List.mem_cons];constructor
   ·rintro (h|h|h)
    ·exact .inr (.inl h)
    ·exact .inl h
    ·exact .inr (.inr h)
   ·rintro (h|h|h)
    ·exact .inr (.inl h)
    ·exact .inl h
    ·exact .inr (.inr h)
  show t∈(k.T.map (·.1)).set i (0,d.call.with_)↔_;rw[hm,hk.mem];show _↔(Sl.updH (Sl.updH k.H d.s none) (0,d.call.with_) (some d.c) t).isSome=true;unfold Sl.updH;by_cases e1:t=(0,d.call.with_)
  ·simp[e1]
  ·rw[if_neg e1]
   by_cases e2:t=d.s
   ·rw[if_pos e2];simp[e2,hne.symm]
   ·rw[if_neg e2];simp[e1,e2]
theorem KOk.setS (hk:KOk N k) {n:Int} {m:Tb.Spc} (hm:Tb.SOk m):KOk N (k.setS n m):=
 hk.spaces (by rw[List.length_set]) fun y hy=>by
  rcases List.mem_or_eq_of_mem_set hy with hy|hy
  ·exact hk.sok y hy
  ·rw[hy];exact hm
theorem KOk.sAtOk (hk:KOk N k) (n:Int):Tb.SOk (k.sAt n):=by
 unfold Ker.sAt;cases e:k.spaces[n.toNat]? with
 |none=>exact Tb.SOk.new
 |some m=>exact hk.sok m (List.mem_of_getElem? e)
theorem KOk.resetU (hk:KOk N k) (n:Int):KOk N (k.resetU n):=by
 unfold Ker.resetU
 have hu:∀x∈k.u.set n.toNat { k.uAt n with used:=0},UOk x:=fun x hx=>by
  by_cases hlt:n.toNat<k.u.length
  ·rcases List.mem_or_eq_of_mem_set hx with hx|hx
   ·exact hk.u x hx
   ·have h1:UOk (k.uAt n):=by
     unfold Ker.uAt;rw[gE hlt];exact hk.u _ (List.getElem_mem _)
    rw[hx];exact ⟨h1.bits,h1.top,h1.dvd,Nat.zero_le _⟩
  ·rw[List.set_eq_of_length_le (by omega)] at hx
   exact hk.u x hx
 exact hk.ulift hu (by rw[List.length_set];exact Nat.le_refl _) (by rw[List.length_set];exact hk.nu)
theorem KOk.revoke (hk:KOk N k):KOk N (k.revoke d).2:=by
 have hnd:=under_nd (s:=d.s) hk.tok;have hheld:∀s∈Tr.underN k.T d.s,(k.H s).isSome=true:=fun s hs=>(hk.mem s).1 (under_in hs)
 obtain ⟨h1,_⟩:=gones_ok (Tr.underN k.T d.s).reverse k hk (List.pairwise_reverse.2 (hnd.imp Ne.symm)) (fun s hs=>hheld s (List.mem_reverse.1 hs));unfold Ker.revoke;dsimp only;split
 ·exact h1.resetU _
 ·exact h1
theorem KOk.send (hk:KOk N k) (h0:0≤d.c.obj) (h1:d.c.obj<(k.ends.length:Int)):KOk (N+1) (k.send d).2:=by
 obtain ⟨_,hl⟩:=hk.eAt h0 h1;have hse:=send_le (k.eAt d.c.obj) d.cur (Ker.msgOf d) (d.call.c !=0);have hE:=hk.setE (n:=d.c.obj) (p:=((k.eAt d.c.obj).send d.cur (Ker.msgOf d) (d.call.c !=0)).2.2) (by omega);unfold Ker.send;split
 ·exact hE
 split
 ·exact hE.rest
 ·exact hE.gets.woken _
theorem KOk.recv (hk:KOk N k) (h0:0≤d.c.obj) (h1:d.c.obj<(k.ends.length:Int)):KOk (N+1) (k.recv d).2:=by
 obtain ⟨_,hl⟩:=hk.eAt h0 h1;have hse:=recv_le (k.eAt d.c.obj) d.cur (d.call.c !=0);have hE:=hk.setE (n:=d.c.obj) (p:=((k.eAt d.c.obj).recv d.cur (d.call.c !=0)).2.2) (by omega);unfold Ker.recv;split
 ·exact hE
 split
 ·exact hE.rest
 ·exact hE.gets.woken _
theorem KOk.wait (hk:KOk N k) (h0:0≤d.c.obj) (h1:d.c.obj<(k.notes.length:Int)):KOk (N+1) (k.wait d).2:=by
 obtain ⟨_,hl⟩:=hk.nAt h0 h1;have hwl:=wait_le (k.nAt d.c.obj) d.cur (d.call.c !=0);have hE:=hk.setN (n:=d.c.obj) (p:=((k.nAt d.c.obj).wait d.cur (d.call.c !=0)).2) (by omega);unfold Ker.wait;split
 ·exact hE
 dsimp only;split
 ·exact hE
 ·exact hE.rest
theorem KOk.bind (hk:KOk N k):KOk N (k.bind d).2:=by
 unfold Ker.bind;split
 ·exact hk
 rename_i hB
 have hB:k.heldB d.call.with_ 5=true:=by
  cases e:k.heldB d.call.with_ 5 with
  |true=>rfl
  |false=>exact absurd e hB
 obtain ⟨hb1,hb2⟩:=heldB_out hB;obtain ⟨_,_,ho,_,_⟩:=hk.cap hb1;unfold Ker.tell;dsimp only;unfold bindL;cases hx:lnAt k.ln d.c.obj with
 |none=>exact hk
 |some x=>
  dsimp only;split
  ·exact hk
  split
  ·exact hk
  ·refine hk.lns (by rw[List.length_set];exact hk.ln) fun y hy hy2=>?_
   rcases List.mem_or_eq_of_mem_set hy with hy|hy
   ·exact hk.lnb y hy hy2
   ·rw[hy];exact ⟨ho.1,ho.2.2.2.2.2.1 (hb2 (by decide))⟩
theorem KOk.lined (hk:KOk N k) {r:(Option (Int × Int)× Int)× Lns} (h1:KOk N { k with ln:=r.2}) (h2:∀y,r.1.1=some y->0≤y.1/\y.1<(k.notes.length:Int)):KOk (N+1) (k.lined r).2.2:=by
 unfold Ker.lined;split
 ·exact h1.mono (by omega)
 ·rename_i x e
  obtain ⟨a,b⟩:=h2 x e;exact h1.signal a b
theorem KOk.asks (hk:KOk N k) (hN:N+64≤100000) (hcore:k.t.isC d.core=true) (hH:k.H d.s=some d.c) (hr:Sl.CapR d.c) (ho:k.objOk d.c) (ha0:0≤d.call.ask) (ha1:d.call.ask<17)
  (hkind:(Ker.needK d.call.ask).1≠0->d.c.kind=(Ker.needK d.call.ask).1):KOk (N+64) (k.asks d).2:=by
 have hsome:(k.H d.s).isSome=true:=by rw[hH];rfl
 have hask:d.call.ask=0∨d.call.ask=1∨d.call.ask=2∨d.call.ask=3∨d.call.ask=4∨d.call.ask=5∨d.call.ask=6∨d.call.ask=7∨d.call.ask=8∨d.call.ask=9∨d.call.ask=10∨d.call.ask=11∨d.call.ask=12∨d.call.ask=13∨d.call.ask=14∨d.call.ask=15∨d.call.ask=16:=by omega
 have m0:∀{x:Ker},KOk N x->KOk (N+64) x:=fun h=>h.mono (by omega)
 have m1:∀{x:Ker},KOk (N+1) x->KOk (N+64) x:=fun h=>h.mono (by omega)
 rcases hask with e|e|e|e|e|e|e|e|e|e|e|e|e|e|e|e|e
 ·have ea:k.asks d=Ker.tell (k.retype d).1 (k.retype d).2:=by
   unfold Ker.asks;rw[e];rfl
  rw[ea];have hkd:(Ker.needK 0).1≠0->d.c.kind=(Ker.needK 0).1:=by rw[e] at hkind;exact hkind
  have hkd:=hkd (by decide);exact hk.retype hN hsome hkd ho hcore
 ·have ea:k.asks d=Ker.tell (k.mint d).1 (k.mint d).2:=by
   unfold Ker.asks;rw[e];rfl
  rw[ea];exact m0 (hk.mint hH hr ho)
 ·have ea:k.asks d=Ker.tell (k.move d).1 (k.move d).2:=by
   unfold Ker.asks;rw[e];rfl
  rw[ea];exact m0 (hk.move hH)
 ·have ea:k.asks d=if d.call.at_=0 then Ker.tell 181 k else (⟨0,0, -1,(k.gone d.s).1⟩,(k.gone d.s).2):=by
   unfold Ker.asks;rw[e];rfl
  rw[ea];split
  ·exact m0 hk
  ·exact m0 (hk.gone hsome).1
 ·have ea:k.asks d=k.revoke d:=by
   unfold Ker.asks;rw[e];rfl
  rw[ea];exact m0 hk.revoke
 ·have ea:k.asks d=Ker.tellW (k.resume d):=by
   unfold Ker.asks;rw[e];rfl
  rw[ea];have hkd:(Ker.needK 5).1≠0->d.c.kind=(Ker.needK 5).1:=by rw[e] at hkind;exact hkind
  have hkd:=hkd (by decide)
  have h2:KOk N (if k.t.isT d.c.obj=true/\(k.t.th d.c.obj).st=3 then k.freed d.c.obj else k):=by
   split
   ·exact hk.freed _
   ·exact hk
  exact m0 (h2.woken _)
 ·have ea:k.asks d=Ker.tell (k.t.suspendR d.c.obj).1 ((k.freed d.c.obj).setT (k.t.suspendR d.c.obj).2):=by
   unfold Ker.asks;rw[e];rfl
  rw[ea];have hkd:(Ker.needK 6).1≠0->d.c.kind=(Ker.needK 6).1:=by rw[e] at hkind;exact hkind
  have hkd:=hkd (by decide);exact m0 ((hk.freed d.c.obj).setT (hk.inv.suspend _) (by rw[suspend_len];exact Nat.le_refl _))
 ·have ea:k.asks d=Ker.tell (k.t.prioR d.c.obj d.call.a).1 (k.setT (k.t.prioR d.c.obj d.call.a).2):=by
   unfold Ker.asks;rw[e];rfl
  rw[ea];have hkd:(Ker.needK 7).1≠0->d.c.kind=(Ker.needK 7).1:=by rw[e] at hkind;exact hkind
  have hkd:=hkd (by decide);exact m0 (hk.setT (hk.inv.prio _ _) (by rw[prioR_len];exact Nat.le_refl _))
 ·have ea:k.asks d=k.send d:=by
   unfold Ker.asks;rw[e];rfl
  rw[ea];have hkd:(Ker.needK 8).1≠0->d.c.kind=(Ker.needK 8).1:=by rw[e] at hkind;exact hkind
  have hkd:=hkd (by decide);exact m1 (hk.send ho.1 (ho.2.2.2.2.1 hkd))
 ·have ea:k.asks d=k.recv d:=by
   unfold Ker.asks;rw[e];rfl
  rw[ea];have hkd:(Ker.needK 9).1≠0->d.c.kind=(Ker.needK 9).1:=by rw[e] at hkind;exact hkind
  have hkd:=hkd (by decide);exact m1 (hk.recv ho.1 (ho.2.2.2.2.1 hkd))
 ·have ea:k.asks d=(⟨0,0,(k.signal d.c.obj d.c.badge).1,[]⟩,(k.signal d.c.obj d.c.badge).2):=by
   unfold Ker.asks;rw[e];rfl
  rw[ea];have hkd:(Ker.needK 10).1≠0->d.c.kind=(Ker.needK 10).1:=by rw[e] at hkind;exact hkind
  have hkd:=hkd (by decide);exact m1 (hk.signal ho.1 (ho.2.2.2.2.2.1 hkd))
 ·have ea:k.asks d=k.wait d:=by
   unfold Ker.asks;rw[e];rfl
  rw[ea];have hkd:(Ker.needK 11).1≠0->d.c.kind=(Ker.needK 11).1:=by rw[e] at hkind;exact hkind
  have hkd:=hkd (by decide);exact m1 (hk.wait ho.1 (ho.2.2.2.2.2.1 hkd))
 ·have ea:k.asks d=k.table d:=by
   unfold Ker.asks;rw[e];rfl
  rw[ea];have hkd:(Ker.needK 12).1≠0->d.c.kind=(Ker.needK 12).1:=by rw[e] at hkind;exact hkind
  have hkd:=hkd (by decide);unfold Ker.table;split
  ·exact m0 hk
  ·exact m0 (hk.setS ((hk.sAtOk _).table _ _))
 ·have ea:k.asks d=k.mapped d:=by
   unfold Ker.asks;rw[e];rfl
  rw[ea];have hkd:(Ker.needK 13).1≠0->d.c.kind=(Ker.needK 13).1:=by rw[e] at hkind;exact hkind
  have hkd:=hkd (by decide);unfold Ker.mapped;split
  ·exact m0 hk
  ·exact m0 (hk.setS ((hk.sAtOk _).map _ _))
 ·have ea:k.asks d=k.unmap d:=by
   unfold Ker.asks;rw[e];rfl
  rw[ea];have hkd:(Ker.needK 14).1≠0->d.c.kind=(Ker.needK 14).1:=by rw[e] at hkind;exact hkind
  have hkd:=hkd (by decide);exact m0 (hk.setS ((hk.sAtOk _).unmap _))
 ·have ea:k.asks d=k.bind d:=by
   unfold Ker.asks;rw[e];rfl
  rw[ea];have hkd:(Ker.needK 15).1≠0->d.c.kind=(Ker.needK 15).1:=by rw[e] at hkind;exact hkind
  have hkd:=hkd (by decide);exact m0 hk.bind
 ·have ea:k.asks d=Ker.tellW (k.lined (ackL k.ln d.c.obj)):=by
   unfold Ker.asks;rw[e];rfl
  rw[ea];have hkd:(Ker.needK 16).1≠0->d.c.kind=(Ker.needK 16).1:=by rw[e] at hkind;exact hkind
  have hkd:=hkd (by decide);exact m1 (hk.lined hk.ack fun y hy=>ack_note hk hy)
end
section
variable {B:Nat} {w0 w:World} {R L:List Asn} {bd bk:Nat} {k:Ker} {d:Dng} {ec wv wk:Int} {fs:Sl} {N:Nat}
theorem KOk.pick (hk:KOk N k) (core:Int):KOk N (k.setT (k.t.pickC core)):=hk.setT (hk.inv.pickC _) (by rw[pickC_len];exact Nat.le_refl _)
theorem KOk.asked (hk:KOk N k) (hN:N+64≤100000) {core cur:Int} {c:Call} (hcore:k.t.isC core=true) (ha0:0≤c.ask) (ha1:c.ask<17):KOk (N+64) (k.asked core cur c).2:=by
 unfold Ker.asked;split
 ·exact hk.mono (by omega)
 rename_i hB
 have hB:k.heldB c.at_ (Ker.needK c.ask).1=true:=by
  cases e:k.heldB c.at_ (Ker.needK c.ask).1 with
  |true=>rfl
  |false=>exact absurd e hB
 split
 ·exact hk.mono (by omega)
 obtain ⟨hb1,hb2⟩:=heldB_out hB;obtain ⟨_,hH,ho,hcr,_⟩:=hk.cap hb1;exact hk.asks hN hcore hH hcr ho ha0 ha1 hb2
theorem KOk.do (hk:KOk N k) (hN:N+64≤100000) (core:Int) (c:Call):KOk (N+64) (k.do core c).2:=by
 have hp:=hk.pick core;unfold Ker.do
 cases hr:(k.t.pickC core).runs? core with
 |none=>exact hp.mono (by omega)
 |some cur=>
  dsimp only;split
  ·exact hp.mono (by omega)
  split
  ·exact (hp.setT (hp.inv.yield core) (by rw[yield_len];exact Nat.le_refl _)).mono (by omega)
  ·rename_i h1 h2
   exact hp.asked hN (hp.inv.runIn hr).1 (by omega) (by omega)
theorem KOk.tick (hk:KOk N k) (core:Int):KOk N (k.tick core):=hk.setT (hk.inv.tick _) (by rw[tick_len];exact Nat.le_refl _)
theorem KOk.irq (hk:KOk N k) (line:Int):KOk (N+1) (k.irq line).2.2:=hk.lined hk.raise fun y hy=>raise_note hk hy
theorem Do_spec {core:Int} {c:Call} {K:Int->Int->Int->Sl->Pw} (hk:KOk N k) (hN:N+64≤100000) (hw0: -9223372036854775808≤c.with_) (hw1:c.with_<9223372036854775808)
  (h:Vc.Own B w0 w (KerA bk k::R))
  (hK:∀fs' w',Vc.Own B w0 w' (SlT lneE fs' (k.do core c).1.forget::KerA bk (k.do core c).2::R)->K (k.do core c).1.e (k.do core c).1.w (k.do core c).1.wakes fs' w'):
  C.qbV (some ⟨bk,0,none⟩) core c.ask c.at_ c.with_ c.a c.b c.c K w:=by
 apply S.qbV0;refine h.al fun w1 h=>?_
 generalize w.heap.size=cb at h⊢;refine h.al fun w2 h=>?_
 generalize w1.heap.size=ob at h⊢;refine h.lc_6 rfl ?_;refine h.al fun w3 h=>?_
 generalize w2.heap.size=bd at h⊢;have h:=Vc.Own.nilS (E:=lneE) h;have h:Vc.Own B w0 w3 (SlT lneE ⟨none,0,0⟩ []::BlkA bd (dcells bk ⟨core,0,c,(0,0),Sl.zeroCap⟩ 0 0 (-1) ⟨none,0,0⟩)::BlkA ob [.z 0, .y 0, .z 0, .slice none 0 0]::BlkA cb [.z c.ask, .z c.at_, .z c.with_, .z c.a, .z c.b, .z c.c]::KerA bk k::R):=h;have h:Vc.Own B w0 w3 (KerA bk k::BlkA bd (dcells bk ⟨core,0,c,(0,0),Sl.zeroCap⟩ 0 0 (-1) ⟨none,0,0⟩)::SlT lneE ⟨none,0,0⟩ []::BlkA ob [.z 0, .y 0, .z 0, .slice none 0 0]::BlkA cb [.z c.ask, .z c.at_, .z c.with_, .z c.a, .z c.b, .z c.c]::R):=h.sub;obtain ⟨bt,Y,h,hc2,hback⟩:=h.kthr;refine ⟨_,rfl,_,hc2,?_⟩;refine Th.thr_Pick_spec hk.inv.ok h fun w h=>?_
 have h:=hback _ w _ pickC_len h;have hp:=hk.pick core;unfold Ker.do at hK
 refine ⟨_,rfl,?_⟩;refine h.std rfl rfl fun w h=>?_
 (try dsimp only[putAt,List.set_cons_zero,List.set_cons_succ] at h)
 intro k25 hk25
 have fin:∀(d':Dng) (e wv wk:Int) (fs:Sl) (F:List Lne) (k':Ker) (w:World),(∀w',Vc.Own B w0 w' (SlT lneE fs F::KerA bk k'::R)->K e wv wk fs w')->
   Vc.Own B w0 w (BlkA bd (dcells bk d' e wv wk fs)::SlT lneE fs F::KerA bk k'::BlkA ob [.z 0, .y 0, .z 0, .slice none 0 0]::R)->k25 w:=fun d' e wv wk fs F k' w hK h=>by
  apply hk25;refine ⟨_,rfl,?_⟩;refine LdL_add (h.lc_4 rfl ?_);refine h.stLc rfl rfl fun w h=>?_
  (try dsimp only[putAt,List.set_cons_zero,List.set_cons_succ] at h)
  refine h.lc_4 rfl ?_;exact hK w h.sub
 cases hr:(k.t.pickC core).runs? core with
 |none=>
  rw[hr] at hK;refine cbT rfl ?_;refine ⟨_,rfl,?_⟩;refine h.std rfl rfl fun w h=>?_
  (try dsimp only[putAt,List.set_cons_zero,List.set_cons_succ] at h)
  refine fin ⟨core,0,c,(0,0),Sl.zeroCap⟩ 182 0 (-1) ⟨none,0,0⟩ [] (k.setT (k.t.pickC core)) w (fun w' h=>hK _ w' h) ?_;have h:Vc.Own B w0 w (KerA bk (k.setT (k.t.pickC core))::BlkA bd (dcells bk ⟨core,0,c,(0,0),Sl.zeroCap⟩ 182 0 (-1) ⟨none,0,0⟩)::SlT lneE ⟨none,0,0⟩ []::BlkA ob [.z 0, .y 0, .z 0, .slice none 0 0]::BlkA cb [.z c.ask, .z c.at_, .z c.with_, .z c.a, .z c.b, .z c.c]::R):=by rw[hr] at h;exact h
  exact h.sub
 |some cur=>
  rw[hr] at hK;dsimp only at hK;have h:Vc.Own B w0 w (KerA bk (k.setT (k.t.pickC core))::BlkA bd (dcells bk ⟨core,cur,c,(0,0),Sl.zeroCap⟩ 0 0 (-1) ⟨none,0,0⟩)::SlT lneE ⟨none,0,0⟩ []::BlkA ob [.z 0, .y 0, .z 0, .slice none 0 0]::BlkA cb [.z c.ask, .z c.at_, .z c.with_, .z c.a, .z c.b, .z c.c]::R):=by rw[hr] at h;exact h
  refine cbF rfl ?_;intro k39 hk39
  have hbad:c.ask<0∨18≤c.ask->k39 true w:=fun hb=>by
   rw[if_pos hb] at hK;apply hk39;refine cbT rfl ?_;refine ⟨_,rfl,?_⟩;refine h.std rfl rfl fun w h=>?_
   (try dsimp only[putAt,List.set_cons_zero,List.set_cons_succ] at h)
   refine fin ⟨core,cur,c,(0,0),Sl.zeroCap⟩ 180 0 (-1) ⟨none,0,0⟩ [] (k.setT (k.t.pickC core)) w (fun w' h=>hK _ w' h) ?_;have h:Vc.Own B w0 w (KerA bk (k.setT (k.t.pickC core))::BlkA bd (dcells bk ⟨core,cur,c,(0,0),Sl.zeroCap⟩ 180 0 (-1) ⟨none,0,0⟩)::SlT lneE ⟨none,0,0⟩ []::BlkA ob [.z 0, .y 0, .z 0, .slice none 0 0]::BlkA cb [.z c.ask, .z c.at_, .z c.with_, .z c.a, .z c.b, .z c.c]::R):=h;exact h.sub
  have hgood:¬(c.ask<0∨18≤c.ask)->k39 false w:=fun hb=>by
   rw[if_neg hb] at hK;apply hk39;refine cbF rfl ?_;refine ⟨_,h.ldc rfl,?_⟩;refine ceq (fun e=>?_) (fun e=>?_)
   ·rw[if_pos e] at hK
    obtain ⟨bt,Y,h,hc2,hback⟩:=h.kthr;refine ⟨_,rfl,_,hc2,?_⟩;refine Th.thr_Yield_spec hp.inv.ok h fun w h=>?_
    have h:=hback _ w _ yield_len h;refine fin ⟨core,cur,c,(0,0),Sl.zeroCap⟩ 0 0 (-1) ⟨none,0,0⟩ [] ((k.setT (k.t.pickC core)).setT ((k.t.pickC core).yield core)) w (fun w' h=>hK _ w' h) ?_;have h:Vc.Own B w0 w (KerA bk ((k.setT (k.t.pickC core)).setT ((k.t.pickC core).yield core))::BlkA bd (dcells bk ⟨core,cur,c,(0,0),Sl.zeroCap⟩ 0 0 (-1) ⟨none,0,0⟩)::SlT lneE ⟨none,0,0⟩ []::BlkA ob [.z 0, .y 0, .z 0, .slice none 0 0]::BlkA cb [.z c.ask, .z c.at_, .z c.with_, .z c.a, .z c.b, .z c.c]::R):=h;exact h.sub
   ·rw[if_neg e] at hK
    have hk1:=hp.asked (core:=core) (cur:=cur) (c:=c) hN (hp.inv.runIn hr).1 (by omega) (by omega);refine asked_spec (core:=core) (cur:=cur) (c:=c) hp hN (hp.inv.runIn hr).1 (by omega) (by omega) hw0 hw1 (show Vc.Own B w0 w (BlkA bd (dcells bk ⟨core,cur,c,(0,0),Sl.zeroCap⟩ 0 0 (-1) ⟨none,0,0⟩)::SlT lneE ⟨none,0,0⟩ []::KerA bk (k.setT (k.t.pickC core))::BlkA ob [.z 0, .y 0, .z 0, .slice none 0 0]::R) from h.sub) fun d' fs' w h=>?_
    refine ⟨_,rfl,?_⟩;refine h.std rfl rfl fun w h=>?_
    (try dsimp only[putAt,List.set_cons_zero,List.set_cons_succ] at h)
    generalize (k.setT (k.t.pickC core)).asked core cur c=A at h hK;exact fin d' A.1.e A.1.w A.1.wakes fs' A.1.forget A.2 w (fun w' h=>hK _ w' h) h
  refine ⟨_,h.ldc rfl,?_⟩;refine cdec (fun e=>?_) (fun e=>?_)
  ·exact hbad (.inl e)
  ·refine ⟨_,h.ldc rfl,?_⟩
   by_cases e2:c.ask≥18
   ·rw[decide_eq_true e2];exact hbad (.inr e2)
   ·rw[decide_eq_false e2];exact hgood (by omega)
end
end Go.Proofs.YtghikphgplamkaaGreat
end
section
set_option maxRecDepth 8000
namespace Go.Proofs.YtghikphgplamkaaGreat
open Go Go.Vc Go.Proofs
namespace Ker
def inB {α:Type} (l:List α) (n:Int):Bool:=decide (0≤n)&&decide (n<(l.length:Int))
def pagesR (k:Ker) (n:Int):Tb.Pgs:=if inB k.spaces n then (k.sAt n).pg else []
end Ker
theorem inB_iff {α:Type} {l:List α} {n:Int}:Ker.inB l n=true↔0≤n/\n<(l.length:Int):=by unfold Ker.inB;simp
theorem set_get {α:Type} {l:List α} {j:Nat} {x:α} (h:l[j]?=some x):l.set j x=l:=by
 obtain ⟨hi,rfl⟩:=List.getElem?_eq_some_iff.1 h;exact List.set_getElem_self hi
section
variable {B:Nat} {w0 w:World} {R L:List Asn} {bd bk:Nat} {k:Ker} {d:Dng} {ec wv wk:Int} {fs:Sl} {N:Nat}
theorem Tick_spec {core:Int} {K:Bool->Pw} (hk:KOk N k) (h:Vc.Own B w0 w (KerA bk k::R)) (hK:∀w',Vc.Own B w0 w' (KerA bk (k.tick core)::R)->K (k.t.runs? core).isSome w'):C.qbg (some ⟨bk,0,none⟩) core K w:=by
 apply S.qbg0;obtain ⟨bt,Y,h,hc2,hback⟩:=h.kthr;refine ⟨_,rfl,_,hc2,?_⟩;refine Th.thr_Tick_spec hk.inv.ok h fun w h=>?_
 exact hK w (hback _ w _ tick_len h)
theorem Held_spec {K:Sl->Pw} (hk:KOk N k) (h:Vc.Own B w0 w (KerA bk k::R)) (hK:∀s w',Vc.Own B w0 w' (SlT Sl.heldE s (heldL k.H)::KerA bk k::R)->K s w'):C.qbi (some ⟨bk,0,none⟩) K w:=by
 apply S.qbi0;obtain ⟨x,h⟩:=h.ker;refine ⟨_,rfl,_,h.ldc rfl,?_⟩;refine Sl.slots_Nodes_Held_spec (h.pick (A:=Sl.NodesA x.n k.bits k.H)) fun s2 hs2 w hih h=>?_
 have e2:hs2=heldL k.H:=hih.uniq (heldL_ok fun t c hc=>(hk.held t c hc).1);subst e2;have h:Vc.Own B w0 w (KerA bk k::SlT Sl.heldE s2 (heldL k.H)::R):=Vc.Own.mk_ker x h.sub;exact hK s2 w h.sub
theorem Pages_spec {n:Int} {K:Sl->Pw} (h:Vc.Own B w0 w (KerA bk k::R)) (hK:∀s w',Vc.Own B w0 w' (SlT Tb.laidE s (k.pagesR n)::KerA bk k::R)->K s w'):C.qaq (some ⟨bk,0,none⟩) n K w:=by
 apply S.qaq0;unfold Ker.pagesR at hK;have h0:=h;obtain ⟨ss,ps,Y,h,hc2,hp,hback⟩:=h.kspaces;have hlen:=h.lenc ss;refine ⟨_,rfl,ss,hc2,?_⟩
 have bad:Ker.inB k.spaces n=false->K ⟨none,0,0⟩ w:=fun e=>by
  rw[if_neg (by rw[e];decide)] at hK;exact hK _ w (Vc.Own.nilS h0)
 apply S.qaS0;refine cdec (fun e0=>?_) (fun e0=>?_)
 ·by_cases e1:n<(ss.len:Int)
  ·rw[decide_eq_true e1]
   refine cbF rfl ?_;have hin:Ker.inB k.spaces n=true:=inB_iff.2 ⟨e0,by omega⟩;rw[if_pos hin] at hK
   have hx:k.spaces[n.toNat]?=some (k.sAt n):=by
    unfold Ker.sAt;rw[gE (by omega)];rfl
   refine ⟨_,rfl,ss,hc2,?_⟩;have hq:ps[n.toNat]?=some ps[n.toNat]:=gE (by omega);generalize ps[n.toNat]=pp at hq;refine ptE_ix (s:=ss) (i:=n) (j:=n.toNat) h (by omega) hq fun a ha hcc=>⟨_,hcc,?_⟩
   have h:=(h.pick (A:=PtsA Tb.SpcA ps k.spaces)).ptS hq hx;refine Tb.Pages_spec h fun s w h=>?_
   have h:=(h.pick (A:=Tb.SpcA pp (k.sAt n))).perm (List.Perm.cons _ (List.Perm.swap _ _ _));have h:=(h.ptS_back hp hq)
   rw[set_get hx] at h;have h:Vc.Own B w0 w (KerA bk k::_):=hback (SlT Tb.laidE s (k.sAt n).pg::R) w _ h.sub;exact hK s w h.sub
  ·rw[decide_eq_false e1]
   refine cbT rfl ?_
   exact bad (by
    cases e:Ker.inB k.spaces n with
    |false=>rfl
    |true=>have:=(inB_iff.1 e).2;omega)
 ·refine cbT rfl ?_
  exact bad (by
    cases e:Ker.inB k.spaces n with
    |false=>rfl
    |true=>have:=(inB_iff.1 e).1;omega)
end
end Go.Proofs.YtghikphgplamkaaGreat
end
section
set_option maxRecDepth 8000
namespace Go.Proofs.YtghikphgplamkaaGreat.Mc
open Go Go.Vc Go.Proofs
structure Mail where
 frm:Int
 kind:Int
 about:Int
deriving DecidableEq
structure Item where
 kind:Int
 core:Int
 a:Int
 b:Int
structure Cor where
 tl:List Lne
 does:Int
 n:Int
 told:Told
structure Seen where
 kind:Int
 core:Int
 n:Int
 t:Told
 p:Int × Int
 is:Bool
structure Mch where
 k:Ker
 line:List Int
 bx:List (List Mail)
 cs:List Cor
 room:Int
 prog:List Call
def tZ:Told:=⟨0,0,0,[]⟩
def noSeen:Seen:=⟨0,0,0,tZ,(0,0),false⟩
def isAt (space page:Int) (l:Lne):Bool:=decide (l.space=space)&&decide (l.page=page)
def drop (space page:Int) (l:List Lne):List Lne:=l.filter fun x=> !isAt space page x
def look (space page:Int) (l:List Lne):Option (Int × Int):=(l.find? (isAt space page)).map fun x=>(x.frame,x.rights)
def fill (room:Int) (x:Lne) (l:List Lne):List Lne:=
 if (drop x.space x.page l).length=l.length/\room≤(l.length:Int) then (drop x.space x.page l).drop 1++ [x] else drop x.space x.page l++ [x]
def enterL (line:List Int) (c:Int):List Int:=if c∈line then line else line++ [c]
def probeL (line:List Int) (c:Int):Bool:=decide (line.head?=some c)
def leaveL (line:List Int) (c:Int):List Int:=if line.head?=some c then line.tail else line
def allB (frm about:Int) (bx:List (List Mail)):List (List Mail):=
 if (List.range bx.length).any fun i=>decide ((i:Int)≠frm)&&decide (64≤((bx[i]?).getD []).length) then bx
 else bx.mapIdx fun i l=>if (i:Int)=frm then l else l++ [⟨frm,0,about⟩]
def owedB (bx:List (List Mail)) (c:Int):Int:=((bx.map fun l=>(l.filter fun m=>decide (m.frm=c)).length).sum:Nat)
def rightI (x:Item) (cores:Int):Bool:=decide (0≤x.kind/\x.kind<4/\0≤x.core/\x.core<min cores 8/\(0≤x.a/\x.a≤255)/\(0≤x.b/\x.b≤255))
namespace Mch
def corAt (m:Mch) (n:Int):Cor:=(m.cs[n.toNat]?).getD ⟨[],0,0,tZ⟩
def setC (m:Mch) (n:Int) (c:Cor):Mch:={ m with cs:=m.cs.set n.toNat c}
def walk (m:Mch) (page:Int):Option (Int × Int):=((m.k.pagesR 0).find? fun x=>x.1==page).map (·.2)
def loadT (m:Mch) (page:Int) (t:List Lne):(Int × Int)× Bool × List Lne:=match look 0 page t with
 |some p=>(p,true,t)
 |none=>match m.walk page with
  |some p=>(p,true,fill m.room ⟨0,page,p.1,p.2⟩ t)
  |none=>((0,0),false,t)
def load (m:Mch) (n page:Int):Seen × Mch:=
 (⟨3,n,page,tZ,(m.loadT page (m.corAt n).tl).1,(m.loadT page (m.corAt n).tl).2.1⟩,m.setC n { m.corAt n with tl:=(m.loadT page (m.corAt n).tl).2.2})
def user (m:Mch) (x:Item):Option Seen × Mch:=
 if (m.corAt x.core).does≠0 then (none,m)
 else if 0<x.b then (some (m.load x.core x.a).1,(m.load x.core x.a).2)
 else if x.a<(m.prog.length:Int) then (none,m.setC x.core { m.corAt x.core with does:=1,n:=x.a})
 else (none,m)
def box (m:Mch) (n:Int):List Mail:=(m.bx[n.toNat]?).getD []
def heard (m:Mch) (n:Int) (x:Mail):Mch:=
 { m with bx:=m.bx.set n.toNat (m.box n).tail,cs:=m.cs.set n.toNat { m.corAt n with tl:=drop (IntKind.i64.wrap (x.about.tdiv 4096)) (x.about.tmod 4096) (m.corAt n).tl}}
def tells (n:Int):List Lne->Mch->Mch
 | [],m=>m
 |l::r,m=>tells n r { m with cs:=m.cs.set n.toNat { m.corAt n with tl:=drop l.space l.page (m.corAt n).tl},bx:=allB n (IntKind.i64.wrap (IntKind.i64.wrap (l.space*4096)+l.page)) m.bx}
def callOf (m:Mch) (n:Int):Call:=(m.prog[(m.corAt n).n.toNat]?).getD ⟨0,0,0,0,0,0⟩
def did (m:Mch) (n:Int):Seen × Mch:=
 let t:=(m.k.do n (m.callOf n)).1
 let m1:=tells n t.forget ({ m with k:=(m.k.do n (m.callOf n)).2}.setC n { m.corAt n with told:=t})
 (⟨1,n,(m.corAt n).n,t,(0,0),false⟩,m1.setC n { m1.corAt n with does:=3})
def step (m:Mch) (n:Int):Option Seen × Mch:=match m.box n with
 |x::_=>(none,m.heard n x)
 | []=>
  if (m.corAt n).does=1 then (some ⟨0,n,(m.corAt n).n,tZ,(0,0),false⟩,{ m with line:=enterL m.line n}.setC n { m.corAt n with does:=2})
  else if (m.corAt n).does=2 then if probeL m.line n then (some (m.did n).1,(m.did n).2) else (none,m)
  else if (m.corAt n).does=3/\owedB m.bx n=0 then (some ⟨2,n,(m.corAt n).n,(m.corAt n).told,(0,0),false⟩,{ m with line:=leaveL m.line n}.setC n { m.corAt n with does:=0})
  else (none,m)
def item (m:Mch) (x:Item):Option Seen × Mch:=
 if rightI x m.cs.length=false then (none,m)
 else if x.kind=1 then m.user x
 else if x.kind=0 then m.step x.core
 else if m.line≠ [] then (none,m)
 else if x.kind=2 then (some ⟨4,x.core,x.a,⟨(m.k.irq x.a).1,0,(m.k.irq x.a).2.1,[]⟩,(0,0),false⟩,{ m with k:=(m.k.irq x.a).2.2})
 else (some ⟨5,x.core,0,tZ,(0,0),(m.k.t.runs? x.core).isSome⟩,{ m with k:=m.k.tick x.core})
end Mch
end Go.Proofs.YtghikphgplamkaaGreat.Mc
end
section
set_option maxRecDepth 8000
namespace Go.Proofs.YtghikphgplamkaaGreat
open Go Go.Vc Go.Proofs
def lneAt (i:Nat) (x:Int × Tb.Pg):Lne:=⟨(i:Int),x.1,x.2.1,x.2.2⟩
def PgSub (l l':List Tb.Spc) (F:List Lne):Prop:=∀i m,l[i]?=some m->∃m',l'[i]?=some m'/\∀x∈m.pg,x∈m'.pg∨lneAt i x∈F
theorem PgSub.refl (l:List Tb.Spc) (F:List Lne):PgSub l l F:=fun i m h=>⟨m,h,fun x hx=> .inl hx⟩
theorem PgSub.trans {l l1 l2:List Tb.Spc} {F G:List Lne} (h1:PgSub l l1 F) (h2:PgSub l1 l2 G):PgSub l l2 (F++G):=fun i m hm=>by
 obtain ⟨m1,e1,g1⟩:=h1 i m hm;obtain ⟨m2,e2,g2⟩:=h2 i m1 e1;refine ⟨m2,e2,fun x hx=>?_⟩;rcases g1 x hx with h|h
 ·rcases g2 x h with h|h
  ·exact .inl h
  ·exact .inr (List.mem_append_right _ h)
 ·exact .inr (List.mem_append_left _ h)
theorem PgSub.app (l Z:List Tb.Spc) (F:List Lne):PgSub l (l++Z) F:=fun i m h=>⟨m,by rw[List.getElem?_append_left (List.getElem?_eq_some_iff.1 h).1];exact h,fun x hx=> .inl hx⟩
theorem PgSub.set {l:List Tb.Spc} {F:List Lne} {j:Nat} {m m':Tb.Spc} (hm:l[j]?=some m) (h:∀x∈m.pg,x∈m'.pg∨lneAt j x∈F):PgSub l (l.set j m') F:=fun i a ha=>by
 by_cases e:i=j
 ·subst e
  rw[hm] at ha;cases ha;exact ⟨m',by rw[List.getElem?_set_self (List.getElem?_eq_some_iff.1 hm).1],h⟩
 ·exact ⟨a,by rw[List.getElem?_set_ne (Ne.symm e)];exact ha,fun x hx=> .inl hx⟩
theorem lines_mem {i:Nat} {P:Tb.Pgs} {x:Int × Tb.Pg} (hx:x∈P):lneAt i x∈Ker.linesOf i P:=List.mem_map.2 ⟨x,hx,rfl⟩
theorem unframe_sub (f:Int):∀(l:List Tb.Spc) (j i:Nat) (m:Tb.Spc),l[i]?=some m->∃m',(Ker.unframe f j l).2[i]?=some m'/\∀x∈m.pg,x∈m'.pg∨lneAt (j+i) x∈(Ker.unframe f j l).1
 | [],_,_,_,h=>by simp at h
 |a::l,j,0,m,h=>by
  cases h;refine ⟨_,rfl,fun x hx=>?_⟩;cases e:(x.2.1==f) with
  |true=>exact .inr (List.mem_append_left _ (lines_mem (List.mem_filter.2 ⟨hx,e⟩)))
  |false=>exact .inl (List.mem_filter.2 ⟨hx,by rw[e];rfl⟩)
 |a::l,j,i+1,m,h=>by
  obtain ⟨m',e,g⟩:=unframe_sub f l (j+1) i m h;refine ⟨m',e,fun x hx=>?_⟩;rcases g x hx with g|g
  ·exact .inl g
  ·rw[show j+(i+1)=j+1+i from by omega]
   exact .inr (List.mem_append_right _ g)
theorem drop_sub (m:Tb.Spc) (j:Int) {x:Int × Tb.Pg} (hx:x∈m.pg):x∈(m.dropR j).2.2.pg∨x∈(m.dropR j).1:=by
 unfold Tb.Spc.dropR;split
 ·exact .inl hx
 split
 ·exact .inl hx
 ·cases e:(x.1.toNat / 64==j.toNat) with
  |true=>exact .inr (List.mem_filter.2 ⟨hx,e⟩)
  |false=>exact .inl (List.mem_filter.2 ⟨hx,by simpa using e⟩)
theorem untab1_sub (n:Int) (i:Nat):∀(q j:Nat) (m:Tb.Spc) (x:Int × Tb.Pg),x∈m.pg->x∈(Ker.untab1 n i q j m).2.pg∨lneAt i x∈(Ker.untab1 n i q j m).1
 |0,_,_,_,hx=> .inl hx
 |q+1,j,m,x,hx=>by
  unfold Ker.untab1;split
  ·rcases drop_sub m (j:Int) hx with h|h
   ·rcases untab1_sub n i q (j+1) _ x h with h|h
    ·exact .inl h
    ·exact .inr (List.mem_append_right _ h)
   ·exact .inr (List.mem_append_left _ (lines_mem h))
  ·exact untab1_sub n i q (j+1) m x hx
theorem untab_sub (n:Int):∀(l:List Tb.Spc) (j i:Nat) (m:Tb.Spc),l[i]?=some m->∃m',(Ker.untab n j l).2[i]?=some m'/\∀x∈m.pg,x∈m'.pg∨lneAt (j+i) x∈(Ker.untab n j l).1
 | [],_,_,_,h=>by simp at h
 |a::l,j,0,m,h=>by
  cases h;refine ⟨_,rfl,fun x hx=>?_⟩;rcases untab1_sub n j 64 0 a x hx with g|g
  ·exact .inl g
  ·exact .inr (List.mem_append_left _ g)
 |a::l,j,i+1,m,h=>by
  obtain ⟨m',e,g⟩:=untab_sub n l (j+1) i m h;refine ⟨m',e,fun x hx=>?_⟩;rcases g x hx with g|g
  ·exact .inl g
  ·rw[show j+(i+1)=j+1+i from by omega]
   exact .inr (List.mem_append_right _ g)
theorem last_sub (k:Ker) (c:Cap):PgSub k.spaces (k.last c).2.spaces (k.last c).1:=by
 unfold Ker.last;split
 ·exact PgSub.refl _ _
 split
 ·intro i m hm
  have:=unframe_sub c.obj k.spaces 0 i m hm
  rwa [Nat.zero_add] at this
 split
 ·intro i m hm
  have:=untab_sub c.obj k.spaces 0 i m hm
  rwa [Nat.zero_add] at this
 ·exact PgSub.refl _ _
theorem gone_sub (k:Ker) (s:Slot):PgSub k.spaces (k.gone s).2.spaces (k.gone s).1:=by
 unfold Ker.gone;split
 ·exact PgSub.refl _ _
 ·exact last_sub (k.taken s) _
theorem gones_sub:∀(l:List Slot) (k:Ker),PgSub k.spaces (Ker.gones l k).2.spaces (Ker.gones l k).1
 | [],k=>PgSub.refl _ _
 |a::l,k=>(gone_sub k a).trans (gones_sub l (k.gone a).2)
def Pp (k:Ker) (r:Told × Ker):Prop:=r.1.forget.length+pgN r.2.spaces≤pgN k.spaces+1/\PgSub k.spaces r.2.spaces r.1.forget
theorem Pp.same {k:Ker} {r:Told × Ker} (h1:r.1.forget= []) (h2:r.2.spaces=k.spaces):Pp k r:=by
 unfold Pp;rw[h1,h2];exact ⟨by simp,PgSub.refl _ _⟩
theorem Pp.from {k k1:Ker} {r:Told × Ker} (e:k1.spaces=k.spaces) (h:Pp k1 r):Pp k r:=by
 unfold Pp at*
 rw[e] at h;exact h
theorem pgN_set:∀{l:List Tb.Spc} {j:Nat} {m p:Tb.Spc},l[j]?=some m->pgN (l.set j p)+m.pg.length=pgN l+p.pg.length
 | [],_,_,_,h=>by simp at h
 |a::l,0,m,p,h=>by
  cases h;simp only[pgN,List.set_cons_zero,List.map_cons,List.sum_cons];omega
 |a::l,j+1,m,p,h=>by
  have:=pgN_set (l:=l) (j:=j) (m:=m) (p:=p) h;simp only[pgN,List.set_cons_succ,List.map_cons,List.sum_cons] at*
  omega
theorem Pp.setS {k:Ker} {n:Int} {p:Tb.Spc} {t:Told} (hl:t.forget.length+p.pg.length≤(k.sAt n).pg.length+1) (hs:∀x∈(k.sAt n).pg,x∈p.pg∨lneAt n.toNat x∈t.forget)
  (h0:(k.sAt n).pg= []->t.forget= []):Pp k (t,k.setS n p):=by
 unfold Ker.sAt at hl hs h0;cases hm:k.spaces[n.toNat]? with
 |none=>
  rw[hm] at h0;refine Pp.same (h0 rfl) ?_;show k.spaces.set n.toNat p=k.spaces;exact List.set_eq_of_length_le (List.getElem?_eq_none_iff.1 hm)
 |some m=>
  rw[hm] at hl hs;have h1:=pgN_set (p:=p) hm;simp only[Option.getD_some] at hl hs;exact ⟨by show t.forget.length+pgN (k.spaces.set n.toNat p)≤_;omega,PgSub.set hm hs⟩
theorem insS_len (P:Tb.Pgs) (k:Int) (v:Tb.Pg):(Tb.insS P k v).length≤P.length+1:=by
 induction P with
 |nil=>simp[Tb.insS]
 |cons x P ih=>
  simp only[Tb.insS];split
  ·simp
  split
  ·simp
  ·simp only[List.length_cons];omega
theorem insS_old {P:Tb.Pgs} {k:Int} {v:Tb.Pg} (h:Tb.look P k=none) {x:Int × Tb.Pg} (hx:x∈P):x∈Tb.insS P k v:=by
 induction P with
 |nil=>cases hx
 |cons y P ih=>
  have hn:=Tb.look_none.1 h;have hy:y.1≠k:=hn y List.mem_cons_self;simp only[Tb.insS];split
  ·exact List.mem_cons_of_mem _ hx
  rcases List.mem_cons.1 hx with e|hx
  ·subst e;exact List.mem_cons_self
  ·exact List.mem_cons_of_mem _ (ih (Tb.look_none.2 fun z hz=>hn z (List.mem_cons_of_mem _ hz)) hx)
theorem map_pp (m:Tb.Spc) (a:Int) (p:Tb.Pg):(m.mapR a p).2.pg.length≤m.pg.length+1/\∀x∈m.pg,x∈(m.mapR a p).2.pg:=by
 unfold Tb.Spc.mapR;split
 ·exact ⟨by simp,fun x hx=>hx⟩
 split
 ·exact ⟨by simp,fun x hx=>hx⟩
 split
 ·exact ⟨by simp,fun x hx=>hx⟩
 ·rename_i hl
  exact ⟨insS_len _ _ _,fun x hx=>insS_old (by cases e:Tb.look m.pg a with|none=>rfl|some v=>rw[e] at hl;exact absurd rfl hl) hx⟩
theorem table_pg (m:Tb.Spc) (i n:Int):(m.tableR i n).2.pg=m.pg:=by
 unfold Tb.Spc.tableR;split
 ·rfl
 split<;>rfl
theorem made_sp (k:Ker) (core a b:Int) (at_:Nat):∃Z,(k.made core a b at_).2.spaces=k.spaces++Z/\pgN Z=0:=by
 unfold Ker.made
 repeat' split
 all_goals first
  |exact ⟨[Tb.newS],rfl,rfl⟩
  |exact ⟨[],(List.append_nil _).symm,rfl⟩
theorem makes_sp (core a b w:Int) (s:Slot):∀(l:List Nat) (j:Nat) (k:Ker),∃Z,(Ker.makes core a b w s l j k).spaces=k.spaces++Z/\pgN Z=0
 | [],j,k=>⟨[],by simp[Ker.makes],rfl⟩
 |at_::r,j,k=>by
  obtain ⟨Z,h1,h2⟩:=made_sp k core a b at_;obtain ⟨Y,h3,h4⟩:=makes_sp core a b w s r (j+1) ((k.made core a b at_).2.laid s (0,w+(j:Int)) ⟨a,(k.made core a b at_).1,7,0,0,0⟩);refine ⟨Z++Y,?_,by rw[pgN_app,h2,h4]⟩;rw[←List.append_assoc,←h1];exact h3
theorem signal_sp (k:Ker) (n g:Int):(k.signal n g).2.spaces=k.spaces:=by
 unfold Ker.signal;split<;>rfl
theorem lined_sp (k:Ker) (r:(Option (Int × Int)× Int)× Lns):(k.lined r).2.2.spaces=k.spaces:=by
 unfold Ker.lined;split
 ·rfl
 ·exact signal_sp _ _ _
theorem rest_sp (k:Ker) (d:Dng):(k.rest d).spaces=k.spaces:=by
 unfold Ker.rest;split<;>rfl
section
variable {N:Nat} {k:Ker} {d:Dng}
theorem retype_pp:Pp k (Ker.tell (k.retype d).1 (k.retype d).2):=by
 unfold Ker.retype;split
 ·exact Pp.same rfl rfl
 split
 ·exact Pp.same rfl rfl
 split
 ·exact Pp.same rfl rfl
 ·obtain ⟨Z,h1,h2⟩:=makes_sp d.core d.call.a d.call.b d.call.with_ d.s (placeU (k.uAt d.c.obj) d.call.a d.call.b d.call.c).1 0 { k with u:=k.u.set d.c.obj.toNat (placeU (k.uAt d.c.obj) d.call.a d.call.b d.call.c).2.1}
  unfold Pp Ker.tell;dsimp only at h1⊢;rw[h1];exact ⟨by rw[pgN_app,h2];simp,PgSub.app _ _ _⟩
theorem asks_pp (hk:KOk N k) (ho:0≤d.c.obj):Pp k (k.asks d):=by
 unfold Ker.asks;split
 ·exact retype_pp
 ·unfold Ker.mint;repeat' split
  all_goals exact Pp.same rfl rfl
 ·unfold Ker.move;repeat' split
  all_goals exact Pp.same rfl rfl
 ·split
  ·exact Pp.same rfl rfl
  ·exact ⟨by have:=gone_pg k d.s;dsimp only;omega,gone_sub k d.s⟩
 ·unfold Ker.revoke
  have h1:=gones_pg (Tr.underN k.T d.s).reverse k;have h2:=gones_sub (Tr.underN k.T d.s).reverse k;split
  ·exact ⟨by show _+pgN (Ker.gones (Tr.underN k.T d.s).reverse k).2.spaces≤_;dsimp only;omega,h2⟩
  ·exact ⟨by dsimp only;omega,h2⟩
 ·unfold Ker.resume;split
  all_goals exact Pp.same rfl rfl
 ·exact Pp.same rfl rfl
 ·exact Pp.same rfl rfl
 ·unfold Ker.send;repeat' split
  ·exact Pp.same rfl rfl
  ·exact Pp.same rfl (rest_sp _ _)
  ·exact Pp.same rfl rfl
 ·unfold Ker.recv;repeat' split
  ·exact Pp.same rfl rfl
  ·exact Pp.same rfl (rest_sp _ _)
  ·exact Pp.same rfl rfl
 ·exact Pp.same rfl (signal_sp _ _ _)
 ·unfold Ker.wait;split
  ·exact Pp.same rfl rfl
  ·refine Pp.same rfl ?_
   dsimp only;split
   ·rfl
   ·exact rest_sp _ _
 ·unfold Ker.table;split
  ·exact Pp.same rfl rfl
  ·exact Pp.setS (by rw[table_pg];simp) (fun x hx=> .inl (by rw[table_pg];exact hx)) fun _=>rfl
 ·unfold Ker.mapped;split
  ·exact Pp.same rfl rfl
  ·obtain ⟨h1,h2⟩:=map_pp (k.sAt (k.capAt d.call.with_).obj) d.call.a (d.c.obj,andI .i64 d.c.rights d.call.b)
   exact Pp.setS (by simpa using h1) (fun x hx=> .inl (h2 x hx)) fun _=>rfl
 ·unfold Ker.unmap
  unfold Tb.Spc.unmapR;split
  ·exact Pp.setS (by simp) (fun x hx=> .inl hx) fun _=>rfl
  ·cases hl:Tb.look (k.sAt d.c.obj).pg d.call.a with
   |none=>exact Pp.setS (by simp) (fun x hx=> .inl hx) fun _=>rfl
   |some p=>
    refine Pp.setS ?_ (fun x hx=>?_) fun e=>?_
    ·have:=List.length_filter_le (fun x:Int × Tb.Pg=>x.1 !=d.call.a) (k.sAt d.c.obj).pg
     simp only[Tb.delS,if_true,List.length_cons,List.length_nil];omega
    ·by_cases e:x.1=d.call.a
     ·refine .inr ?_
      obtain ⟨x1,x2⟩:=x;dsimp only at e;subst e
      have hu:x2=p:=by
       have:=(hk.sAtOk d.c.obj).srt.look hx;rw[hl] at this;exact (Option.some.inj this).symm
      subst hu;dsimp only;rw[if_pos rfl];unfold lneAt;rw[Int.toNat_of_nonneg ho];exact List.mem_singleton.2 rfl
     ·exact .inl ((Tb.del_mem _).2 ⟨hx,e⟩)
    ·rw[e] at hl;cases hl
 ·unfold Ker.bind;split
  ·exact Pp.same rfl rfl
  ·exact Pp.same rfl rfl
 ·exact Pp.same rfl (lined_sp _ _)
theorem do_pp (hk:KOk N k) (core:Int) (c:Call):Pp k (k.do core c):=by
 unfold Ker.do
 split
 ·exact Pp.same rfl rfl
 split
 ·exact Pp.same rfl rfl
 split
 ·exact Pp.same rfl rfl
 ·unfold Ker.asked
  split
  ·exact Pp.same rfl rfl
  split
  ·exact Pp.same rfl rfl
  ·refine Pp.from (k1:=k.setT (k.t.pickC core)) rfl (asks_pp (hk.pick core) ?_)
   show 0≤(Ker.capAt _ _).obj;unfold Ker.capAt;split
   ·cases hh:(k.setT (k.t.pickC core)).H (0,c.at_) with
    |none=>exact Int.le_refl 0
    |some x=>exact ((hk.held _ _ hh).2).1
   ·exact Int.le_refl 0
theorem irq_sp (k:Ker) (line:Int):(k.irq line).2.2.spaces=k.spaces:=lined_sp _ _
end
end Go.Proofs.YtghikphgplamkaaGreat
end
section
set_option maxRecDepth 8000
namespace Go.Proofs.YtghikphgplamkaaGreat.Mc
open Go Go.Vc Go.Proofs
theorem drop_len (s p:Int) (l:List Lne):(drop s p l).length≤l.length:=List.length_filter_le _ _
theorem fill_len {room:Int} {x:Lne} {l:List Lne} (h1:1≤room) (h:(l.length:Int)≤room):((fill room x l).length:Int)≤room:=by
 have hd:=drop_len x.space x.page l;unfold fill;split
 ·rename_i e
  simp only[List.length_append,List.length_drop,List.length_cons,List.length_nil];omega
 ·rename_i e
  simp only[List.length_append,List.length_cons,List.length_nil];omega
structure MOk (nc N g:Nat) (m:Mch):Prop where
 n1:1≤nc
 n8:nc≤8
 cs:m.cs.length=nc
 bx:m.bx.length=nc
 r1:1≤m.room
 r8:m.room≤8
 tl:∀c∈m.cs,(c.tl.length:Int)≤m.room
 nr:∀c∈m.cs,c.does≠0->0≤c.n/\c.n<(m.prog.length:Int)
 fg:∀c∈m.cs,c.told.forget.length≤g
 b64:∀l∈m.bx,l.length≤64
 lnd:m.line.Nodup
 lr:∀c∈m.line,0≤c/\c<(nc:Int)
 k:KOk N m.k
 pg:pgN m.k.spaces≤g
theorem MOk.mono {nc N g N' g':Nat} {m:Mch} (h:MOk nc N g m) (h1:N≤N') (h2:g≤g'):MOk nc N' g' m:=
 { h with fg:=fun c hc=>Nat.le_trans (h.fg c hc) h2,k:=h.k.mono h1,pg:=Nat.le_trans h.pg h2}
theorem mem_set_or {α:Type} {l:List α} {i:Nat} {x y:α} (h:y∈l.set i x):y∈l∨y=x:=List.mem_or_eq_of_mem_set h
section
variable {nc N g:Nat} {m:Mch}
theorem MOk.cor (h:MOk nc N g m) {n:Int} (h0:0≤n) (h1:n<(nc:Int)):m.cs[n.toNat]?=some (m.corAt n)/\m.corAt n∈m.cs:=by
 have hc:=h.cs;have hl:n.toNat<m.cs.length:=by omega
 have e:m.cs[n.toNat]?=some m.cs[n.toNat]:=gE hl;unfold Mch.corAt;rw[e];exact ⟨rfl,List.getElem_mem hl⟩
theorem MOk.setC (h:MOk nc N g m) {n:Int} {c:Cor} (ht:(c.tl.length:Int)≤m.room) (hn:c.does≠0->0≤c.n/\c.n<(m.prog.length:Int)) (hf:c.told.forget.length≤g):MOk nc N g (m.setC n c):=
 { h with
  cs:=by show (m.cs.set _ _).length=nc;rw[List.length_set];exact h.cs
  tl:=fun x hx=>(mem_set_or hx).elim (fun hx=>h.tl x hx) fun e=>by rw[e];exact ht
  nr:=fun x hx=>(mem_set_or hx).elim (fun hx=>h.nr x hx) fun e=>by rw[e];exact hn
  fg:=fun x hx=>(mem_set_or hx).elim (fun hx=>h.fg x hx) fun e=>by rw[e];exact hf}
theorem allB_len (f a:Int) (bx:List (List Mail)):(allB f a bx).length=bx.length:=by
 unfold allB;split
 ·rfl
 ·simp
theorem allB_64 {f a:Int} {bx:List (List Mail)} (h:∀l∈bx,l.length≤64):∀l∈allB f a bx,l.length≤64:=by
 unfold allB;split
 ·exact h
 ·rename_i hn
  intro l hl;obtain ⟨i,hi,e⟩:=List.mem_mapIdx.1 hl;have hm:=h _ (List.getElem_mem hi);split at e
  ·rw[←e];exact hm
  ·rename_i hne
   have hlt:(bx[i]).length<64:=by
    rw[Bool.not_eq_true,List.any_eq_false] at hn;have:=hn i (List.mem_range.2 hi);rw[gE hi] at this;simp only[Option.getD_some,Bool.and_eq_true,decide_eq_true_eq,not_and] at this;have:=this hne;omega
   rw[←e];simp;omega
theorem MOk.tells (hN:True) (n:Int):∀(l:List Lne) (m:Mch),MOk nc N g m->MOk nc N g (Mch.tells n l m)/\(Mch.tells n l m).prog=m.prog
 | [],m,h=>⟨h,rfl⟩
 |x::l,m,h=>by
  have hb:MOk nc N g { m with cs:=m.cs.set n.toNat { m.corAt n with tl:=drop x.space x.page (m.corAt n).tl},bx:=allB n (IntKind.i64.wrap (IntKind.i64.wrap (x.space*4096)+x.page)) m.bx}:=by
   have hz:∀c∈m.cs.set n.toNat { m.corAt n with tl:=drop x.space x.page (m.corAt n).tl},c∈m.cs∨∃c'∈m.cs,c={ c' with tl:=drop x.space x.page c'.tl}:=fun c hc=>by
    by_cases hl:n.toNat<m.cs.length
    ·rcases mem_set_or hc with hc|hc
     ·exact .inl hc
     ·refine .inr ⟨m.corAt n,?_,hc⟩
      unfold Mch.corAt;rw[gE hl];exact List.getElem_mem hl
    ·rw[List.set_eq_of_length_le (by omega)] at hc
     exact .inl hc
   exact { h with
    cs:=by show (m.cs.set _ _).length=nc;rw[List.length_set];exact h.cs
    bx:=by show (allB _ _ _).length=nc;rw[allB_len];exact h.bx
    tl:=fun c hc=>by
     rcases hz c hc with hm|⟨c',hm,rfl⟩
     ·exact h.tl c hm
     ·have:=h.tl c' hm
      have:=drop_len x.space x.page c'.tl;dsimp only;omega
    nr:=fun c hc=>by
     rcases hz c hc with hm|⟨c',hm,rfl⟩
     ·exact h.nr c hm
     ·exact h.nr c' hm
    fg:=fun c hc=>by
     rcases hz c hc with hm|⟨c',hm,rfl⟩
     ·exact h.fg c hm
     ·exact h.fg c' hm
    b64:=allB_64 h.b64}
  exact MOk.tells hN n l _ hb
theorem corAt_set {n:Int} {c:Cor} (hn:n.toNat<m.cs.length):(m.setC n c).corAt n=c:=by
 unfold Mch.corAt Mch.setC;dsimp only;rw[List.getElem?_set_self hn];rfl
theorem corAt_ne {n i:Int} {c:Cor} (hn:i.toNat≠n.toNat):(m.setC n c).corAt i=m.corAt i:=by
 unfold Mch.corAt Mch.setC;dsimp only;rw[List.getElem?_set_ne (Ne.symm hn)]
def dropAll (l:List Lne) (t:List Lne):List Lne:=l.foldl (fun t x=>drop x.space x.page t) t
def aboutOf (x:Lne):Int:=IntKind.i64.wrap (IntKind.i64.wrap (x.space*4096)+x.page)
def sendAll (n:Int) (l:List Lne) (b:List (List Mail)):List (List Mail):=l.foldl (fun b x=>allB n (aboutOf x) b) b
theorem tells_eq (n:Int):∀(l:List Lne) (m:Mch),n.toNat<m.cs.length->Mch.tells n l m={ m with cs:=m.cs.set n.toNat { m.corAt n with tl:=dropAll l (m.corAt n).tl},bx:=sendAll n l m.bx}
 | [],m,h=>by
  have e:m.cs.set n.toNat { m.corAt n with tl:=dropAll [] (m.corAt n).tl}=m.cs:=by
   show m.cs.set n.toNat (m.corAt n)=m.cs;unfold Mch.corAt;rw[gE h];exact List.set_getElem_self h
  show m=_;rw[e];rfl
 |x::l,m,h=>by
  show Mch.tells n l _=_;rw[tells_eq n l _ (by show n.toNat<(m.cs.set _ _).length;rw[List.length_set];exact h)]
  have e:(Mch.corAt { m with cs:=m.cs.set n.toNat { m.corAt n with tl:=drop x.space x.page (m.corAt n).tl},bx:=allB n (IntKind.i64.wrap (IntKind.i64.wrap (x.space*4096)+x.page)) m.bx} n)={ m.corAt n with tl:=drop x.space x.page (m.corAt n).tl}:=by
   unfold Mch.corAt;dsimp only;rw[List.getElem?_set_self h];rfl
  rw[e];dsimp only;rw[List.set_set];rfl
theorem MOk.did (h:MOk nc N g m) (hN:N+64≤100000) {n:Int} (h0:0≤n) (h1:n<(nc:Int)) (hd:(m.corAt n).does≠0):MOk nc (N+64) (g+1) (m.did n).2/\(m.did n).1.t.forget.length≤g+1:=by
 obtain ⟨hc1,hc2⟩:=h.cor h0 h1;obtain ⟨p1,p2⟩:=do_pp h.k n (m.callOf n);have hpg:=h.pg
 have a1:MOk nc (N+64) (g+1) ({ m with k:=(m.k.do n (m.callOf n)).2}.setC n { m.corAt n with told:=(m.k.do n (m.callOf n)).1}):=by
  refine MOk.setC (m:={ m with k:=(m.k.do n (m.callOf n)).2}) ?_ (h.tl (m.corAt n) hc2) (fun _=>h.nr (m.corAt n) hc2 hd) (by show (m.k.do n (m.callOf n)).1.forget.length≤_;omega);exact { h.mono (Nat.le_add_right N 64) (Nat.le_add_right g 1) with k:=h.k.do hN n (m.callOf n),pg:=by show pgN (m.k.do n (m.callOf n)).2.spaces≤_;omega}
 obtain ⟨a2,hp⟩:=a1.tells trivial n (m.k.do n (m.callOf n)).1.forget _;refine ⟨?_,by show (m.k.do n (m.callOf n)).1.forget.length≤_;omega⟩;obtain ⟨_,hc3⟩:=a2.cor h0 h1;have hlt:n.toNat<m.cs.length:=(List.getElem?_eq_some_iff.1 hc1).1
 have hq:(Mch.tells n (m.k.do n (m.callOf n)).1.forget ({ m with k:=(m.k.do n (m.callOf n)).2}.setC n { m.corAt n with told:=(m.k.do n (m.callOf n)).1})).corAt n={ m.corAt n with tl:=dropAll (m.k.do n (m.callOf n)).1.forget (m.corAt n).tl,told:=(m.k.do n (m.callOf n)).1}:=by
  rw[tells_eq n _ _ (by show n.toNat<(m.cs.set _ _).length;rw[List.length_set];exact hlt)];rw[corAt_set (m:={ m with k:=(m.k.do n (m.callOf n)).2}) hlt];unfold Mch.corAt Mch.setC;dsimp only;rw[List.getElem?_set_self (by rw[List.length_set];exact hlt)];rfl
 have t3:=a2.tl _ hc3;have t4:=a2.fg _ hc3;refine a2.setC t3 (fun _=>?_) t4;rw[hq,hp];exact h.nr (m.corAt n) hc2 hd
theorem MOk.step (h:MOk nc N g m) (hN:N+64≤100000) {n:Int} (h0:0≤n) (h1:n<(nc:Int)):MOk nc (N+64) (g+1) (m.step n).2/\∀s,(m.step n).1=some s->s.t.forget.length≤g+1:=by
 obtain ⟨hc1,hc2⟩:=h.cor h0 h1;have h':=h.mono (Nat.le_add_right N 64) (Nat.le_add_right g 1);unfold Mch.step;split
 ·rename_i x r hb
  refine ⟨?_,fun s e=>by cases e⟩;have hd:=drop_len (IntKind.i64.wrap (x.about.tdiv 4096)) (x.about.tmod 4096) (m.corAt n).tl;have ht:=h.tl (m.corAt n) hc2;have a:=h'.setC (n:=n) (c:={ m.corAt n with tl:=drop (IntKind.i64.wrap (x.about.tdiv 4096)) (x.about.tmod 4096) (m.corAt n).tl}) (by dsimp only;omega) (h.nr (m.corAt n) hc2) (h'.fg (m.corAt n) hc2)
  exact { a with
   bx:=by show (m.bx.set _ _).length=nc;rw[List.length_set];exact h.bx
   b64:=fun l hl=>by
    rcases mem_set_or hl with hl|hl
    ·exact h.b64 l hl
    ·have hm:m.box n∈m.bx:=by
      unfold Mch.box at hb⊢;cases e:m.bx[n.toNat]? with
      |none=>rw[e] at hb;cases hb
      |some l=>exact List.mem_of_getElem? e
     have:=h.b64 _ hm;rw[hl,List.length_tail];omega}
 ·split
  ·refine ⟨?_,fun s e=>by cases e;exact Nat.zero_le _⟩
   rename_i hd;have a:=h'.setC (n:=n) (c:={ m.corAt n with does:=2}) (h.tl (m.corAt n) hc2) (fun _=>h.nr (m.corAt n) hc2 (by rw[hd];decide)) (h'.fg (m.corAt n) hc2)
   exact { a with
    lnd:=by
     show (enterL m.line n).Nodup;unfold enterL;split
     ·exact h.lnd
     ·rename_i hn
      exact List.nodup_append.2 ⟨h.lnd,by simp,fun a ha b hb=>by
       rw[List.mem_singleton] at hb;rintro rfl;exact hn (hb▸ha)⟩
    lr:=fun c hc=>by
     unfold Mch.setC enterL at hc;dsimp only at hc;split at hc
     ·exact h.lr c hc
     ·rcases List.mem_append.1 hc with hc|hc
      ·exact h.lr c hc
      ·rw[List.mem_singleton.1 hc];exact ⟨h0,h1⟩}
  split
  ·split
   ·rename_i hd _
    obtain ⟨a,b⟩:=h.did hN h0 h1 (by rw[hd];decide);exact ⟨a,fun s e=>by cases e;exact b⟩
   ·exact ⟨h',fun s e=>by cases e⟩
  split
  ·refine ⟨?_,fun s e=>by cases e;exact (h'.fg (m.corAt n) hc2)⟩
   have a:=h'.setC (n:=n) (c:={ m.corAt n with does:=0}) (h.tl (m.corAt n) hc2) (fun hh=>absurd rfl hh) (h'.fg (m.corAt n) hc2)
   have hsub:(leaveL m.line n).Sublist m.line:=by
    unfold leaveL;split
    ·exact List.tail_sublist _
    ·exact List.Sublist.refl _
   exact { a with
    lnd:=h.lnd.sublist hsub
    lr:=fun c hc=>h.lr c (hsub.subset hc)}
  ·exact ⟨h',fun s e=>by cases e⟩
theorem loadT_len {page:Int} {t:List Lne} (h1:1≤m.room) (ht:(t.length:Int)≤m.room):((m.loadT page t).2.2.length:Int)≤m.room:=by
 unfold Mch.loadT;split
 ·exact ht
 split
 ·exact fill_len h1 ht
 ·exact ht
theorem MOk.load (h:MOk nc N g m) {n page:Int} (h0:0≤n) (h1:n<(nc:Int)):MOk nc N g (m.load n page).2:=by
 obtain ⟨hc1,hc2⟩:=h.cor h0 h1;exact h.setC (loadT_len h.r1 (h.tl (m.corAt n) hc2)) (h.nr (m.corAt n) hc2) (h.fg (m.corAt n) hc2)
theorem MOk.user (h:MOk nc N g m) {x:Item} (h0:0≤x.core) (h1:x.core<(nc:Int)) (ha:0≤x.a):MOk nc N g (m.user x).2/\∀s,(m.user x).1=some s->s.t.forget.length≤g:=by
 obtain ⟨hc1,hc2⟩:=h.cor h0 h1;unfold Mch.user;split
 ·exact ⟨h,fun s e=>by cases e⟩
 split
 ·exact ⟨h.load h0 h1,fun s e=>by cases e;exact Nat.zero_le _⟩
 split
 ·rename_i hl
  exact ⟨h.setC (h.tl (m.corAt x.core) hc2) (fun _=>⟨ha,hl⟩) (h.fg (m.corAt x.core) hc2),fun s e=>by cases e⟩
 ·exact ⟨h,fun s e=>by cases e⟩
theorem right_iff {x:Item} {c:Int}:rightI x c=true↔0≤x.kind/\x.kind<4/\0≤x.core/\x.core<min c 8/\(0≤x.a/\x.a≤255)/\(0≤x.b/\x.b≤255):=by
 unfold rightI;exact decide_eq_true_iff
theorem MOk.item (h:MOk nc N g m) (hN:N+64≤100000) (x:Item):MOk nc (N+64) (g+1) (m.item x).2/\∀s,(m.item x).1=some s->s.t.forget.length≤g+1:=by
 have h':=h.mono (Nat.le_add_right N 64) (Nat.le_add_right g 1);have hcs:=h.cs;unfold Mch.item;split
 ·exact ⟨h',fun s e=>by cases e⟩
 rename_i hr;have hr:rightI x m.cs.length=true:=by cases e:rightI x m.cs.length with|true=>rfl|false=>exact absurd e hr
 obtain ⟨k0,k1,c0,c1,⟨a0,a1⟩,b0,b1⟩:=right_iff.1 hr;have c2:x.core<(nc:Int):=by omega
 split
 ·obtain ⟨a,b⟩:=h.user c0 c2 a0
  exact ⟨a.mono (Nat.le_add_right N 64) (Nat.le_add_right g 1),fun s e=>Nat.le_trans (b s e) (Nat.le_add_right g 1)⟩
 split
 ·exact h.step hN c0 c2
 split
 ·exact ⟨h',fun s e=>by cases e⟩
 split
 ·refine ⟨{ h' with k:=(h.k.irq x.a).mono (by omega),pg:=by show pgN (m.k.irq x.a).2.2.spaces≤_;rw[irq_sp];exact h'.pg},fun s e=>by cases e;exact Nat.zero_le _⟩
 ·exact ⟨{ h' with k:=(h.k.tick x.core).mono (by omega)},fun s e=>by cases e;exact Nat.zero_le _⟩
end
def mailE:EncT Mail:=⟨3,fun o=>[.z o.frm, .z o.kind, .z o.about],fun _=>rfl,fun x v h=>by
 simp only[List.mem_cons,List.not_mem_nil,or_false] at h;rcases h with rfl|rfl|rfl<;>rfl,by decide⟩
def callE:EncT Call:=⟨6,fun o=>[.z o.ask, .z o.at_, .z o.with_, .z o.a, .z o.b, .z o.c],fun _=>rfl,fun x v h=>by
 simp only[List.mem_cons,List.not_mem_nil,or_false] at h;rcases h with rfl|rfl|rfl|rfl|rfl|rfl<;>rfl,by decide⟩
def optE:EncT (Option Nat):=⟨1,fun o=>[.pointer (o.map fun p=>⟨p,0,none⟩)],fun _=>rfl,fun x v h=>by
 simp only[List.mem_cons,List.not_mem_nil,or_false] at h;subst h;rfl,by decide⟩
structure Cm where
 p:Nat
 does:Int
 n:Int
 e:Int
 w:Int
 wk:Int
 fs:Sl
def corE:EncT Cm:=⟨7,fun o=>[.pointer (some ⟨o.p,0,none⟩), .z o.does, .z o.n, .z o.e, .y o.w, .z o.wk, .slice o.fs.a o.fs.len o.fs.cap],fun _=>rfl,fun x v h=>by
 simp only[List.mem_cons,List.not_mem_nil,or_false] at h;rcases h with rfl|rfl|rfl|rfl|rfl|rfl|rfl<;>rfl,by decide⟩
def TlbA (b:Nat) (room:Int) (l:List Lne):Asn:=ExA fun s:Sl=>StarA [BlkA b [.slice s.a s.len s.cap, .z room],SlT lneE s l]
def CoreA (room:Int) (p:Nat) (x:Cor × Sl):Asn:=StarA [TlbA p room x.1.tl,SlT lneE x.2 x.1.told.forget]
def BoxA (b:Nat) (bx:List (List Mail)):Asn:=ExA fun x:Sl × List Sl=>StarA [BlkA b [.slice x.1.a x.1.len x.1.cap],SlT slE x.1 x.2,RowsA mailE x.2 bx]
def NodeA (p:Nat) (x:Option Nat × Int):Asn:=BlkA p [.z x.2, .pointer (x.1.map fun q=>⟨q,0,none⟩), .bool true]
def DeadA:Option Nat->Asn
 |none=>StarA []
 |some q=>ExA fun c:Int=>BlkA q [.z c, .pointer none, .bool false]
structure Lx where
 a0:Option Nat
 s:Sl
 by_:List (Option Nat)
 ps:List Nat
structure Lok (nc:Nat) (line:List Int) (x:Lx):Prop where
 len:x.by_.length=nc
 ps:x.ps.length=line.length
 nd:line.Nodup
 rng:∀c∈line,0≤c/\c<(nc:Int)
 at_:∀(j:Nat) (c:Int) (p:Nat),line[j]?=some c->x.ps[j]?=some p->x.by_[c.toNat]?=some (some p)
 no:∀i:Nat,i<nc->(i:Int)∉line->x.by_[i]?=some none
def lastO:Option Nat->List Nat->Option Nat
 |a,[]=>a
 |_,p::ps=>lastO (some p) ps
def chain:Option Nat->List Nat->List Int->List (Option Nat × Int)
 |a,p::ps,c::cs=>(a,c)::chain (some p) ps cs
 |_,_,_=>[]
abbrev tailP (x:Lx):Option Nat:=lastO x.a0 x.ps
abbrev lineX (x:Lx) (line:List Int):List (Option Nat × Int):=chain x.a0 x.ps line
def LockA (b nc:Nat) (line:List Int):Asn:=ExA fun x:Lx=>StarA [PureA (Lok nc line x),BlkA b [.z (nc:Int), .pointer ((tailP x).map fun q=>⟨q,0,none⟩), .slice x.s.a x.s.len x.s.cap],SlT optE x.s x.by_,DeadA x.a0,PtsA NodeA x.ps (lineX x line)]
def cm (p:Nat) (x:Cor × Sl):Cm:=⟨p,x.1.does,x.1.n,x.1.told.e,x.1.told.w,x.1.told.wakes,x.2⟩
abbrev cms (ps:List Nat) (xs:List (Cor × Sl)):List Cm:=List.zipWith cm ps xs
structure Mx where
 k:Nat
 l:Nat
 b:Nat
 cs:Sl
 pr:Sl
 ps:List Nat
 xs:List (Cor × Sl)
abbrev mcells (x:Mx):List Value:=[.pointer (some ⟨x.k,0,none⟩), .pointer (some ⟨x.l,0,none⟩), .pointer (some ⟨x.b,0,none⟩), .slice x.cs.a x.cs.len x.cs.cap, .slice x.pr.a x.pr.len x.pr.cap]
def MchA (b:Nat) (m:Mch):Asn:=ExA fun x:Mx=>StarA [PureA (x.xs.map (·.1)=m.cs),BlkA b (mcells x),KerA x.k m.k,LockA x.l m.cs.length m.line,BoxA x.b m.bx,SlT corE x.cs (cms x.ps x.xs),PtsA (CoreA m.room) x.ps x.xs,SlT callE x.pr m.prog]
section
variable {B:Nat} {w0 w:World} {R L:List Asn} {b:Nat}
theorem tlbO {room:Int} {l:List Lne} (h:Vc.Own B w0 w (TlbA b room l::R)):∃s:Sl,Vc.Own B w0 w (BlkA b [.slice s.a s.len s.cap, .z room]::SlT lneE s l::R):=by
 obtain ⟨s,h⟩:=h.ex;exact ⟨s,h.star⟩
theorem mk_tlb {s:Sl} {room:Int} {l:List Lne} (h:Vc.Own B w0 w (BlkA b [.slice s.a s.len s.cap, .z room]::SlT lneE s l::R)):Vc.Own B w0 w (TlbA b room l::R):=Vc.Own.mk_ex s (Vc.Own.mk_star h)
theorem boxO {bx:List (List Mail)} (h:Vc.Own B w0 w (BoxA b bx::R)):∃(s:Sl) (ss:List Sl),Vc.Own B w0 w (BlkA b [.slice s.a s.len s.cap]::SlT slE s ss::RowsA mailE ss bx::R):=by
 obtain ⟨x,h⟩:=h.ex;exact ⟨x.1,x.2,h.star⟩
theorem mk_box {s:Sl} {ss:List Sl} {bx:List (List Mail)} (h:Vc.Own B w0 w (BlkA b [.slice s.a s.len s.cap]::SlT slE s ss::RowsA mailE ss bx::R)):Vc.Own B w0 w (BoxA b bx::R):=Vc.Own.mk_ex (s,ss) (Vc.Own.mk_star h)
theorem lockO {nc:Nat} {line:List Int} (h:Vc.Own B w0 w (LockA b nc line::R)):∃x:Lx,Lok nc line x/\Vc.Own B w0 w (BlkA b [.z (nc:Int), .pointer ((tailP x).map fun q=>⟨q,0,none⟩), .slice x.s.a x.s.len x.s.cap]::SlT optE x.s x.by_::DeadA x.a0::PtsA NodeA x.ps (lineX x line)::R):=by
 obtain ⟨x,h⟩:=h.ex;obtain ⟨h1,h⟩:=Vc.Own.pure h.star;exact ⟨x,h1,h⟩
theorem mk_lock {nc:Nat} {line:List Int} (x:Lx) (hx:Lok nc line x) (h:Vc.Own B w0 w (BlkA b [.z (nc:Int), .pointer ((tailP x).map fun q=>⟨q,0,none⟩), .slice x.s.a x.s.len x.s.cap]::SlT optE x.s x.by_::DeadA x.a0::PtsA NodeA x.ps (lineX x line)::R)):Vc.Own B w0 w (LockA b nc line::R):=
 Vc.Own.mk_ex x (Vc.Own.mk_star (Vc.Own.mk_pure hx h))
theorem mchO {m:Mch} (h:Vc.Own B w0 w (MchA b m::R)):∃x:Mx,x.xs.map (·.1)=m.cs/\Vc.Own B w0 w (BlkA b (mcells x)::KerA x.k m.k::LockA x.l m.cs.length m.line::BoxA x.b m.bx::SlT corE x.cs (cms x.ps x.xs)::PtsA (CoreA m.room) x.ps x.xs::SlT callE x.pr m.prog::R):=by
 obtain ⟨x,h⟩:=h.ex;obtain ⟨h1,h⟩:=Vc.Own.pure h.star;exact ⟨x,h1,h⟩
theorem mk_mch (x:Mx) {m:Mch} (hx:x.xs.map (·.1)=m.cs) (h:Vc.Own B w0 w (BlkA b (mcells x)::KerA x.k m.k::LockA x.l m.cs.length m.line::BoxA x.b m.bx::SlT corE x.cs (cms x.ps x.xs)::PtsA (CoreA m.room) x.ps x.xs::SlT callE x.pr m.prog::R)):Vc.Own B w0 w (MchA b m::R):=
 Vc.Own.mk_ex x (Vc.Own.mk_star (Vc.Own.mk_pure hx h))
end
theorem ldLne {w:World} {a:Addr} {x:Lne} {f:Int->Int->Int->Int->Prop} (g:∀c v,(lneE.enc x)[c]?=some v->w.cell? (a.add c)=some v) (hf:f x.space x.page x.frame x.rights):
  LdL w a 0 [.o, .o, .o, .o] f:=⟨_,g 0 _ rfl,_,g 1 _ rfl,_,g 2 _ rfl,_,g 3 _ rfl,hf⟩
theorem infoLne:Tryz.prog.info? 71=some Tryz.t71:=by kernel_rfl
theorem bytesLne:Tryz.t71.bytes=32:=by kernel_rfl
def zLne:Lne:=⟨0,0,0,0⟩
theorem zeroLne (w:World):(zeroValue 71).run Tryz.prog w= .ok (.agg ⟨lneE.enc zLne⟩) w:=Tryz.zeroValue71 w
theorem filter_take {α:Type} (xs:List α) (q:α->Bool) (j:Nat) (x:α) (hx:xs[j]?=some x):(xs.take (j+1)).filter q=(xs.take j).filter q++if q x then [x] else []:=by
 rw[List.take_add_one,hx,List.filter_append];congr 1;simp only[Option.toList_some,List.filter_cons,List.filter_nil]
instance BlkIn.app {b:Nat} {N L:List Asn} {l:List Value} [I:BlkIn b L l]:BlkIn b (N++L) l:=⟨N.length+I.i,by rw[List.getElem?_append_right (by omega),Nat.add_sub_cancel_left];exact I.at_⟩
section
variable {B:Nat} {w0 w:World} {R L:List Asn} {s:Sl} {xs:List Lne}
theorem IndexFunc_lne {p:Lne->Bool} {f:Value} {K:Int->Pw} [I:SlIn s L Lne lneE xs] (h:Vc.Own B w0 w L) (hbig:xs.length≤1000000000)
  (hf:∀(y:Lne) (w:World) (Q:Bool->Pw),Vc.Own B w0 w L->(∀w',Vc.Own B w0 w' L->Q (p y) w')->CallV Tryz.prog f [.agg ⟨lneE.enc y⟩] w fun en w'=>∃r:Bool,en= .returned (.bool r)/\Q r w')
  (hK:∀w',Vc.Own B w0 w' L->K (idxI p xs) w'):C.qv s f K w:=by
 apply S.qv0;have hlen:=h.lenc s;intro l hl
 have loop:∀(rest:List Lne) (j:Nat) (w:World),xs.drop j=rest->j≤xs.length->(∀i,i<j->∀y,xs[i]?=some y->p y=false)->Vc.Own B w0 w L->l (j:Int) w:=by
  intro rest
  induction rest with
  |nil=>
   intro j w hj hjl hno h;have:xs.length≤j:=by have:=congrArg List.length hj;simp at this;omega
   apply hl;refine cdecF (by omega) ?_
   have hn:xs.findIdx? p=none:=by
    rw[List.findIdx?_eq_none_iff];intro y hy;obtain ⟨i,hi⟩:=List.mem_iff_getElem?.1 hy;exact hno i (by have:=(List.getElem?_eq_some_iff.1 hi).1;omega) y hi
   have e:idxI p xs= -1:=by unfold idxI;rw[hn]
   rw[←e];exact hK _ h
  |cons y rest ih=>
   intro j w hj hjl hno h;have hjl2:j<xs.length:=by have:=congrArg List.length hj;simp at this;omega
   have hx:xs[j]?=some y:=by
    have:=congrArg (fun l=>l[0]?) hj;simpa using this
   apply hl;refine cdecT (by omega) ?_;refine h.ixc rfl hx fun a ha h0 hc=>?_
   refine ldLne hc ?_;refine hf y w _ h fun w h=>?_
   cases hp:p y with
   |true=>
    refine cbT rfl ?_
    have hn:xs.findIdx? p=some j:=by
     rw[List.findIdx?_eq_some_iff_getElem];refine ⟨hjl2,?_,fun i hi=>?_⟩
     ·rw[gE hjl2] at hx;cases hx;exact hp
     ·have:=hno i hi xs[i] (gE (by omega))
      simp[this]
    have e:idxI p xs=(j:Int):=by unfold idxI;rw[hn]
    rw[←e];exact hK _ h
   |false=>
    refine cbF rfl ?_;rw[wr (by omega) (by omega)];refine ih (j+1) w (by rw[←List.drop_drop,hj];rfl) (by omega) (fun i hi z hz=>?_) h;by_cases e:i=j
    ·subst e;rw[hx] at hz;cases hz;exact hp
    ·exact hno i (by omega) z hz
 exact loop xs 0 w rfl (by omega) (fun i hi=>by omega) h
theorem Delete_lne {i j:Nat} {K:Sl->Pw} (h:Vc.Own B w0 w (SlT lneE s xs::R)) (hij:i<j) (hj:j≤xs.length) (hbig:xs.length≤1000000000)
  (hK:∀s' w',Vc.Own B w0 w' (SlT lneE s' (xs.take i++xs.drop j)::R)->K s' w'):C.qD s (i:Int) (j:Int) K w:=by
 apply S.qD0;have hlen:=h.lenc s;have hcap:=h.slRaw.le_cap;refine ⟨by omega,by omega,by omega,by omega,by omega,by omega,?_⟩;refine ceqF (by omega) ?_;refine h.dr fun w h=>?_
 refine ⟨by omega,by omega,by omega,by omega,a2 ?_⟩;simp only[Int.toNat_natCast];refine h.appDel (E:=lneE) Tryz.underlying34 infoLne (by kernel_rfl) (by omega) hj (by omega) fun w h=>?_
 dsimp only;refine ⟨by omega,by omega,by omega,by omega,?_⟩;refine Vc.Own.clear (E:=lneE) (z0:=zLne) (n:=i+(xs.length-j)) Tryz.underlying34 zeroLne rfl h 0 rfl (by simp;omega) fun w h=>?_
 have hp:=h.pre 0 rfl (n:=i+(xs.length-j)) (by simp;omega);refine hK _ w ?_;rw[del_list hij hj] at hp;exact hp
theorem DeleteFunc_lne {fv:Value} {p:Lne->Bool} {K:Sl->Pw} (h:Vc.Own B w0 w (SlT lneE s xs::L)) (hbig:xs.length≤1000000000)
  (hf:∀(N:List Asn) (y:Lne) (w:World) (Q:Bool->Pw),Vc.Own B w0 w (N++L)->(∀w',Vc.Own B w0 w' (N++L)->Q (p y) w')->CallV Tryz.prog fv [.agg ⟨lneE.enc y⟩] w fun en w'=>∃r:Bool,en= .returned (.bool r)/\Q r w')
  (hK:∀s' w',Vc.Own B w0 w' (SlT lneE s' (xs.filter fun x=> !p x)::L)->K s' w'):C.qs s fv K w:=by
 apply S.qs0;have hlen:=h.lenc s;have hspot:=(h.slO 0 rfl).spot;refine IndexFunc_lne h hbig (fun y w Q h hQ=>hf [SlT lneE s xs] y w Q h hQ) fun w1 h=>?_
 unfold idxI;cases hfi:xs.findIdx? p with
 |none=>
  refine cbT rfl ?_
  have:xs.filter (fun x=> !p x)=xs:=by
   rw[List.filter_eq_self];intro x hx;rw[List.findIdx?_eq_none_iff] at hfi;simp[hfi x hx]
  have h2:=hK s w1;rw[this] at h2;exact h2 h
 |some i0=>
  obtain ⟨hi0,hp0,hbefore⟩:=List.findIdx?_eq_some_iff_getElem.1 hfi;refine cbF (by simp) ?_;intro l hl;have hcap:=(h.slO 0 rfl).le_cap
  have key:∀(m j q:Nat) (ys:List Lne) (w:World),j+m=xs.length->ys.length=xs.length->ys.take q=(xs.take j).filter (fun x=> !p x)->q<j->q≤ys.length->ys.drop j=xs.drop j->
    Vc.Own B w0 w (SlT lneE s ys::L)->l (q:Int) (j:Int) w:=by
   intro m
   induction m with
   |zero=>
    intro j q ys w hj hys hq hqj hqy hd h;apply hl;refine cdecF (by omega) ?_;refine ⟨by omega,by omega,?_⟩;rw[Int.toNat_natCast];refine Vc.Own.clear (E:=lneE) (z0:=zLne) (n:=q) Tryz.underlying34 zeroLne rfl h 0 rfl (by omega) fun w2 h=>?_
    refine ⟨by omega,by omega,?_⟩;have h3:=h.pre 0 rfl (n:=q) (by simp;omega)
    have e1:(ys.take q++List.replicate (ys.length-q) zLne).take q=xs.filter (fun x=> !p x):=by
     rw[List.take_append_of_le_length (by simp;omega),List.take_take,Nat.min_self,hq,List.take_of_length_le (by omega)]
    rw[e1] at h3;rw[slA0 _ _ _ hspot];exact hK _ _ h3
   |succ m ih=>
    intro j q ys w hj hys hq hqj hqy hd h;have hjlt:j<xs.length:=by omega
    have hyj:ys[j]?=some xs[j]:=by
     have:=congrArg (fun l=>l[0]?) hd;simp only[List.getElem?_drop,Nat.add_zero] at this;rw[this,gE hjlt]
    apply hl;refine cdecT (by omega) ?_;refine h.ixc (s:=s) rfl hyj fun a ha h0 hc=>?_
    refine ldLne hc ?_;have hft:=filter_take xs (fun x=> !p x) j _ (gE hjlt)
    have hd1:∀zs:List Lne,zs.drop j=xs.drop j->zs.drop (j+1)=xs.drop (j+1):=fun zs hz=>by
     rw[←List.drop_drop (i:=1) (j:=j),←List.drop_drop (i:=1) (j:=j),hz]
    generalize xs[j]=x at hyj hft hc;refine h.al fun w' h=>?_
    generalize w.heap.size=d at h⊢;refine h.stLc rfl rfl fun w h=>?_
    (try dsimp only[putAt,List.set_cons_zero,List.set_cons_succ] at h)
    refine h.lc_4 rfl ?_;refine hf [BlkA d (lneE.enc x),SlT lneE s ys] x w _ h fun w h=>?_
    have h:Vc.Own B w0 w (BlkA d (lneE.enc x)::SlT lneE s ys::L):=h;rw[show IntKind.i64.wrap ((j:Int)+1)=((j+1:Nat):Int) from by rw[wr (by omega) (by omega)];omega];cases hp:p x with
    |true=>
     refine cbF rfl ?_;refine ih (j+1) q ys w (by omega) hys ?_ (by omega) hqy (hd1 ys hd) h.drop;rw[hq,hft,hp];simp
    |false=>
     refine cbT rfl ?_;refine h.lc_4 rfl ?_;refine ⟨a,ha,by omega,by omega,?_⟩;refine h.up1.stELc (s:=s) x rfl (by omega) ha fun w h=>?_
     rw[show IntKind.i64.wrap ((q:Int)+1)=((q+1:Nat):Int) from by rw[wr (by omega) (by omega)];omega];refine ih (j+1) (q+1) (ys.set q x) w (by omega) (by simpa using hys) ?_ (by omega) (by simp;omega) ?_ h.rm1
     ·rw[hft,hp,List.take_add_one,List.getElem?_set_self (by omega),List.take_set_of_le (Nat.le_refl _),hq];simp
     ·rw[List.drop_set_of_lt (by omega)];exact hd1 ys hd
  have h0:xs.take i0=(xs.take (i0+1)).filter (fun x=> !p x):=by
   rw[filter_take xs _ i0 _ (gE hi0),hp0];simp only[Bool.not_true,if_false,List.append_nil,Bool.false_eq_true]
   symm
   rw[List.filter_eq_self];intro x hx;obtain ⟨q,hq⟩:=List.mem_iff_getElem?.1 hx;rw[List.getElem?_take] at hq;split at hq
   ·rename_i hlt
    have:=hbefore q hlt;rw[gE (by omega)] at hq;cases hq;simpa using this
   ·cases hq
  rw[show IntKind.i64.wrap (((i0:Nat):Int)+1)=((i0+1:Nat):Int) from by rw[wr (by omega) (by omega)];omega];exact key (xs.length-(i0+1)) (i0+1) i0 xs w1 (by omega) rfl h0 (by omega) (by omega) rfl h
theorem Clone_lne {s:Sl} {xs:List Lne} {K:Sl->Pw} [I:SlIn s L Lne lneE xs] (h:Vc.Own B w0 w L) (hbig:xs.length≤1000000) (hK:∀s' w',Vc.Own B w0 w' (SlT lneE s' xs::L)->K s' w'):C.qz s K w:=by
 apply S.qz0;exact clone_g (s:=s) (E:=lneE) (xs:=xs) (zv:= .agg ⟨lneE.enc zLne⟩) Tryz.underlying34 infoLne (by kernel_rfl) (by kernel_rfl) rfl (by decide) h (by rw[bytesLne];omega) hK
abbrev ofV (c:Nat):Value:= .func (.func 147) #[] #[.pointer (some ⟨c,0,none⟩)]
abbrev atV (c:Nat):Value:= .func (.func 148) #[] #[.pointer (some ⟨c,0,none⟩)]
theorem of_spec {n:Int} {K:Value->Pw} (h:Vc.Own B w0 w R) (hK:∀c w',Vc.Own B w0 w' (BlkA c [.z n]::R)->K (ofV c) w'):C.qdK n K w:=by
 apply S.qdK0;refine h.al fun w1 h=>?_
 exact hK _ _ h
theorem at_spec {n:Int} {K:Value->Pw} (h:Vc.Own B w0 w R) (hK:∀c w',Vc.Own B w0 w' (BlkA c [.z n]::R)->K (atV c) w'):C.qdL n K w:=by
 apply S.qdL0;refine h.al fun w1 h=>?_
 exact hK _ _ h
theorem ofT {c:Nat} {n:Int} {l:Lne} {Q:Bool->Pw} [I:BlkIn c L [.z n]] (h:Vc.Own B w0 w L) (hQ:∀w',Vc.Own B w0 w' L->Q (l.space==n) w'):
  CallV Tryz.prog (ofV c) [.agg #[.z l.space, .z l.page, .z l.frame, .z l.rights]] w fun en w'=>∃r:Bool,en= .returned (.bool r)/\Q r w':=by
 refine callV_mk ?_;show C.qdM l.space l.page l.frame l.rights ⟨c,0,none⟩ Q w;apply S.qdM0;refine h.al fun w1 h=>?_
 generalize w.heap.size=d at h⊢;exact ⟨_,h.ldc rfl,_,h.ldc rfl,hQ _ h.drop⟩
theorem atT {c:Nat} {n:Int} {l:Lne} {Q:Bool->Pw} [I:BlkIn c L [.z n]] (h:Vc.Own B w0 w L) (hQ:∀w',Vc.Own B w0 w' L->Q (l.page==n) w'):
  CallV Tryz.prog (atV c) [.agg #[.z l.space, .z l.page, .z l.frame, .z l.rights]] w fun en w'=>∃r:Bool,en= .returned (.bool r)/\Q r w':=by
 refine callV_mk ?_;show C.qdN l.space l.page l.frame l.rights ⟨c,0,none⟩ Q w;apply S.qdN0;refine h.al fun w1 h=>?_
 generalize w.heap.size=d at h⊢;exact ⟨_,h.ldd rfl,_,h.ldc rfl,hQ _ h.drop⟩
theorem all_spec {bs c1 c2:Nat} {n1 n2:Int} {l:Lne} {K:Bool->Pw} [I:BlkIn bs L [ofV c1,atV c2]] [I1:BlkIn c1 L [.z n1]] [I2:BlkIn c2 L [.z n2]] (h:Vc.Own B w0 w L)
  (hK:∀w',Vc.Own B w0 w' L->K (isAt n1 n2 l) w'):C.qdJ l.space l.page l.frame l.rights ⟨some ⟨bs,0,none⟩,2,2⟩ K w:=by
 apply S.qdJ0;refine h.al fun w1 h=>?_
 generalize w.heap.size=d at h⊢;apply S.qb0;apply S.qe0
 have one:∀(f:Value) (b:Bool) (w:World) (Q:Bool->Pw),Vc.Own B w0 w (BlkA d [.z l.space, .z l.page, .z l.frame, .z l.rights]::L)->
   (∀(w:World) (Q:Bool->Pw),Vc.Own B w0 w (BlkA d [.z l.space, .z l.page, .z l.frame, .z l.rights]::L)->(∀w',Vc.Own B w0 w' (BlkA d [.z l.space, .z l.page, .z l.frame, .z l.rights]::L)->Q b w')->
    CallV Tryz.prog f [.agg #[.z l.space, .z l.page, .z l.frame, .z l.rights]] w fun en w'=>∃r:Bool,en= .returned (.bool r)/\Q r w')->
   (∀w',Vc.Own B w0 w' (BlkA d [.z l.space, .z l.page, .z l.frame, .z l.rights]::L)->Q (!b) w')->
   CallV Tryz.prog (.func (.func 146) #[] #[.pointer (some ⟨d,0,none⟩)]) [f] w fun en w'=>∃r:Bool,en= .returned (.bool r)/\Q r w':=fun f b w Q h hf hQ=>by
  refine callV_mk ?_;show C.qdH f ⟨d,0,none⟩ Q w;apply S.qdH0;refine h.lc_4 rfl ?_;exact hf w _ h hQ
 intro k hk;apply hk;refine cdecT (show (0:Int)<2 by decide) ?_;refine ⟨_,rfl,by decide,(show (0:Int)<2 by decide),ofV c1,?_,?_⟩
 ·have:=Vc.Own.ldd (n:=0) h (I:=BlkIn.tail) (b:=bs) (o:=0) (v:=ofV c1) rfl
  exact this
 refine one _ _ w1 _ h (fun w Q h hQ=>ofT (n:=n1) h hQ) fun w h=>?_
 cases e1:(l.space==n1) with
 |false=>
  refine cbT rfl ?_
  have e3:isAt n1 n2 l=false:=by
   unfold isAt;rw[show decide (l.space=n1)=(l.space==n1) from rfl,e1];rfl
  rw[e3] at hK;exact hK w h.drop
 |true=>
  refine cbF rfl ?_;rw[show IntKind.i64.wrap ((0:Int)+1)=1 from by decide];apply hk;refine cdecT (show (1:Int)<2 by decide) ?_;refine ⟨_,rfl,by decide,(show (1:Int)<2 by decide),atV c2,?_,?_⟩
  ·have:=Vc.Own.ldd (n:=1) h (I:=BlkIn.tail) (b:=bs) (o:=0) (v:=atV c2) rfl
   exact this
  refine one _ _ w _ h (fun w Q h hQ=>atT (n:=n2) h hQ) fun w h=>?_
  have e3:isAt n1 n2 l=(l.page==n2):=by
   unfold isAt;rw[show decide (l.space=n1)=(l.space==n1) from rfl,e1];rfl
  rw[e3] at hK;cases e2:(l.page==n2) with
  |false=>
   rw[e2] at hK;refine cbT rfl ?_;exact hK w h.drop
  |true=>
   rw[e2] at hK;refine cbF rfl ?_;rw[show IntKind.i64.wrap ((1:Int)+1)=2 from by decide];apply hk;refine cdecF (show ¬(2:Int)<2 by decide) ?_;exact hK w h.drop
theorem tdrop_spec {b bs c1 c2:Nat} {room n1 n2:Int} {l:List Lne} {K:Int->Pw} (hbig:l.length≤1000000) (h:Vc.Own B w0 w (TlbA b room l::R))
  [I:BlkIn bs R [ofV c1,atV c2]] [I1:BlkIn c1 R [.z n1]] [I2:BlkIn c2 R [.z n2]]
  (hK:∀w',Vc.Own B w0 w' (TlbA b room (drop n1 n2 l)::R)->K ((l.length:Int)-((drop n1 n2 l).length:Int)) w'):C.qcF (some ⟨b,0,none⟩) ⟨some ⟨bs,0,none⟩,2,2⟩ K w:=by
 apply S.qcF0;refine h.al fun w1 h=>?_
 generalize w.heap.size=d at h⊢;obtain ⟨s,h⟩:=tlbO h.up1;have hlen:=h.lenc s;refine ⟨_,rfl,s,h.ldc rfl,_,rfl,s,h.ldc rfl,?_⟩;refine DeleteFunc_lne (s:=s) (xs:=l) (p:=fun x=>isAt n1 n2 x) h.up1 (by omega) (fun N y w Q h hQ=>?_) fun s' w h=>?_
 ·refine callV_mk ?_
  show C.qcS y.space y.page y.frame y.rights ⟨d,0,none⟩ Q w;apply S.qcS0;refine h.al fun w2 h=>?_
  generalize w.heap.size=e at h⊢;refine h.lc_4 rfl ?_;refine ⟨⟨some ⟨bs,0,none⟩,2,2⟩,h.ldc rfl,?_⟩;exact all_spec (bs:=bs) (c1:=c1) (c2:=c2) (n1:=n1) (n2:=n2) h fun w h=>hQ w h.drop
 ·have hlen2:=h.lenc s'
  have hfl:=List.length_filter_le (fun x=> !isAt n1 n2 x) l;refine ⟨_,rfl,?_⟩;refine h.stc rfl rfl fun w h=>?_
  (try dsimp only[putAt,List.set_cons_zero,List.set_cons_succ] at h)
  refine ⟨_,rfl,s',h.ldc rfl,?_⟩;rw[hlen,hlen2,wr (by omega) (by omega)];have h:Vc.Own B w0 w (SlT lneE s' (drop n1 n2 l)::BlkA b [.slice s'.a s'.len s'.cap, .z room]::BlkA d [.slice (some ⟨bs,0,none⟩) 2 2]::R):=h;have h:Vc.Own B w0 w (BlkA b [.slice s'.a s'.len s'.cap, .z room]::SlT lneE s' (drop n1 n2 l)::R):=h.sub;exact hK w (mk_tlb h)
theorem tlb_New_spec {room:Int} {K:Option Addr->Int->Pw} (h1:1≤room) (h2:room≤256) (h:Vc.Own B w0 w R) (hK:∀b w',Vc.Own B w0 w' (TlbA b room []::R)->K (some ⟨b,0,none⟩) 0 w'):C.qdE room K w:=by
 apply S.qdE0;intro k hk;refine cdecF (by omega) ?_;apply hk;refine cdecF (by omega) ?_;refine h.al fun w1 h=>?_
 exact hK _ w1 (mk_tlb (s:=⟨none,0,0⟩) ((Vc.Own.nilS h).perm (List.Perm.swap _ _ _)))
theorem tlb_Drop_spec {b:Nat} {room n1 n2:Int} {l:List Lne} {K:Bool->Pw} (hbig:l.length≤1000000) (h:Vc.Own B w0 w (TlbA b room l::R)) (hK:∀v w',Vc.Own B w0 w' (TlbA b room (drop n1 n2 l)::R)->K v w'):C.qcC (some ⟨b,0,none⟩) n1 n2 K w:=by
 apply S.qcC0;refine of_spec h fun c1 w h=>?_
 refine at_spec h fun c2 w h=>⟨rfl,rfl,?_⟩
 refine h.al fun w2 h=>?_
 generalize w.heap.size=bs at h⊢;refine tdrop_spec (bs:=bs) (c1:=c1) (c2:=c2) (n1:=n1) (n2:=n2) (l:=l) (room:=room) hbig (h.pick (A:=TlbA b room l)) fun w h=>?_
 exact hK _ w h.sub
theorem tlb_Lines_spec {b:Nat} {room:Int} {l:List Lne} {K:Sl->Pw} (hbig:l.length≤1000000) (h:Vc.Own B w0 w (TlbA b room l::R)) (hK:∀s w',Vc.Own B w0 w' (SlT lneE s l::TlbA b room l::R)->K s w'):C.qcJ (some ⟨b,0,none⟩) K w:=by
 apply S.qcJ0;obtain ⟨s,h⟩:=tlbO h;refine ⟨_,rfl,s,h.ldc rfl,?_⟩;refine Clone_lne (s:=s) h hbig fun s' w h=>?_
 have h:Vc.Own B w0 w (BlkA b [.slice s.a s.len s.cap, .z room]::SlT lneE s l::SlT lneE s' l::R):=h.sub;exact hK s' w (Vc.Own.up1 (mk_tlb h))
theorem tlb_Look_spec {b:Nat} {room n1 n2:Int} {l:List Lne} {K:Int->Int->Bool->Pw} (hbig:l.length≤1000000) (h:Vc.Own B w0 w (TlbA b room l::R))
  (hK:∀w',Vc.Own B w0 w' (TlbA b room l::R)->K ((look n1 n2 l).getD (0,0)).1 ((look n1 n2 l).getD (0,0)).2 (look n1 n2 l).isSome w'):C.qda (some ⟨b,0,none⟩) n1 n2 K w:=by
 apply S.qda0;refine h.al fun w1 h=>?_
 generalize w.heap.size=d at h⊢;obtain ⟨s,h⟩:=tlbO h.up1;have hlen:=h.lenc s;refine ⟨_,rfl,s,h.ldc rfl,?_⟩;intro lp hlp
 have loop:∀(rest:List Lne) (j:Nat) (w:World),l.drop j=rest->j≤l.length->(∀i,i<j->∀y,l[i]?=some y->isAt n1 n2 y=false)->Vc.Own B w0 w (BlkA b [.slice s.a s.len s.cap, .z room]::SlT lneE s l::BlkA d [.z 0, .z 0]::R)->lp (j:Int) w:=by
  intro rest
  induction rest with
  |nil=>
   intro j w hj hjl hno h;have:l.length≤j:=by have:=congrArg List.length hj;simp at this;omega
   apply hlp;refine cdecF (by omega) ?_
   have hn:look n1 n2 l=none:=by
    unfold look;rw[List.find?_eq_none.2 fun y hy=>?_]
    ·rfl
    ·obtain ⟨i,hi⟩:=List.mem_iff_getElem?.1 hy
     rw[hno i (by have:=(List.getElem?_eq_some_iff.1 hi).1;omega) y hi];decide
   rw[hn] at hK;refine h.stLc rfl rfl fun w h=>?_
   (try dsimp only[putAt,List.set_cons_zero,List.set_cons_succ] at h)
   refine h.lc_2 rfl ?_;have h:Vc.Own B w0 w (BlkA b [.slice s.a s.len s.cap, .z room]::SlT lneE s l::R):=h.sub;exact hK w (mk_tlb h)
  |cons y rest ih=>
   intro j w hj hjl hno h;have hjl2:j<l.length:=by have:=congrArg List.length hj;simp at this;omega
   have hx:l[j]?=some y:=by
    have:=congrArg (fun l=>l[0]?) hj;simpa using this
   apply hlp;refine cdecT (by omega) ?_;refine h.ixc (s:=s) rfl hx fun a ha h0 hc=>?_
   refine ldLne hc ?_;refine h.al fun w2 h=>?_
   generalize w.heap.size=e at h⊢;refine h.stLc rfl rfl fun w h=>?_
   (try dsimp only[putAt,List.set_cons_zero,List.set_cons_succ] at h)
   refine h.dr fun w h=>?_
   refine h.lc_4 rfl (Go.Vc.a2 ?_);refine of_spec h fun c1 w h=>?_
   refine h.hd rfl (Go.Vc.a2 ?_);refine at_spec h fun c2 w h=>?_
   refine h.hd rfl (Go.Vc.a2 ⟨rfl,rfl,?_⟩);refine h.al fun w3 h=>Go.Vc.a2 ?_
   generalize w.heap.size=bs at h⊢;refine all_spec (bs:=bs) (c1:=c1) (c2:=c2) (n1:=n1) (n2:=n2) (l:=y) h fun w h=>?_
   cases hp:isAt n1 n2 y with
   |true=>
    refine cbT rfl ?_
    have hn:look n1 n2 l=some (y.frame,y.rights):=by
     unfold look
     have:l.find? (isAt n1 n2)=some y:=by
      rw[List.find?_eq_some_iff_getElem];refine ⟨hp,j,hjl2,?_,fun i hi=>?_⟩
      ·rw[gE hjl2] at hx;exact Option.some.inj hx
      ·rw[hno i hi _ (gE (by omega))];rfl
     rw[this];rfl
    rw[hn] at hK;refine LdL_add (h.lc_2 rfl ?_);refine h.stLc rfl rfl fun w h=>?_
    (try dsimp only[putAt,List.set_cons_zero,List.set_cons_succ] at h)
    refine h.lc_2 rfl ?_;have h:Vc.Own B w0 w (BlkA b [.slice s.a s.len s.cap, .z room]::SlT lneE s l::R):=h.sub;exact hK w (mk_tlb h)
   |false=>
    refine cbF rfl ?_;rw[wr (by omega) (by omega)];have h:Vc.Own B w0 w (BlkA b [.slice s.a s.len s.cap, .z room]::SlT lneE s l::BlkA d [.z 0, .z 0]::R):=h.sub;refine ih (j+1) w (by rw[←List.drop_drop,hj];rfl) (by omega) (fun i hi z hz=>?_) h;by_cases e:i=j
    ·subst e;rw[hx] at hz;cases hz;exact hp
    ·exact hno i (by omega) z hz
 exact loop l 0 w1 rfl (by omega) (fun i hi=>by omega) h.sub
theorem fill_end {b d:Nat} {room:Int} {x:Lne} {l:List Lne} {K:Pw} (hbig:l.length≤1000000) (h:Vc.Own B w0 w (TlbA b room l::BlkA d [.z x.space, .z x.page, .z x.frame, .z x.rights]::R))
  (hK:∀w',Vc.Own B w0 w' (TlbA b room (l++ [x])::R)->K w'):
  Dr w fun w12=>∃a13:Addr,some (Addr.mk b 0 none)=some a13/\∃l14:Sl,w12.cell? a13=some (.slice l14.a l14.len l14.cap)/\
   LdL w12 (Addr.mk d 0 none) 0 [.o, .o, .o, .o] fun (t15:Int) (t16:Int) (t17:Int) (t18:Int)=>
   (Al w12 (.cells #[.z t15, .z t16, .z t17, .z t18] 71) fun w19=>
   (∃(t20:Sl) (w21:World),AppR Tryz.prog [34,34] 34 (.slice l14.a l14.len l14.cap) (.slice (some (Addr.mk w12.heap.size 0 none)) 1 1) w19 t20 w21/\
   ∃a22:Addr,some (Addr.mk b 0 none)=some a22/\(St w21 a22 (.slice t20.a t20.len t20.cap) fun w23=>K w23)/\True)/\True)/\True:=by
 refine h.dr fun w h=>?_
 obtain ⟨s,h⟩:=tlbO h;refine ⟨_,rfl,s,h.ldc rfl,?_⟩;refine h.lc_4 rfl (Go.Vc.a2 ?_);refine h.al fun w2 h=>Go.Vc.a2 ?_
 generalize w.heap.size=e at h⊢;refine app1_lne (s:=s) (ys:=l) (y:=x) h (by omega) fun s' w hs' h=>⟨_,rfl,Go.Vc.a2 ?_⟩
 refine h.stc rfl rfl fun w h=>?_
 (try dsimp only[putAt,List.set_cons_zero,List.set_cons_succ] at h)
 have h:Vc.Own B w0 w (BlkA b [.slice s'.a s'.len s'.cap, .z room]::SlT lneE s' (l++ [x])::R):=h.sub;exact hK w (mk_tlb h)
theorem tlb_Fill_spec {b:Nat} {room:Int} {x:Lne} {l:List Lne} {K:Pw} (hr:1≤room) (hbig:l.length≤1000000) (h:Vc.Own B w0 w (TlbA b room l::R))
  (hK:∀w',Vc.Own B w0 w' (TlbA b room (fill room x l)::R)->K w'):C.qdb (some ⟨b,0,none⟩) x.space x.page x.frame x.rights K w:=by
 apply S.qdb0;refine h.al fun w1 h=>?_
 generalize w.heap.size=d at h⊢;intro k7 hk7;have hdl:=drop_len x.space x.page l;refine h.dr fun w h=>?_
 refine ⟨_,h.ldc rfl,_,h.ldd rfl,Go.Vc.a2 ?_⟩;refine of_spec h fun c1 w h=>?_
 refine ⟨h.ldd rfl,Go.Vc.a2 ?_⟩;refine at_spec h fun c2 w h=>Go.Vc.a2 ⟨rfl,rfl,?_⟩
 refine h.al fun w2 h=>Go.Vc.a2 ?_
 generalize w.heap.size=bs at h⊢;refine tdrop_spec (bs:=bs) (c1:=c1) (c2:=c2) (n1:=x.space) (n2:=x.page) (l:=l) (room:=room) hbig (h.pick (A:=TlbA b room l)) fun w h=>?_
 have h:Vc.Own B w0 w (TlbA b room (drop x.space x.page l)::BlkA d [.z x.space, .z x.page, .z x.frame, .z x.rights]::R):=h.sub;by_cases e:(drop x.space x.page l).length=l.length/\room≤(l.length:Int)
 ·have ef:fill room x l=(drop x.space x.page l).drop 1++ [x]:=by unfold fill;rw[if_pos e]
  rw[ef] at hK;refine ceqT (by omega) ?_;obtain ⟨s,h⟩:=tlbO h;have hlen:=h.lenc s;refine ⟨_,rfl,s,h.ldc rfl,_,rfl,_,h.ldd rfl,?_⟩;rw[decide_eq_true (show (s.len:Int)≥room by omega)];apply hk7;intro k10 hk10;refine cbT rfl ?_;refine ⟨_,rfl,s,h.ldc rfl,?_⟩;refine Delete_lne (i:=0) (j:=1) h.up1 (by omega) (by omega) (by omega) fun s' w h=>⟨_,rfl,?_⟩
  refine h.stc rfl rfl fun w h=>?_
  (try dsimp only[putAt,List.set_cons_zero,List.set_cons_succ] at h)
  apply hk10;have h:Vc.Own B w0 w (BlkA b [.slice s'.a s'.len s'.cap, .z room]::SlT lneE s' ((drop x.space x.page l).drop 1)::BlkA d [.z x.space, .z x.page, .z x.frame, .z x.rights]::R):=h.up1;exact fill_end (by rw[List.length_drop];omega) (mk_tlb h) hK
 ·have ef:fill room x l=drop x.space x.page l++ [x]:=by unfold fill;rw[if_neg e]
  rw[ef] at hK
  have no:k7 false w:=by
   apply hk7;intro k10 hk10;refine cbF rfl ?_;apply hk10;exact fill_end (by omega) h hK
  by_cases e1:(drop x.space x.page l).length=l.length
  ·refine ceqT (by omega) ?_
   obtain ⟨s,h⟩:=tlbO h;have hlen:=h.lenc s;refine ⟨_,rfl,s,h.ldc rfl,_,rfl,_,h.ldd rfl,?_⟩;rw[decide_eq_false (show ¬(s.len:Int)≥room by omega)];exact no
  ·exact ceqF (by omega) no
end
end Go.Proofs.YtghikphgplamkaaGreat.Mc
end
section
set_option maxRecDepth 8000
namespace Go.Proofs.YtghikphgplamkaaGreat
open Go Go.Vc Go.Proofs
namespace Ker
def newK (c:Nat) (bits:Nat):Ker:=⟨[6],fun _=>none,[],Th.newM c,List.replicate 8 ⟨0,0,0⟩,[⟨0,bits,0⟩],[],[],[Tb.newS],0,0⟩
def rootK (k:Ker) (i kind obj:Int):Ker:={ k with H:=(Sl.putN k.bits k.H (0,i) ⟨kind,obj,7,0,0,0⟩).2,T:=(Tr.rootN k.T (0,i)).2}
def bootT:List Int->Nat->Ker->Ker
 | [],_,k=>k
 |p::r,j,k=>bootT r (j+1) ((k.setT (((k.t.makeR p (j:Int)).2.2.resumeR (k.t.makeR p (j:Int)).1).2.pickC (j:Int))).rootK ((2+j:Nat):Int) 3 (k.t.makeR p (j:Int)).1)
def bootL:Nat->Nat->Nat->Ker->Ker
 |0,_,_,k=>k
 |q+1,j,i,k=>bootL q (j+1) i (k.rootK ((i+j:Nat):Int) 9 (j:Int))
def bootK (c bits lines:Nat) (prios:List Int):Ker:=
 bootL lines 0 (3+prios.length) ((bootT prios 0 (((newK c bits).rootK 0 2 0).rootK 1 1 0)).rootK ((2+prios.length:Nat):Int) 8 0)
def rightB (c bits lines:Int) (prios:List Int):Bool:=decide (1≤c/\c≤8/\4≤bits/\bits≤20/\0≤lines/\lines≤8/\(prios.length:Int)=c/\∀p∈prios,0≤p/\p<256)
end Ker
section
variable {m:Th.Mt}
theorem pickC_isC {c k:Int}:(m.pickC c).isC k=m.isC k:=by
 unfold Th.Mt.pickC Th.Mt.pick;split
 ·split
  ·rfl
  ·split
   ·rw[Th.setR_isC,Th.leave_isC]
   ·split
    ·rfl
    ·rw[Th.setR_isC,Th.leave_isC,Th.lineUp_isC,Th.leave_isC]
 ·rfl
theorem resumeR_isC {n k:Int}:(m.resumeR n).2.isC k=m.isC k:=by
 unfold Th.Mt.resumeR;split
 ·rfl
 split
 ·rfl
 ·exact Th.lineUp_isC
theorem make_isC {p c k:Int}:(m.make p c).isC k=m.isC k:=rfl
end
structure BOk (c n:Nat) (k:Ker):Prop where
 ok:KOk 1 k
 free:∀i:Int,(n:Int)≤i->k.H (0,i)=none
 bits:k.bits= [6]
 core:∀j:Int,k.t.isC j=true↔0≤j/\j<(c:Int)
 sp:k.spaces= [Tb.newS]
 u1:k.u.length=1
section
variable {N c:Nat} {k:Ker}
theorem KOk.root (h:KOk N k) {i kind obj:Int} (hi:0≤i/\i<64) (hn:k.H (0,i)=none) (hc:Sl.capErr ⟨kind,obj,7,0,0,0⟩=0) (h0:kind≠0) (ho:k.objOk ⟨kind,obj,7,0,0,0⟩):
  KOk N (k.rootK i kind obj)/\(k.rootK i kind obj).H=Sl.updH k.H (0,i) (some ⟨kind,obj,7,0,0,0⟩):=by
 have ht:((0,i):Slot).1=0/\0≤((0,i):Slot).2/\((0,i):Slot).2<64:=⟨rfl,hi.1,hi.2⟩
 have hput:=h.put ht hn hc h0;have hno:Tr.placeN k.T (0,i)=none:=place_no fun e=>by rw[h.mem,hn] at e;cases e
 have hT:Tr.rootN k.T (0,i)=(0,k.T++ [((0,i),0)]):=by unfold Tr.rootN;rw[hno]
 have hH:(k.rootK i kind obj).H=Sl.updH k.H (0,i) (some ⟨kind,obj,7,0,0,0⟩):=by unfold Ker.rootK;rw[hput]
 have hT2:(k.rootK i kind obj).T=k.T++ [((0,i),0)]:=by unfold Ker.rootK;rw[hT]
 have hfew:=h.few
 refine ⟨{ h with
  nok:=by rw[hH];exact h.nok.put (there0 h.b0 ht) hc h0 capR_new
  held:=fun s x hx=>?_
  tok:=by rw[hT2];exact h.tok.root (by omega) hno
  mem:=fun s=>?_},hH⟩
 ·rw[hH] at hx
  unfold Sl.updH at hx;by_cases e:s=(0,i)
  ·rw[if_pos e] at hx;cases hx;rw[e];exact ⟨ht,ho⟩
  ·rw[if_neg e] at hx;exact h.held s x hx
 ·rw[hH,hT2]
  unfold Sl.updH;rw[List.map_append,List.mem_append];simp only[List.map_cons,List.map_nil,List.mem_singleton];by_cases e:s=(0,i)
  ·simp[e]
  ·rw[if_neg e,←h.mem];simp[e]
theorem BOk.root {n:Nat} (h:BOk c n k) {kind obj:Int} (hn:n<64) (hc:Sl.capErr ⟨kind,obj,7,0,0,0⟩=0) (h0:kind≠0) (ho:k.objOk ⟨kind,obj,7,0,0,0⟩):BOk c (n+1) (k.rootK (n:Int) kind obj):=by
 obtain ⟨h1,h2⟩:=h.ok.root (i:=(n:Int)) ⟨by omega,by omega⟩ (h.free _ (Int.le_refl _)) hc h0 ho;refine ⟨h1,fun i hi=>?_,h.bits,h.core,h.sp,h.u1⟩;rw[h2];unfold Sl.updH;rw[if_neg (fun e=>by cases e;omega)];exact h.free i (by omega)
theorem newK_ok {bits:Nat} (h8:c≤8) (hb:4≤bits/\bits≤20):BOk c 0 (Ker.newK c bits):=by
 refine ⟨⟨rfl,⟨by show 1≤64;decide,fun z hz=>by simp[Ker.newK] at hz;subst hz;exact .inr ⟨by decide,by decide⟩,fun s x hx=>by cases hx⟩,fun s x hx=>(by cases hx),⟨by show 0≤1000000;decide,trivial,List.nodup_nil⟩,fun s=>by simp[Ker.newK],Th.newM_inv h8,by simp[Ker.newK],fun x hx hx2=>?_,fun x hx=>?_,fun m hm=>?_,
  by simp[Ker.newK],by simp[Ker.newK],by simp[Ker.newK],by simp[Ker.newK],Nat.zero_le _,Nat.zero_le _,fun p hp=>by simp[Ker.newK] at hp,fun p hp=>by simp[Ker.newK] at hp⟩,fun i hi=>rfl,rfl,fun j=>?_,rfl,rfl⟩
 ·simp only[Ker.newK,List.mem_replicate] at hx
  rw[hx.2] at hx2;exact absurd rfl hx2
 ·simp[Ker.newK] at hx
  subst hx;refine ⟨hb.2,?_,Nat.zero_mod _,Nat.zero_le _⟩;show 0+2^bits≤2^20;rw[Nat.zero_add];exact Nat.pow_le_pow_right (by decide) hb.2
 ·simp[Ker.newK] at hm
  subst hm;exact Tb.SOk.new
 ·rw[Th.isC_iff]
  simp[Ker.newK,Th.newM]
theorem ok3 {a n:Int} (h0:0≤n) (h1:a≠1) (h2:a=2->n<(k.bits.length:Int)) (h3:a=3->n<(k.t.ths.length:Int)) (h4:a≠4) (h5:a≠5) (h6:a≠6) (h7:a≠7) (h8:a=8->n<(k.spaces.length:Int)) (h9:a=9->n<8):k.objOk ⟨a,n,7,0,0,0⟩:=
 objOk_mk h0 (fun e=>absurd e h1) h2 h3 (fun e=>absurd e h4) (fun e=>absurd e h5) (fun e=>absurd e h6) (fun e=>absurd e h7) h8 h9
theorem BOk.thread {j:Nat} {p:Int} (h:BOk c (2+j) k) (hj:j<c) (h8:c≤8) (ht:k.t.ths.length=j) (hp:0≤p/\p<256):
  BOk c (2+(j+1)) ((k.setT (((k.t.makeR p (j:Int)).2.2.resumeR (k.t.makeR p (j:Int)).1).2.pickC (j:Int))).rootK ((2+j:Nat):Int) 3 (k.t.makeR p (j:Int)).1)/\
  ((k.setT (((k.t.makeR p (j:Int)).2.2.resumeR (k.t.makeR p (j:Int)).1).2.pickC (j:Int))).rootK ((2+j:Nat):Int) 3 (k.t.makeR p (j:Int)).1).t.ths.length=j+1/\k.t.makeR p (j:Int)=((j:Int),0,k.t.make p (j:Int)):=by
 have hc:k.t.isC (j:Int)=true:=(h.core _).2 ⟨by omega,by omega⟩
 have hm:k.t.makeR p (j:Int)=((j:Int),0,k.t.make p (j:Int)):=by
  unfold Th.Mt.makeR;rw[if_neg (fun hh=>hh ⟨hp.1,hp.2,hc⟩),if_neg (by omega),ht]
 rw[hm];dsimp only
 have hl:(((k.t.make p (j:Int)).resumeR (j:Int)).2.pickC (j:Int)).ths.length=j+1:=by
  rw[pickC_len,resumeR_len];unfold Th.Mt.make;simp[ht]
 have hi:=((h.ok.inv.make (p:=p) (c:=(j:Int)) (by omega) hc hp).resume (j:Int)).pickC (j:Int)
 have hb:BOk c (2+j) (k.setT (((k.t.make p (j:Int)).resumeR (j:Int)).2.pickC (j:Int))):=by
  refine ⟨h.ok.setT hi (by rw[hl];omega),h.free,h.bits,fun n=>?_,h.sp,h.u1⟩;show (((k.t.make p (j:Int)).resumeR (j:Int)).2.pickC (j:Int)).isC n=true↔_;rw[pickC_isC,resumeR_isC,make_isC];exact h.core n
 refine ⟨?_,hl,rfl⟩
 have:=hb.root (kind:=3) (obj:=(j:Int)) (by omega) (capErr_new ⟨by decide,by decide⟩ ⟨by omega,by omega⟩) (by decide) (ok3 (by omega) (by decide) (fun e=>absurd e (by decide)) (fun _=>by
  show (j:Int)<((((k.t.make p (j:Int)).resumeR (j:Int)).2.pickC (j:Int)).ths.length:Int);rw[hl];omega) (by decide) (by decide) (by decide) (by decide) (fun e=>absurd e (by decide)) (fun e=>absurd e (by decide)))
 exact this
theorem bootT_ok (h8:c≤8):∀(ps:List Int) (j:Nat) (k:Ker),j+ps.length≤c->(∀p∈ps,0≤p/\p<256)->BOk c (2+j) k->k.t.ths.length=j->BOk c (2+(j+ps.length)) (Ker.bootT ps j k)/\(Ker.bootT ps j k).t.ths.length=j+ps.length
 | [],j,k,_,_,h,ht=>⟨h,ht⟩
 |p::ps,j,k,hj,hp,h,ht=>by
  rw[List.length_cons] at hj⊢;obtain ⟨h1,h2,_⟩:=h.thread (by omega) h8 ht (hp p List.mem_cons_self);have:=bootT_ok h8 ps (j+1) _ (by omega) (fun q hq=>hp q (List.mem_cons_of_mem _ hq)) h1 h2;rw[show j+1+ps.length=j+(ps.length+1) from by omega] at this;exact this
theorem BOk.line {i j:Nat} (h:BOk c (i+j) k) (hi:i+j<64) (hj:j<8):BOk c (i+(j+1)) (k.rootK ((i+j:Nat):Int) 9 (j:Int)):=
 h.root hi (capErr_new ⟨by decide,by decide⟩ ⟨by omega,by omega⟩) (by decide) (ok3 (by omega) (by decide) (fun e=>absurd e (by decide)) (fun e=>absurd e (by decide)) (by decide) (by decide) (by decide) (by decide) (fun e=>absurd e (by decide)) (fun _=>by omega))
theorem bootL_ok:∀(q j i:Nat) (k:Ker),j+q≤8->i≤20->BOk c (i+j) k->BOk c (i+(j+q)) (Ker.bootL q j i k)/\(Ker.bootL q j i k).t=k.t
 |0,j,i,k,_,_,h=>⟨h,rfl⟩
 |q+1,j,i,k,hj,hi,h=>by
  have h1:=h.line (by omega) (by omega);have:=bootL_ok q (j+1) i _ (by omega) hi h1;rw[show j+1+q=j+(q+1) from by omega] at this;exact ⟨this.1,this.2.trans rfl⟩
theorem boot_two {bits:Nat} (h8:c≤8) (hb:4≤bits/\bits≤20):BOk c 1 ((Ker.newK c bits).rootK 0 2 0)/\BOk c 2 (((Ker.newK c bits).rootK 0 2 0).rootK 1 1 0):=by
 have h0:=newK_ok h8 hb;have h1:=h0.root (kind:=2) (obj:=0) (by decide) (capErr_new ⟨by decide,by decide⟩ ⟨by decide,by decide⟩) (by decide) (ok3 (by decide) (by decide) (fun _=>by show (0:Int)<1;decide) (fun e=>absurd e (by decide)) (by decide) (by decide) (by decide) (by decide) (fun e=>absurd e (by decide)) (fun e=>absurd e (by decide)));have h2:=h1.root (kind:=1) (obj:=0) (by decide) (capErr_new ⟨by decide,by decide⟩ ⟨by decide,by decide⟩) (by decide) (objOk_mk (by decide) (fun _=>by show (0:Int)<1;decide) (fun e=>absurd e (by decide)) (fun e=>absurd e (by decide)) (fun e=>absurd e (by decide)) (fun e=>absurd e (by decide)) (fun e=>absurd e (by decide)) (fun e=>absurd e (by decide)) (fun e=>absurd e (by decide)) (fun e=>absurd e (by decide)));exact ⟨h1,h2⟩
theorem BOk.space {i:Nat} (h:BOk c i k) (hi:i<64):BOk c (i+1) (k.rootK (i:Int) 8 0):=
 h.root hi (capErr_new ⟨by decide,by decide⟩ ⟨by decide,by decide⟩) (by decide) (ok3 (by decide) (by decide) (fun e=>absurd e (by decide)) (fun e=>absurd e (by decide)) (by decide) (by decide) (by decide) (by decide) (fun _=>by rw[h.sp];decide) (fun e=>absurd e (by decide)))
theorem bootK_ok {bits lines:Nat} {prios:List Int} (h8:c≤8) (hb:4≤bits/\bits≤20) (hl:lines≤8) (hp:prios.length=c) (hps:∀p∈prios,0≤p/\p<256):
  BOk c (3+c+lines) (Ker.bootK c bits lines prios)/\(Ker.bootK c bits lines prios).t.ths.length=c:=by
 obtain ⟨_,h2⟩:=boot_two h8 hb;obtain ⟨h3,h4⟩:=bootT_ok h8 prios 0 _ (by omega) hps h2 rfl;rw[Nat.zero_add] at h3 h4;have h5:=h3.space (by omega)
 have h6:=bootL_ok lines 0 (3+prios.length) _ (by omega) (by omega) (show BOk c (3+prios.length+0) _ from by
  rw[show 3+prios.length+0=2+prios.length+1 from by omega];exact h5)
 refine ⟨?_,?_⟩
 ·have:=h6.1
  rw[show 3+prios.length+(0+lines)=3+c+lines from by omega] at this;exact this
 ·show (Ker.bootL _ _ _ _).t.ths.length=c
  rw[h6.2];exact h4.trans hp
end
end Go.Proofs.YtghikphgplamkaaGreat
end
section
set_option maxRecDepth 8000
namespace Go.Proofs.YtghikphgplamkaaGreat
open Go Go.Vc Go.Proofs
section
variable {B:Nat} {w0 w:World} {R L:List Asn} {b bd bk:Nat} {k:Ker} {N:Nat} {s:Sl}
theorem IndexFunc_int {p:Int->Bool} {f:Value} {xs:List Int} {K:Int->Pw} [I:SlIn s L Int intE xs] (h:Vc.Own B w0 w L) (hbig:xs.length≤1000000000)
  (hf:∀(y:Int) (w:World) (Q:Bool->Pw),y∈xs->Vc.Own B w0 w L->(∀w',Vc.Own B w0 w' L->Q (p y) w')->CallV Tryz.prog f [.z y] w fun en w'=>∃r:Bool,en= .returned (.bool r)/\Q r w')
  (hK:∀w',Vc.Own B w0 w' L->K (idxI p xs) w'):C.qt s f K w:=by
 apply S.qt0;have hlen:s.len=xs.length:=h.lenc s;intro l hl
 have loop:∀m j w,j+m=xs.length->(∀i,i<j->∀z,xs[i]?=some z->p z=false)->Vc.Own B w0 w L->l (j:Int) w:=by
  intro m
  induction m with
  |zero=>
   intro j w hj hno h;apply hl;refine cdecF (by omega) ?_
   have hn:xs.findIdx? p=none:=by
    rw[List.findIdx?_eq_none_iff];intro y hy;obtain ⟨i,hi⟩:=List.mem_iff_getElem?.1 hy;exact hno i (by have:=(List.getElem?_eq_some_iff.1 hi).1;omega) y hi
   have e:idxI p xs= -1:=by unfold idxI;rw[hn]
   rw[←e];exact hK _ h
  |succ m ih=>
   intro j w hj hno h;have hx:xs[j]?=some xs[j]:=gE (by omega);apply hl;refine cdecT (by omega) ?_;refine h.ixc (s:=s) rfl hx fun a ha h0 hc=>?_
   refine ⟨_,h0 _ rfl,?_⟩;refine hf xs[j] w _ (List.getElem_mem _) h fun w h=>?_
   cases hp:p xs[j] with
   |true=>
    refine cbT rfl ?_
    have hn:xs.findIdx? p=some j:=by
     rw[List.findIdx?_eq_some_iff_getElem];refine ⟨by omega,hp,fun i hi=>?_⟩;have:=hno i hi xs[i] (gE (by omega));simp[this]
    have e:idxI p xs=(j:Int):=by unfold idxI;rw[hn]
    rw[←e];exact hK _ h
   |false=>
    refine cbF rfl ?_;rw[wr (by omega) (by omega)];refine ih (j+1) w (by omega) (fun i hi z hz=>?_) h;by_cases e:i=j
    ·subst e;rw[hx] at hz;cases hz;exact hp
    ·exact hno i (by omega) z hz
 exact loop xs.length 0 w (by omega) (fun i hi=>by omega) h
theorem right_spec {c bits lines:Int} {prios:List Int} {K:Bool->Pw} [I:SlIn s L Int intE prios] (h:Vc.Own B w0 w L) (hbig:prios.length≤1000000000)
  (hK:∀w',Vc.Own B w0 w' L->K (Ker.rightB c bits lines prios) w'):C.qcZ c bits lines s K w:=by
 apply S.qcZ0;have hlen:s.len=prios.length:=h.lenc s;refine h.al fun w1 h=>?_
 generalize w.heap.size=cb at h⊢;intro k6 hk6
 have hno:∀{w},¬(1≤c/\c≤8/\4≤bits/\bits≤20/\0≤lines/\lines≤8)->Vc.Own B w0 w (BlkA cb [.z c, .z bits, .z lines, .slice s.a s.len s.cap]::L)->k6 false w:=fun {w} hb h=>by
  apply hk6;refine cbF rfl ?_;have:=hK w h.drop;rw[show Ker.rightB c bits lines prios=false from decide_eq_false fun hh=>hb ⟨hh.1,hh.2.1,hh.2.2.1,hh.2.2.2.1,hh.2.2.2.2.1,hh.2.2.2.2.2.1⟩] at this;exact this
 have hyes:∀{w},(1≤c/\c≤8/\4≤bits/\bits≤20/\0≤lines/\lines≤8)->Vc.Own B w0 w (BlkA cb [.z c, .z bits, .z lines, .slice s.a s.len s.cap]::L)->k6 true w:=fun {w} hb h=>by
  apply hk6;refine cbT rfl ?_;refine ⟨s,h.ldd rfl,_,h.ldc rfl,?_⟩;refine ceq (fun e=>?_) (fun e=>?_)
  ·refine ⟨s,h.ldd rfl,?_⟩
   apply S.qA0;refine IndexFunc_int (p:=fun y=>decide (y<0)||decide (y≥256)) h hbig (fun y w Q _ h hQ=>callV_mk ?_) fun w h=>?_
   ·show C.qcR y Q w
    apply S.qcR0;have:=hQ w h;refine cdec (fun e=>?_) (fun e=>?_)
    ·rw[decide_eq_true e,Bool.true_or] at this;exact this
    ·rw[decide_eq_false e,Bool.false_or] at this;exact this
   ·have:=hK w h.drop
    rw[idxI_pos]
    have e2:Ker.rightB c bits lines prios= !(prios.any fun y=>decide (y<0)||decide (y≥256)):=by
     unfold Ker.rightB;rw[Bool.eq_iff_iff];simp only[decide_eq_true_eq,Bool.not_eq_true',List.any_eq_false,Bool.or_eq_true,not_or];obtain ⟨b1,b2,b3,b4,b5,b6⟩:=hb;constructor
     ·rintro ⟨_,_,_,_,_,_,_,hp⟩ y hy
      have:=hp y hy;omega
     ·intro hp
      refine ⟨b1,b2,b3,b4,b5,b6,by omega,fun y hy=>?_⟩;have:=hp y hy;omega
    rw[e2] at this;exact this
  ·have:=hK w h.drop
   rw[show Ker.rightB c bits lines prios=false from decide_eq_false fun hh=>by have:=hh.2.2.2.2.2.2.1;omega] at this;exact this
 refine ⟨_,h.ldc rfl,?_⟩;refine cdec (fun e1=>?_) (fun e1=>hno (by omega) h);refine ⟨_,h.ldc rfl,?_⟩;refine cdec (fun e2=>?_) (fun e2=>hno (by omega) h);refine ⟨_,h.ldd rfl,?_⟩;refine cdec (fun e3=>?_) (fun e3=>hno (by omega) h);refine ⟨_,h.ldd rfl,?_⟩;refine cdec (fun e4=>?_) (fun e4=>hno (by omega) h);refine ⟨_,h.ldd rfl,?_⟩;refine cdec (fun e5=>?_) (fun e5=>hno (by omega) h);refine ⟨_,h.ldd rfl,?_⟩;by_cases e6:lines≤8
 ·rw[decide_eq_true e6];exact hyes (by omega) h
 ·rw[decide_eq_false e6];exact hno (by omega) h
end
end Go.Proofs.YtghikphgplamkaaGreat
end
section
set_option maxRecDepth 8000
namespace Go.Proofs.YtghikphgplamkaaGreat.Mc
open Go Go.Vc Go.Proofs
theorem ldMail {w:World} {a:Addr} {x:Mail} {f:Int->Int->Int->Prop} (g:∀c v,(mailE.enc x)[c]?=some v->w.cell? (a.add c)=some v) (hf:f x.frm x.kind x.about):
  LdL w a 0 [.o, .o, .o] f:=⟨_,g 0 _ rfl,_,g 1 _ rfl,_,g 2 _ rfl,hf⟩
theorem infoMail:Tryz.prog.info? 145=some Tryz.t145:=by kernel_rfl
theorem bytesMail:Tryz.t145.bytes=24:=by kernel_rfl
def zMail:Mail:=⟨0,0,0⟩
theorem zeroMail (w:World):(zeroValue 145).run Tryz.prog w= .ok (.agg ⟨mailE.enc zMail⟩) w:=Tryz.zeroValue145 w
section
variable {B:Nat} {w0 w:World} {R L:List Asn} {s:Sl} {xs:List Mail}
theorem Delete_mail {i j:Nat} {K:Sl->Pw} (h:Vc.Own B w0 w (SlT mailE s xs::R)) (hij:i<j) (hj:j≤xs.length) (hbig:xs.length≤1000000000)
  (hK:∀s' w',Vc.Own B w0 w' (SlT mailE s' (xs.take i++xs.drop j)::R)->K s' w'):C.qE s (i:Int) (j:Int) K w:=by
 apply S.qE0;have hlen:=h.lenc s;have hcap:=h.slRaw.le_cap;refine ⟨by omega,by omega,by omega,by omega,by omega,by omega,?_⟩;refine ceqF (by omega) ?_;refine h.dr fun w h=>?_
 refine ⟨by omega,by omega,by omega,by omega,a2 ?_⟩;simp only[Int.toNat_natCast];refine h.appDel (E:=mailE) Tryz.underlying143 infoMail (by kernel_rfl) (by omega) hj (by omega) fun w h=>?_
 dsimp only;refine ⟨by omega,by omega,by omega,by omega,?_⟩;refine Vc.Own.clear (E:=mailE) (z0:=zMail) (n:=i+(xs.length-j)) Tryz.underlying143 zeroMail rfl h 0 rfl (by simp;omega) fun w h=>?_
 have hp:=h.pre 0 rfl (n:=i+(xs.length-j)) (by simp;omega);refine hK _ w ?_;rw[del_list hij hj] at hp;exact hp
theorem app1_mail {y:Mail} {c:Nat} {k:Sl->Pw} [I:SlIn s L Mail mailE xs] [J:Pick (SlT mailE s xs) L R] (h:Vc.Own B w0 w (BlkA c (mailE.enc y)::L)) (hbig:xs.length≤1000000000)
  (hk:∀s' w',s'.len=xs.length+1->Vc.Own B w0 w' (SlT mailE s' (xs++ [y])::R)->k s' w'):
  ∃s' w',AppR Tryz.prog [143,143] 143 (.slice s.a s.len s.cap) (.slice (some (Addr.mk c 0 none)) 1 1) w s' w'/\k s' w':=
 Vc.Own.app1c (E:=mailE) (y:=y) Tryz.underlying143 infoMail (zv:= .agg ⟨mailE.enc zMail⟩) (by kernel_rfl) (by kernel_rfl) rfl (by decide) h (by rw[bytesMail];omega) hk
end
section
variable {B:Nat} {w0 w:World} {R L:List Asn} {b:Nat} {bx:List (List Mail)} {α:Type} {E:EncT α} {ss:List Sl} {rows:List (List α)}
theorem rowS (h:Vc.Own B w0 w (RowsA E ss rows::R)) {j:Nat} {s:Sl} {row:List α} (hs:ss[j]?=some s) (hr:rows[j]?=some row):
  Vc.Own B w0 w (SlT E s row::StarA ((List.zipWith (SlT E) ss rows).eraseIdx j)::R):=Vc.Own.up1 (Vc.Own.mk_star ((h.row hs hr).perm List.perm_middle.symm))
theorem rowS_back {j:Nat} {s':Sl} {row':List α} (hl:ss.length=rows.length) (hj:j<rows.length) (h:Vc.Own B w0 w (SlT E s' row'::StarA ((List.zipWith (SlT E) ss rows).eraseIdx j)::R)):
  Vc.Own B w0 w (RowsA E (ss.set j s') (rows.set j row')::R):=Vc.Own.row_back hl hj ((h.up1).star.perm List.perm_middle)
theorem rows_len (h:Vc.Own B w0 w (RowsA E ss rows::R)):ss.length=rows.length:=h.rowsO.1
theorem box_is {c:Int} {K:Bool->Pw} (h0:0≤c) (h1:c<(bx.length:Int)) (h:Vc.Own B w0 w (BoxA b bx::R)) (hK:K true w):C.qbs (some ⟨b,0,none⟩) c K w:=by
 apply S.qbs0;obtain ⟨s,ss,h⟩:=boxO h;have hl:=rows_len (h.pick (A:=RowsA mailE ss bx));have hlen:=h.lenc s;refine cdecT (by omega) ?_;refine ⟨_,rfl,s,h.ldc rfl,?_⟩;rw[decide_eq_true (show c<(s.len:Int) by omega)];exact hK
theorem box_New_spec {nc:Nat} {K:Option Addr->Int->Pw} (n1:1≤nc) (n8:nc≤8) (h:Vc.Own B w0 w R) (hK:∀b w',Vc.Own B w0 w' (BoxA b (List.replicate nc [])::R)->K (some ⟨b,0,none⟩) 0 w'):C.qdm (nc:Int) K w:=by
 apply S.qdm0;intro k hk;refine cdecF (by omega) ?_;apply hk;refine cdecF (by omega) ?_;have hb:Tryz.t143.bytes=24:=by kernel_rfl
 have hp48:(2:Int)^48=281474976710656:=by decide
 refine Vc.Own.mkSl (E:=slE) (z0:=⟨none,0,0⟩) (zv:= .slice none 0 0) Tryz.underlying140 (show Tryz.prog.info? 143=some Tryz.t143 from by kernel_rfl) (by kernel_rfl) (by kernel_rfl) rfl (n:=(nc:Int)) h (by omega) (by rw[hb,hp48];omega) (by rw[hp48];omega) fun s w hs h=>?_
 rw[Int.toNat_natCast] at h;refine h.al fun w2 h=>?_
 have rows:∀(n:Nat) (R:List Asn),Vc.Own B w0 w2 R->Vc.Own B w0 w2 (RowsA mailE (List.replicate n ⟨none,0,0⟩) (List.replicate n [])::R):=fun n R h=>by
  induction n with
  |zero=>exact Vc.Own.rows_nil h
  |succ n ih=>
   have:=Vc.Own.row_add (Vc.Own.nilS (E:=mailE) ih)
   rwa [←List.replicate_succ',←List.replicate_succ'] at this
 have h3:=rows nc _ h;refine hK _ w2 (mk_box (s:=s) (ss:=List.replicate nc ⟨none,0,0⟩) ?_);exact h3.sub
theorem box_Take_spec {c:Int} {K:Int->Int->Int->Bool->Pw} (h0:0≤c) (h1:c<(bx.length:Int)) (h64:∀l∈bx,l.length≤64) (h:Vc.Own B w0 w (BoxA b bx::R))
  (hK0:bx[c.toNat]?=some []->∀w',Vc.Own B w0 w' (BoxA b bx::R)->K 0 0 0 false w')
  (hK1:∀x r,bx[c.toNat]?=some (x::r)->∀w',Vc.Own B w0 w' (BoxA b (bx.set c.toNat r)::R)->K x.frm x.kind x.about true w'):C.qbj (some ⟨b,0,none⟩) c K w:=by
 apply S.qbj0;refine h.al fun w1 h=>?_
 generalize w.heap.size=d at h⊢;have ec:c=((c.toNat:Nat):Int):=by omega
 have hlt:c.toNat<bx.length:=by omega
 have hrow:bx[c.toNat]?=some bx[c.toNat]:=gE hlt;have hr64:=h64 _ (List.getElem_mem hlt);generalize bx[c.toNat]=row at hrow hr64;intro k4 hk4;refine box_is h0 h1 h.up1 ?_;refine cbF rfl ?_;obtain ⟨s,ss,h⟩:=boxO h.up1;have hl:=rows_len (h.pick (A:=RowsA mailE ss bx));have hlen:=h.lenc s;have hsl:ss[c.toNat]?=some ss[c.toNat]:=gE (by omega);generalize ss[c.toNat]=sj at hsl;have h:Vc.Own B w0 w1 (SlT mailE sj row::StarA ((List.zipWith (SlT mailE) ss bx).eraseIdx c.toNat)::BlkA b [.slice s.a s.len s.cap]::SlT slE s ss::BlkA d [.z 0, .z 0, .z 0]::R):=(rowS (h.pick (A:=RowsA mailE ss bx)) hsl hrow).sub;have hlj:=h.lenc sj;refine ⟨_,rfl,s,h.ldc rfl,?_⟩;refine h.ixc (s:=s) ec hsl fun a ha hc0 hc=>⟨sj,hc0 _ rfl,?_⟩
 have same:∀w,Vc.Own B w0 w (SlT mailE sj row::StarA ((List.zipWith (SlT mailE) ss bx).eraseIdx c.toNat)::BlkA b [.slice s.a s.len s.cap]::SlT slE s ss::R)->Vc.Own B w0 w (BoxA b bx::R):=fun w h=>by
  have h2:=rowS_back (j:=c.toNat) hl hlt h
  have e1:ss.set c.toNat sj=ss:=by
   obtain ⟨p,q⟩:=List.getElem?_eq_some_iff.1 hsl;rw[←q];exact List.set_getElem_self p
  have e2:bx.set c.toNat row=bx:=by
   obtain ⟨p,q⟩:=List.getElem?_eq_some_iff.1 hrow;rw[←q];exact List.set_getElem_self p
  rw[e1,e2] at h2;exact mk_box (s:=s) (ss:=ss) h2.sub
 cases row with
 |nil=>
  rw[show ((sj.len:Int)==0)=true from by simp at hlj⊢;omega];apply hk4;refine cbT rfl ?_;refine h.stLc rfl rfl fun w h=>?_
  (try dsimp only[putAt,List.set_cons_zero,List.set_cons_succ] at h)
  refine h.lc_3 rfl ?_;exact hK0 hrow w (same w h.sub)
 |cons x r=>
  simp only[List.length_cons] at hlj hr64;rw[show ((sj.len:Int)==0)=false from by simp;omega];apply hk4;refine cbF rfl ?_;refine ⟨_,rfl,s,h.ldc rfl,?_⟩;refine h.ixc (s:=s) ec hsl fun a ha hc0 hc=>⟨sj,hc0 _ rfl,?_⟩
  refine h.ixc (s:=sj) (i:=0) (j:=0) rfl rfl fun a2 ha2 hd0 hd=>?_
  refine ldMail hd ?_;refine h.al fun w2 h=>?_
  generalize w1.heap.size=e at h⊢;refine h.stLc rfl rfl fun w h=>?_
  (try dsimp only[putAt,List.set_cons_zero,List.set_cons_succ] at h)
  refine h.dr fun w h=>?_
  refine ⟨_,rfl,_,rfl,s,h.ldc rfl,?_⟩;refine h.ixc (s:=s) ec hsl fun a ha hc0 hc=>⟨sj,hc0 _ rfl,s,h.ldc rfl,Go.Vc.a2 ?_⟩
  refine Delete_mail (s:=sj) (xs:=x::r) (i:=0) (j:=1) (h.pick (A:=SlT mailE sj (x::r))) (by omega) (by simp) (by simp;omega) fun s' w h=>⟨h.ldc rfl,?_⟩
  refine ⟨a,ha,h0,by omega,Go.Vc.a2 ?_⟩;refine h.stEc (s:=s) (E:=slE) (i:=c) s' ec (by omega) ha rfl fun w h=>?_
  refine h.lc_3 rfl ?_;refine h.stLc rfl rfl fun w h=>?_
  (try dsimp only[putAt,List.set_cons_zero,List.set_cons_succ] at h)
  refine h.lc_3 rfl ?_;refine hK1 x r hrow w ?_;have h2:Vc.Own B w0 w (SlT mailE s' r::StarA ((List.zipWith (SlT mailE) ss bx).eraseIdx c.toNat)::BlkA b [.slice s.a s.len s.cap]::SlT slE s (ss.set c.toNat s')::R):=Vc.Own.sub (show Vc.Own B w0 w (SlT slE s (ss.set c.toNat s')::SlT mailE s' r::_) from h);exact mk_box (s:=s) (ss:=ss.set c.toNat s') (rowS_back hl hlt h2).sub
def sendTo (x:Mail) (ts:List Int) (bx:List (List Mail)):List (List Mail):=bx.mapIdx fun i l=>if (i:Int)∈ts then l++ [x] else l
theorem sendTo_nil (x:Mail) (bx:List (List Mail)):sendTo x [] bx=bx:=by
 unfold sendTo;refine List.ext_getElem? fun i=>?_
 rw[List.getElem?_mapIdx];cases bx[i]?<;>simp
theorem sendTo_snoc {x:Mail} {ts:List Int} {bx:List (List Mail)} {t:Int} {l:List Mail} (h0:0≤t) (hn:t∉ts) (hl:bx[t.toNat]?=some l):(sendTo x ts bx).set t.toNat (l++ [x])=sendTo x (ts++ [t]) bx/\(sendTo x ts bx)[t.toNat]?=some l:=by
 have et:((t.toNat:Nat):Int)=t:=Int.toNat_of_nonneg h0;constructor
 ·refine List.ext_getElem? fun i=>?_
  unfold sendTo;by_cases e:i=t.toNat
  ·subst e
   rw[List.getElem?_set_self (by rw[List.length_mapIdx];exact (List.getElem?_eq_some_iff.1 hl).1),List.getElem?_mapIdx,hl];simp[et]
  ·rw[List.getElem?_set_ne (Ne.symm e),List.getElem?_mapIdx,List.getElem?_mapIdx]
   have:(i:Int)≠t:=fun h=>e (by omega)
   cases bx[i]?<;>simp[this]
 ·unfold sendTo
  rw[List.getElem?_mapIdx,hl];simp[et,hn]
theorem box_send_spec {x:Mail} {to:Sl} {ts:List Int} {K:Int->Pw} (hb:bx.length≤8) (h64:∀l∈bx,l.length≤64) (hts:∀t∈ts,0≤t/\t<(bx.length:Int)) (hnd:ts.Nodup) (hbig:ts.length≤8)
  (h:Vc.Own B w0 w (BoxA b bx::SlT intE to ts::R))
  (hK:∀e w',Vc.Own B w0 w' (BoxA b (if ts.any (fun t=>decide (64≤((bx[t.toNat]?).getD []).length)) then bx else sendTo x ts bx)::R)->K e w'):C.qbl (some ⟨b,0,none⟩) x.frm x.kind x.about to K w:=by
 apply S.qbl0;refine h.al fun w1 h=>?_
 generalize w.heap.size=d at h⊢;refine h.al fun w2 h=>?_
 generalize w1.heap.size=e at h⊢;have hlt:=h.lenc to;apply S.qA0;refine IndexFunc_int (s:=to) (xs:=ts) (p:=fun t=>decide (64≤((bx[t.toNat]?).getD []).length)) h (by omega) (fun y w Q hy h hQ=>callV_mk ?_) fun w h=>?_
 ·show C.qbt y ⟨d,0,none⟩ Q w
  apply S.qbt0;obtain ⟨y0,y1⟩:=hts y hy;have ey:y=((y.toNat:Nat):Int):=by omega
  have h':=h;obtain ⟨s,ss,h⟩:=boxO (h.pick (A:=BoxA b bx));have hl:=rows_len (h.pick (A:=RowsA mailE ss bx));have hsl:ss[y.toNat]?=some ss[y.toNat]:=gE (by omega);have hrow:bx[y.toNat]?=some bx[y.toNat]:=gE (by omega);generalize ss[y.toNat]=sj at hsl;generalize bx[y.toNat]=row at hrow;have hlj:sj.len=row.length:=Vc.Own.row_len (h.pick (A:=RowsA mailE ss bx)) hsl hrow;refine ⟨_,h.ldc rfl,_,rfl,s,h.ldc rfl,?_⟩;refine h.ixc (s:=s) ey hsl fun a ha hc0 hc=>⟨sj,hc0 _ rfl,?_⟩
  have e2:decide ((sj.len:Int)≥64)=decide (64≤((bx[y.toNat]?).getD []).length):=by
   rw[hrow,Option.getD_some,decide_eq_decide];omega
  rw[e2];exact hQ w h'
 ·rw[idxI_pos]
  cases hany:ts.any (fun t=>decide (64≤((bx[t.toNat]?).getD []).length)) with
  |true=>
   rw[hany,if_pos rfl] at hK;exact cbT rfl (hK _ w h.sub)
  |false=>
   rw[hany,if_neg (by decide)] at hK;refine cbF rfl ?_;intro l hl
   have loop:∀(rest pre:List Int) (w:World),ts=pre++rest->Vc.Own B w0 w (BoxA b (sendTo x pre bx)::SlT intE to ts::BlkA d [.pointer (some ⟨b,0,none⟩)]::BlkA e [.z x.frm, .z x.kind, .z x.about]::R)->l (pre.length:Int) w:=by
    intro rest
    induction rest with
    |nil=>
     intro pre w hp h;rw[List.append_nil] at hp;subst hp;apply hl;refine cdecF (by omega) ?_;exact hK _ w h.sub
    |cons t rest ih=>
     intro pre w hp h;have hlen2:ts.length=pre.length+(rest.length+1):=by rw[hp];simp
     have ht:ts[pre.length]?=some t:=by rw[hp];simp
     have hmem:=List.mem_of_getElem? ht;obtain ⟨t0,t1⟩:=hts t hmem;have et:t=((t.toNat:Nat):Int):=by omega
     have hnt:t∉pre:=fun hm=>by
      rw[hp] at hnd;exact (List.nodup_append.1 hnd).2.2 t hm t List.mem_cons_self rfl
     have hrow:bx[t.toNat]?=some bx[t.toNat]:=gE (by omega);have hr64:=h64 _ (List.getElem_mem (show t.toNat<bx.length by omega));generalize bx[t.toNat]=row at hrow hr64;obtain ⟨g1,g2⟩:=sendTo_snoc (x:=x) t0 hnt hrow;have hsb:(sendTo x pre bx).length=bx.length:=by unfold sendTo;rw[List.length_mapIdx]
     apply hl;refine cdecT (by omega) ?_;refine h.ixc (s:=to) rfl ht fun a ha hc0 hc=>⟨_,hc0 _ rfl,?_⟩
     refine h.dr fun w h=>?_
     obtain ⟨s,ss,h⟩:=boxO h;have hl2:=rows_len (h.pick (A:=RowsA mailE ss (sendTo x pre bx)));have hlen:=h.lenc s;have hsl:ss[t.toNat]?=some ss[t.toNat]:=gE (by omega);generalize ss[t.toNat]=sj at hsl;have h:Vc.Own B w0 w (SlT mailE sj row::StarA ((List.zipWith (SlT mailE) ss (sendTo x pre bx)).eraseIdx t.toNat)::BlkA b [.slice s.a s.len s.cap]::SlT slE s ss::SlT intE to ts::BlkA d [.pointer (some ⟨b,0,none⟩)]::BlkA e [.z x.frm, .z x.kind, .z x.about]::R):=(rowS (h.pick (A:=RowsA mailE ss (sendTo x pre bx))) hsl g2).sub;refine ⟨_,h.ldc rfl,_,rfl,s,h.ldc rfl,?_⟩;refine h.ixc (s:=s) et hsl fun a ha hc0 hc=>⟨sj,hc0 _ rfl,?_⟩
     refine h.lc_3 rfl ?_;refine ⟨_,h.ldc rfl,_,rfl,s,h.ldc rfl,Go.Vc.a2 ?_⟩;refine h.al fun w3 h=>Go.Vc.a2 ?_
     generalize w.heap.size=f at h⊢;refine app1_mail (s:=sj) (xs:=row) (y:=x) h (by omega) fun s' w hs' h=>⟨h.ldc rfl,h.ldc rfl,a,ha,t0,by omega,Go.Vc.a2 ?_⟩
     refine h.stEc (s:=s) (E:=slE) (i:=t) s' et (by omega) ha rfl fun w h=>?_
     rw[show IntKind.i64.wrap ((pre.length:Int)+1)=(((pre++ [t]).length:Nat):Int) from by rw[wr (by omega) (by omega),List.length_append];rfl];refine ih (pre++ [t]) w (by rw[hp];simp) ?_;rw[←g1];have h2:Vc.Own B w0 w (SlT mailE s' (row++ [x])::StarA ((List.zipWith (SlT mailE) ss (sendTo x pre bx)).eraseIdx t.toNat)::BlkA b [.slice s.a s.len s.cap]::SlT slE s (ss.set t.toNat s')::SlT intE to ts::BlkA d [.pointer (some ⟨b,0,none⟩)]::BlkA e [.z x.frm, .z x.kind, .z x.about]::R):=Vc.Own.sub h;exact mk_box (s:=s) (ss:=ss.set t.toNat s') (rowS_back hl2 (by omega) h2).sub
   have e0:sendTo x [] bx=bx:=sendTo_nil x bx;refine loop ts [] w rfl ?_;rw[e0];exact h.sub
def others (frm:Int) (n:Nat):List Int:=((List.range n).map Int.ofNat).filter fun i=>i !=frm
theorem others_succ (frm:Int) (n:Nat):others frm (n+1)=others frm n++if (n:Int) !=frm then [(n:Int)] else []:=by
 unfold others;rw[List.range_succ,List.map_append,List.filter_append];congr 1;cases h:((n:Int) !=frm)<;>simp[h]
theorem others_mem {frm:Int} {n:Nat} {t:Int}:t∈others frm n↔(0≤t/\t<(n:Int))/\t≠frm:=by
 unfold others;rw[List.mem_filter,List.mem_map];constructor
 ·rintro ⟨⟨i,hi,e⟩,h2⟩
  have e:(i:Int)=t:=e;have:=List.mem_range.1 hi;exact ⟨by omega,by simpa using h2⟩
 ·rintro ⟨h1,h2⟩
  exact ⟨⟨t.toNat,List.mem_range.2 (by omega),Int.toNat_of_nonneg h1.1⟩,by simpa using h2⟩
theorem others_nd (frm:Int) (n:Nat):(others frm n).Nodup:=by
 unfold others;refine List.Pairwise.filter _ ?_;rw[List.pairwise_map];exact List.nodup_range.imp fun h e=>h (Int.ofNat.inj e)
theorem others_len (frm:Int) (n:Nat):(others frm n).length≤n:=by
 have:=List.length_filter_le (fun i=>i !=frm) ((List.range n).map Int.ofNat);rw[List.length_map,List.length_range] at this;exact this
theorem allB_eq (frm about:Int) (bx:List (List Mail)):(if (others frm bx.length).any (fun t=>decide (64≤((bx[t.toNat]?).getD []).length)) then bx else sendTo ⟨frm,0,about⟩ (others frm bx.length) bx)=allB frm about bx:=by
 have e1:(others frm bx.length).any (fun t=>decide (64≤((bx[t.toNat]?).getD []).length))=(List.range bx.length).any fun i=>decide ((i:Int)≠frm)&&decide (64≤((bx[i]?).getD []).length):=by
  rw[Bool.eq_iff_iff,List.any_eq_true,List.any_eq_true];constructor
  ·rintro ⟨t,ht,h2⟩
   obtain ⟨h1,h3⟩:=others_mem.1 ht;refine ⟨t.toNat,List.mem_range.2 (by omega),?_⟩;rw[Bool.and_eq_true];exact ⟨decide_eq_true (by rw[Int.toNat_of_nonneg h1.1];exact h3),h2⟩
  ·rintro ⟨i,hi,h2⟩
   rw[Bool.and_eq_true] at h2;have:=List.mem_range.1 hi;exact ⟨(i:Int),others_mem.2 ⟨by omega,of_decide_eq_true h2.1⟩,by rw[Int.toNat_natCast];exact h2.2⟩
 unfold allB;rw[e1];split
 ·rfl
 ·unfold sendTo
  refine List.ext_getElem? fun i=>?_
  rw[List.getElem?_mapIdx,List.getElem?_mapIdx];by_cases hi:i<bx.length
  ·rw[gE hi]
   simp only[Option.map_some];by_cases e:(i:Int)=frm
   ·rw[if_pos e,if_neg fun h=>(others_mem.1 h).2 e]
   ·rw[if_neg e,if_pos (others_mem.2 ⟨by omega,e⟩)]
  ·rw[List.getElem?_eq_none (by omega)];rfl
theorem box_All_spec {frm about:Int} {K:Int->Pw} (h0:0≤frm) (h1:frm<(bx.length:Int)) (hb:bx.length≤8) (h64:∀l∈bx,l.length≤64) (h:Vc.Own B w0 w (BoxA b bx::R))
  (hK:∀e w',Vc.Own B w0 w' (BoxA b (allB frm about bx)::R)->K e w'):C.qbD (some ⟨b,0,none⟩) frm 0 about K w:=by
 apply S.qbD0;refine box_is h0 h1 h ?_;refine cbF rfl ?_;have h':=h;obtain ⟨s,ss,hx⟩:=boxO h;have hl:=rows_len (hx.pick (A:=RowsA mailE ss bx));have hlen:=hx.lenc s;refine ⟨_,rfl,s,hx.ldc rfl,?_⟩;intro l hl9
 have loop:∀(m j:Nat) (to:Sl) (w:World),j+m=bx.length->Vc.Own B w0 w (SlT intE to (others frm j)::BoxA b bx::R)->l to (j:Int) w:=by
  intro m
  induction m with
  |zero=>
   intro j to w hj h;apply hl9;refine cdecF (by omega) ?_;have ej:j=bx.length:=by omega
   subst ej;refine box_send_spec (x:=⟨frm,0,about⟩) (ts:=others frm bx.length) hb h64 (fun t ht=>(others_mem.1 ht).1) (others_nd _ _) (Nat.le_trans (others_len _ _) hb) h.up1 fun e w h=>?_
   rw[allB_eq] at h;exact hK e w h
  |succ m ih=>
   intro j to w hj h;have hsu:=others_succ frm j;have hol:=others_len frm j;apply hl9;refine cdecT (by omega) ?_;have ew:IntKind.i64.wrap ((j:Int)+1)=((j+1:Nat):Int):=by rw[wr (by omega) (by omega)];omega
   rw[ew];refine cne (fun e=>?_) (fun e=>?_)
   ·rw[show ((j:Int) !=frm)=true from by simpa using e,if_pos rfl] at hsu
    refine h.al fun w1 h=>?_
    generalize w.heap.size=d at h⊢;refine app1_int (s:=to) (y:=(j:Int)) h (by omega) fun s' w hs' h=>?_
    refine ih (j+1) s' w (by omega) ?_;rw[hsu];exact h.sub
   ·rw[show ((j:Int) !=frm)=false from by simpa using e,if_neg (by decide),List.append_nil] at hsu
    refine ih (j+1) to w (by omega) ?_;rw[hsu];exact h
 exact loop bx.length 0 ⟨none,0,0⟩ w (by omega) (Vc.Own.nilS h')
theorem box_Owed_spec {c:Int} {K:Int->Pw} (hb:bx.length≤8) (h64:∀l∈bx,l.length≤64) (h:Vc.Own B w0 w (BoxA b bx::R))
  (hK:∀w',Vc.Own B w0 w' (BoxA b bx::R)->K (owedB bx c) w'):C.qbh (some ⟨b,0,none⟩) c K w:=by
 apply S.qbh0;obtain ⟨s,ss,h⟩:=boxO h;have hl:=rows_len (h.pick (A:=RowsA mailE ss bx));have hlen:=h.lenc s;refine ⟨_,rfl,s,h.ldc rfl,?_⟩;intro l hl5
 have bound:∀(l:List (List Mail)),(∀r∈l,r.length≤64)->(l.map fun l=>(l.filter fun m=>decide (m.frm=c)).length).sum≤64*l.length:=fun l hl=>by
  induction l with
  |nil=>simp
  |cons r l ih=>
   have h1:=ih fun q hq=>hl q (List.mem_cons_of_mem _ hq)
   have h2:=List.length_filter_le (fun m:Mail=>decide (m.frm=c)) r;have h3:=hl r List.mem_cons_self;simp only[List.map_cons,List.sum_cons,List.length_cons];omega
 have loop:∀(rest pre:List (List Mail)) (w:World),bx=pre++rest->Vc.Own B w0 w (BlkA b [.slice s.a s.len s.cap]::SlT slE s ss::RowsA mailE ss bx::R)->l (owedB pre c) (pre.length:Int) w:=by
  intro rest
  induction rest with
  |nil=>
   intro pre w hp h;rw[List.append_nil] at hp;subst hp;apply hl5;refine cdecF (by omega) ?_;exact hK w (mk_box h)
  |cons row rest ih=>
   intro pre w hp h;have hlen2:bx.length=pre.length+(rest.length+1):=by rw[hp];simp
   have hrow:bx[pre.length]?=some row:=by rw[hp];simp
   have hr64:=h64 row (List.mem_of_getElem? hrow);have hpre:=bound pre fun r hr=>h64 r (by rw[hp];exact List.mem_append_left _ hr)
   have hsl:ss[pre.length]?=some ss[pre.length]:=gE (by omega);generalize ss[pre.length]=sj at hsl;apply hl5;refine cdecT (by omega) ?_;refine h.ixc (s:=s) rfl hsl fun a ha hc0 hc=>⟨sj,hc0 _ rfl,?_⟩
   have h:Vc.Own B w0 w (SlT mailE sj row::StarA ((List.zipWith (SlT mailE) ss bx).eraseIdx pre.length)::BlkA b [.slice s.a s.len s.cap]::SlT slE s ss::R):=(rowS (h.pick (A:=RowsA mailE ss bx)) hsl hrow).sub;have hlj:=h.lenc sj;intro l2 hl11
   have inner:∀(m j:Nat) (w:World),j+m=row.length->Vc.Own B w0 w (SlT mailE sj row::StarA ((List.zipWith (SlT mailE) ss bx).eraseIdx pre.length)::BlkA b [.slice s.a s.len s.cap]::SlT slE s ss::R)->l2 (owedB pre c+(((row.take j).filter fun m=>decide (m.frm=c)).length:Int)) (j:Int) w:=by
    intro m
    induction m with
    |zero=>
     intro j w hj h;apply hl11;refine cdecF (by omega) ?_;rw[List.take_of_length_le (by omega)];rw[show IntKind.i64.wrap ((pre.length:Int)+1)=(((pre++ [row]).length:Nat):Int) from by rw[wr (by omega) (by omega),List.length_append];rfl]
     have e2:owedB pre c+((row.filter fun m=>decide (m.frm=c)).length:Int)=owedB (pre++ [row]) c:=by
      unfold owedB;rw[List.map_append,List.sum_append];simp
     rw[e2];refine ih (pre++ [row]) w (by rw[hp];simp) ?_;have h2:=rowS_back (j:=pre.length) hl (by omega) h
     have e1:ss.set pre.length sj=ss:=by
      obtain ⟨p,q⟩:=List.getElem?_eq_some_iff.1 hsl;rw[←q];exact List.set_getElem_self p
     have e2:bx.set pre.length row=bx:=by
      obtain ⟨p,q⟩:=List.getElem?_eq_some_iff.1 hrow;rw[←q];exact List.set_getElem_self p
     rw[e1,e2] at h2;exact h2.sub
    |succ m ihm=>
     intro j w hj h;have hx:row[j]?=some row[j]:=gE (by omega);have hft:=filter_take row (fun m:Mail=>decide (m.frm=c)) j _ hx;generalize row[j]=y at hx hft;have hfl:=List.length_filter_le (fun m:Mail=>decide (m.frm=c)) (row.take j);rw[List.length_take] at hfl;apply hl11;refine cdecT (by omega) ?_;refine h.ixc (s:=sj) rfl hx fun a ha hc0 hc=>?_
     refine ldMail hc ?_;refine h.al fun w1 h=>?_
     generalize w.heap.size=d at h⊢;refine h.stLc rfl rfl fun w h=>?_
     (try dsimp only[putAt,List.set_cons_zero,List.set_cons_succ] at h)
     refine ⟨_,h.ldc rfl,?_⟩;have ew:IntKind.i64.wrap ((j:Int)+1)=((j+1:Nat):Int):=by rw[wr (by omega) (by omega)];omega
     rw[ew];have hob:owedB pre c≤512/\0≤owedB pre c:=by unfold owedB;omega
     have h:=h.drop;have hh:=ihm (j+1) w (by omega) h;rw[hft] at hh;refine ceq (fun e=>?_) (fun e=>?_)
     ·rw[if_pos (decide_eq_true e),List.length_append] at hh
      rw[wr (by omega) (by omega),Int.add_assoc];exact hh
     ·rw[if_neg (by rw[decide_eq_false e];decide),List.append_nil] at hh
      exact hh
   have:=inner row.length 0 w (by omega) h;rw[List.take_zero] at this;simpa using this
 exact loop bx [] w rfl h
end
section
variable {B:Nat} {w0 w:World} {R L:List Asn} {s:Sl}
theorem Reverse_int {xs:List Int} {K:Pw} (h:Vc.Own B w0 w (SlT intE s xs::L)) (hbig:xs.length≤1000000)
  (hK:∀w',Vc.Own B w0 w' (SlT intE s xs.reverse::L)->K w'):C.qal s K w:=by
 apply S.qal0;have hlen:=h.lenc s;intro l hl
 have loop:∀(m i:Nat) (ys:List Int) (w:World),xs.length≤2*i+m->ys.length=xs.length->(∀k,k<xs.length->ys[k]?=if k<i∨xs.length≤k+i then xs[xs.length-1-k]? else xs[k]?)->
   Vc.Own B w0 w (SlT intE s ys::L)->l (i:Int) ((xs.length:Int)-1-(i:Int)) w:=by
  have done:∀(i:Nat) (ys:List Int) (w:World),xs.length≤2*i+1->ys.length=xs.length->(∀k,k<xs.length->ys[k]?=if k<i∨xs.length≤k+i then xs[xs.length-1-k]? else xs[k]?)->
   Vc.Own B w0 w (SlT intE s ys::L)->l (i:Int) ((xs.length:Int)-1-(i:Int)) w:=fun i ys w hm hy hg h=>by
   apply hl;refine cdecF (by omega) ?_
   have e:ys=xs.reverse:=by
    refine List.ext_getElem? fun k=>?_
    by_cases hk:k<xs.length
    ·rw[hg k hk,List.getElem?_reverse hk]
     split
     ·rfl
     ·rename_i hn
      rw[show xs.length-1-k=k from by omega]
    ·rw[List.getElem?_eq_none (by omega),List.getElem?_eq_none (by rw[List.length_reverse];omega)]
   rw[e] at h;exact hK w h
  intro m
  induction m with
  |zero=>
   intro i ys w hm hy hg h;exact done i ys w (by omega) hy hg h
  |succ m ih=>
   intro i ys w hm hy hg h;by_cases hlt:xs.length≤2*i+1
   ·exact done i ys w hlt hy hg h
   apply hl;refine cdecT (by omega) ?_;refine h.dr fun w h=>?_
   have ej:((xs.length:Int)-1-(i:Int))=((xs.length-1-i:Nat):Int):=by omega
   have hi:ys[i]?=some ys[i]:=gE (by omega);have hj:ys[xs.length-1-i]?=some ys[xs.length-1-i]:=gE (by omega);have hlen2:=h.lenc s;generalize e1:ys[i]=yi at hi;generalize e2:ys[xs.length-1-i]=yj at hj;refine h.ixc (s:=s) ej hj fun a ha hc0 hc=>⟨_,hc0 _ rfl,?_⟩
   refine h.ixc (s:=s) rfl hi fun a2 ha2 hd0 hd=>⟨_,hd0 _ rfl,?_⟩
   refine ⟨a2,ha2,by omega,by omega,Go.Vc.a2 ?_⟩;refine h.stEc (s:=s) (E:=intE) (i:=(i:Int)) yj rfl (by omega) ha2 rfl fun w h=>?_
   refine ⟨a,ha,by omega,by omega,Go.Vc.a2 ?_⟩;refine h.stEc (s:=s) (E:=intE) (i:=((xs.length:Int)-1-(i:Int))) yi ej (by rw[List.length_set];omega) ha rfl fun w h=>?_
   rw[show IntKind.i64.wrap ((i:Int)+1)=((i+1:Nat):Int) from by rw[wr (by omega) (by omega)];omega,show IntKind.i64.wrap ((xs.length:Int)-1-(i:Int)-1)=(xs.length:Int)-1-((i+1:Nat):Int) from by rw[wr (by omega) (by omega)];omega];refine ih (i+1) _ w (by omega) (by rw[List.length_set,List.length_set];exact hy) (fun k hk=>?_) h;have g1:=hg i (by omega);have g2:=hg (xs.length-1-i) (by omega);rw[if_neg (by omega),hi] at g1;rw[if_neg (by omega),hj] at g2;by_cases k1:k=xs.length-1-i
   ·subst k1
    rw[List.getElem?_set_self (by rw[List.length_set];omega),if_pos (by omega),show xs.length-1-(xs.length-1-i)=i from by omega];exact g1
   ·rw[List.getElem?_set_ne (by omega)]
    by_cases k2:k=i
    ·subst k2
     rw[List.getElem?_set_self (by omega),if_pos (by omega)];exact g2
    ·rw[List.getElem?_set_ne (by omega),hg k hk]
     by_cases k3:k<i∨xs.length≤k+i
     ·rw[if_pos k3,if_pos (by omega)]
     ·rw[if_neg k3,if_neg (by omega)]
 have e0:IntKind.i64.wrap ((s.len:Int)-1)=(xs.length:Int)-1-((0:Nat):Int):=by rw[wr (by omega) (by omega)];omega
 rw[e0];exact loop xs.length 0 xs w (by omega) rfl (fun k hk=>by rw[if_neg (by omega)]) h
theorem IndexFunc_node {xs:List (Option Nat)} {p:Option Nat->Bool} {f:Value} {K:Int->Pw} [I:SlIn s L (Option Nat) optE xs] (h:Vc.Own B w0 w L) (hbig:xs.length≤1000000000)
  (hf:∀(y:Option Nat) (w:World) (Q:Bool->Pw),y∈xs->Vc.Own B w0 w L->(∀w',Vc.Own B w0 w' L->Q (p y) w')->CallV Tryz.prog f [.pointer (y.map fun q=>⟨q,0,none⟩)] w fun en w'=>∃r:Bool,en= .returned (.bool r)/\Q r w')
  (hK:∀w',Vc.Own B w0 w' L->K (idxI p xs) w'):C.qq s f K w:=by
 apply S.qq0;have hlen:=h.lenc s;intro l hl
 have loop:∀(rest:List (Option Nat)) (j:Nat) (w:World),xs.drop j=rest->j≤xs.length->(∀i,i<j->∀y,xs[i]?=some y->p y=false)->Vc.Own B w0 w L->l (j:Int) w:=by
  intro rest
  induction rest with
  |nil=>
   intro j w hj hjl hno h;have:xs.length≤j:=by have:=congrArg List.length hj;simp at this;omega
   apply hl;refine cdecF (by omega) ?_
   have hn:xs.findIdx? p=none:=by
    rw[List.findIdx?_eq_none_iff];intro y hy;obtain ⟨i,hi⟩:=List.mem_iff_getElem?.1 hy;exact hno i (by have:=(List.getElem?_eq_some_iff.1 hi).1;omega) y hi
   have e:idxI p xs= -1:=by unfold idxI;rw[hn]
   rw[←e];exact hK _ h
  |cons y rest ih=>
   intro j w hj hjl hno h;have hjl2:j<xs.length:=by have:=congrArg List.length hj;simp at this;omega
   have hx:xs[j]?=some y:=by
    have:=congrArg (fun l=>l[0]?) hj;simpa using this
   apply hl;refine cdecT (by omega) ?_;refine h.ixc rfl hx fun a ha h0 hc=>?_
   refine ⟨_,h0 _ rfl,?_⟩;refine hf y w _ (List.mem_of_getElem? hx) h fun w h=>?_
   cases hp:p y with
   |true=>
    refine cbT rfl ?_
    have hn:xs.findIdx? p=some j:=by
     rw[List.findIdx?_eq_some_iff_getElem];refine ⟨hjl2,?_,fun i hi=>?_⟩
     ·rw[gE hjl2] at hx;cases hx;exact hp
     ·have:=hno i hi xs[i] (gE (by omega))
      simp[this]
    have e:idxI p xs=(j:Int):=by unfold idxI;rw[hn]
    rw[←e];exact hK _ h
   |false=>
    refine cbF rfl ?_;rw[wr (by omega) (by omega)];refine ih (j+1) w (by rw[←List.drop_drop,hj];rfl) (by omega) (fun i hi z hz=>?_) h;by_cases e:i=j
    ·subst e;rw[hx] at hz;cases hz;exact hp
    ·exact hno i (by omega) z hz
 exact loop xs 0 w rfl (by omega) (fun i hi=>by omega) h
end
theorem lastO_snoc (p:Nat):∀(ps:List Nat) (a:Option Nat),lastO a (ps++ [p])=some p
 | [],a=>rfl
 |q::ps,a=>lastO_snoc p ps (some q)
theorem chain_snoc (p:Nat) (c:Int):∀(ps:List Nat) (cs:List Int) (a:Option Nat),ps.length=cs.length->chain a (ps++ [p]) (cs++ [c])=chain a ps cs++ [(lastO a ps,c)]
 | [],[],a,_=>rfl
 | [],_::_,a,h=>by simp at h
 |_::_,[],a,h=>by simp at h
 |q::ps,d::cs,a,h=>by
  show (a,d)::chain (some q) (ps++ [p]) (cs++ [c])=_;rw[chain_snoc p c ps cs (some q) (by simpa using h)];rfl
theorem chain_get:∀(ps:List Nat) (cs:List Int) (a:Option Nat) (j:Nat) (c:Int),ps.length=cs.length->cs[j]?=some c->(chain a ps cs)[j]?=some (lastO a (ps.take j),c)
 | [],[],a,j,c,_,h=>by simp at h
 | [],_::_,a,_,_,h,_=>by simp at h
 |_::_,[],a,_,_,h,_=>by simp at h
 |q::ps,d::cs,a,0,c,_,h=>by cases h;rfl
 |q::ps,d::cs,a,j+1,c,h1,h=>by
  show (chain (some q) ps cs)[j]?=_;rw[chain_get ps cs (some q) j c (by simpa using h1) h];rfl
section
variable {B:Nat} {w0 w:World} {R L:List Asn} {b nc:Nat} {line:List Int} {x:Lx}
theorem pts_cons {α:Type} {A:Nat->α->Asn} {p:Nat} {ps:List Nat} {y:α} {ys:List α} (h:Vc.Own B w0 w (PtsA A (p::ps) (y::ys)::R)):Vc.Own B w0 w (A p y::PtsA A ps ys::R):=by
 obtain ⟨hl,h⟩:=h.ptsO;have h:Vc.Own B w0 w (A p y::(List.zipWith A ps ys++R)):=h;exact Vc.Own.up1 (Vc.Own.mk_pts (by simpa using hl) (h.perm List.perm_middle.symm))
theorem ptLd {ps:List Nat} {xs:List (Option Nat × Int)} {j p:Nat} {y:Option Nat × Int} [I:Pick (PtsA NodeA ps xs) L R] (h:Vc.Own B w0 w L) (hp:ps[j]?=some p) (hy:xs[j]?=some y):
  w.cell? ⟨p,0,none⟩=some (.z y.2)/\w.cell? ((Addr.mk p 0 none).add 1)=some (.pointer (y.1.map fun q=>⟨q,0,none⟩))/\w.cell? ((Addr.mk p 0 none).add 2)=some (.bool true):=by
 have h2:Vc.Own B w0 w (BlkA p [.z y.2, .pointer (y.1.map fun q=>⟨q,0,none⟩), .bool true]::_):=(h.pick (A:=PtsA NodeA ps xs)).pt hp hy;exact ⟨h2.ldc rfl,h2.ldd rfl,h2.ldd rfl⟩
theorem blk_two {p:Nat} {a c:List Value} (h:Vc.Own B w0 w (BlkA p a::BlkA p c::R)):False:=by
 obtain ⟨G,hA,hG,Z,h1,h2,h3,h4⟩:=h.held.cons_out;cases Z with
 |nil=>cases h1
 |cons z Z=>
  have hz:z.1=BlkA p c:=(List.cons.inj h1).1;have h5:=(h2 z List.mem_cons_self).1;rw[hz] at h5;exact h4 z List.mem_cons_self p hA.1 h5.1
theorem pts_one {p j:Nat}:∀{ps:List Nat} {xs:List (Option Nat × Int)},Vc.Own B w0 w (PtsA NodeA ps xs::R)->ps[0]?=some p->ps[j+1]?=some p->False
 | [],_,_,h,_=>by simp at h
 |q::ps,xs,h,h0,hj=>by
  have hl:=h.pts_len;cases xs with
  |nil=>simp at hl
  |cons y xs=>
   have e0:q=p:=Option.some.inj h0;subst e0;obtain ⟨_,h⟩:=h.ptsO;have hj:ps[j]?=some q:=hj;have hlt:=(List.getElem?_eq_some_iff.1 hj).1
   have hz:(List.zipWith NodeA (q::ps) (y::xs)++R)[j+1]?=some (NodeA q (xs[j]'(by simp at hl;omega))):=by
    rw[List.getElem?_append_left (by simp at hl⊢;omega)];show (List.zipWith NodeA ps xs)[j]?=_;rw[List.getElem?_zipWith,hj,gE (by simp at hl;omega)]
   exact blk_two (h.take (j+1) hz)
theorem deadLd {q:Nat} [I:Pick (DeadA (some q)) L R] (h:Vc.Own B w0 w L):w.cell? ((Addr.mk q 0 none).add 2)=some (.bool false):=by
 obtain ⟨c,h2⟩:=(h.pick (A:=DeadA (some q))).ex;exact h2.ldd rfl
theorem Lok.get (hx:Lok nc line x) {c:Int} (hc:c∈line):∃(j:Nat) (p:Nat),line[j]?=some c/\x.ps[j]?=some p/\x.by_[c.toNat]?=some (some p):=by
 obtain ⟨j,hj⟩:=List.mem_iff_getElem?.1 hc;have hlt:=(List.getElem?_eq_some_iff.1 hj).1;have hl2:j<x.ps.length:=by rw[hx.ps];exact hlt
 have hp:x.ps[j]?=some x.ps[j]:=gE hl2;exact ⟨j,_,hj,hp,hx.at_ j c _ hj hp⟩
theorem Lok.out (hx:Lok nc line x) {c:Int} (h0:0≤c) (h1:c<(nc:Int)) (hc:c∉line):x.by_[c.toNat]?=some none:=hx.no c.toNat (by omega) (by rw[Int.toNat_of_nonneg h0];exact hc)
theorem lock_is {c:Int} {K:Bool->Pw} (h0:0≤c) (h1:c<(nc:Int)) (h:Vc.Own B w0 w (LockA b nc line::R)) (hK:K true w):C.qcD (some ⟨b,0,none⟩) c K w:=by
 apply S.qcD0;obtain ⟨x,hx,h⟩:=lockO h;refine cdecT (by omega) ?_;refine ⟨_,rfl,_,h.ldc rfl,?_⟩;rw[decide_eq_true h1];exact hK
theorem lock_New_spec {K:Option Addr->Int->Pw} (n1:1≤nc) (n8:nc≤8) (h:Vc.Own B w0 w R) (hK:∀b w',Vc.Own B w0 w' (LockA b nc []::R)->K (some ⟨b,0,none⟩) 0 w'):C.qdG (nc:Int) K w:=by
 apply S.qdG0;intro k hk;refine cdecF (by omega) ?_;apply hk;refine cdecF (by omega) ?_;have hb:Tryz.t147.bytes=8:=by kernel_rfl
 have hp48:(2:Int)^48=281474976710656:=by decide
 refine Vc.Own.mkSl (E:=optE) (z0:=none) (zv:= .pointer none) Tryz.underlying148 (show Tryz.prog.info? 147=some Tryz.t147 from by kernel_rfl) (by kernel_rfl) (by kernel_rfl) rfl (n:=(nc:Int)) h (by omega) (by rw[hb,hp48];omega) (by rw[hp48];omega) fun s w hs h=>?_
 rw[Int.toNat_natCast] at h;refine h.al fun w2 h=>?_
 refine hK _ w2 (mk_lock ⟨none,s,List.replicate nc none,[]⟩ ⟨by simp,rfl,List.nodup_nil,fun c hc=>(by cases hc),fun j c p hj=>(by simp at hj),fun i hi _=>(by rw[List.getElem?_replicate,if_pos hi])⟩ ?_);have h3:Vc.Own B w0 w2 (PtsA NodeA [] []::DeadA none::BlkA w.heap.size [.z (nc:Int), .pointer none, .slice s.a s.len s.cap]::SlT optE s (List.replicate nc none)::R):=Vc.Own.mk_pts rfl (Vc.Own.mk_star h);have h4:Vc.Own B w0 w2 (BlkA w.heap.size [.z (nc:Int), .pointer none, .slice s.a s.len s.cap]::SlT optE s (List.replicate nc none)::DeadA none::PtsA NodeA [] []::R):=h3.sub;exact h4
theorem lock_Enter_spec {c:Int} {K:Int->Pw} (h0:0≤c) (h1:c<(nc:Int)) (hc:c∉line) (h:Vc.Own B w0 w (LockA b nc line::R))
  (hK:∀w',Vc.Own B w0 w' (LockA b nc (line++ [c])::R)->K 0 w'):C.qaI (some ⟨b,0,none⟩) c K w:=by
 apply S.qaI0;refine lock_is h0 h1 h ?_;refine cbF rfl ?_;obtain ⟨x,hx,h⟩:=lockO h;have hlen:=h.lenc x.s;have hxl:=hx.len;refine ⟨_,rfl,x.s,h.ldd rfl,?_⟩;have ec:c=((c.toNat:Nat):Int):=by omega
 refine h.ixc (s:=x.s) ec (hx.out h0 h1 hc) fun a ha hc0 hcc=>⟨_,hc0 _ rfl,?_⟩
 refine cbF rfl ?_;refine ⟨_,rfl,_,h.ldd rfl,?_⟩;refine h.al fun w1 h=>?_
 generalize w.heap.size=p at h⊢;refine ⟨_,rfl,x.s,h.ldd rfl,_,rfl,?_⟩;refine h.std rfl rfl fun w h=>?_
 (try dsimp only[putAt,List.set_cons_zero,List.set_cons_succ] at h)
 refine ⟨a,ha,h0,by omega,?_⟩;refine h.stEc (s:=x.s) (E:=optE) (i:=c) (some p) ec (by omega) ha rfl fun w h=>?_
 refine hK w (mk_lock ⟨x.a0,x.s,x.by_.set c.toNat (some p),x.ps++ [p]⟩ ?_ ?_)
 ·have hps:=hx.ps
  refine ⟨by rw[List.length_set];exact hxl,by simp[hps],?_,fun d hd=>?_,fun j d q hj hq=>?_,fun i hi hn=>?_⟩
  ·exact List.nodup_append.2 ⟨hx.nd,by simp,fun u hu v hv=>by
    rw[List.mem_singleton] at hv;rintro rfl;exact hc (hv▸hu)⟩
  ·rcases List.mem_append.1 hd with hd|hd
   ·exact hx.rng d hd
   ·rw[List.mem_singleton.1 hd];exact ⟨h0,h1⟩
  ·dsimp only at hq⊢
   by_cases hjl:j<line.length
   ·rw[List.getElem?_append_left hjl] at hj
    rw[List.getElem?_append_left (by omega)] at hq;have hd:=List.mem_of_getElem? hj;have hr:=hx.rng d hd;rw[List.getElem?_set_ne (fun e=>hc (by rw[show c=d from by omega];exact hd))];exact hx.at_ j d q hj hq
   ·rw[List.getElem?_append_right (by omega)] at hj hq
    have e1:j-line.length=0:=by
     have:=(List.getElem?_eq_some_iff.1 hj).1;simp at this;omega
    rw[e1] at hj;rw[hps,e1] at hq;cases hj;cases hq;rw[List.getElem?_set_self (by omega)]
  ·dsimp only
   rw[List.getElem?_set_ne (fun e=>hn (List.mem_append_right _ (List.mem_singleton.2 (by omega))))];exact hx.no i hi fun hm=>hn (List.mem_append_left _ hm)
 ·show Vc.Own B w0 w (BlkA b [.z (nc:Int), .pointer ((lastO x.a0 (x.ps++ [p])).map fun q=>⟨q,0,none⟩), .slice x.s.a x.s.len x.s.cap]::SlT optE x.s (x.by_.set c.toNat (some p))::DeadA x.a0::PtsA NodeA (x.ps++ [p]) (chain x.a0 (x.ps++ [p]) (line++ [c]))::R)
  rw[lastO_snoc,chain_snoc p c _ _ _ hx.ps];have h1:Vc.Own B w0 w (BlkA p [.z c, .pointer ((lastO x.a0 x.ps).map fun q=>⟨q,0,none⟩), .bool true]::PtsA NodeA x.ps (chain x.a0 x.ps line)::BlkA b [.z (nc:Int), .pointer (some ⟨p,0,none⟩), .slice x.s.a x.s.len x.s.cap]::SlT optE x.s (x.by_.set c.toNat (some p))::DeadA x.a0::R):=h.sub;have h2:Vc.Own B w0 w (NodeA p (lastO x.a0 x.ps,c)::PtsA NodeA x.ps (chain x.a0 x.ps line)::BlkA b [.z (nc:Int), .pointer (some ⟨p,0,none⟩), .slice x.s.a x.s.len x.s.cap]::SlT optE x.s (x.by_.set c.toNat (some p))::DeadA x.a0::R):=h1;have h3:=h2.pt_add;have h4:Vc.Own B w0 w (BlkA b [.z (nc:Int), .pointer (some ⟨p,0,none⟩), .slice x.s.a x.s.len x.s.cap]::SlT optE x.s (x.by_.set c.toNat (some p))::DeadA x.a0::PtsA NodeA (x.ps++ [p]) (chain x.a0 x.ps line++ [(lastO x.a0 x.ps,c)])::R):=h3.sub;exact h4
theorem holds_at {R':List Asn} {j p:Nat} {c:Int} {K:Bool->Pw} (hx:Lok nc line x) (hj:line[j]?=some c) (hp:x.ps[j]?=some p) [I:Pick (PtsA NodeA x.ps (lineX x line)) L R] [I2:Pick (DeadA x.a0) L R'] (h:Vc.Own B w0 w L)
  (hK:K (decide (j=0)) w):C.qdi (some ⟨p,0,none⟩) K w:=by
 apply S.qdi0;have hg:=chain_get x.ps line x.a0 j c hx.ps hj;obtain ⟨g1,g2,g3⟩:=ptLd h hp hg;refine ⟨_,rfl,_,g2,?_⟩;cases j with
 |zero=>
  rw[List.take_zero] at g2⊢;show bif (Option.map _ x.a0).isNone then _ else _;cases ha:x.a0 with
  |none=>exact cbT rfl hK
  |some q=>
   rw[ha] at I2;have g2':w.cell? ((Addr.mk p 0 none).add 1)=some (.pointer (some ⟨q,0,none⟩)):=by rw[g2];show some (Value.pointer (Option.map _ x.a0))=_;rw[ha];rfl
   refine cbF rfl ⟨_,rfl,_,g2',_,rfl,_,deadLd (I:=I2) h,hK⟩
 |succ j=>
  have hlt:j+1<x.ps.length:=(List.getElem?_eq_some_iff.1 hp).1;have hjl:j<line.length:=by rw[←hx.ps];omega
  have ht:x.ps.take (j+1)=x.ps.take j++ [x.ps[j]]:=by rw[List.take_add_one,gE (by omega)];rfl
  rw[ht,lastO_snoc] at g2⊢;have hq:x.ps[j]?=some x.ps[j]:=gE (by omega);obtain ⟨_,_,k3⟩:=ptLd h hq (chain_get x.ps line x.a0 j _ hx.ps (gE hjl));exact cbF rfl ⟨_,rfl,_,g2,_,rfl,_,k3,hK⟩
theorem head_at (hx:Lok nc line x) {j:Nat} {c:Int} (hj:line[j]?=some c):probeL line c=decide (j=0):=by
 unfold probeL;rw[decide_eq_decide,List.head?_eq_getElem?];refine ⟨fun e=>?_,fun e=>by rw[←e];exact hj⟩;have h0:=(List.getElem?_eq_some_iff.1 e)
 have h1:=(List.getElem?_eq_some_iff.1 hj)
 obtain ⟨a0,b0⟩:=h0;obtain ⟨a1,b1⟩:=h1;cases j with
 |zero=>rfl
 |succ j=>exact absurd (b0.trans b1.symm) ((List.pairwise_iff_getElem.1 hx.nd) 0 (j+1) a0 a1 (by omega))
theorem lock_Probe_spec {c:Int} {K:Bool->Int->Pw} (h0:0≤c) (h1:c<(nc:Int)) (h:Vc.Own B w0 w (LockA b nc line::R))
  (hK:K (probeL line c) (if c∈line then 0 else 161) w):C.qbP (some ⟨b,0,none⟩) c K w:=by
 apply S.qbP0;refine lock_is h0 h1 h ?_;refine cbF rfl ?_;obtain ⟨x,hx,h⟩:=lockO h;have hlen:=h.lenc x.s;have hxl:=hx.len;refine ⟨_,rfl,x.s,h.ldd rfl,?_⟩;have ec:c=((c.toNat:Nat):Int):=by omega
 by_cases hc:c∈line
 ·rw[if_pos hc] at hK
  obtain ⟨j,p,hj,hp,hb⟩:=hx.get hc;refine h.ixc (s:=x.s) ec hb fun a ha hc0 hcc=>⟨_,hc0 _ rfl,?_⟩
  refine cbF rfl ?_;refine ⟨_,rfl,x.s,h.ldd rfl,?_⟩;refine h.ixc (s:=x.s) ec hb fun a ha hc0 hcc=>⟨_,hc0 _ rfl,?_⟩
  refine holds_at hx hj hp h ?_;rw[←head_at hx hj];exact hK
 ·rw[if_neg hc] at hK
  refine h.ixc (s:=x.s) ec (hx.out h0 h1 hc) fun a ha hc0 hcc=>⟨_,hc0 _ rfl,?_⟩
  refine cbT rfl ?_;have e:probeL line c=false:=decide_eq_false fun e=>hc (List.mem_of_mem_head? e)
  rw[e] at hK;exact hK
theorem lock_Leave_spec {c:Int} {cs:List Int} {K:Int->Pw} (h:Vc.Own B w0 w (LockA b nc (c::cs)::R))
  (hK:∀w',Vc.Own B w0 w' (LockA b nc cs::R)->K 0 w'):C.qaJ (some ⟨b,0,none⟩) c K w:=by
 obtain ⟨x0,hx0,_⟩:=lockO h;obtain ⟨h0,h1⟩:=hx0.rng c List.mem_cons_self;apply S.qaJ0;refine lock_Probe_spec h0 h1 h ?_;rw[if_pos List.mem_cons_self,show probeL (c::cs) c=true from decide_eq_true rfl];refine cneF rfl (cbF rfl ?_);clear hx0;obtain ⟨x,hx,h⟩:=lockO h;have hlen:=h.lenc x.s;have hxl:=hx.len;have hpl:=hx.ps;obtain ⟨a0,s,by_,ps⟩:=x;cases ps with
 |nil=>simp at hpl
 |cons p ps=>
  dsimp only at hlen hxl hpl h;have h:Vc.Own B w0 w (BlkA b [.z (nc:Int), .pointer ((lastO (some p) ps).map fun q=>⟨q,0,none⟩), .slice s.a s.len s.cap]::SlT optE s by_::DeadA a0::PtsA NodeA (p::ps) ((a0,c)::chain (some p) ps cs)::R):=h;have ec:c=((c.toNat:Nat):Int):=by omega
  have hb:=hx.at_ 0 c p rfl rfl;dsimp only at hb;refine ⟨_,rfl,s,h.ldd rfl,?_⟩;refine h.ixc (s:=s) ec hb fun a ha hc0 hcc=>⟨_,hc0 _ rfl,?_⟩
  have h:Vc.Own B w0 w (PtsA NodeA (p::ps) ((a0,c)::chain (some p) ps cs)::BlkA b [.z (nc:Int), .pointer ((lastO (some p) ps).map fun q=>⟨q,0,none⟩), .slice s.a s.len s.cap]::SlT optE s by_::R):=h.sub;have h:=pts_cons h;have h:Vc.Own B w0 w (BlkA p [.z c, .pointer (a0.map fun q=>⟨q,0,none⟩), .bool true]::PtsA NodeA ps (chain (some p) ps cs)::BlkA b [.z (nc:Int), .pointer ((lastO (some p) ps).map fun q=>⟨q,0,none⟩), .slice s.a s.len s.cap]::SlT optE s by_::R):=h;refine ⟨_,rfl,?_⟩;refine h.std rfl rfl fun w h=>⟨_,rfl,?_⟩
  refine h.std rfl rfl fun w h=>⟨_,rfl,s,?_,a,ha,h0,by omega,?_⟩
  ·exact h.ldd rfl
  refine h.stEc (s:=s) (E:=optE) (i:=c) none ec (by omega) ha rfl fun w h=>?_
  (try dsimp only[putAt,List.set_cons_zero,List.set_cons_succ] at h)
  refine hK w (mk_lock ⟨some p,s,by_.set c.toNat none,ps⟩ ?_ ?_)
  ·have hnd:=List.nodup_cons.1 hx.nd
   refine ⟨by rw[List.length_set];exact hxl,by simpa using hpl,hnd.2,fun d hd=>hx.rng d (List.mem_cons_of_mem _ hd),fun j d q hj hq=>?_,fun i hi hn=>?_⟩
   ·dsimp only at hq⊢
    have hd:=List.mem_of_getElem? hj;have hr:=hx.rng d (List.mem_cons_of_mem _ hd);rw[List.getElem?_set_ne (fun e=>hnd.1 (by rw[show c=d from by omega];exact hd))];exact hx.at_ (j+1) d q hj hq
   ·dsimp only
    by_cases e:c.toNat=i
    ·subst e
     rw[List.getElem?_set_self (by omega)]
    ·rw[List.getElem?_set_ne e]
     exact hx.no i hi fun hm=>by
      rcases List.mem_cons.1 hm with hm|hm
      ·omega
      ·exact hn hm
  ·have h2:Vc.Own B w0 w (BlkA p [.z c, .pointer none, .bool false]::PtsA NodeA ps (chain (some p) ps cs)::BlkA b [.z (nc:Int), .pointer ((lastO (some p) ps).map fun q=>⟨q,0,none⟩), .slice s.a s.len s.cap]::SlT optE s (by_.set c.toNat none)::R):=h.sub
   have h3:Vc.Own B w0 w (DeadA (some p)::PtsA NodeA ps (chain (some p) ps cs)::BlkA b [.z (nc:Int), .pointer ((lastO (some p) ps).map fun q=>⟨q,0,none⟩), .slice s.a s.len s.cap]::SlT optE s (by_.set c.toNat none)::R):=Vc.Own.mk_ex c h2;exact h3.sub
theorem lock_Holder_spec {K:Int->Bool->Pw} (hl8:nc≤8) (h:Vc.Own B w0 w (LockA b nc line::R))
  (hK:∀v w',Vc.Own B w0 w' (LockA b nc line::R)->K v (!line.isEmpty) w'):C.qbU (some ⟨b,0,none⟩) K w:=by
 apply S.qbU0;obtain ⟨x,hx,h⟩:=lockO h;have hxl:=hx.len;refine ⟨_,rfl,x.s,h.ldd rfl,?_⟩
 have hm:∀y∈x.by_,y=none∨∃j c p,y=some p/\line[j]?=some c/\x.ps[j]?=some p:=fun y hy=>by
  obtain ⟨i,hi⟩:=List.mem_iff_getElem?.1 hy;have hil:=(List.getElem?_eq_some_iff.1 hi).1;by_cases hc:(i:Int)∈line
  ·obtain ⟨j,p,h1,h2,h3⟩:=hx.get hc
   rw[Int.toNat_natCast,hi] at h3;exact .inr ⟨j,_,p,Option.some.inj h3,h1,h2⟩
  ·have:=hx.no i (by omega) hc
   rw[hi] at this;exact .inl (Option.some.inj this)
 refine IndexFunc_node (s:=x.s) (xs:=x.by_) (p:=fun y=>match y with|none=>false|some q=>decide (x.ps[0]?=some q)) h (by omega) (fun y w Q hy h hQ=>?_) fun w h=>?_
 ·refine callV_mk ?_
  show C.qbW (y.map fun q=>⟨q,0,none⟩) Q w;apply S.qbW0;rcases hm y hy with rfl|⟨j,c,p,rfl,hj,hp⟩
  ·exact cbF rfl (hQ w h)
  ·refine cbT rfl ?_
   refine holds_at hx hj hp h ?_
   have e:decide (x.ps[0]?=some p)=decide (j=0):=by
    rw[decide_eq_decide];refine ⟨fun e=>?_,fun e=>by rw[←e];exact hp⟩;cases j with
    |zero=>rfl
    |succ j=>
     exfalso;exact pts_one (h.pick (A:=PtsA NodeA x.ps (lineX x line))) e hp
   rw[←e];exact hQ w h
 ·have e:decide (idxI (fun y=>match y with|none=>false|some q=>decide (x.ps[0]?=some q)) x.by_≥0)= !line.isEmpty:=by
   rw[idxI_pos];cases hl:line with
   |nil=>
    rw[List.any_eq_false.2 fun y hy=>?_]
    ·rfl
    ·rcases hm y hy with rfl|⟨j,c,p,rfl,hj,hp⟩
     ·exact Bool.false_ne_true
     ·rw[hl] at hj;simp at hj
   |cons c cs=>
    have hlt:0<x.ps.length:=by rw[hx.ps,hl];simp
    have hp:x.ps[0]?=some x.ps[0]:=gE hlt;have hb:=hx.at_ 0 c _ (by rw[hl];rfl) hp;rw[List.any_eq_true.2 ⟨some x.ps[0],List.mem_of_getElem? hb,decide_eq_true hp⟩];rfl
  rw[e];exact hK _ w (mk_lock x hx h)
theorem lock_Line_spec {K:Sl->Pw} (hl8:nc≤8) (h:Vc.Own B w0 w (LockA b nc line::R))
  (hK:∀s w',Vc.Own B w0 w' (SlT intE s line::LockA b nc line::R)->K s w'):C.qcu (some ⟨b,0,none⟩) K w:=by
 apply S.qcu0;obtain ⟨x,hx,h⟩:=lockO h;have hps:=hx.ps
 have hbig:line.length≤8:=by
  have h1:(line.map Int.toNat).Nodup:=by
   rw[List.Nodup,List.pairwise_map];refine List.Pairwise.imp_of_mem (fun {a b} ha hb hab e=>?_) hx.nd;have h1:=hx.rng a ha;have h2:=hx.rng b hb;exact hab (by omega)
  have h2:=List.Nodup.length_le_of_subset (l₂:=List.range nc) h1 fun z hz=>by
   obtain ⟨d,hd,rfl⟩:=List.mem_map.1 hz;have:=hx.rng d hd;exact List.mem_range.2 (by omega)
  simp at h2;omega
 refine ⟨_,rfl,_,h.ldd rfl,?_⟩;intro l hl
 have loop:∀(r:Nat) (out:Sl) (w:World),r≤line.length->Vc.Own B w0 w (SlT intE out (line.drop r).reverse::BlkA b [.z (nc:Int), .pointer ((tailP x).map fun q=>⟨q,0,none⟩), .slice x.s.a x.s.len x.s.cap]::SlT optE x.s x.by_::DeadA x.a0::PtsA NodeA x.ps (lineX x line)::R)->
   l out ((lastO x.a0 (x.ps.take r)).map fun q=>⟨q,0,none⟩) w:=by
  intro r
  induction r with
  |zero=>
   intro out w hr h;apply hl;intro k hk
   have fin:k false w:=by
    apply hk;refine cbF rfl ?_;refine Reverse_int h (by simp;omega) fun w h=>?_
    rw[List.drop_zero,List.reverse_reverse] at h;exact hK out w (Vc.Own.up1 (mk_lock x hx h.up1.sub))
   rw[List.take_zero];show bif !(Option.map _ x.a0).isNone then _ else _;cases ha:x.a0 with
   |none=>exact cbF rfl fin
   |some q=>
    have hd:w.cell? ((Addr.mk q 0 none).add 2)=some (.bool false):=by
     rw[ha] at h;exact deadLd h
    exact cbT rfl ⟨_,rfl,_,hd,fin⟩
  |succ r ih=>
   intro out w hr h;have hrl:r<line.length:=by omega
   have hq:x.ps[r]?=some x.ps[r]:=gE (by omega);have ht:x.ps.take (r+1)=x.ps.take r++ [x.ps[r]]:=by rw[List.take_add_one,hq];rfl
   have hg:=chain_get x.ps line x.a0 r _ hx.ps (gE hrl);obtain ⟨g1,g2,g3⟩:=ptLd h hq hg;rw[ht,lastO_snoc];apply hl;intro k hk;refine cbT rfl ⟨_,rfl,_,g3,?_⟩;apply hk;refine cbT rfl ⟨_,rfl,_,g1,?_⟩;refine h.al fun w1 h=>?_
   generalize w.heap.size=d at h⊢;refine app1_int (s:=out) (y:=line[r]) h (by simp;omega) fun s' w hs' h=>?_
   obtain ⟨g1,g2,g3⟩:=ptLd h hq hg;refine ⟨_,rfl,_,g2,?_⟩;refine ih s' w (by omega) ?_;rw[List.drop_eq_getElem_cons hrl,List.reverse_cons];exact h.sub
 have e:x.ps.take line.length=x.ps:=List.take_of_length_le (by omega);have:=loop line.length ⟨none,0,0⟩ w (Nat.le_refl _) (by rw[List.drop_length];exact Vc.Own.nilS h);rw[e] at this;exact this
end
end Go.Proofs.YtghikphgplamkaaGreat.Mc
end
section
set_option maxRecDepth 8000
namespace Go.Proofs.YtghikphgplamkaaGreat
open Go Go.Vc Go.Proofs
def KerN (b nb nt:Nat) (k:Ker):Asn:=ExA fun x:Kx=>StarA [BlkA b (kcells x k.frames k.tabs nb nt),Sl.NodesA x.n k.bits k.H,Tr.TreeA x.tr k.T,Th.ThrA x.t k.t,LinesA x.ln k.ln,SlT untE x.su k.u,SlT ptE x.se x.pe,PtsA EndA x.pe k.ends,SlT ptE x.sn x.pn,PtsA NoteA x.pn k.notes,SlT ptE x.ss x.ps,PtsA Tb.SpcA x.ps k.spaces]
section
variable {B:Nat} {w0 w:World} {R L:List Asn} {b nb nt:Nat} {k:Ker} {N:Nat} {s:Sl}
theorem kerN (h:Vc.Own B w0 w (KerN b nb nt k::R)):∃x:Kx,Vc.Own B w0 w (BlkA b (kcells x k.frames k.tabs nb nt)::Sl.NodesA x.n k.bits k.H::Tr.TreeA x.tr k.T::Th.ThrA x.t k.t::LinesA x.ln k.ln::SlT untE x.su k.u::SlT ptE x.se x.pe::PtsA EndA x.pe k.ends::SlT ptE x.sn x.pn::PtsA NoteA x.pn k.notes::SlT ptE x.ss x.ps::PtsA Tb.SpcA x.ps k.spaces::R):=by
 obtain ⟨x,h⟩:=Vc.Own.ex h;exact ⟨x,h.star⟩
theorem mk_kerN (x:Kx) {bits:List Int} {H:Sl.Hs} {T:Tr.Tr} {t:Th.Mt} {ln:Lns} {u:List Unt} {ends:List Ept} {notes:List Nte} {spaces:List Tb.Spc} {fr tb:Nat}
  (h:Vc.Own B w0 w (BlkA b (kcells x fr tb nb nt)::Sl.NodesA x.n bits H::Tr.TreeA x.tr T::Th.ThrA x.t t::LinesA x.ln ln::SlT untE x.su u::SlT ptE x.se x.pe::PtsA EndA x.pe ends::SlT ptE x.sn x.pn::PtsA NoteA x.pn notes::SlT ptE x.ss x.ps::PtsA Tb.SpcA x.ps spaces::R)):
  Vc.Own B w0 w (KerN b nb nt ⟨bits,H,T,t,ln,u,ends,notes,spaces,fr,tb⟩::R):=Vc.Own.mk_ex x (Vc.Own.mk_star h)
theorem kerN_thr (h:Vc.Own B w0 w (KerN b nb nt k::R)):∃(bt:Nat) (Y:Asn),Vc.Own B w0 w (Th.ThrA bt k.t::Y::R)/\w.cell? ((Addr.mk b 0 none).add 2)=some (.pointer (some ⟨bt,0,none⟩))/\
  (∀R' w',Vc.Own B w0 w' (Th.ThrA bt k.t::Y::R')->w'.cell? ((Addr.mk b 0 none).add 2)=some (.pointer (some ⟨bt,0,none⟩)))/\
  (∀R' w' t,Vc.Own B w0 w' (Th.ThrA bt t::Y::R')->w'.cell? ((Addr.mk b 0 none).add 2)=some (.pointer (some ⟨bt,0,none⟩))/\Vc.Own B w0 w' (KerN b nb nt (k.setT t)::R')):=by
 obtain ⟨x,h⟩:=kerN h
 have hback:∀R' w' t,Vc.Own B w0 w' (Th.ThrA x.t t::StarA [BlkA b (kcells x k.frames k.tabs nb nt),Sl.NodesA x.n k.bits k.H,Tr.TreeA x.tr k.T,LinesA x.ln k.ln,SlT untE x.su k.u,SlT ptE x.se x.pe,PtsA EndA x.pe k.ends,SlT ptE x.sn x.pn,PtsA NoteA x.pn k.notes,SlT ptE x.ss x.ps,PtsA Tb.SpcA x.ps k.spaces]::R')->w'.cell? ((Addr.mk b 0 none).add 2)=some (.pointer (some ⟨x.t,0,none⟩))/\Vc.Own B w0 w' (KerN b nb nt (k.setT t)::R'):=fun R' w' t h=>by
  have h:Vc.Own B w0 w' (BlkA b (kcells x k.frames k.tabs nb nt)::Sl.NodesA x.n k.bits k.H::Tr.TreeA x.tr k.T::LinesA x.ln k.ln::SlT untE x.su k.u::SlT ptE x.se x.pe::PtsA EndA x.pe k.ends::SlT ptE x.sn x.pn::PtsA NoteA x.pn k.notes::SlT ptE x.ss x.ps::PtsA Tb.SpcA x.ps k.spaces::Th.ThrA x.t t::R'):=(h.up1).star;refine ⟨h.ldd rfl,?_⟩;exact (show Vc.Own B w0 w' (KerN b nb nt (k.setT t)::R') from mk_kerN x h.sub)
 have h1:Vc.Own B w0 w (Th.ThrA x.t k.t::StarA [BlkA b (kcells x k.frames k.tabs nb nt),Sl.NodesA x.n k.bits k.H,Tr.TreeA x.tr k.T,LinesA x.ln k.ln,SlT untE x.su k.u,SlT ptE x.se x.pe,PtsA EndA x.pe k.ends,SlT ptE x.sn x.pn,PtsA NoteA x.pn k.notes,SlT ptE x.ss x.ps,PtsA Tb.SpcA x.ps k.spaces]::R):=Vc.Own.up1 (Vc.Own.mk_star (show Vc.Own B w0 w (BlkA b (kcells x k.frames k.tabs nb nt)::Sl.NodesA x.n k.bits k.H::Tr.TreeA x.tr k.T::LinesA x.ln k.ln::SlT untE x.su k.u::SlT ptE x.se x.pe::PtsA EndA x.pe k.ends::SlT ptE x.sn x.pn::PtsA NoteA x.pn k.notes::SlT ptE x.ss x.ps::PtsA Tb.SpcA x.ps k.spaces::Th.ThrA x.t k.t::R) from h.sub));exact ⟨x.t,_,h1,(hback R w k.t h1).1,fun R' w' h=>(hback R' w' k.t h).1,hback⟩
theorem root_spec {i kind obj:Int} {K:Int->Pw} (hT:k.T.length<1000000) (h:Vc.Own B w0 w (KerN b nb nt k::R)) (hK:∀w',Vc.Own B w0 w' (KerN b nb nt (k.rootK i kind obj)::R)->K (IntKind.i64.wrap (i+1)) w'):C.qP (some ⟨b,0,none⟩) i kind obj K w:=by
 apply S.qP0;refine h.al fun w1 h=>?_
 generalize w.heap.size=c at h⊢;refine h.stLc rfl rfl fun w h=>?_
 (try dsimp only[putAt,List.set_cons_zero,List.set_cons_succ] at h)
 obtain ⟨x,h⟩:=kerN (h.pick (A:=KerN b nb nt k));refine h.dr fun w h=>?_
 refine ⟨_,rfl,_,h.ldc rfl,?_⟩;refine h.lc_2 rfl ⟨?_,trivial⟩;refine Sl.slots_Nodes_Put_spec (s:=(0,i)) (c:=⟨kind,obj,7,0,0,0⟩) capR_new (h.pick (A:=Sl.NodesA x.n k.bits k.H)) fun w h=>?_
 refine h.dr fun w h=>?_
 refine ⟨_,rfl,_,h.ldd rfl,?_⟩;refine h.lc_2 rfl ⟨?_,trivial⟩;refine Tr.tree_Root_spec (s:=(0,i)) hT (h.pick (A:=Tr.TreeA x.tr k.T)) fun w h=>?_
 refine hK w ?_;exact (show Vc.Own B w0 w (KerN b nb nt (k.rootK i kind obj)::R) from mk_kerN x h.sub)
theorem makeR_spec {t:Th.Mt} {bt:Nat} {p c:Int} {K:Int->Int->Pw} (hm:Th.MOk t) (h:Vc.Own B w0 w (Th.ThrA bt t::R)) (hK:∀w',Vc.Own B w0 w' (Th.ThrA bt (t.makeR p c).2.2::R)->K (t.makeR p c).1 (t.makeR p c).2.1 w'):C.qM (some ⟨bt,0,none⟩) p c K w:=by
 unfold Th.Mt.makeR at hK;refine Th.thr_Make_spec hm h (fun e w h=>?_) (fun e e1 w h=>?_) (fun e e1 w h=>?_)
 ·rw[if_pos e] at hK;exact hK w h
 ·rw[if_neg (fun hh=>hh e),if_pos e1] at hK;exact hK w h
 ·rw[if_neg (fun hh=>hh e),if_neg (by omega)] at hK;exact hK w h
set_option maxHeartbeats 2000000 in
theorem Boot_spec {c bits lines:Int} {prios:List Int} {K:Option Addr->Int->Pw} [I:SlIn s L Int intE prios] (h:Vc.Own B w0 w L) (hbig:prios.length≤1000000000)
  (hK0:Ker.rightB c bits lines prios=false->∀w',Vc.Own B w0 w' L->K none 1 w')
  (hK1:Ker.rightB c bits lines prios=true->∀b w',Vc.Own B w0 w' (KerA b (Ker.bootK c.toNat bits.toNat lines.toNat prios)::L)->K (some ⟨b,0,none⟩) 0 w'):C.qdl c bits lines s K w:=by
 apply S.qdl0;refine h.al fun w1 h=>?_
 generalize w.heap.size=cb at h⊢;refine h.lc_4 rfl ?_;refine right_spec (s:=s) h hbig fun w h=>?_
 cases hr:Ker.rightB c bits lines prios with
 |false=>exact cbT rfl (hK0 hr w h.drop)
 |true=>
 have hK:=hK1 hr;clear hK0 hK1;obtain ⟨b1,b2,b3,b4,b5,b6,b7,b8⟩:=of_decide_eq_true hr;clear hr;obtain ⟨c,rfl⟩:=Int.eq_ofNat_of_zero_le (show 0≤c by omega);obtain ⟨bits,rfl⟩:=Int.eq_ofNat_of_zero_le (show 0≤bits by omega);obtain ⟨lines,rfl⟩:=Int.eq_ofNat_of_zero_le b5;have b2:c≤8:=by omega
 have b9:4≤bits/\bits≤20:=⟨by omega,by omega⟩
 have b6:lines≤8:=by omega
 have b7:prios.length=c:=by omega
 simp only[Int.toNat_natCast] at hK;have hlen:s.len=prios.length:=(h.drop).lenc s;refine cbF rfl ?_;intro k12 hk12
 have fin:∀(kb n tr ub sp pb:Nat) (w:World),Vc.Own B w0 w (BlkA kb [.pointer (some ⟨n,0,none⟩), .pointer (some ⟨tr,0,none⟩), .pointer none, .pointer none, .slice (some ⟨ub,0,none⟩) 1 1, .slice none 0 0, .slice none 0 0, .slice (some ⟨pb,0,none⟩) 1 1, .z 0, .z 0, .z 1, .z c]::Sl.NodesA n [] (fun _=>none)::Tr.TreeA tr []::BlkA ub [.y 0, .z bits, .y 0]::Tb.SpcA sp Tb.newS::BlkA pb [.pointer (some ⟨sp,0,none⟩)]::BlkA cb [.z c, .z bits, .z lines, .slice s.a s.len s.cap]::L)->k12 (some ⟨kb,0,none⟩) w:=fun kb n tr ub sp pb w h=>by
  apply hk12;refine ⟨_,h.ldc rfl,?_⟩;refine Th.thr_New_spec h (fun e=>absurd ⟨by omega,by omega⟩ e) fun cc ecc _ _ bt w h=>?_
  obtain rfl:c=cc:=by omega
  refine ⟨_,rfl,?_⟩;refine h.std rfl rfl fun w h=>?_
  (try dsimp only[putAt,List.set_cons_zero,List.set_cons_succ] at h)
  refine irq_New_spec h fun bl w h=>?_
  refine ⟨_,rfl,?_⟩;refine h.std rfl rfl fun w h=>?_
  (try dsimp only[putAt,List.set_cons_zero,List.set_cons_succ] at h)
  refine ⟨_,rfl,_,h.ldc rfl,?_⟩;refine Sl.slots_Nodes_Make_spec (h.pick (A:=Sl.NodesA n [] (fun _=>none))) fun w h=>?_
  have h:=(h.pick (A:=BlkA ub [.y 0, .z bits, .y 0])).asSl (E:=untE) [⟨0,bits,0⟩] rfl;have h:=(h.pick (A:=BlkA pb [.pointer (some ⟨sp,0,none⟩)])).asSl (E:=ptE) [sp] rfl;have h:=Vc.Own.mk_pts (A:=EndA) (ps:=[]) (xs:=[]) rfl h;have h:=Vc.Own.nilS (E:=ptE) h;have h:=Vc.Own.mk_pts (A:=NoteA) (ps:=[]) (xs:=[]) rfl h;have h:=Vc.Own.nilS (E:=ptE) h;have h:=Vc.Own.mk_pts (A:=Tb.SpcA) (ps:=[sp]) (xs:=[Tb.newS]) rfl (h.pick (A:=Tb.SpcA sp Tb.newS));have h:Vc.Own B w0 w (PtsA Tb.SpcA [sp] [Tb.newS]::SlT ptE ⟨none,0,0⟩ []::PtsA NoteA [] []::SlT ptE ⟨none,0,0⟩ []::PtsA EndA [] []::SlT ptE ⟨some ⟨pb,0,none⟩,1,1⟩ [sp]::SlT untE ⟨some ⟨ub,0,none⟩,1,1⟩ [⟨0,bits,0⟩]::Sl.NodesA n [6] (fun _=>none)::LinesA bl (List.replicate 8 ⟨0,0,0⟩)::Th.ThrA bt (Th.newM c)::BlkA kb [.pointer (some ⟨n,0,none⟩), .pointer (some ⟨tr,0,none⟩), .pointer (some ⟨bt,0,none⟩), .pointer (some ⟨bl,0,none⟩), .slice (some ⟨ub,0,none⟩) 1 1, .slice none 0 0, .slice none 0 0, .slice (some ⟨pb,0,none⟩) 1 1, .z 0, .z 0, .z 1, .z c]::Tr.TreeA tr []::BlkA cb [.z c, .z bits, .z lines, .slice s.a s.len s.cap]::L):=h;have h:Vc.Own B w0 w (BlkA kb [.pointer (some ⟨n,0,none⟩), .pointer (some ⟨tr,0,none⟩), .pointer (some ⟨bt,0,none⟩), .pointer (some ⟨bl,0,none⟩), .slice (some ⟨ub,0,none⟩) 1 1, .slice none 0 0, .slice none 0 0, .slice (some ⟨pb,0,none⟩) 1 1, .z 0, .z 0, .z 1, .z c]::Sl.NodesA n [6] (fun _=>none)::Tr.TreeA tr []::Th.ThrA bt (Th.newM c)::LinesA bl (List.replicate 8 ⟨0,0,0⟩)::SlT untE ⟨some ⟨ub,0,none⟩,1,1⟩ [⟨0,bits,0⟩]::SlT ptE ⟨none,0,0⟩ []::PtsA EndA [] []::SlT ptE ⟨none,0,0⟩ []::PtsA NoteA [] []::SlT ptE ⟨some ⟨pb,0,none⟩,1,1⟩ [sp]::PtsA Tb.SpcA [sp] [Tb.newS]::BlkA cb [.z c, .z bits, .z lines, .slice s.a s.len s.cap]::L):=h.sub;have h:Vc.Own B w0 w (KerN kb 1 c (Ker.newK c bits)::BlkA cb [.z c, .z bits, .z lines, .slice s.a s.len s.cap]::L):=mk_kerN ⟨n,tr,bt,bl,⟨some ⟨ub,0,none⟩,1,1⟩,⟨none,0,0⟩,⟨none,0,0⟩,⟨some ⟨pb,0,none⟩,1,1⟩,[],[],[sp]⟩ h;have g0:=newK_ok (c:=c) b2 b9;obtain ⟨g1,g2⟩:=boot_two (c:=c) b2 b9;have few:∀{m:Nat} {k:Ker},BOk c m k->k.T.length<1000000:=fun g=>by have:=g.ok.few;omega
  refine root_spec (i:=0) (kind:=2) (obj:=0) (few g0) h fun w h=>?_
  rw[show IntKind.i64.wrap (0+1)=1 from by decide];refine root_spec (i:=1) (kind:=1) (obj:=0) (few g1) h fun w h=>?_
  rw[show IntKind.i64.wrap (1+1)=2 from by decide];refine ⟨s,h.ldd rfl,?_⟩;intro l36 hl36
  have loop:∀(ps:List Int) (j:Nat) (k:Ker) (w:World),prios.drop j=ps->j+ps.length=c->BOk c (2+j) k->k.t.ths.length=j->Ker.bootT ps j k=Ker.bootT prios 0 (((Ker.newK c bits).rootK 0 2 0).rootK 1 1 0)->
    Vc.Own B w0 w (KerN kb 1 c k::BlkA cb [.z c, .z bits, .z lines, .slice s.a s.len s.cap]::L)->l36 ((2+j:Nat):Int) (j:Int) w:=by
   intro ps
   induction ps with
   |nil=>
    intro j k w hd hj g ht he h;have hj:j=c:=hj;have he:k=_:=he;apply hl36;refine cdecF (by omega) ?_;refine root_spec (i:=((2+j:Nat):Int)) (kind:=8) (obj:=0) (few g) h fun w h=>?_
    refine ⟨_,h.ldd rfl,?_⟩;intro l61 hl61;have g3:=g.space (by omega)
    have lines_loop:∀(q t:Nat) (k:Ker) (w:World),t+q=lines->BOk c (3+c+t) k->Ker.bootL q t (3+prios.length) k=Ker.bootK c bits lines prios->k.t.ths.length=c->Vc.Own B w0 w (KerN kb 1 c k::BlkA cb [.z c, .z bits, .z lines, .slice s.a s.len s.cap]::L)->l61 ((3+c+t:Nat):Int) (t:Int) w:=by
     intro q
     induction q with
     |zero=>
      intro t k w hq g he ht h;have he:k=Ker.bootK c bits lines prios:=he;apply hl61;refine cdecF (by omega) ?_;refine hK kb w ?_;rw[←he]
      have h2:KerN kb 1 c k=KerA kb k:=by
       unfold KerN KerA;rw[ht,g.bits];rfl
      rw[h2] at h;exact h.sub
     |succ q ih=>
      intro t k w hq g he ht h;apply hl61;refine cdecT (by omega) ?_;refine root_spec (i:=((3+c+t:Nat):Int)) (kind:=9) (obj:=(t:Int)) (few g) h fun w h=>?_
      rw[show IntKind.i64.wrap (((3+c+t:Nat):Int)+1)=((3+c+(t+1):Nat):Int) from by rw[wr (by omega) (by omega)];omega,
       show IntKind.i64.wrap ((t:Int)+1)=((t+1:Nat):Int) from by rw[wr (by omega) (by omega)];omega]
      refine ih (t+1) _ w (by omega) (g.line (by omega) (by omega)) ?_ ht h;rw[←he,b7];rfl
    have hi:IntKind.i64.wrap (((2+j:Nat):Int)+1)=((3+c+0:Nat):Int):=by rw[wr (by omega) (by omega)];omega
    rw[hi];refine lines_loop lines 0 (k.rootK ((2+j:Nat):Int) 8 0) w (by omega) (show BOk c (3+c+0) (k.rootK ((2+j:Nat):Int) 8 0) from by rw[show 3+c+0=2+j+1 from by omega];exact g3) ?_ (ht.trans hj) h;unfold Ker.bootK;rw[←he,hj,b7]
   |cons p ps ih=>
    intro j k w hd hj g ht he h;rw[List.length_cons] at hj
    have hx:prios[j]?=some p:=by
     have:=congrArg (fun l=>l[0]?) hd;simpa using this
    have hp:0≤p/\p<256:=b8 p (List.mem_of_getElem? hx);obtain ⟨g3,g4,g5⟩:=g.thread (by omega) b2 ht hp;apply hl36;refine cdecT (by omega) ?_;refine h.ixc (s:=s) (i:=(j:Int)) (j:=j) rfl hx fun a ha h0 hcc=>⟨_,h0 _ rfl,?_⟩
    obtain ⟨bt,Y,h,hc2,_,hback⟩:=kerN_thr h;refine ⟨_,rfl,_,hc2,?_⟩;refine makeR_spec g.ok.inv.ok h fun w h=>?_
    refine ⟨_,rfl,_,(hback _ w _ h).1,?_⟩;have i1:=g.ok.inv.makeR p (j:Int);refine Th.resume_g i1.ok h fun w h=>?_
    refine ⟨_,rfl,_,(hback _ w _ h).1,?_⟩;refine Th.thr_Pick_spec (i1.resume _).ok h fun w h=>?_
    have h:=(hback _ w _ h).2;refine root_spec (k:=k.setT (((k.t.makeR p (j:Int)).2.2.resumeR (k.t.makeR p (j:Int)).1).2.pickC (j:Int))) (i:=((2+j:Nat):Int)) (kind:=3) (obj:=(k.t.makeR p (j:Int)).1) (show k.T.length<1000000 from few g) h fun w h=>?_
    rw[show IntKind.i64.wrap (((2+j:Nat):Int)+1)=((2+(j+1):Nat):Int) from by rw[wr (by omega) (by omega)];omega,
     show IntKind.i64.wrap ((j:Int)+1)=((j+1:Nat):Int) from by rw[wr (by omega) (by omega)];omega]
    refine ih (j+1) _ w ?_ (by omega) g3 g4 (he▸rfl) h;rw[←List.drop_drop,hd];rfl
  exact loop prios 0 _ w rfl (by omega) g2 rfl rfl h
 refine h.dr fun w h=>?_
 refine ⟨_,h.ldd rfl,_,h.ldc rfl,?_,?_,trivial⟩
 ·refine Sl.slots_New_spec h fun n w h=>?_
  refine ⟨h.ldc rfl,h.ldd rfl,?_,?_,trivial⟩
  ·refine Tr.tree_New_spec h fun tr w h=>?_
   refine ⟨h.ldc rfl,h.ldd rfl,?_,?_,trivial⟩
   ·refine h.al fun v1 h=>?_
    generalize w.heap.size=ub at h⊢;refine ⟨?_,trivial⟩;refine Tb.New_spec h fun sp w h=>?_
    refine ⟨h.ldc rfl,?_,trivial⟩;refine h.al fun v2 h=>⟨?_,trivial⟩
    generalize w.heap.size=pb at h⊢;refine h.al fun v3 h=>?_
    generalize v2.heap.size=kb at h⊢;exact fin kb n tr ub sp pb _ h.sub
   ·refine Tb.New_spec h fun sp w h=>?_
    refine ⟨h.ldc rfl,h.ldd rfl,?_,?_,trivial⟩
    ·refine h.al fun v1 h=>⟨?_,trivial⟩
     generalize w.heap.size=ub at h⊢;refine h.al fun v2 h=>⟨?_,trivial⟩
     generalize v1.heap.size=pb at h⊢;refine h.al fun v3 h=>?_
     generalize v2.heap.size=kb at h⊢;exact fin kb n tr ub sp pb _ h.sub
    ·refine h.al fun v1 h=>⟨?_,trivial⟩
     generalize w.heap.size=pb at h⊢;refine h.al fun v2 h=>⟨?_,trivial⟩
     generalize v1.heap.size=ub at h⊢;refine h.al fun v3 h=>?_
     generalize v2.heap.size=kb at h⊢;exact fin kb n tr ub sp pb _ h.sub
  ·refine h.al fun v1 h=>⟨?_,trivial⟩
   generalize w.heap.size=ub at h⊢;refine Tr.tree_New_spec h fun tr w h=>?_
   refine ⟨h.ldc rfl,?_,trivial⟩;refine Tb.New_spec h fun sp w h=>?_
   refine ⟨h.ldc rfl,?_,trivial⟩;refine h.al fun v2 h=>⟨?_,trivial⟩
   generalize w.heap.size=pb at h⊢;refine h.al fun v3 h=>?_
   generalize v2.heap.size=kb at h⊢;exact fin kb n tr ub sp pb _ h.sub
 ·refine h.al fun v1 h=>⟨?_,trivial⟩
  generalize w.heap.size=ub at h⊢;refine Sl.slots_New_spec h fun n w h=>?_
  refine ⟨h.ldc rfl,?_,trivial⟩;refine Tr.tree_New_spec h fun tr w h=>?_
  refine ⟨h.ldc rfl,?_,trivial⟩;refine Tb.New_spec h fun sp w h=>?_
  refine ⟨h.ldc rfl,?_,trivial⟩;refine h.al fun v2 h=>⟨?_,trivial⟩
  generalize w.heap.size=pb at h⊢;refine h.al fun v3 h=>?_
  generalize v2.heap.size=kb at h⊢;exact fin kb n tr ub sp pb _ h.sub
end
end Go.Proofs.YtghikphgplamkaaGreat
end
section
set_option maxRecDepth 8000
namespace Go.Proofs.YtghikphgplamkaaGreat.Mc
open Go Go.Vc Go.Proofs
theorem zipC_set {p:Nat} {x':Cor × Sl}:∀(ps:List Nat) (xs:List (Cor × Sl)) (j:Nat),ps[j]?=some p->cms ps (xs.set j x')=(cms ps xs).set j (cm p x')
 | [],xs,j,h=>by simp at h
 |_::_,[],j,_=>by cases j<;>simp
 |s::ps,r::xs,0,h=>by simp at h;subst h;simp
 |s::ps,r::xs,j+1,h=>by simp[zipC_set ps xs j (by simpa using h)]
section
variable {B:Nat} {w0 w:World} {R L:List Asn} {b nc N g:Nat} {m:Mch}
theorem focus (hm:MOk nc N g m) {n:Int} (h0:0≤n) (h1:n<(nc:Int)) (h:Vc.Own B w0 w (MchA b m::R)):
  ∃(x:Mx) (p:Nat) (fs:Sl) (Y:Asn),(cms x.ps x.xs)[n.toNat]?=some (cm p (m.corAt n,fs))/\(cms x.ps x.xs).length=nc/\
   Vc.Own B w0 w (BlkA b (mcells x)::KerA x.k m.k::LockA x.l nc m.line::BoxA x.b m.bx::SlT corE x.cs (cms x.ps x.xs)::TlbA p m.room (m.corAt n).tl::SlT lneE fs (m.corAt n).told.forget::Y::SlT callE x.pr m.prog::R)/\
   ∀(R':List Asn) (m':Mch) (c':Cor) (fs':Sl) (w':World),m'.cs=m.cs.set n.toNat c'->m'.room=m.room->m'.prog=m.prog->
    Vc.Own B w0 w' (BlkA b (mcells x)::KerA x.k m'.k::LockA x.l nc m'.line::BoxA x.b m'.bx::SlT corE x.cs ((cms x.ps x.xs).set n.toNat (cm p (c',fs')))::TlbA p m.room c'.tl::SlT lneE fs' c'.told.forget::Y::SlT callE x.pr m.prog::R')->Vc.Own B w0 w' (MchA b m'::R'):=by
 obtain ⟨x,hx,h⟩:=mchO h;have hcs:=hm.cs;rw[hcs] at h;obtain ⟨c1,_⟩:=hm.cor h0 h1;have hxl:x.xs.length=nc:=by rw[←hcs,←hx,List.length_map]
 have hpl:x.ps.length=x.xs.length:=Vc.Own.pts_len (h.pick (A:=PtsA (CoreA m.room) x.ps x.xs));have hlt:n.toNat<nc:=by omega
 have hp:x.ps[n.toNat]?=some x.ps[n.toNat]:=gE (by omega);generalize x.ps[n.toNat]=p at hp;have hxn:x.xs[n.toNat]?=some x.xs[n.toNat]:=gE (by omega)
 have ec:x.xs[n.toNat].1=m.corAt n:=by
  rw[←hx,List.getElem?_map,hxn] at c1;exact Option.some.inj c1
 generalize hy:x.xs[n.toNat]=y at hxn ec;obtain ⟨c,fs⟩:=y;dsimp only at ec;subst ec;refine ⟨x,p,fs,StarA ((List.zipWith (CoreA m.room) x.ps x.xs).eraseIdx n.toNat),?_,?_,?_,fun R' m' c' fs' w' e1 e2 e3 h=>?_⟩
 ·rw[List.getElem?_zipWith,hp,hxn]
 ·rw[List.length_zipWith];omega
 ·have h2:=Vc.Own.ptS (h.pick (A:=PtsA (CoreA m.room) x.ps x.xs)) hp hxn
  have h3:Vc.Own B w0 w (StarA [TlbA p m.room (m.corAt n).tl,SlT lneE fs (m.corAt n).told.forget]::StarA ((List.zipWith (CoreA m.room) x.ps x.xs).eraseIdx n.toNat)::BlkA b (mcells x)::KerA x.k m.k::LockA x.l nc m.line::BoxA x.b m.bx::SlT corE x.cs (cms x.ps x.xs)::SlT callE x.pr m.prog::R):=h2;have h4:Vc.Own B w0 w (TlbA p m.room (m.corAt n).tl::SlT lneE fs (m.corAt n).told.forget::StarA ((List.zipWith (CoreA m.room) x.ps x.xs).eraseIdx n.toNat)::BlkA b (mcells x)::KerA x.k m.k::LockA x.l nc m.line::BoxA x.b m.bx::SlT corE x.cs (cms x.ps x.xs)::SlT callE x.pr m.prog::R):=h3.star;exact h4.sub
 ·rw[←zipC_set _ _ _ hp] at h
  have h2:Vc.Own B w0 w' (TlbA p m.room c'.tl::SlT lneE fs' c'.told.forget::StarA ((List.zipWith (CoreA m.room) x.ps x.xs).eraseIdx n.toNat)::BlkA b (mcells x)::KerA x.k m'.k::LockA x.l nc m'.line::BoxA x.b m'.bx::SlT corE x.cs (cms x.ps (x.xs.set n.toNat (c',fs')))::SlT callE x.pr m.prog::R'):=h.sub;have h3:Vc.Own B w0 w' (CoreA m.room p (c',fs')::StarA ((List.zipWith (CoreA m.room) x.ps x.xs).eraseIdx n.toNat)::BlkA b (mcells x)::KerA x.k m'.k::LockA x.l nc m'.line::BoxA x.b m'.bx::SlT corE x.cs (cms x.ps (x.xs.set n.toNat (c',fs')))::SlT callE x.pr m.prog::R'):=Vc.Own.mk_star h2;have h4:=Vc.Own.ptS_back (A:=CoreA m.room) hpl hp h3;refine mk_mch { x with xs:=x.xs.set n.toNat (c',fs')} ?_ ?_
  ·dsimp only
   rw[List.map_set,hx,e1]
  ·rw[e2,e3,e1,List.length_set,hcs]
   exact h4.sub
theorem corLd {s:Sl} {xs:List Cm} {y:Cm} {n:Int} {G:Addr->Prop} [I:SlIn s L Cm corE xs] (h:Vc.Own B w0 w L) (h0:0≤n) (hy:xs[n.toNat]?=some y)
  (hG:∀a,s.a=some a->(∀v,(corE.enc y)[0]?=some v->w.cell? (a.add (n.toNat*7))=some v)->(∀c v,(corE.enc y)[c]?=some v->w.cell? ((a.add (n.toNat*7)).add c)=some v)->G a):
  ∃a,s.a=some a/\0≤n/\n<(s.len:Int)/\G a:=h.ixc (s:=s) (show n=((n.toNat:Nat):Int) by omega) hy hG
theorem corAt_ {s:Sl} {xs:List Cm} {y:Cm} {n:Int} [I:SlIn s L Cm corE xs] (h:Vc.Own B w0 w L) (h0:0≤n) (hy:xs[n.toNat]?=some y) {a:Addr} (ha:s.a=some a):
  (∀v,(corE.enc y)[0]?=some v->w.cell? (a.add (n.toNat*7))=some v)/\(∀c v,(corE.enc y)[c]?=some v->w.cell? ((a.add (n.toNat*7)).add c)=some v):=h.ixa (s:=s) (show n=((n.toNat:Nat):Int) by omega) hy ha
theorem zero_seen {c:Nat} {K:Int->Int->Int->Int->Int->Int->Sl->Int->Int->Bool->Pw} {l:List Value} (hl:l.length=10) (h:Vc.Own B w0 w (BlkA c l::R)) (hK:∀w',Vc.Own B w0 w' R->K 0 0 0 0 0 0 ⟨none,0,0⟩ 0 0 false w'):
  StL w ⟨c,0,none⟩ 0 [.z (0:Int), .z (0:Int), .z (0:Int), .z (0:Int), .y (0:Int), .z (0:Int), .slice none 0 0, .z (0:Int), .z (0:Int), .bool false] fun w45=>
   LdL w45 ⟨c,0,none⟩ 0 [.o, .o, .o, .o, .u, .o, .s, .o, .o, .b] fun (r46:Int) (r47:Int) (r48:Int) (r49:Int) (r50:Int) (r51:Int) (r52:Sl) (r53:Int) (r54:Int) (r55:Bool)=>
   K r46 r47 r48 r49 r50 r51 r52 r53 r54 r55 w45:=by
 obtain ⟨v0,v1,v2,v3,v4,v5,v6,v7,v8,v9,rfl⟩:∃v0 v1 v2 v3 v4 v5 v6 v7 v8 v9,l= [v0,v1,v2,v3,v4,v5,v6,v7,v8,v9]:=by
  match l,hl with
  | [v0,v1,v2,v3,v4,v5,v6,v7,v8,v9],_=>exact ⟨v0,v1,v2,v3,v4,v5,v6,v7,v8,v9,rfl⟩
 refine h.stLc rfl rfl fun w h=>?_
 (try dsimp only[putAt,List.set_cons_zero,List.set_cons_succ] at h)
 refine h.lc_10 (x6:=(⟨none,0,0⟩:Sl)) rfl ?_;exact hK w h.drop
theorem put_seen {c:Nat} {K:Int->Int->Int->Int->Int->Int->Sl->Int->Int->Bool->Pw} {l:List Value} {k n i e w1 wk p q:Int} {fs:Sl} {is:Bool} (hl:l.length=10) (h:Vc.Own B w0 w (BlkA c l::R)) (hK:∀w',Vc.Own B w0 w' R->K k n i e w1 wk fs p q is w'):
  StL w ⟨c,0,none⟩ 0 [.z k, .z n, .z i, .z e, .y w1, .z wk, .slice fs.a fs.len fs.cap, .z p, .z q, .bool is] fun w45=>
   LdL w45 ⟨c,0,none⟩ 0 [.o, .o, .o, .o, .u, .o, .s, .o, .o, .b] fun (r46:Int) (r47:Int) (r48:Int) (r49:Int) (r50:Int) (r51:Int) (r52:Sl) (r53:Int) (r54:Int) (r55:Bool)=>
   K r46 r47 r48 r49 r50 r51 r52 r53 r54 r55 w45:=by
 obtain ⟨v0,v1,v2,v3,v4,v5,v6,v7,v8,v9,rfl⟩:∃v0 v1 v2 v3 v4 v5 v6 v7 v8 v9,l= [v0,v1,v2,v3,v4,v5,v6,v7,v8,v9]:=by
  match l,hl with
  | [v0,v1,v2,v3,v4,v5,v6,v7,v8,v9],_=>exact ⟨v0,v1,v2,v3,v4,v5,v6,v7,v8,v9,rfl⟩
 refine h.stLc rfl rfl fun w h=>?_
 (try dsimp only[putAt,List.set_cons_zero,List.set_cons_succ] at h)
 refine h.lc_10 (x6:=fs) rfl ?_;exact hK w h.drop
theorem right_i {x:Item} {c:Int} {K:Bool->Pw} (h:Vc.Own B w0 w R) (hK:∀w',Vc.Own B w0 w' R->K (rightI x c) w'):C.qcY x.kind x.core x.a x.b c K w:=by
 apply S.qcY0;refine h.al fun w1 h=>?_
 generalize w.heap.size=d at h⊢
 have byt:∀(n:Int) (w:World) (Q:Bool->Pw),Q (decide (0≤n/\n≤255)) w->CallV Tryz.prog (.func (.func 50) #[] #[]) [.z n] w fun en w'=>∃r:Bool,en= .returned (.bool r)/\Q r w':=fun n w Q hQ=>by
  refine callV_mk ?_;show C.qcQ n Q w;apply S.qcQ0;refine cdec (fun e=>?_) (fun e=>?_)
  ·rw[show decide (n≤255)=decide (0≤n/\n≤255) from by rw[decide_eq_decide];omega]
   exact hQ
  ·rw[decide_eq_false (show ¬(0≤n/\n≤255) by omega)] at hQ
   exact hQ
 have no:∀w,Vc.Own B w0 w (BlkA d [.z x.kind, .z x.core, .z x.a, .z x.b]::R)->¬(0≤x.kind/\x.kind<4/\0≤x.core/\x.core<min c 8/\(0≤x.a/\x.a≤255)/\(0≤x.b/\x.b≤255))->K false w:=fun w h e=>by
  have e2:rightI x c=false:=decide_eq_false e;rw[e2] at hK;exact hK w h.drop
 refine ⟨_,h.ldc rfl,?_⟩;refine cdec (fun e1=>?_) (fun e=>no _ h (by omega));refine ⟨_,h.ldc rfl,?_⟩;refine cdec (fun e2=>?_) (fun e=>no _ h (by omega));refine ⟨_,h.ldd rfl,?_⟩;refine cdec (fun e3=>?_) (fun e=>no _ h (by omega));refine ⟨_,h.ldd rfl,?_⟩;rw[show minI c 8=min c 8 from by unfold minI;omega];refine cdec (fun e4=>?_) (fun e=>no _ h (by omega));refine ⟨_,h.ldd rfl,?_⟩;refine byt _ _ _ ?_;refine cdec (fun e5=>?_) (fun e=>no _ h (by omega));refine ⟨_,h.ldd rfl,?_⟩;refine byt _ _ _ ?_
 have e6:rightI x c=decide (0≤x.b/\x.b≤255):=by
  unfold rightI;rw[decide_eq_decide];omega
 rw[e6] at hK;exact hK _ h.drop
theorem free_spec {K:Bool->Pw} (hm:MOk nc N g m) (h:Vc.Own B w0 w (MchA b m::R)) (hK:∀w',Vc.Own B w0 w' (MchA b m::R)->K m.line.isEmpty w'):C.qaF (some ⟨b,0,none⟩) K w:=by
 apply S.qaF0;obtain ⟨x,hx,h⟩:=mchO h;refine ⟨_,rfl,_,h.ldd rfl,?_⟩;refine lock_Holder_spec (by have:=hm.cs;have:=hm.n8;omega) (h.pick (A:=LockA x.l m.cs.length m.line)) fun v w h=>?_
 rw[Bool.not_not];exact hK w (mk_mch x hx h.sub)
theorem is_spec {n:Int} {K:Bool->Pw} (hm:MOk nc N g m) (h:Vc.Own B w0 w (MchA b m::R)) (hK:K (decide (0≤n/\n<(nc:Int))) w):C.qaG (some ⟨b,0,none⟩) n K w:=by
 apply S.qaG0;obtain ⟨x,hx,h⟩:=mchO h;have hxl:x.xs.length=nc:=by rw[←hm.cs,←hx,List.length_map]
 have hpl:x.ps.length=x.xs.length:=Vc.Own.pts_len (h.pick (A:=PtsA (CoreA m.room) x.ps x.xs));have hlen:=h.lenc x.cs;rw[List.length_zipWith] at hlen;refine cdec (fun e=>?_) (fun e=>?_)
 ·refine ⟨_,rfl,_,h.ldd rfl,?_⟩
  rw[show decide (n<(x.cs.len:Int))=decide (0≤n/\n<(nc:Int)) from by rw[decide_eq_decide];omega];exact hK
 ·rw[decide_eq_false (show ¬(0≤n/\n<(nc:Int)) by omega)] at hK
  exact hK
end
theorem ldLaid {w:World} {a:Addr} {x:Int × Tb.Pg} {f:Int->Int->Int->Prop} (g:∀c v,(Tb.laidE.enc x)[c]?=some v->w.cell? (a.add c)=some v) (hf:f x.1 x.2.1 x.2.2):
  LdL w a 0 [.o, .o, .o] f:=⟨_,g 0 _ rfl,_,g 1 _ rfl,_,g 2 _ rfl,hf⟩
theorem addadd (a:Addr) (i j:Nat):(a.add i).add j=a.add (i+j):=by
 unfold Addr.add;by_cases hj:j=0
 ·subst hj;simp
 ·by_cases hi:i=0
  ·subst hi;simp[hj]
  ·simp[hi,hj,Nat.add_assoc]
section
variable {B:Nat} {w0 w:World} {R L:List Asn} {s:Sl} {xs:List (Int × Tb.Pg)}
theorem IndexFunc_laid {p:(Int × Tb.Pg)->Bool} {f:Value} {K:Int->Pw} [I:SlIn s L (Int × Tb.Pg) Tb.laidE xs] (h:Vc.Own B w0 w L) (hbig:xs.length≤1000000000)
  (hf:∀(y:(Int × Tb.Pg)) (w:World) (Q:Bool->Pw),Vc.Own B w0 w L->(∀w',Vc.Own B w0 w' L->Q (p y) w')->CallV Tryz.prog f [.agg ⟨Tb.laidE.enc y⟩] w fun en w'=>∃r:Bool,en= .returned (.bool r)/\Q r w')
  (hK:∀w',Vc.Own B w0 w' L->K (idxI p xs) w'):C.qu s f K w:=by
 apply S.qu0;have hlen:=h.lenc s;intro l hl
 have loop:∀(rest:List (Int × Tb.Pg)) (j:Nat) (w:World),xs.drop j=rest->j≤xs.length->(∀i,i<j->∀y,xs[i]?=some y->p y=false)->Vc.Own B w0 w L->l (j:Int) w:=by
  intro rest
  induction rest with
  |nil=>
   intro j w hj hjl hno h;have:xs.length≤j:=by have:=congrArg List.length hj;simp at this;omega
   apply hl;refine cdecF (by omega) ?_
   have hn:xs.findIdx? p=none:=by
    rw[List.findIdx?_eq_none_iff];intro y hy;obtain ⟨i,hi⟩:=List.mem_iff_getElem?.1 hy;exact hno i (by have:=(List.getElem?_eq_some_iff.1 hi).1;omega) y hi
   have e:idxI p xs= -1:=by unfold idxI;rw[hn]
   rw[←e];exact hK _ h
  |cons y rest ih=>
   intro j w hj hjl hno h;have hjl2:j<xs.length:=by have:=congrArg List.length hj;simp at this;omega
   have hx:xs[j]?=some y:=by
    have:=congrArg (fun l=>l[0]?) hj;simpa using this
   apply hl;refine cdecT (by omega) ?_;refine h.ixc rfl hx fun a ha h0 hc=>?_
   refine ldLaid hc ?_;refine hf y w _ h fun w h=>?_
   cases hp:p y with
   |true=>
    refine cbT rfl ?_
    have hn:xs.findIdx? p=some j:=by
     rw[List.findIdx?_eq_some_iff_getElem];refine ⟨hjl2,?_,fun i hi=>?_⟩
     ·rw[gE hjl2] at hx;cases hx;exact hp
     ·have:=hno i hi xs[i] (gE (by omega))
      simp[this]
    have e:idxI p xs=(j:Int):=by unfold idxI;rw[hn]
    rw[←e];exact hK _ h
   |false=>
    refine cbF rfl ?_;rw[wr (by omega) (by omega)];refine ih (j+1) w (by rw[←List.drop_drop,hj];rfl) (by omega) (fun i hi z hz=>?_) h;by_cases e:i=j
    ·subst e;rw[hx] at hz;cases hz;exact hp
    ·exact hno i (by omega) z hz
 exact loop xs 0 w rfl (by omega) (fun i hi=>by omega) h
end
abbrev OL (b nc:Nat) (x:Mx) (p:Nat) (fs:Sl) (Y:Asn) (m:Mch) (c:Cor) (Z:List Cm) (R:List Asn):List Asn:=
 BlkA b (mcells x)::KerA x.k m.k::LockA x.l nc m.line::BoxA x.b m.bx::SlT corE x.cs Z::TlbA p m.room c.tl::SlT lneE fs c.told.forget::Y::SlT callE x.pr m.prog::R
section
variable {B:Nat} {w0 w:World} {R L R':List Asn} {b nc N g p:Nat} {m:Mch} {x:Mx} {fs:Sl} {Y:Asn} {c:Cor} {Z:List Cm} {n:Int}
theorem find_idx {α:Type} (q:α->Bool) (l:List α):(∀i,l.findIdx? q=some i->∃y,l[i]?=some y/\l.find? q=some y)/\(l.findIdx? q=none->l.find? q=none):=by
 constructor
 ·intro i hi
  obtain ⟨h1,h2,h3⟩:=List.findIdx?_eq_some_iff_getElem.1 hi;refine ⟨l[i],gE h1,?_⟩;rw[List.find?_eq_some_iff_getElem];exact ⟨h2,i,h1,rfl,fun j hj=>by simpa using h3 j hj⟩
 ·intro h
  rw[List.findIdx?_eq_none_iff] at h;exact List.find?_eq_none.2 fun y hy=>by rw[h y hy];decide
theorem walk_spec {page:Int} {K:Int->Int->Bool->Pw} [I:BlkIn b L (mcells x)] [J:Pick (KerA x.k m.k) L R'] (hpg:(m.k.pagesR 0).length≤1000000000) (h:Vc.Own B w0 w L)
  (hK:∀w',Vc.Own B w0 w' (KerA x.k m.k::R')->K ((m.walk page).getD (0,0)).1 ((m.walk page).getD (0,0)).2 (m.walk page).isSome w'):C.qaM (some ⟨b,0,none⟩) page K w:=by
 apply S.qaM0;refine h.al fun w1 h=>?_
 generalize w.heap.size=c1 at h⊢;refine h.al fun w2 h=>?_
 generalize w1.heap.size=c2 at h⊢;refine ⟨_,rfl,_,h.ldc rfl,?_⟩;have h:Vc.Own B w0 w2 (KerA x.k m.k::BlkA c2 [.z 0, .z 0]::BlkA c1 [.z page]::R'):=h.pick (A:=KerA x.k m.k);refine Pages_spec h fun s w h=>?_
 have hlen:=h.lenc s;refine IndexFunc_laid (s:=s) (xs:=m.k.pagesR 0) (p:=fun y=>y.1==page) h hpg (fun y w Q h hQ=>callV_mk ?_) fun w h=>?_
 ·show C.qaT y.1 y.2.1 y.2.2 ⟨c1,0,none⟩ Q w
  apply S.qaT0;refine h.al fun w3 h=>?_
  generalize w.heap.size=d at h⊢;exact ⟨_,h.ldc rfl,_,h.ldc rfl,hQ _ h.drop⟩
 ·unfold Mch.walk at hK
  obtain ⟨f1,f2⟩:=find_idx (fun y:Int × Tb.Pg=>y.1==page) (m.k.pagesR 0);unfold idxI;cases hi:(m.k.pagesR 0).findIdx? (fun y=>y.1==page) with
  |none=>
   rw[f2 hi] at hK;refine cdecT (by decide) ?_;refine h.stLc rfl rfl fun w h=>?_
   (try dsimp only[putAt,List.set_cons_zero,List.set_cons_succ] at h)
   refine h.lc_2 rfl ?_;exact hK w h.sub
  |some i=>
   obtain ⟨y,hy,hf⟩:=f1 i hi;rw[hf] at hK;refine cdecF (by simp) ?_;refine h.ixc (s:=s) (i:=(i:Int)) (j:=i) rfl hy fun a ha hc0 hc=>?_
   refine ⟨_,by rw[addadd];exact hc 1 _ rfl,_,by rw[addadd];exact hc 2 _ rfl,?_⟩;refine h.stLc rfl rfl fun w h=>?_
   (try dsimp only[putAt,List.set_cons_zero,List.set_cons_succ] at h)
   refine h.lc_2 rfl ?_;exact hK w h.sub
theorem load_spec {page:Int} {K:Int->Int->Int->Int->Int->Int->Sl->Int->Int->Bool->Bool->Pw} (h0:0≤n) (hZ:Z[n.toNat]?=some (cm p (c,fs))) (hr:1≤m.room) (ht:c.tl.length≤1000000) (hpg:(m.k.pagesR 0).length≤1000000000)
  (h:Vc.Own B w0 w (OL b nc x p fs Y m c Z R))
  (hK:∀w',Vc.Own B w0 w' (OL b nc x p fs Y m { c with tl:=(m.loadT page c.tl).2.2} Z R)->K 3 n page 0 0 0 ⟨none,0,0⟩ (m.loadT page c.tl).1.1 (m.loadT page c.tl).1.2 (m.loadT page c.tl).2.1 true w'):C.qaH (some ⟨b,0,none⟩) n page K w:=by
 apply S.qaH0;refine h.al fun w1 h=>?_
 generalize w.heap.size=d at h⊢;refine ⟨_,rfl,x.cs,h.ldd rfl,?_⟩;refine corLd (s:=x.cs) h h0 hZ fun a ha hc0 hc=>⟨_,rfl,_,hc0 _ rfl,?_⟩
 refine tlb_Look_spec (b:=p) (l:=c.tl) (room:=m.room) ht (h.pick (A:=TlbA p m.room c.tl)) fun w h=>?_
 refine h.al fun w2 h=>?_
 generalize w.heap.size=e at h⊢;refine h.stLc rfl rfl fun w h=>?_
 (try dsimp only[putAt,List.set_cons_zero,List.set_cons_succ] at h)
 intro k16 hk16;unfold Mch.loadT at hK;cases hl:look 0 page c.tl with
 |some q=>
  rw[hl] at h hK;refine cbF rfl ?_;apply hk16;refine h.lc_2 rfl ?_;have h:Vc.Own B w0 w (BlkA d [.z 0, .z 0, .z 0, .z 0, .y 0, .z 0, .slice none 0 0, .z 0, .z 0, .bool false]::OL b nc x p fs Y m c Z R):=h.sub;exact put_seen (fs:=⟨none,0,0⟩) rfl h fun w h=>hK w h
 |none=>
  rw[hl] at h hK;refine cbT rfl ?_;refine walk_spec (x:=x) (m:=m) hpg h fun w h=>?_
  refine h.stLc rfl rfl fun w h=>?_
  (try dsimp only[putAt,List.set_cons_zero,List.set_cons_succ] at h)
  cases hw:m.walk page with
  |none=>
   rw[hw] at h hK;refine cbF rfl ?_;apply hk16;refine h.lc_2 rfl ?_;have h:Vc.Own B w0 w (BlkA d [.z 0, .z 0, .z 0, .z 0, .y 0, .z 0, .slice none 0 0, .z 0, .z 0, .bool false]::OL b nc x p fs Y m c Z R):=h.sub;exact put_seen (fs:=⟨none,0,0⟩) rfl h fun w h=>hK w h
  |some q=>
   rw[hw] at h hK;refine cbT rfl ?_;refine h.dr fun w h=>?_
   refine ⟨_,rfl,_,(corAt_ (s:=x.cs) h h0 hZ ha).1 _ rfl,?_⟩;refine h.lc_2 rfl (Go.Vc.a2 ?_);refine tlb_Fill_spec (b:=p) (x:=⟨0,page,q.1,q.2⟩) (l:=c.tl) (room:=m.room) hr ht (h.pick (A:=TlbA p m.room c.tl)) fun w h=>?_
   apply hk16;refine h.lc_2 rfl ?_;have h:Vc.Own B w0 w (BlkA d [.z 0, .z 0, .z 0, .z 0, .y 0, .z 0, .slice none 0 0, .z 0, .z 0, .bool false]::OL b nc x p fs Y m { c with tl:=fill m.room ⟨0,page,q.1,q.2⟩ c.tl} Z R):=h.sub;exact put_seen (fs:=⟨none,0,0⟩) rfl h fun w h=>hK w h
theorem heard_spec {K:Bool->Pw} (h0:0≤n) (h1:n<(m.bx.length:Int)) (h64:∀l∈m.bx,l.length≤64) (hZ:Z[n.toNat]?=some (cm p (c,fs))) (ht:c.tl.length≤1000000) (h:Vc.Own B w0 w (OL b nc x p fs Y m c Z R))
  (hK0:m.box n= []->∀w',Vc.Own B w0 w' (OL b nc x p fs Y m c Z R)->K false w')
  (hK1:∀y r,m.box n=y::r->∀w',Vc.Own B w0 w' (OL b nc x p fs Y { m with bx:=m.bx.set n.toNat r} { c with tl:=drop (IntKind.i64.wrap (y.about.tdiv 4096)) (y.about.tmod 4096) c.tl} Z R)->K true w'):C.qau (some ⟨b,0,none⟩) n K w:=by
 apply S.qau0;refine ⟨_,rfl,_,h.ldd rfl,?_⟩;refine box_Take_spec (bx:=m.bx) h0 h1 h64 (h.pick (A:=BoxA x.b m.bx)) (fun e w h=>?_) fun y r e w h=>?_
 ·refine h.al fun w2 h=>?_
  generalize w.heap.size=d at h⊢;refine h.stLc rfl rfl fun w h=>?_
  (try dsimp only[putAt,List.set_cons_zero,List.set_cons_succ] at h)
  refine cbF rfl ?_;exact hK0 (by unfold Mch.box;rw[e];rfl) w h.sub
 ·refine h.al fun w2 h=>?_
  generalize w.heap.size=d at h⊢;refine h.stLc rfl rfl fun w h=>?_
  (try dsimp only[putAt,List.set_cons_zero,List.set_cons_succ] at h)
  refine cbT rfl ?_;refine h.dr fun w h=>?_
  refine ⟨_,rfl,x.cs,h.ldd rfl,?_⟩;refine corLd (s:=x.cs) h h0 hZ fun a ha hc0 hc=>⟨_,hc0 _ rfl,_,h.ldd rfl,by decide,_,h.ldd rfl,by decide,Go.Vc.a2 ?_⟩
  refine tlb_Drop_spec (b:=p) (l:=c.tl) (room:=m.room) ht (h.pick (A:=TlbA p m.room c.tl)) fun v w h=>?_
  exact hK1 y r (by unfold Mch.box;rw[e];rfl) w h.sub
theorem told_spec {e u wk:Int} {F:List Lne} {K:Int->Int->Int->Sl->Pw} [I:SlIn fs L Lne lneE F] (hF:F.length≤1000000) (h:Vc.Own B w0 w L)
  (hK:∀s w',Vc.Own B w0 w' (SlT lneE s F::L)->K e u wk s w'):C.qcB e u wk fs K w:=by
 apply S.qcB0;refine h.al fun w1 h=>?_
 generalize w.heap.size=d at h⊢;refine h.al fun w2 h=>?_
 generalize w1.heap.size=d2 at h⊢;refine ⟨fs,h.ldd rfl,?_⟩;refine Clone_lne (s:=fs) h hF fun s w h=>?_
 refine h.std rfl rfl fun w h=>?_
 (try dsimp only[putAt,List.set_cons_zero,List.set_cons_succ] at h)
 refine h.lc_4 (x3:=s) rfl ?_;refine h.stLc rfl rfl fun w h=>?_
 (try dsimp only[putAt,List.set_cons_zero,List.set_cons_succ] at h)
 refine h.lc_4 (x3:=s) rfl ?_;exact hK s w h.sub
end
theorem ldCall {w:World} {a:Addr} {x:Call} {f:Int->Int->Int->Int->Int->Int->Prop} (g:∀c v,(callE.enc x)[c]?=some v->w.cell? (a.add c)=some v) (hf:f x.ask x.at_ x.with_ x.a x.b x.c):
  LdL w a 0 [.o, .o, .o, .o, .o, .o] f:=⟨_,g 0 _ rfl,_,g 1 _ rfl,_,g 2 _ rfl,_,g 3 _ rfl,_,g 4 _ rfl,_,g 5 _ rfl,hf⟩
theorem sendAll_len (n:Int):∀(l:List Lne) (b:List (List Mail)),(sendAll n l b).length=b.length
 | [],b=>rfl
 |x::l,b=>by
  show (sendAll n l (allB n (aboutOf x) b)).length=_;rw[sendAll_len n l,allB_len]
theorem sendAll_64 (n:Int):∀(l:List Lne) (b:List (List Mail)),(∀r∈b,r.length≤64)->∀r∈sendAll n l b,r.length≤64
 | [],b,h=>h
 |x::l,b,h=>sendAll_64 n l _ (allB_64 h)
theorem dropAll_len:∀(l t:List Lne),(dropAll l t).length≤t.length
 | [],t=>Nat.le_refl _
 |x::l,t=>Nat.le_trans (dropAll_len l _) (drop_len x.space x.page t)
theorem dropAll_snoc (l:List Lne) (x:Lne) (t:List Lne):dropAll (l++ [x]) t=drop x.space x.page (dropAll l t):=by unfold dropAll;rw[List.foldl_append];rfl
theorem sendAll_snoc (n:Int) (l:List Lne) (x:Lne) (b:List (List Mail)):sendAll n (l++ [x]) b=allB n (aboutOf x) (sendAll n l b):=by unfold sendAll;rw[List.foldl_append];rfl
section
variable {B:Nat} {w0 w:World} {R L R':List Asn} {b nc N g p:Nat} {m:Mch} {x:Mx} {fs:Sl} {Y:Asn} {c:Cor} {Z:List Cm} {n:Int} {s:Sl} {xs:List Cm} {y:Cm} {a:Addr}
theorem corSt4 {e u wk:Int} {f:Sl} {k:Pw} [I:SlIn s L Cm corE xs] [J:Pick (SlT corE s xs) L R'] (h:Vc.Own B w0 w L) (h0:0≤n) (hy:xs[n.toNat]?=some y) (ha:s.a=some a)
  (hk:∀w',Vc.Own B w0 w' (SlT corE s (xs.set n.toNat ⟨y.p,y.does,y.n,e,u,wk,f⟩)::R')->k w'):StL w ((a.add (n.toNat*7)).add 3) 0 [.z e, .y u, .z wk, .slice f.a f.len f.cap] k:=by
 have ei:n=((n.toNat:Nat):Int):=by omega
 have hlt:=(List.getElem?_eq_some_iff.1 hy).1;show St w (((a.add (n.toNat*7)).add 3).add 0) _ _;rw[addadd];refine h.stFc (s:=s) (E:=corE) (i:=n) ⟨y.p,y.does,y.n,e,y.w,y.wk,y.fs⟩ ei hy ha rfl (by decide) rfl fun w h=>?_
 show St w (((a.add (n.toNat*7)).add 3).add 1) _ _;rw[addadd];refine h.stFc (s:=s) (E:=corE) (i:=n) ⟨y.p,y.does,y.n,e,u,y.wk,y.fs⟩ ei (List.getElem?_set_self hlt) ha rfl (by decide) rfl fun w h=>?_
 show St w (((a.add (n.toNat*7)).add 3).add 2) _ _;rw[addadd];refine h.stFc (s:=s) (E:=corE) (i:=n) ⟨y.p,y.does,y.n,e,u,wk,y.fs⟩ ei (List.getElem?_set_self (by rw[List.length_set];exact hlt)) ha rfl (by decide) rfl fun w h=>?_
 show St w (((a.add (n.toNat*7)).add 3).add 3) _ _;rw[addadd];refine h.stFc (s:=s) (E:=corE) (i:=n) ⟨y.p,y.does,y.n,e,u,wk,f⟩ ei (List.getElem?_set_self (by rw[List.length_set,List.length_set];exact hlt)) ha rfl (by decide) rfl fun w h=>?_
 rw[List.set_set,List.set_set,List.set_set] at h;exact hk w h
theorem corSt1 {v:Int} {k:Pw} [I:SlIn s L Cm corE xs] [J:Pick (SlT corE s xs) L R'] (h:Vc.Own B w0 w L) (h0:0≤n) (hy:xs[n.toNat]?=some y) (ha:s.a=some a)
  (hk:∀w',Vc.Own B w0 w' (SlT corE s (xs.set n.toNat ⟨y.p,v,y.n,y.e,y.w,y.wk,y.fs⟩)::R')->k w'):St w ((a.add (n.toNat*7)).add 1) (.z v) k:=
 h.stFc (s:=s) (E:=corE) (i:=n) ⟨y.p,v,y.n,y.e,y.w,y.wk,y.fs⟩ (show n=((n.toNat:Nat):Int) by omega) hy ha rfl (by decide) rfl hk
theorem corSt2 {v:Int} {k:Pw} [I:SlIn s L Cm corE xs] [J:Pick (SlT corE s xs) L R'] (h:Vc.Own B w0 w L) (h0:0≤n) (hy:xs[n.toNat]?=some y) (ha:s.a=some a)
  (hk:∀w',Vc.Own B w0 w' (SlT corE s (xs.set n.toNat ⟨y.p,y.does,v,y.e,y.w,y.wk,y.fs⟩)::R')->k w'):St w ((a.add (n.toNat*7)).add 2) (.z v) k:=
 h.stFc (s:=s) (E:=corE) (i:=n) ⟨y.p,y.does,v,y.e,y.w,y.wk,y.fs⟩ (show n=((n.toNat:Nat):Int) by omega) hy ha rfl (by decide) rfl hk
theorem corTold {f:Int->Int->Int->Sl->Prop} [I:SlIn s L Cm corE xs] (h:Vc.Own B w0 w L) (h0:0≤n) (hy:xs[n.toNat]?=some y) (ha:s.a=some a) (hf:f y.e y.w y.wk y.fs):
  LdL w ((a.add (n.toNat*7)).add 3) 0 [.o, .u, .o, .s] f:=by
 have g:=(corAt_ (s:=s) h h0 hy ha).2;exact ⟨_,by rw[addadd];exact g 3 _ rfl,_,by rw[addadd];exact g 4 _ rfl,_,by rw[addadd];exact g 5 _ rfl,y.fs,by rw[addadd];exact g 6 _ rfl,hf⟩
set_option maxHeartbeats 1000000 in
theorem did_spec {call:Call} {K:Int->Int->Int->Int->Int->Int->Sl->Int->Int->Bool->Pw} (h0:0≤n) (h1:n<(m.bx.length:Int)) (h8:m.bx.length≤8) (h64:∀l∈m.bx,l.length≤64) (hZ:Z[n.toNat]?=some (cm p (c,fs))) (ht:c.tl.length≤1000000)
  (hn0:0≤c.n) (hpr:m.prog[c.n.toNat]?=some call) (hk:KOk N m.k) (hN:N+64≤100000) (hw0: -9223372036854775808≤call.with_) (hw1:call.with_<9223372036854775808) (hF:(m.k.do n call).1.forget.length≤1000000)
  (h:Vc.Own B w0 w (OL b nc x p fs Y m c Z R))
  (hK:∀s fs' w',Vc.Own B w0 w' (SlT lneE s (m.k.do n call).1.forget::OL b nc x p fs' Y { m with k:=(m.k.do n call).2,bx:=sendAll n (m.k.do n call).1.forget m.bx} ⟨dropAll (m.k.do n call).1.forget c.tl,3,c.n,(m.k.do n call).1⟩ (Z.set n.toNat (cm p (⟨dropAll (m.k.do n call).1.forget c.tl,3,c.n,(m.k.do n call).1⟩,fs'))) R)->
   K 1 n c.n (m.k.do n call).1.e (m.k.do n call).1.w (m.k.do n call).1.wakes s 0 0 false w'):C.qaV (some ⟨b,0,none⟩) n K w:=by
 apply S.qaV0;refine h.al fun w1 h=>?_
 generalize w.heap.size=d at h⊢;have hlt:=(List.getElem?_eq_some_iff.1 hZ).1;refine ⟨_,rfl,x.cs,h.ldd rfl,?_⟩;refine corLd (s:=x.cs) h h0 hZ fun a ha hc0 hc=>?_
 refine h.dr fun w h=>?_
 refine ⟨_,rfl,_,h.ldc rfl,_,rfl,x.pr,h.ldd rfl,_,rfl,c.n,(corAt_ (s:=x.cs) h h0 hZ ha).2 2 _ rfl,?_⟩;refine h.ixc (s:=x.pr) (show c.n=((c.n.toNat:Nat):Int) by omega) hpr fun a2 ha2 hd0 hd=>?_
 refine ldCall hd (Go.Vc.a2 ?_);refine Do_spec (c:=call) hk hN hw0 hw1 (h.pick (A:=KerA x.k m.k)) fun fs' w h=>⟨_,rfl,Go.Vc.a2 ?_⟩
 generalize (m.k.do n call).1=told at*
 generalize (m.k.do n call).2=k' at*
 refine corSt4 (s:=x.cs) h h0 hZ ha fun w h=>?_
 have hZ1:(Z.set n.toNat ⟨p,c.does,c.n,told.e,told.w,told.wakes,fs'⟩)[n.toNat]?=some ⟨p,c.does,c.n,told.e,told.w,told.wakes,fs'⟩:=List.getElem?_set_self hlt;have hset:∀q,(Z.set n.toNat ⟨p,c.does,c.n,told.e,told.w,told.wakes,fs'⟩).set n.toNat q=Z.set n.toNat q:=fun q=>List.set_set ..
 have h:Vc.Own B w0 w (SlT corE x.cs (Z.set n.toNat ⟨p,c.does,c.n,told.e,told.w,told.wakes,fs'⟩)::_):=h;generalize Z.set n.toNat ⟨p,c.does,c.n,told.e,told.w,told.wakes,fs'⟩=Z1 at h hZ1 hset;refine ⟨_,rfl,fs',by rw[addadd];exact (corAt_ (s:=x.cs) h h0 hZ1 ha).2 6 _ rfl,?_⟩;have hflen:=h.lenc fs';intro l hl
 have loop:∀(rest pre:List Lne) (w:World),told.forget=pre++rest->Vc.Own B w0 w (BlkA d [.z 0, .z 0, .z 0, .z 0, .y 0, .z 0, .slice none 0 0, .z 0, .z 0, .bool false]::SlT lneE fs' told.forget::BlkA b (mcells x)::KerA x.k k'::LockA x.l nc m.line::BoxA x.b (sendAll n pre m.bx)::SlT corE x.cs Z1::TlbA p m.room (dropAll pre c.tl)::Y::SlT callE x.pr m.prog::R)->l (pre.length:Int) w:=by
  intro rest
  induction rest with
  |nil=>
   intro pre w hp h;rw[List.append_nil] at hp;subst hp;apply hl;refine cdecF (by omega) ⟨_,rfl,?_⟩;refine corSt1 (s:=x.cs) h h0 hZ1 ha fun w h=>?_
   rw[hset] at h;have hZ2:(Z.set n.toNat ⟨p,3,c.n,told.e,told.w,told.wakes,fs'⟩)[n.toNat]?=some ⟨p,3,c.n,told.e,told.w,told.wakes,fs'⟩:=List.getElem?_set_self hlt;refine h.dr fun w h=>?_
   refine ⟨_,rfl,_,rfl,?_⟩;refine corTold (s:=x.cs) h h0 hZ2 ha ?_;refine ⟨_,(corAt_ (s:=x.cs) h h0 hZ2 ha).2 2 _ rfl,Go.Vc.a2 ?_⟩;refine told_spec (F:=told.forget) hF h fun s2 w h=>⟨(corAt_ (s:=x.cs) h h0 hZ2 ha).2 2 _ rfl,Go.Vc.a2 ?_⟩
   have h:Vc.Own B w0 w (BlkA d [.z 0, .z 0, .z 0, .z 0, .y 0, .z 0, .slice none 0 0, .z 0, .z 0, .bool false]::SlT lneE s2 told.forget::BlkA b (mcells x)::KerA x.k k'::LockA x.l nc m.line::BoxA x.b (sendAll n told.forget m.bx)::SlT corE x.cs (Z.set n.toNat ⟨p,3,c.n,told.e,told.w,told.wakes,fs'⟩)::TlbA p m.room (dropAll told.forget c.tl)::SlT lneE fs' told.forget::Y::SlT callE x.pr m.prog::R):=h.sub;exact put_seen (fs:=s2) rfl h fun w h=>hK s2 fs' w h
  |cons z rest ih=>
   intro pre w hp h;have hlen2:told.forget.length=pre.length+(rest.length+1):=by rw[hp];simp
   have hz:told.forget[pre.length]?=some z:=by rw[hp];simp
   have htl:=dropAll_len pre c.tl;apply hl;refine cdecT (by omega) ?_;refine h.ixc (s:=fs') rfl hz fun a3 ha3 he0 he=>?_
   refine ldLne he ?_;refine h.al fun w2 h=>?_
   generalize w.heap.size=e at h⊢;refine h.stLc rfl rfl fun w h=>?_
   (try dsimp only[putAt,List.set_cons_zero,List.set_cons_succ] at h)
   refine h.dr fun w h=>?_
   refine ⟨_,rfl,_,(corAt_ (s:=x.cs) h h0 hZ1 ha).1 _ rfl,_,h.ldc rfl,_,h.ldd rfl,Go.Vc.a2 ?_⟩;refine tlb_Drop_spec (b:=p) (l:=dropAll pre c.tl) (room:=m.room) (by omega) (h.pick (A:=TlbA p m.room (dropAll pre c.tl))) fun v w h=>?_
   refine h.dr fun w h=>?_
   refine ⟨_,rfl,_,h.ldd rfl,_,h.ldc rfl,_,h.ldd rfl,Go.Vc.a2 ?_⟩;refine box_All_spec (bx:=sendAll n pre m.bx) h0 (by rw[sendAll_len];exact h1) (by rw[sendAll_len];exact h8) (sendAll_64 n pre _ h64) (h.pick (A:=BoxA x.b (sendAll n pre m.bx))) fun v2 w h=>?_
   rw[show IntKind.i64.wrap ((pre.length:Int)+1)=(((pre++ [z]).length:Nat):Int) from by rw[wr (by omega) (by omega),List.length_append];rfl];refine ih (pre++ [z]) w (by rw[hp];simp) ?_;rw[dropAll_snoc,sendAll_snoc];have h:Vc.Own B w0 w (BoxA x.b (allB n (aboutOf z) (sendAll n pre m.bx))::_):=h;exact h.sub
 have h2:Vc.Own B w0 w (BlkA d [.z 0, .z 0, .z 0, .z 0, .y 0, .z 0, .slice none 0 0, .z 0, .z 0, .bool false]::SlT lneE fs' told.forget::BlkA b (mcells x)::KerA x.k k'::LockA x.l nc m.line::BoxA x.b m.bx::SlT corE x.cs Z1::TlbA p m.room c.tl::Y::SlT callE x.pr m.prog::R):=h.sub;exact loop told.forget [] w rfl h2
end
def PrOk (l:List Call):Prop:=∀c∈l, -9223372036854775808≤c.with_/\c.with_<9223372036854775808
theorem setZ {α:Type} {l:List α} {j:Nat} {y:α} (h:l[j]?=some y):l.set j y=l:=by
 obtain ⟨p,q⟩:=List.getElem?_eq_some_iff.1 h;rw[←q];exact List.set_getElem_self p
section
variable {B:Nat} {w0 w:World} {R L R':List Asn} {b nc N g p:Nat} {m:Mch} {n:Int} {line:List Int}
theorem did_eq (hn:n.toNat<m.cs.length):(m.did n).2={ m with k:=(m.k.do n (m.callOf n)).2,bx:=sendAll n (m.k.do n (m.callOf n)).1.forget m.bx,cs:=m.cs.set n.toNat ⟨dropAll (m.k.do n (m.callOf n)).1.forget (m.corAt n).tl,3,(m.corAt n).n,(m.k.do n (m.callOf n)).1⟩}:=by
 unfold Mch.did;dsimp only;rw[tells_eq n _ _ (by show n.toNat<(m.cs.set _ _).length;rw[List.length_set];exact hn),corAt_set (m:={ m with k:=(m.k.do n (m.callOf n)).2}) hn];unfold Mch.setC Mch.corAt;dsimp only;simp only[List.set_set,List.getElem?_set_self hn,Option.getD_some]
theorem lock_Enter_g {c:Int} {K:Int->Pw} (h0:0≤c) (h1:c<(nc:Int)) (h:Vc.Own B w0 w (LockA b nc line::R))
  (hK:∀e w',Vc.Own B w0 w' (LockA b nc (enterL line c)::R)->K e w'):C.qaI (some ⟨b,0,none⟩) c K w:=by
 unfold enterL at hK;by_cases hc:c∈line
 ·rw[if_pos hc] at hK
  apply S.qaI0;refine lock_is h0 h1 h ?_;refine cbF rfl ?_;obtain ⟨x,hx,h⟩:=lockO h;refine ⟨_,rfl,x.s,h.ldd rfl,?_⟩;obtain ⟨j,p,hj,hp,hb⟩:=hx.get hc;refine h.ixc (s:=x.s) (show c=((c.toNat:Nat):Int) by omega) hb fun a ha hc0 hcc=>⟨_,hc0 _ rfl,?_⟩
  exact cbT rfl (hK _ w (mk_lock x hx h))
 ·rw[if_neg hc] at hK
  exact lock_Enter_spec h0 h1 hc h fun w h=>hK _ w h
theorem lock_Leave_g {c:Int} {K:Int->Pw} (h0:0≤c) (h1:c<(nc:Int)) (h:Vc.Own B w0 w (LockA b nc line::R))
  (hK:∀e w',Vc.Own B w0 w' (LockA b nc (leaveL line c)::R)->K e w'):C.qaJ (some ⟨b,0,none⟩) c K w:=by
 unfold leaveL at hK;by_cases hc:line.head?=some c
 ·rw[if_pos hc] at hK
  cases line with
  |nil=>cases hc
  |cons d cs=>
   cases hc;exact lock_Leave_spec h fun w h=>hK _ w h
 ·rw[if_neg hc] at hK
  apply S.qaJ0;refine lock_Probe_spec h0 h1 h ?_;rw[show probeL line c=false from decide_eq_false hc];refine cne (fun e=>hK _ w h) (fun e=>?_);exact cbT rfl (hK _ w h)
abbrev KSeen (K:Int->Int->Int->Int->Int->Int->Sl->Int->Int->Bool->Bool->Pw) (r:Option Seen) (fs:Sl) (w:World):Prop:=
 K (r.getD noSeen).kind (r.getD noSeen).core (r.getD noSeen).n (r.getD noSeen).t.e (r.getD noSeen).t.w (r.getD noSeen).t.wakes fs (r.getD noSeen).p.1 (r.getD noSeen).p.2 (r.getD noSeen).is r.isSome w
set_option maxHeartbeats 1000000 in
theorem step_spec {K:Int->Int->Int->Int->Int->Int->Sl->Int->Int->Bool->Bool->Pw} (hm:MOk nc N g m) (hN:N+64≤100000) (hg:g≤900000) (hpr:PrOk m.prog) (h0:0≤n) (h1:n<(nc:Int)) (h:Vc.Own B w0 w (MchA b m::R))
  (hK:∀fs w',Vc.Own B w0 w' (SlT lneE fs ((m.step n).1.getD noSeen).t.forget::MchA b (m.step n).2::R)->KSeen K (m.step n).1 fs w'):C.qaE (some ⟨b,0,none⟩) n K w:=by
 apply S.qaE0;refine h.al fun w1 h=>?_
 generalize w.heap.size=d at h⊢;obtain ⟨x,p,fs,Y,hZ,hzl,h,back⟩:=focus hm h0 h1 h.up1;obtain ⟨hc1,hc2⟩:=hm.cor h0 h1;have htl:=hm.tl _ hc2;have hr8:=hm.r8;have hfg:=hm.fg _ hc2;have hbx:=hm.bx;have hn8:=hm.n8;have hlt:n.toNat<m.cs.length:=(List.getElem?_eq_some_iff.1 hc1).1;refine ⟨_,rfl,x.cs,h.ldd rfl,?_⟩;refine corLd (s:=x.cs) h h0 hZ fun a ha hc0 hc=>?_
 refine heard_spec (m:=m) (x:=x) (p:=p) (fs:=fs) (Y:=Y) (c:=m.corAt n) (Z:=cms x.ps x.xs) h0 (by omega) hm.b64 hZ (by omega) h (fun e w h=>?_) fun y r e w h=>?_
 ·have none_:∀w,(m.step n)=(none,m)->Vc.Own B w0 w (OL b nc x p fs Y m (m.corAt n) (cms x.ps x.xs) (BlkA d [.z 0, .z 0, .z 0, .z 0, .y 0, .z 0, .slice none 0 0, .z 0, .z 0, .bool false]::R))->
    StL w ⟨d,0,none⟩ 0 [.z (0:Int), .z (0:Int), .z (0:Int), .z (0:Int), .y (0:Int), .z (0:Int), .slice none 0 0, .z (0:Int), .z (0:Int), .bool false] fun w45=>
     LdL w45 ⟨d,0,none⟩ 0 [.o, .o, .o, .o, .u, .o, .s, .o, .o, .b] fun (r46:Int) (r47:Int) (r48:Int) (r49:Int) (r50:Int) (r51:Int) (r52:Sl) (r53:Int) (r54:Int) (r55:Bool)=>
     K r46 r47 r48 r49 r50 r51 r52 r53 r54 r55 false w45:=fun w es h=>by
   rw[es] at hK;have h:Vc.Own B w0 w (BlkA d [.z 0, .z 0, .z 0, .z 0, .y 0, .z 0, .slice none 0 0, .z 0, .z 0, .bool false]::OL b nc x p fs Y m (m.corAt n) (cms x.ps x.xs) R):=h.sub;exact zero_seen (K:=fun a b c d e f g h i j w=>K a b c d e f g h i j false w) rfl h fun w h=>hK ⟨none,0,0⟩ w (Vc.Own.nilS (back R m (m.corAt n) fs w (setZ hc1).symm rfl rfl (by rw[setZ hZ];exact h)))
  refine cbF rfl ⟨_,rfl,_,(corAt_ (s:=x.cs) h h0 hZ ha).2 1 _ rfl,?_⟩;refine ceq (fun e1=>?_) (fun e1=>?_)
  ·have e1:(m.corAt n).does=1:=e1
   refine ⟨_,rfl,_,h.ldd rfl,?_⟩;refine lock_Enter_g h0 h1 (h.pick (A:=LockA x.l nc m.line)) fun v w h=>⟨_,rfl,?_⟩
   refine corSt1 (s:=x.cs) h h0 hZ ha fun w h=>⟨_,rfl,(m.corAt n).n,(corAt_ (s:=x.cs) h h0 (List.getElem?_set_self (by rw[hzl];omega)) ha).2 2 _ rfl,?_⟩
   have es:m.step n=(some ⟨0,n,(m.corAt n).n,tZ,(0,0),false⟩,{ m with line:=enterL m.line n}.setC n { m.corAt n with does:=2}):=by
    unfold Mch.step;rw[e];dsimp only;rw[if_pos e1]
   rw[es] at hK;have h:Vc.Own B w0 w (BlkA d [.z 0, .z 0, .z 0, .z 0, .y 0, .z 0, .slice none 0 0, .z 0, .z 0, .bool false]::BlkA b (mcells x)::KerA x.k m.k::LockA x.l nc (enterL m.line n)::BoxA x.b m.bx::SlT corE x.cs ((cms x.ps x.xs).set n.toNat (cm p ({ m.corAt n with does:=2},fs)))::TlbA p m.room (m.corAt n).tl::SlT lneE fs (m.corAt n).told.forget::Y::SlT callE x.pr m.prog::R):=Vc.Own.sub (show Vc.Own B w0 w (SlT corE x.cs ((cms x.ps x.xs).set n.toNat (cm p ({ m.corAt n with does:=2},fs)))::_) from h);exact put_seen (K:=fun a b c d e f g h i j w=>K a b c d e f g h i j true w) (fs:=⟨none,0,0⟩) rfl h fun w h=>hK ⟨none,0,0⟩ w (Vc.Own.nilS (back R ({ m with line:=enterL m.line n}.setC n { m.corAt n with does:=2}) { m.corAt n with does:=2} fs w rfl rfl rfl h))
  ·have e1:(m.corAt n).does≠1:=e1
   refine ⟨_,rfl,_,(corAt_ (s:=x.cs) h h0 hZ ha).2 1 _ rfl,?_⟩;refine ceq (fun e2=>?_) (fun e2=>?_)
   ·have e2:(m.corAt n).does=2:=e2
    refine ⟨_,rfl,_,h.ldd rfl,?_⟩;refine lock_Probe_spec h0 h1 (h.pick (A:=LockA x.l nc m.line)) ?_;cases hpb:probeL m.line n with
    |false=>
     refine cbF rfl ?_;exact none_ w (by unfold Mch.step;rw[e];dsimp only;rw[if_neg e1,if_pos e2,if_neg (by rw[hpb];decide)]) h
    |true=>
     refine cbT rfl ?_
     have es:m.step n=(some (m.did n).1,(m.did n).2):=by
      unfold Mch.step;rw[e];dsimp only;rw[if_neg e1,if_pos e2,if_pos hpb]
     rw[es,did_eq hlt] at hK;obtain ⟨hn0,hn1⟩:=hm.nr _ hc2 (by rw[e2];decide)
     have hcall:m.prog[(m.corAt n).n.toNat]?=some (m.callOf n):=by
      unfold Mch.callOf;rw[gE (show (m.corAt n).n.toNat<m.prog.length by omega)];rfl
     have hw:=hpr _ (List.mem_of_getElem? hcall);obtain ⟨q1,_⟩:=do_pp hm.k n (m.callOf n);have hpg:=hm.pg;refine did_spec (m:=m) (x:=x) (p:=p) (fs:=fs) (Y:=Y) (c:=m.corAt n) (Z:=cms x.ps x.xs) h0 (by omega) (by omega) hm.b64 hZ (by omega) hn0 hcall hm.k hN hw.1 hw.2 (by omega) h fun s fs' w h=>?_
     have h:Vc.Own B w0 w (BlkA d [.z 0, .z 0, .z 0, .z 0, .y 0, .z 0, .slice none 0 0, .z 0, .z 0, .bool false]::SlT lneE s (m.k.do n (m.callOf n)).1.forget::BlkA b (mcells x)::KerA x.k (m.k.do n (m.callOf n)).2::LockA x.l nc m.line::BoxA x.b (sendAll n (m.k.do n (m.callOf n)).1.forget m.bx)::SlT corE x.cs ((cms x.ps x.xs).set n.toNat (cm p (⟨dropAll (m.k.do n (m.callOf n)).1.forget (m.corAt n).tl,3,(m.corAt n).n,(m.k.do n (m.callOf n)).1⟩,fs')))::TlbA p m.room (dropAll (m.k.do n (m.callOf n)).1.forget (m.corAt n).tl)::SlT lneE fs' (m.k.do n (m.callOf n)).1.forget::Y::SlT callE x.pr m.prog::R):=h.sub;exact put_seen (K:=fun a b c d e f g h i j w=>K a b c d e f g h i j true w) (fs:=s) rfl h fun w h=>hK s w (Vc.Own.up1 (back (SlT lneE s (m.k.do n (m.callOf n)).1.forget::R) { m with k:=(m.k.do n (m.callOf n)).2,bx:=sendAll n (m.k.do n (m.callOf n)).1.forget m.bx,cs:=m.cs.set n.toNat ⟨dropAll (m.k.do n (m.callOf n)).1.forget (m.corAt n).tl,3,(m.corAt n).n,(m.k.do n (m.callOf n)).1⟩} ⟨dropAll (m.k.do n (m.callOf n)).1.forget (m.corAt n).tl,3,(m.corAt n).n,(m.k.do n (m.callOf n)).1⟩ fs' w rfl rfl rfl h.sub))
   ·have e2:(m.corAt n).does≠2:=e2
    intro k81 hk81
    have no:∀w,¬((m.corAt n).does=3/\owedB m.bx n=0)->Vc.Own B w0 w (OL b nc x p fs Y m (m.corAt n) (cms x.ps x.xs) (BlkA d [.z 0, .z 0, .z 0, .z 0, .y 0, .z 0, .slice none 0 0, .z 0, .z 0, .bool false]::R))->k81 false w:=fun w hno h=>by
     apply hk81;refine cbF rfl ?_;exact none_ w (by unfold Mch.step;rw[e];dsimp only;rw[if_neg e1,if_neg e2,if_neg hno]) h
    refine ⟨_,rfl,_,(corAt_ (s:=x.cs) h h0 hZ ha).2 1 _ rfl,?_⟩;refine ceq (fun e3=>?_) (fun e3=>no w (fun hh=>e3 hh.1) h);have e3:(m.corAt n).does=3:=e3;refine ⟨_,rfl,_,h.ldd rfl,?_⟩;refine box_Owed_spec (bx:=m.bx) (by omega) hm.b64 (h.pick (A:=BoxA x.b m.bx)) fun w h=>?_
    have h:Vc.Own B w0 w (OL b nc x p fs Y m (m.corAt n) (cms x.ps x.xs) (BlkA d [.z 0, .z 0, .z 0, .z 0, .y 0, .z 0, .slice none 0 0, .z 0, .z 0, .bool false]::R)):=h.sub;by_cases e4:owedB m.bx n=0
    ·rw[show (owedB m.bx n==0)=true from by simpa using e4]
     apply hk81;refine cbT rfl ⟨_,rfl,_,h.ldd rfl,?_⟩;refine lock_Leave_g h0 h1 (h.pick (A:=LockA x.l nc m.line)) fun v w h=>⟨_,rfl,?_⟩
     refine corSt1 (s:=x.cs) h h0 hZ ha fun w h=>?_
     have hZ2:((cms x.ps x.xs).set n.toNat (cm p ({ m.corAt n with does:=0},fs)))[n.toNat]?=some (cm p ({ m.corAt n with does:=0},fs)):=List.getElem?_set_self (by rw[hzl];omega);have h:Vc.Own B w0 w (SlT corE x.cs ((cms x.ps x.xs).set n.toNat (cm p ({ m.corAt n with does:=0},fs)))::_):=h;refine h.dr fun w h=>⟨_,rfl,_,rfl,?_⟩
     refine corTold (s:=x.cs) h h0 hZ2 ha ?_;refine ⟨(m.corAt n).n,(corAt_ (s:=x.cs) h h0 hZ2 ha).2 2 _ rfl,Go.Vc.a2 ?_⟩
     have es:m.step n=(some ⟨2,n,(m.corAt n).n,(m.corAt n).told,(0,0),false⟩,{ m with line:=leaveL m.line n}.setC n { m.corAt n with does:=0}):=by
      unfold Mch.step;rw[e];dsimp only;rw[if_neg e1,if_neg e2,if_pos ⟨e3,e4⟩]
     rw[es] at hK;refine told_spec (fs:=fs) (F:=(m.corAt n).told.forget) (by omega) h fun s w h=>⟨(corAt_ (s:=x.cs) h h0 hZ2 ha).2 2 _ rfl,Go.Vc.a2 ?_⟩
     have h:Vc.Own B w0 w (BlkA d [.z 0, .z 0, .z 0, .z 0, .y 0, .z 0, .slice none 0 0, .z 0, .z 0, .bool false]::SlT lneE s (m.corAt n).told.forget::BlkA b (mcells x)::KerA x.k m.k::LockA x.l nc (leaveL m.line n)::BoxA x.b m.bx::SlT corE x.cs ((cms x.ps x.xs).set n.toNat (cm p ({ m.corAt n with does:=0},fs)))::TlbA p m.room (m.corAt n).tl::SlT lneE fs (m.corAt n).told.forget::Y::SlT callE x.pr m.prog::R):=h.sub
     exact put_seen (K:=fun a b c d e f g h i j w=>K a b c d e f g h i j true w) (fs:=s) rfl h fun w h=>by
      have h:Vc.Own B w0 w (BlkA b (mcells x)::KerA x.k m.k::LockA x.l nc (leaveL m.line n)::BoxA x.b m.bx::SlT corE x.cs ((cms x.ps x.xs).set n.toNat (cm p ({ m.corAt n with does:=0},fs)))::TlbA p m.room (m.corAt n).tl::SlT lneE fs (m.corAt n).told.forget::Y::SlT callE x.pr m.prog::SlT lneE s (m.corAt n).told.forget::R):=h.sub;exact hK s w (Vc.Own.up1 (back (SlT lneE s (m.corAt n).told.forget::R) ({ m with line:=leaveL m.line n}.setC n { m.corAt n with does:=0}) { m.corAt n with does:=0} fs w rfl rfl rfl h))
    ·rw[show (owedB m.bx n==0)=false from by simpa using e4]
     exact no w (fun hh=>e4 hh.2) h
 ·refine cbT rfl ?_
  have es:m.step n=(none,{ m with bx:=m.bx.set n.toNat r,cs:=m.cs.set n.toNat { m.corAt n with tl:=drop (IntKind.i64.wrap (y.about.tdiv 4096)) (y.about.tmod 4096) (m.corAt n).tl}}):=by
   unfold Mch.step;rw[e];dsimp only;unfold Mch.heard;rw[e];rfl
  rw[es] at hK;have h:Vc.Own B w0 w (BlkA d [.z 0, .z 0, .z 0, .z 0, .y 0, .z 0, .slice none 0 0, .z 0, .z 0, .bool false]::BlkA b (mcells x)::KerA x.k m.k::LockA x.l nc m.line::BoxA x.b (m.bx.set n.toNat r)::SlT corE x.cs (cms x.ps x.xs)::TlbA p m.room (drop (IntKind.i64.wrap (y.about.tdiv 4096)) (y.about.tmod 4096) (m.corAt n).tl)::SlT lneE fs (m.corAt n).told.forget::Y::SlT callE x.pr m.prog::R):=h.sub;exact zero_seen (K:=fun a b c d e f g h i j w=>K a b c d e f g h i j false w) rfl h fun w h=>hK ⟨none,0,0⟩ w (Vc.Own.nilS (back R { m with bx:=m.bx.set n.toNat r,cs:=m.cs.set n.toNat { m.corAt n with tl:=drop (IntKind.i64.wrap (y.about.tdiv 4096)) (y.about.tmod 4096) (m.corAt n).tl}} { m.corAt n with tl:=drop (IntKind.i64.wrap (y.about.tdiv 4096)) (y.about.tmod 4096) (m.corAt n).tl} fs w rfl rfl rfl (by rw[show cm p ({ m.corAt n with tl:=drop (IntKind.i64.wrap (y.about.tdiv 4096)) (y.about.tmod 4096) (m.corAt n).tl},fs)=cm p (m.corAt n,fs) from rfl,setZ hZ];exact h)))
end
end Go.Proofs.YtghikphgplamkaaGreat.Mc
end
