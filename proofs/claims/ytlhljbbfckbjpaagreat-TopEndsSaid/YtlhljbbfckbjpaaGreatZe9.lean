/- What the row rests on: the declarations that it needs, out of my texts (part 9). -/
import Derived.Test.YtlhljbbfckbjpaaGreatZe8
set_option linter.unusedVariables false
set_option linter.unusedSimpArgs false
set_option linter.unusedSectionVars false
section
set_option maxRecDepth 8000
namespace Go.Proofs.YtlhljbbfckbjpaaGreat
open Go Go.Vc Go.Proofs Go.RowKit Go.Shelf
attribute [local go_sem] Oper.semAt_some
theorem Iz (t:Array Value) (h:t.size=66):∃f:Nat->Value,(∀i,f i=t.getD i undef)/\t= #[f 0,f 1,f 2,f 3,f 4,f 5,f 6,f 7,f 8,f 9,f 10,f 11,f 12,f 13,f 14,f 15,f 16,f 17,f 18,f 19,f 20,f 21,f 22,f 23,f 24,f 25,f 26,f 27,f 28,f 29,f 30,f 31,f 32,f 33,f 34,f 35,f 36,f 37,f 38,f 39,f 40,f 41,f 42,f 43,f 44,f 45,f 46,f 47,f 48,f 49,f 50,f 51,f 52,f 53,f 54,f 55,f 56,f 57,f 58,f 59,f 60,f 61,f 62,f 63,f 64,f 65]:=by
 refine ⟨fun i=>t.getD i undef,fun _=>rfl, ?_⟩
 have e:t=((List.range 66).map fun i=>t.getD i undef).toArray:=by
  apply Array.ext
  ·simp[h]
  ·intro i h1 h2
   simp[h1]
 exact e
set_option maxRecDepth 100000 in
set_option maxHeartbeats 2000000 in
theorem xr (n:Nat) (hn:1≤n) (l box:Nat) (J:List (Int × Slot)->Pw) (W:World) (hB:W.cell? ⟨box,0,none⟩=some (.slice none 0 0)) (h0:J [] W):
  CallsIn Fence.wide n Tryz.prog 228 #[.func (.yield l) #[] #[], .pointer (some ⟨box,0,none⟩)] W fun e W'=>(∃v,e= .returned v)/\J [] W':=by
 refine callsIn_of_wp Tryz.func228 rfl trivial ?_ rfl;simp only[Tryz.ntmps228,List.size_toArray,List.length_cons,List.length_nil,Nat.reduceAdd,Nat.reduceSub,Array.replicate_succ,Array.replicate_zero,List.push_toArray,List.append_toArray,List.nil_append,List.cons_append]
 gi_wp2
 gi_loopw [3] (fun i wr=>i= .z (-1)/\J [] wr) (fun _ _=>0)
 case atStart=>exact ⟨rfl,h0⟩
 case round=>
  obtain ⟨rfl,hJs⟩:=hrel
  gi_wp2
  go_end0
  exact ⟨⟨_,rfl⟩,hJs⟩
section
variable {B:Nat} {w0 w:World} {R L:List aA} {bd bk:Nat} {k:ai} {d:kQ} {ec wv wk:Int} {fs:Sl} {N:Nat}
def ti (bd bk c0 bx:Nat) (d:kQ) (ec wv wk:Int) (k:ai) (s2:Sl) (xs:List Slot) (pre:List (Int × Slot)):aA:=
 pV fun fs:Sl=>bh [aa bd (af bk d ec wv wk fs),ah aw fs (ai.cg (pre.map (·.2)) k).1,aj bk (ai.cg (pre.map (·.2)) k).2,aa c0 [.pointer (some ⟨bd,0,none⟩)],ah Tr.bw s2 xs,aa bx [.slice s2.a s2.len s2.cap]]
def HK (s2:Sl) (xs:List Slot) (bx:Nat) (V:World):Prop:=V.cell? ⟨bx,0,none⟩=some (.slice s2.a s2.len s2.cap)/\jR 2 V s2 (xs.flatMap Tr.bw.enc)
theorem ov {c0 bx:Nat} {s2:Sl} {xs:List Slot} {pre:List (Int × Slot)} (h:Ow B w0 w (ti bd bk c0 bx d ec wv wk k s2 xs pre::R)):
  ∃fs:Sl,Ow B w0 w (aa bd (af bk d ec wv wk fs)::ah aw fs (ai.cg (pre.map (·.2)) k).1::aj bk (ai.cg (pre.map (·.2)) k).2::aa c0 [.pointer (some ⟨bd,0,none⟩)]::ah Tr.bw s2 xs::aa bx [.slice s2.a s2.len s2.cap]::R):=by
 obtain ⟨fs,h⟩:=Ow.ex h;exact ⟨fs,h.star⟩
theorem Bc {c0 bx:Nat} {s2:Sl} {xs:List Slot} {pre:List (Int × Slot)} (fs:Sl)
  (h:Ow B w0 w (aa bd (af bk d ec wv wk fs)::ah aw fs (ai.cg (pre.map (·.2)) k).1::aj bk (ai.cg (pre.map (·.2)) k).2::aa c0 [.pointer (some ⟨bd,0,none⟩)]::ah Tr.bw s2 xs::aa bx [.slice s2.a s2.len s2.cap]::R)):
  Ow B w0 w (ti bd bk c0 bx d ec wv wk k s2 xs pre::R):=Ow.eP fs (Ow.aY h)
theorem CN {c0 bx:Nat} {s2:Sl} {xs:List Slot} {pre:List (Int × Slot)} (h:Ow B w0 w (ti bd bk c0 bx d ec wv wk k s2 xs pre::R)):HK s2 xs bx w:=by
 obtain ⟨fs,h⟩:=ov h;exact ⟨h.aq rfl,h.vg 4 rfl⟩
theorem GB {s2:Sl} {xs:List Slot} {bx:Nat} (hl:s2.len=xs.length) (hx:xs.length≤1000000) (l:Nat) (J:List (Int × Slot)->Pw) (W:World)
  (hJR:∀pre V,J pre V->HK s2 xs bx V)
  (hY:∀pre x V,J pre V->(pre++ [x]) <+: back xs xs.length->YieldAt Fence.wide 2 Tryz.prog l (Ic x) V fun e V'=>e= .returned (.bool true)/\J (pre++ [x]) V') (h0:J [] W):
  CallsIn Fence.wide 3 Tryz.prog 228 (#[.func (.yield l) #[] #[]]++ #[.pointer (some ⟨bx,0,none⟩)]) W fun e W'=>(∃v,e= .returned v)/\J (back xs xs.length) W':=by
 obtain ⟨h1,h2⟩:=hJR _ _ h0;rw[hl] at h1;cases h2 with
 |nil ha hl' hc hcs=>
  have hx0:xs= []:=List.eq_nil_of_length_eq_zero om;subst hx0;rw[ha,hc] at h1;exact xr 3 (by decide) l bx J W h1 h0
 |mk b o l' ha hb hl' hc hcs=>
  refine FZ 3 (by decide) l bx b o xs.length s2.cap xs rfl hx J (fun pre V hJ=>?_) hY W h0;obtain ⟨r1,r2⟩:=hJR _ _ hJ;rw[hl,ha] at r1;refine ⟨r1,fun j x hj u v hv=>?_⟩;obtain ⟨b',o',ha',hc'⟩:=jR.get (E:=Tr.bw) r2 hj;rw[ha] at ha';cases ha';have:=hc' u v hv;rw[aI,Nat.add_assoc];exact this
set_option maxRecDepth 100000 in
set_option maxHeartbeats 4000000 in
theorem E0 {c0 bx:Nat} {s2:Sl} {xs:List Slot} {t:Array Value} {Q:Exit->Act->Pw} (hk:aW N k) (hN:N≤200000) (hnd:xs.Nodup) (hheld:∀s∈xs,(k.H s).isSome=true) (hlen:xs.length≤1000000)
  (ht:t.size=66) (h1:t.getD 1 undef= .pointer (some ⟨c0,0,none⟩)) (h19:t.getD 19 undef= .func (.func 228) #[] #[.pointer (some ⟨bx,0,none⟩)])
  (h:Ow B w0 w (ti bd bk c0 bx d ec wv wk k s2 xs []::R))
  (hQ:∀(D:Nat) (V:World),Ow B w0 V (dL D (.deferred (some []))::ti bd bk c0 bx d ec wv wk k s2 xs (back xs xs.length)::R)->Q .normal { tmps:=t,defers:=[{ target:= .collected D,args:= #[]}]} V):
  DI.wpIn Fence.wide 4 Tryz.prog Q { tmps:=t,defers:=[]} w:=by
 obtain ⟨f,hf,he⟩:=Iz t ht;rw[←hf] at h1 h19
 have hl:s2.len=xs.length:=by
  obtain ⟨fs,h⟩:=ov h;exact (h.br s2)
 show (Code.block 0 (.rangeFunc _ _ _ _)).wpIn Fence.wide 4 Tryz.prog Q { tmps:=t,defers:=[]} w;refine wpIn_block ?_
 refine CI (n:=4) (α:=Int × Slot) rfl (by decide) (gf:=228) (lb:= #[.pointer (some ⟨bx,0,none⟩)]) ?_ trivial (enters_of Tryz.func228 (by kernel_rfl) rfl) Ic (fun _=>rfl) (back xs xs.length)
  (ti bd bk c0 bx d ec wv wk k s2 xs) (fun a' x=>pV fun p:Nat=>bh [dX (a'={ tmps:=((t.setIfInBounds 20 (.z x.1)).setIfInBounds 21 (.agg #[.z x.2.1, .z x.2.2])).setIfInBounds 5 (.pointer (some ⟨p,0,none⟩)),defers:=[]}),aa p [.z x.2.1, .z x.2.2]])
  (HK s2 xs bx) h (fun Z pre V h=>CN h) (fun l J W _ hJR hY h0=>GB hl hlen l J W hJR hY h0) ?_ ?_ hQ
 ·show t.getD 19 undef=_
  rw[←hf];exact h19
 ·intro l Z pre x V K hO hK
  have hK:=fun w' h=>hK { tmps:=((t.setIfInBounds 20 (.z x.1)).setIfInBounds 21 (.agg #[.z x.2.1, .z x.2.2])).setIfInBounds 5 (.pointer (some ⟨V.heap.size,0,none⟩)),defers:=[]} w' (Ow.eP V.heap.size (Ow.aY (Ow.dN rfl h)))
  have hO:=hO.al (t:=204) (l:=[.z x.2.1, .z x.2.2]) (k:=fun w'=>Ow B w0 w' (aa V.heap.size [.z x.2.1, .z x.2.2]::ti bd bk c0 bx d ec wv wk k s2 xs pre::Z++R)) (fun w' h=>h);have hK:=hK _ hO;clear hO hf;obtain ⟨x1,x2,x3⟩:=x;dsimp only at hK⊢;subst he;dsimp only[Ic]
  gi_wp2
  simpa [h1,h19] using hK
 ·intro l Z pre x a' V hpre hO
  obtain ⟨p,hO⟩:=Ow.ex (hO:Ow B w0 V (pV _::(ti bd bk c0 bx d ec wv wk k s2 xs pre::Z++R)));have hO:=hO.star;obtain ⟨ea,hO1⟩:=Ow.pure (hO:Ow B w0 V (dX _::(aa p [.z x.2.1, .z x.2.2]::ti bd bk c0 bx d ec wv wk k s2 xs pre::Z++R)));clear hO;have hO1:=hO1.perm (List.Perm.swap _ _ _);obtain ⟨fs,hO⟩:=ov hO1
  have hx2:(pre.map (·.2)++ [x.2]) <+: xs.reverse:=by
   have:=hpre.map (·.2);rw[xu] at this;simpa using this
  have hnd2:(pre.map (·.2)++ [x.2]).Nodup:=(hx2.sublist).nodup (List.pairwise_reverse.2 (hnd.imp Ne.symm));have hall:∀s∈pre.map (·.2)++ [x.2],(k.H s).isSome=true:=fun s hs=>hheld s (List.mem_reverse.1 (hx2.subset hs))
  obtain ⟨g1,g2⟩:=sG (pre.map (·.2)) k hk (List.nodup_append.1 hnd2).1 (fun s hs=>hall s (List.mem_append_left _ hs));have g3:=sH (pre.map (·.2)) k;have g4:=zS k.ae hk.Ah;have g5:=hk.ns
  have hg:C.qaz (some ⟨bd,0,none⟩) x.2.1 x.2.2 (fun w'=>Ow B w0 w' (ti bd bk c0 bx d ec wv wk k s2 xs (pre++ [x])::Z++R)) V:=by
   refine uL (F:=(ai.cg (pre.map (·.2)) k).1) (k:=(ai.cg (pre.map (·.2)) k).2) (s:=x.2) g1 hN ?_ om hO fun fs' w' h=>?_
   ·rw[g2,if_neg]
    ·exact hall _ (List.mem_append_right _ List.mem_cons_self)
    ·intro hm
     have:=(List.nodup_append.1 hnd2).2.2 _ hm _ List.mem_cons_self;exact this rfl
   ·refine Bc fs' ?_
    rw[List.map_append,List.map_cons,List.map_nil,sI];exact h.sub
  dsimp only[C.qaz] at hg;have hg:=rR hg;have hg:=(callsIn_wide (n:=1)).2 hg;have c1:V.cell? ⟨c0,0,none⟩=some (.pointer (some ⟨bd,0,none⟩)):=hO.aq rfl;have c2:V.cell? ⟨p,0,none⟩=some (.z x.2.1):=hO.aq rfl;have c3:V.cell? ⟨p,1,none⟩=some (.z x.2.2):=hO.aq rfl;clear hO hO1 hall hnd2 hx2 hQ h g1 g2 g3 g4 g5 hpre hheld hnd hl;obtain ⟨x1,x2,x3⟩:=x;dsimp only at ea hg c2 c3⊢;subst ea;subst he;clear hf;have hg:=hg.inRound l
  gi_wp2
  refine ⟨trivial,hg.mono ?_⟩;rintro e w' ⟨rfl,hw⟩
  gi_wp2
  exact hw
theorem yQ {s x:Slot} (hx:x∈Tr.db k.T s):x∈k.T.map (·.1):=by
 unfold Tr.db at hx;split at hx
 ·simp at hx
 ·obtain ⟨y,hy,rfl⟩:=List.mem_map.1 hx
  exact List.mem_map.2 ⟨y,List.mem_of_mem_drop (List.mem_of_mem_take hy),rfl⟩
theorem yR {s:Slot} (h:Tr.tY k.T):(Tr.db k.T s).Nodup:=by
 unfold Tr.db;split
 ·exact List.nodup_nil
 ·exact ((List.take_sublist _ _).trans (List.drop_sublist _ _) |>.map (fun x:Tr.fE=>x.1)).nodup h.nd
theorem C2 {s:Slot} (hk:aW N k):(Tr.db k.T s).length≤64:=by
 have:=hk.gT;unfold Tr.db;split
 ·simp
 ·simp;omega
theorem AI:∀(l:List Slot) (k:ai),aW N k->l.Nodup->(∀s∈l,(k.H s).isSome=true)->(ai.cg l k).2.u=k.u
 | [],k,_,_,_=>rfl
 |a::l,k,h,hn,hs=>by
  obtain ⟨h1,h2,h3⟩:=h.gone (hs a List.mem_cons_self);rw[List.nodup_cons] at hn
  have hl:∀s∈l,((k.gone a).2.H s).isSome=true:=fun s hm=>by
   rw[h2];unfold Sl.cW;rw[if_neg (fun e:s=a=>hn.1 (e▸hm))];exact hs s (List.mem_cons_of_mem _ hm)
  have h4:(ai.cg (a::l) k).2.u=(k.gone a).2.u:=AI l _ h1 hn.2 hl;rw[h4];unfold ai.gone;split
  ·rfl
  ·unfold ai.last
   split
   ·rfl
   split
   ·rfl
   split
   ·rfl
   ·rfl
set_option maxHeartbeats 1000000 in
theorem yw {K:Int->Pw} (hk:aW N k) (hN:N≤200000) (ho:k.fT d.c) (h:Ow B w0 w (aa bd (af bk d ec wv wk fs)::ah aw fs []::aj bk k::R))
  (hK:∀fs' w',Ow B w0 w' (aa bd (af bk d ec ((Tr.db k.T d.s).length:Int) wk fs')::ah aw fs' (ai.cg (Tr.db k.T d.s).reverse k).1::aj bk (k.ji d).2::R)->K 0 w'):C.qdJ (some ⟨bd,0,none⟩) K w:=by
 have hlen:=C2 (s:=d.s) hk;have hnd:=yR (s:=d.s) hk.tok;have hheld:∀s∈Tr.db k.T d.s,(k.H s).isSome=true:=fun s hs=>(hk.mem s).1 (yQ hs)
 unfold C.qdJ;refine kh Tryz.func137 rfl ((callsIn_wide (n:=4)).1 ?_);refine callsIn_of_wp_marks (c:= .seq (cL lk) (.seq (cL (cR lk)) (.seq (.seq (cL (cL (cR (cR lk)))) DI) uF))) Tryz.func137 (by kernel_rfl) trivial ?_ rfl
 have hA:=EY (fs:=fs) h (K:=fun d1 c t s v w'=>∃c0 bx,d1=some ⟨bd,0,none⟩/\c=⟨c0,0,none⟩/\t=0/\v= .func (.func 228) #[] #[.pointer (some ⟨bx,0,none⟩)]/\
  Ow B w0 w' (aa bd (af bk d ec wv wk fs)::ah aw fs []::aj bk k::aa c0 [.pointer (some ⟨bd,0,none⟩)]::ah Tr.bw s (Tr.db k.T d.s)::aa bx [.slice s.a s.len s.cap]::R)) (fun c0 s2 bx w' h=>⟨c0,bx,rfl,rfl,rfl,rfl,h⟩)
 rw[←S.qdW1] at hA;unfold ai.ji at hK;dsimp only at hK;generalize Tr.db k.T d.s=xs at hA hK hlen hnd hheld;refine wpIn_seq (wpIn_wide.2 (wp_mono (lW (ds:=[]) (n:=66) lI iA (cL lk) rM.a _ (fun _ _ _=>False) (fun _ _=>False) (nth [.pointer (some ⟨bd,0,none⟩)]) _ w (by kernel_rfl) ?_ hA) ?_))
 ·refine ⟨by simp[Tryz.ntmps137],rfl,fun t v ht=>?_⟩
  rw[cG] at ht
  match t,ht with
  |0,ht=>simp at ht;subst ht;simp
  |t+1,ht=>simp at ht
 intro en a1 w1 hq;cases en with
 |exit i=>obtain ⟨_,_,_,h⟩:=hq;exact h.elim
 |ret=>obtain ⟨_,_,_,h⟩:=hq;exact h.elim
 |goto l=>exact hq.elim
 |panic ch=>exact hq.elim
 |outgrown=>exact hq.elim
 |normal=>
 obtain ⟨_,e1,hr1,h1⟩:=hq;refine wpIn_seq (wpIn_wide.2 (wp_mono (lW (ds:=[]) (n:=66) lI iA (cL (cR lk)) rM.b.a _ (fun _ _ _=>False) (fun _ _=>False) e1 _ w1 (by kernel_rfl) hr1 h1) ?_));intro en a2 w2 hq;cases en with
 |exit i=>obtain ⟨_,_,_,h⟩:=hq;exact h.elim
 |ret=>obtain ⟨_,_,_,h⟩:=hq;exact h.elim
 |goto l=>exact hq.elim
 |panic ch=>exact hq.elim
 |outgrown=>exact hq.elim
 |normal=>
 obtain ⟨_,e2,hr2,h2⟩:=hq;refine wpIn_seq (wpIn_seq (wpIn_wide.2 (wp_mono (lW (ds:=[]) (n:=66) lI iA (cL (cL (cR (cR lk)))) rM.b.b _ (fun _ _ _=>False) (fun _ _=>False) e2 _ w2 (by kernel_rfl) hr2 h2) ?_)));intro en a3 w3 hq;cases en with
 |exit i=>obtain ⟨_,_,_,h⟩:=hq;exact h.elim
 |ret=>obtain ⟨_,_,_,h⟩:=hq;exact h.elim
 |goto l=>exact hq.elim
 |panic ch=>exact hq.elim
 |outgrown=>exact hq.elim
 |normal=>
 obtain ⟨_,e3,⟨hs3,hd3,hr3⟩,h3⟩:=hq;obtain ⟨vs,hv1,hv2,h3⟩:=z7 [0,1,2,3,19] [] _ h3;obtain ⟨d0,c,t,s,v,v0,v1,v2,v3,v4,c0,bx,rfl,rfl,rfl,rfl,h3⟩:=Ia h3
 have key:∀(i t:Nat) (v:Value),[0,1,2,3,19][i]?=some t->nth ([].reverse++vs) i=some v->a3.tmps.getD t undef=v:=fun i t v hi hv=>by
  obtain ⟨v',h1,h2⟩:=hv2 i t hi;rw[cG] at hv;simp only[List.reverse_nil,List.nil_append] at hv;rw[h1] at hv;cases hv;exact hr3 t v h2
 have k0:=key 0 0 _ rfl v0;have k1:=key 1 1 _ rfl v1;have k2:=key 2 2 _ rfl v2;have k3:=key 3 3 _ rfl v3;have k4:=key 4 19 _ rfl v4;have hsl:s.len=xs.length:=h3.br s;obtain ⟨t3,d3⟩:=a3;dsimp only at hs3 hd3 k0 k1 k2 k3 k4;subst hd3;have hO:Ow B w0 w3 (ti bd bk c0 bx d ec wv wk k s xs []::R):=Bc fs h3;show DI.wpIn Fence.wide 4 Tryz.prog _ { tmps:=t3,defers:=[]} w3;refine E0 hk hN hnd hheld om hs3 k1 k4 hO fun D V hO=>?_
 obtain ⟨fs',hO⟩:=ov (hO.perm (List.Perm.swap _ _ _));rw[xu] at hO;show uF.wpIn Fence.wide 4 Tryz.prog _ { tmps:=t3,defers:=[{ target:= .collected D,args:= #[]}]} V;have hnd2:xs.reverse.Nodup:=List.pairwise_reverse.2 (hnd.imp Ne.symm);have hu2:=AI xs.reverse k hk hnd2 (fun s hs=>hheld s (List.mem_reverse.1 hs))
 have hZ:=EZ (K:=fun r w'=>r=0/\Ow B w0 w' (dL D (.deferred (some []))::aa bd (af bk d ec (xs.length:Int) wk fs')::ah aw fs' (ai.cg xs.reverse k).1::aj bk (if d.c.kind=1 then (ai.cg xs.reverse k).2.km d.c.obj else (ai.cg xs.reverse k).2)::R)) (bx:=bx) hsl om (fun e=>by
   rw[hu2];exact ⟨ho.1,ho.2.1 e⟩) (show Ow B w0 V (aa bd (af bk d ec wv wk fs')::ah aw fs' (ai.cg xs.reverse k).1::aj bk (ai.cg xs.reverse k).2::aa c0 [.pointer (some ⟨bd,0,none⟩)]::dL D (.deferred (some []))::R) from hO.sub) fun w' h=>⟨rfl,h.sub⟩
 rw[←S.qdX1] at hZ;refine wpIn_wide.2 (wp_mono (lW (ds:=[{ target:= .collected D,args:= #[]}]) (n:=66) lI iA uF AA _ (fun _ _ _=>False) _ (nth [.pointer (some ⟨bd,0,none⟩), .pointer (some ⟨c0,0,none⟩), .z 0, .slice s.a s.len s.cap]) _ V (by kernel_rfl) ?_ hZ) ?_)
 ·refine ⟨hs3,rfl,fun t v ht=>?_⟩
  rw[cG] at ht
  match t,ht with
  |0,ht=>simp at ht;subst ht;exact k0
  |1,ht=>simp at ht;subst ht;exact k1
  |2,ht=>simp at ht;subst ht;exact k2
  |3,ht=>simp at ht;subst ht;exact k3
  |t+4,ht=>simp at ht
 have fin:∀(a:Act) (w':World),At [{ target:= .collected D,args:= #[]}] 66 (dm uF) { tmps:=t3,defers:=[{ target:= .collected D,args:= #[]}]} (fun e w'=>oq Tryz.prog DJ.results.toList e w' [] fun vs=>gQ AB (fun r w'=>r=0/\Ow B w0 w' (dL D (.deferred (some []))::aa bd (af bk d ec (xs.length:Int) wk fs')::ah aw fs' (ai.cg xs.reverse k).1::aj bk (if d.c.kind=1 then (ai.cg xs.reverse k).2.km d.c.obj else (ai.cg xs.reverse k).2)::R)) (nth vs) w') a w'->
   LeavesInM Fence.wide 4 Tryz.prog Tryz.f137 a.tmps (fun en w'=>∃r2:Int,en= .returned (.z r2)/\K r2 w') a.defers .returning w':=by
  rintro ⟨t4,d4⟩ w' ⟨_,e,⟨hs,hd,hr⟩,hN⟩;obtain ⟨vs,hv1,hv2,hN⟩:=z7 [2] [] _ hN;obtain ⟨r,hr0,rfl,hO⟩:=BW hN;obtain ⟨v',e1,e2⟩:=hv2 0 2 rfl;rw[cG] at hr0;simp only[List.reverse_nil,List.nil_append] at hr0;rw[e1] at hr0;cases hr0;have hr2:=hr 2 _ e2;dsimp only at hd hr2⊢;subst hd;refine ⟨by simp, .inl ⟨D,_,rfl,run_takeDeferred hO.obj, ?_⟩⟩;have hO:=(hO.putObj (.deferred none)).drop;refine ⟨_,results_tmp rfl _ _ _,0, ?_,hK fs' _ ?_⟩
  ·rw[hr2]
  ·exact hO
 intro en a4 w4 hq;cases en with
 |normal=>exact fin a4 w4 hq
 |ret=>exact fin a4 w4 hq
 |exit i=>obtain ⟨_,_,_,h⟩:=hq;exact h.elim
 |goto l=>exact hq.elim
 |panic ch=>exact hq.elim
 |outgrown=>exact hq.elim
end
end Go.Proofs.YtlhljbbfckbjpaaGreat
end
section
set_option maxRecDepth 8000
namespace Go.Proofs.YtlhljbbfckbjpaaGreat
open Go Go.Vc Go.Proofs
def G8:List Value:=[.z (1:Int), .z (0:Int), .z (0:Int), .z (0:Int), .z (0:Int), .z (0:Int), .z (0:Int), .z (0:Int), .z (0:Int), .z (0:Int), .z (3:Int), .z (0:Int), .z (3:Int), .z (0:Int), .z (3:Int), .z (0:Int), .z (4:Int), .z (2:Int), .z (4:Int), .z (1:Int), .z (5:Int), .z (2:Int), .z (5:Int), .z (1:Int), .z (7:Int), .z (0:Int), .z (6:Int), .z (0:Int), .z (8:Int), .z (0:Int), .z (9:Int), .z (0:Int), .z (9:Int), .z (0:Int), .z (0:Int), .z (0:Int)]
theorem Gq:∀n:Nat,n<18->(G8.drop (n*2)).take 2= [.z (ai.aM (n:Int)).1, .z (ai.aM (n:Int)).2]
 |0,_=>rfl|1,_=>rfl|2,_=>rfl|3,_=>rfl|4,_=>rfl|5,_=>rfl|6,_=>rfl|7,_=>rfl|8,_=>rfl
 |9,_=>rfl|10,_=>rfl|11,_=>rfl|12,_=>rfl|13,_=>rfl|14,_=>rfl|15,_=>rfl|16,_=>rfl|17,_=>rfl
 |n+18,h=>absurd h om
section
variable {B:Nat} {w0 w:World} {R L:List aA} {bd bk:Nat} {k:ai} {d:kQ} {ec wv wk:Int} {fs:Sl} {N:Nat}
theorem zM {ask:Int} {K:Int->Int->Pw} (h0:0≤ask) (h1:ask<18) (h:Ow B w0 w R) (hK:∀w',Ow B w0 w' R->K (ai.aM ask).1 (ai.aM ask).2 w'):C.qdf ask K w:=by
 apply S.qdf0;obtain ⟨n,rfl⟩:=Int.eq_ofNat_of_zero_le h0;refine h.a fun c0 w1 h=>?_;refine h.a fun c1 w2 h=>?_;refine h.ax rfl rfl fun w h=>?_
 have h:Ow B w0 w (aa c1 G8::aa c0 [.z 0, .z 0]::R):=h;refine ⟨h0,h1, ?_⟩;refine eM (h.aL (o:=0+(n:Int).toNat*2) (c0:= .i .i64) (c1:= .i .i64) (x0:=(ai.aM (n:Int)).1) (x1:=(ai.aM (n:Int)).2) ?_ ?_)
 ·rw[Nat.zero_add]
  exact Gq n om
 refine h.ax rfl rfl fun w h=>?_
 (try dsimp only[putAt,List.set_cons_zero,List.set_cons_succ] at h)
 refine h.aL rfl ?_;exact hK w h.sub
def Hi:List (Int × Nat):=[(0,133),(1,134),(2,135),(3,136),(4,137),(5,138),(6,139),(7,140),
 (8,141),(9,142),(10,143),(11,144),(12,145),(13,146),(14,147),(15,148),(16,149)]
def cy (bd:Nat) (f:Nat):Value:= .func (.func f) #[.pointer (some ⟨bd,0,none⟩)] #[]
theorem zn {K:Int->Pw} {m:Nat} (hk:aW N k) (hN:N+64≤100000) (hcore:k.t.fR d.core=true) (hH:k.H d.s=some d.c) (hr:Sl.ia d.c) (ho:k.fT d.c) (ha0:0≤d.call.ask) (ha1:d.call.ask<17)
  (hkind:(ai.aM d.call.ask).1≠0->d.c.kind=(ai.aM d.call.ask).1) (hw0: -9223372036854775808≤d.call.ak) (hw1:d.call.ak<9223372036854775808)
  (h:Ow B w0 w (dI (Value.int .i64) (cy bd) m Hi::aa bd (af bk d 0 0 (-1) ⟨none,0,0⟩)::ah aw ⟨none,0,0⟩ []::aj bk k::R))
  (hK:∀fs' w',Ow B w0 w' (aa bd (af bk d 0 (k.asks d).1.w (k.asks d).1.dg fs')::ah aw fs' (k.asks d).1.forget::aj bk (k.asks d).2::R)->K (k.asks d).1.e w'):
  ∃t50:Value,wW Tryz.prog 275 (.map (some m)) (.z d.call.ask) t50 w/\bY Tryz.prog t50 [] w fun en w'=>∃r:Int,en= .returned (.z r)/\K r w':=by
 have hN2:N≤200000:=by omega
 have hsome:(k.H d.s).isSome=true:=by rw[hH];rfl
 have hlook:∀f,cF Hi d.call.ask=some f->wW Tryz.prog 275 (.map (some m)) (.z d.call.ask) (cy bd f) w:=fun f hf=>
  (h.mF (enc:=Value.int .i64) (encV:=cy bd) Tryz.underlying275 (aF .i64 Tryz.underlying3) 0 rfl hf).2
 have hask:d.call.ask=0∨d.call.ask=1∨d.call.ask=2∨d.call.ask=3∨d.call.ask=4∨d.call.ask=5∨d.call.ask=6∨d.call.ask=7∨d.call.ask=8∨d.call.ask=9∨d.call.ask=10∨d.call.ask=11∨d.call.ask=12∨d.call.ask=13∨d.call.ask=14∨d.call.ask=15∨d.call.ask=16:=by omega
 rcases hask with e|e|e|e|e|e|e|e|e|e|e|e|e|e|e|e|e
 ·refine ⟨cy bd 133,hlook _ (by rw[e];rfl),aP ?_⟩
  show C.qaY (some ⟨bd,0,none⟩) K w;have hkd:(ai.aM 0).1≠0->d.c.kind=(ai.aM 0).1:=by rw[e] at hkind;exact hkind
  have hkd:=hkd (by decide)
  have ea:k.asks d=ai.tell (k.fp d).1 (k.fp d).2:=by
   unfold ai.asks;rw[e];rfl
  rw[ea] at hK
  try dsimp only[ai.tell,ai.dT] at hK
  exact yv hk hN hsome (hkd) ho hcore hw0 hw1 (show Ow B w0 w (aa bd (af bk d 0 0 (-1) ⟨none,0,0⟩)::aj bk k::ah aw ⟨none,0,0⟩ []::R) from h.sub) fun w' h=>hK ⟨none,0,0⟩ w' h.sub
 ·refine ⟨cy bd 134,hlook _ (by rw[e];rfl),aP ?_⟩
  show C.qbG (some ⟨bd,0,none⟩) K w;have hkd:(ai.aM 1).1≠0->d.c.kind=(ai.aM 1).1:=by rw[e] at hkind;exact hkind
  have ea:k.asks d=ai.tell (k.oe d).1 (k.oe d).2:=by
   unfold ai.asks;rw[e];rfl
  rw[ea] at hK
  try dsimp only[ai.tell,ai.dT] at hK
  exact Cw hk hr hw0 hw1 (show Ow B w0 w (aa bd (af bk d 0 0 (-1) ⟨none,0,0⟩)::aj bk k::ah aw ⟨none,0,0⟩ []::R) from h.sub) fun w' h=>hK ⟨none,0,0⟩ w' h.sub
 ·refine ⟨cy bd 135,hlook _ (by rw[e];rfl),aP ?_⟩
  show C.qbH (some ⟨bd,0,none⟩) K w;have hkd:(ai.aM 2).1≠0->d.c.kind=(ai.aM 2).1:=by rw[e] at hkind;exact hkind
  have ea:k.asks d=ai.tell (k.move d).1 (k.move d).2:=by
   unfold ai.asks;rw[e];rfl
  rw[ea] at hK
  try dsimp only[ai.tell,ai.dT] at hK
  exact Cy hk hw0 hw1 (show Ow B w0 w (aa bd (af bk d 0 0 (-1) ⟨none,0,0⟩)::aj bk k::ah aw ⟨none,0,0⟩ []::R) from h.sub) fun w' h=>hK ⟨none,0,0⟩ w' h.sub
 ·refine ⟨cy bd 136,hlook _ (by rw[e];rfl),aP ?_⟩
  show C.qaZ (some ⟨bd,0,none⟩) K w;have hkd:(ai.aM 3).1≠0->d.c.kind=(ai.aM 3).1:=by rw[e] at hkind;exact hkind
  have ea:k.asks d=if d.call.at_=0 then ai.tell 181 k else (⟨0,0, -1,(k.gone d.s).1⟩,(k.gone d.s).2):=by
   unfold ai.asks;rw[e];rfl
  rw[ea] at hK
  try dsimp only[ai.tell,ai.dT] at hK
  refine xB hk hN2 hsome (show Ow B w0 w (aa bd (af bk d 0 0 (-1) ⟨none,0,0⟩)::ah aw ⟨none,0,0⟩ []::aj bk k::R) from h.sub) (fun e0 w' h=>?_) (fun e0 fs' w' h=>?_)
  ·rw[if_pos e0] at hK;exact hK ⟨none,0,0⟩ w' h.sub
  ·rw[if_neg e0] at hK;exact hK fs' w' h.sub
 ·refine ⟨cy bd 137,hlook _ (by rw[e];rfl),aP ?_⟩
  show C.qdJ (some ⟨bd,0,none⟩) K w;have hkd:(ai.aM 4).1≠0->d.c.kind=(ai.aM 4).1:=by rw[e] at hkind;exact hkind
  have ea:k.asks d=k.ji d:=by
   unfold ai.asks;rw[e];rfl
  rw[ea] at hK
  try dsimp only[ai.tell,ai.dT] at hK
  exact yw hk hN2 ho (show Ow B w0 w (aa bd (af bk d 0 0 (-1) ⟨none,0,0⟩)::ah aw ⟨none,0,0⟩ []::aj bk k::R) from h.sub) fun fs' w' h=>hK fs' w' h
 ·refine ⟨cy bd 138,hlook _ (by rw[e];rfl),aP ?_⟩
  show C.qba (some ⟨bd,0,none⟩) K w;have hkd:(ai.aM 5).1≠0->d.c.kind=(ai.aM 5).1:=by rw[e] at hkind;exact hkind
  have hkd:=hkd (by decide)
  have ea:k.asks d=ai.dT (k.resume d):=by
   unfold ai.asks;rw[e];rfl
  rw[ea] at hK
  try dsimp only[ai.tell,ai.dT] at hK
  exact yu hk hN2 (show Ow B w0 w (aa bd (af bk d 0 0 (-1) ⟨none,0,0⟩)::aj bk k::ah aw ⟨none,0,0⟩ []::R) from h.sub) fun w' h=>hK ⟨none,0,0⟩ w' h.sub
 ·refine ⟨cy bd 139,hlook _ (by rw[e];rfl),aP ?_⟩
  show C.qaP (some ⟨bd,0,none⟩) K w;have hkd:(ai.aM 6).1≠0->d.c.kind=(ai.aM 6).1:=by rw[e] at hkind;exact hkind
  have hkd:=hkd (by decide)
  have ea:k.asks d=ai.tell (k.t.cp d.c.obj).1 ((k.dY d.c.obj).cu (k.t.cp d.c.obj).2):=by
   unfold ai.asks;rw[e];rfl
  rw[ea] at hK
  try dsimp only[ai.tell,ai.dT] at hK
  exact wN hk hN2 (show Ow B w0 w (aa bd (af bk d 0 0 (-1) ⟨none,0,0⟩)::aj bk k::ah aw ⟨none,0,0⟩ []::R) from h.sub) fun w' h=>hK ⟨none,0,0⟩ w' h.sub
 ·refine ⟨cy bd 140,hlook _ (by rw[e];rfl),aP ?_⟩
  show C.qbI (some ⟨bd,0,none⟩) K w;have hkd:(ai.aM 7).1≠0->d.c.kind=(ai.aM 7).1:=by rw[e] at hkind;exact hkind
  have hkd:=hkd (by decide)
  have ea:k.asks d=ai.tell (k.t.iL d.c.obj d.call.a).1 (k.cu (k.t.iL d.c.obj d.call.a).2):=by
   unfold ai.asks;rw[e];rfl
  rw[ea] at hK
  try dsimp only[ai.tell,ai.dT] at hK
  exact CF hk.inv.ok (show Ow B w0 w (aa bd (af bk d 0 0 (-1) ⟨none,0,0⟩)::aj bk k::ah aw ⟨none,0,0⟩ []::R) from h.sub) fun w' h=>hK ⟨none,0,0⟩ w' h.sub
 ·refine ⟨cy bd 141,hlook _ (by rw[e];rfl),aP ?_⟩
  show C.qbJ (some ⟨bd,0,none⟩) K w;have hkd:(ai.aM 8).1≠0->d.c.kind=(ai.aM 8).1:=by rw[e] at hkind;exact hkind
  have hkd:=hkd (by decide)
  have ea:k.asks d=k.send d:=by
   unfold ai.asks;rw[e];rfl
  rw[ea] at hK
  try dsimp only[ai.tell,ai.dT] at hK
  have t1:(k.send d).1.w=0/\(k.send d).1.forget= []:=by
   unfold ai.send ai.tell ai.dT;split
   ·exact ⟨rfl,rfl⟩
   split
   ·exact ⟨rfl,rfl⟩
   ·exact ⟨rfl,rfl⟩
  rw[t1.1,t1.2] at hK;exact CO hk hN2 ho.1 (ho.2.2.2.2.1 (hkd)) (show Ow B w0 w (aa bd (af bk d 0 0 (-1) ⟨none,0,0⟩)::aj bk k::ah aw ⟨none,0,0⟩ []::R) from h.sub) fun w' h=>hK ⟨none,0,0⟩ w' h.sub
 ·refine ⟨cy bd 142,hlook _ (by rw[e];rfl),aP ?_⟩
  show C.qbK (some ⟨bd,0,none⟩) K w;have hkd:(ai.aM 9).1≠0->d.c.kind=(ai.aM 9).1:=by rw[e] at hkind;exact hkind
  have hkd:=hkd (by decide)
  have ea:k.asks d=k.recv d:=by
   unfold ai.asks;rw[e];rfl
  rw[ea] at hK
  try dsimp only[ai.tell,ai.dT] at hK
  have t1:(k.recv d).1.w=0/\(k.recv d).1.forget= []:=by
   unfold ai.recv ai.tell ai.dT;split
   ·exact ⟨rfl,rfl⟩
   split
   ·exact ⟨rfl,rfl⟩
   ·exact ⟨rfl,rfl⟩
  rw[t1.1,t1.2] at hK;exact CK hk hN2 ho.1 (ho.2.2.2.2.1 (hkd)) (show Ow B w0 w (aa bd (af bk d 0 0 (-1) ⟨none,0,0⟩)::aj bk k::ah aw ⟨none,0,0⟩ []::R) from h.sub) fun w' h=>hK ⟨none,0,0⟩ w' h.sub
 ·refine ⟨cy bd 143,hlook _ (by rw[e];rfl),aP ?_⟩
  show C.qan (some ⟨bd,0,none⟩) K w;have hkd:(ai.aM 10).1≠0->d.c.kind=(ai.aM 10).1:=by rw[e] at hkind;exact hkind
  have hkd:=hkd (by decide)
  have ea:k.asks d=(⟨0,0,(k.bS d.c.obj d.c.aB).1,[]⟩,(k.bS d.c.obj d.c.aB).2):=by
   unfold ai.asks;rw[e];rfl
  rw[ea] at hK
  try dsimp only[ai.tell,ai.dT] at hK
  exact tm hk hN2 ho.1 (ho.2.2.2.2.2.1 (hkd)) (show Ow B w0 w (aa bd (af bk d 0 0 (-1) ⟨none,0,0⟩)::aj bk k::ah aw ⟨none,0,0⟩ []::R) from h.sub) fun w' h=>hK ⟨none,0,0⟩ w' h.sub
 ·refine ⟨cy bd 144,hlook _ (by rw[e];rfl),aP ?_⟩
  show C.qbL (some ⟨bd,0,none⟩) K w;have hkd:(ai.aM 11).1≠0->d.c.kind=(ai.aM 11).1:=by rw[e] at hkind;exact hkind
  have hkd:=hkd (by decide)
  have ea:k.asks d=k.wait d:=by
   unfold ai.asks;rw[e];rfl
  rw[ea] at hK
  try dsimp only[ai.tell,ai.dT] at hK
  have t1:(k.wait d).1.dg= -1/\(k.wait d).1.forget= []:=by
   unfold ai.wait ai.tell;split
   ·exact ⟨rfl,rfl⟩
   ·exact ⟨rfl,rfl⟩
  rw[t1.1,t1.2] at hK;exact C5 hk hN2 ho.1 (ho.2.2.2.2.2.1 (hkd)) (show Ow B w0 w (aa bd (af bk d 0 0 (-1) ⟨none,0,0⟩)::aj bk k::ah aw ⟨none,0,0⟩ []::R) from h.sub) fun w' h=>hK ⟨none,0,0⟩ w' h.sub
 ·refine ⟨cy bd 145,hlook _ (by rw[e];rfl),aP ?_⟩
  show C.qbp (some ⟨bd,0,none⟩) K w;have hkd:(ai.aM 12).1≠0->d.c.kind=(ai.aM 12).1:=by rw[e] at hkind;exact hkind
  have hkd:=hkd (by decide)
  have ea:k.asks d=k.table d:=by
   unfold ai.asks;rw[e];rfl
  rw[ea] at hK
  try dsimp only[ai.tell,ai.dT] at hK
  have t1:(k.table d).1.w=0/\(k.table d).1.dg= -1/\(k.table d).1.forget= []:=by
   unfold ai.table ai.tell;split
   ·exact ⟨rfl,rfl,rfl⟩
   ·exact ⟨rfl,rfl,rfl⟩
  rw[t1.1,t1.2.1,t1.2.2] at hK;exact Am hk (show Ow B w0 w (aa bd (af bk d 0 0 (-1) ⟨none,0,0⟩)::aj bk k::ah aw ⟨none,0,0⟩ []::R) from h.sub) fun w' h=>hK ⟨none,0,0⟩ w' h.sub
 ·refine ⟨cy bd 146,hlook _ (by rw[e];rfl),aP ?_⟩
  show C.qbb (some ⟨bd,0,none⟩) K w;have hkd:(ai.aM 13).1≠0->d.c.kind=(ai.aM 13).1:=by rw[e] at hkind;exact hkind
  have hkd:=hkd (by decide)
  have ea:k.asks d=k.mapped d:=by
   unfold ai.asks;rw[e];rfl
  rw[ea] at hK
  try dsimp only[ai.tell,ai.dT] at hK
  have t1:(k.mapped d).1.w=0/\(k.mapped d).1.dg= -1/\(k.mapped d).1.forget= []:=by
   unfold ai.mapped ai.tell;split
   ·exact ⟨rfl,rfl,rfl⟩
   ·exact ⟨rfl,rfl,rfl⟩
  rw[t1.1,t1.2.1,t1.2.2] at hK;exact yd hk (show Ow B w0 w (aa bd (af bk d 0 0 (-1) ⟨none,0,0⟩)::aj bk k::ah aw ⟨none,0,0⟩ []::R) from h.sub) fun w' h=>hK ⟨none,0,0⟩ w' h.sub
 ·refine ⟨cy bd 147,hlook _ (by rw[e];rfl),aP ?_⟩
  show C.qbq (some ⟨bd,0,none⟩) K w;have hkd:(ai.aM 14).1≠0->d.c.kind=(ai.aM 14).1:=by rw[e] at hkind;exact hkind
  have hkd:=hkd (by decide)
  have ea:k.asks d=k.mL d:=by
   unfold ai.asks;rw[e];rfl
  rw[ea] at hK
  try dsimp only[ai.tell,ai.dT] at hK
  exact Ao hk ho.1 (ho.2.2.2.2.2.2.2.2.1 (hkd)) (show Ow B w0 w (aa bd (af bk d 0 0 (-1) ⟨none,0,0⟩)::ah aw ⟨none,0,0⟩ []::aj bk k::R) from h.sub) fun fs' w' h=>hK fs' w' h
 ·refine ⟨cy bd 148,hlook _ (by rw[e];rfl),aP ?_⟩
  show C.qbM (some ⟨bd,0,none⟩) K w;have hkd:(ai.aM 15).1≠0->d.c.kind=(ai.aM 15).1:=by rw[e] at hkind;exact hkind
  have hkd:=hkd (by decide)
  have ea:k.asks d=k.bind d:=by
   unfold ai.asks;rw[e];rfl
  rw[ea] at hK
  try dsimp only[ai.tell,ai.dT] at hK
  have t1:(k.bind d).1.w=0/\(k.bind d).1.dg= -1/\(k.bind d).1.forget= []:=by
   unfold ai.bind ai.tell;split
   ·exact ⟨rfl,rfl,rfl⟩
   ·exact ⟨rfl,rfl,rfl⟩
  rw[t1.1,t1.2.1,t1.2.2] at hK;exact BY hk (show Ow B w0 w (aa bd (af bk d 0 0 (-1) ⟨none,0,0⟩)::aj bk k::ah aw ⟨none,0,0⟩ []::R) from h.sub) fun w' h=>hK ⟨none,0,0⟩ w' h.sub
 ·refine ⟨cy bd 149,hlook _ (by rw[e];rfl),aP ?_⟩
  show C.qca (some ⟨bd,0,none⟩) K w;have hkd:(ai.aM 16).1≠0->d.c.kind=(ai.aM 16).1:=by rw[e] at hkind;exact hkind
  have hkd:=hkd (by decide)
  have ea:k.asks d=ai.dT (k.hI (kS k.ln d.c.obj)):=by
   unfold ai.asks;rw[e];rfl
  rw[ea] at hK
  try dsimp only[ai.tell,ai.dT] at hK
  exact Dp hk hN2 (show Ow B w0 w (aa bd (af bk d 0 0 (-1) ⟨none,0,0⟩)::aj bk k::ah aw ⟨none,0,0⟩ []::R) from h.sub) fun w' h=>hK ⟨none,0,0⟩ w' h.sub
set_option maxHeartbeats 1000000 in
theorem zo {core cur:Int} {c:Call} {K:Int->Pw} (hk:aW N k) (hN:N+64≤100000) (hcore:k.t.fR core=true) (ha0:0≤c.ask) (ha1:c.ask<17)
  (hw0: -9223372036854775808≤c.ak) (hw1:c.ak<9223372036854775808)
  (h:Ow B w0 w (aa bd (af bk ⟨core,cur,c,(0,0),Sl.ay⟩ 0 0 (-1) ⟨none,0,0⟩)::ah aw ⟨none,0,0⟩ []::aj bk k::R))
  (hK:∀d' fs' w',Ow B w0 w' (aa bd (af bk d' 0 (k.asked core cur c).1.w (k.asked core cur c).1.dg fs')::ah aw fs' (k.asked core cur c).1.forget::aj bk (k.asked core cur c).2::R)->K (k.asked core cur c).1.e w'):
  C.qbn (some ⟨bd,0,none⟩) K w:=by
 apply S.qbn0;unfold ai.asked at hK;refine ⟨_,rfl,_,h.ao rfl, ?_⟩;refine zM (ask:=c.ask) ha0 om h fun w h=>?_
 have hask:(ai.aM c.ask).1=(ai.aM c.ask).1:=rfl;refine h.a fun nb w1 h=>?_;refine h.ax rfl rfl fun w h=>?_
 (try dsimp only[putAt,List.set_cons_zero,List.set_cons_succ] at h)
 intro k9 hk9
 have hbad:k.dB c.at_ (ai.aM c.ask).1=false->∀(sb cb:Addr) (w:World),Ow B w0 w (aa bd (af bk ⟨core,cur,c,(0,0),Sl.ay⟩ 0 0 (-1) ⟨none,0,0⟩)::ah aw ⟨none,0,0⟩ []::aj bk k::R)->k9 sb cb false w:=fun hB sb cb w h=>by
  rw[if_pos hB] at hK;apply hk9;intro k14 hk14;have hfin:k14 true w:=hk14 _ _ (bN rfl (hK _ _ w h));exact bN rfl hfin
 have hgood:k.dB c.at_ (ai.aM c.ask).1=true->∀(sb cb:Nat) (cc:dj) (w:World),cc=k.bM c.at_->Ow B w0 w (aa sb [.z 0, .z c.at_]::aa cb [.z cc.kind, .z cc.obj, .z cc.au, .y cc.aB, .y cc.guard, .z cc.bits]::aa nb [.z (ai.aM c.ask).1, .z (ai.aM c.ask).2]::aa bd (af bk ⟨core,cur,c,(0,0),Sl.ay⟩ 0 0 (-1) ⟨none,0,0⟩)::ah aw ⟨none,0,0⟩ []::aj bk k::R)->k9 ⟨sb,0,none⟩ ⟨cb,0,none⟩ true w:=fun hB sb cb cc w hcc h=>by
  subst hcc;rw[if_neg (by rw[hB];decide)] at hK;obtain ⟨hb1,hb2⟩:=jA hB;obtain ⟨_,hH,ho,hcr,_⟩:=hk.cap hb1;apply hk9;intro k14 hk14;refine bD rfl ⟨_,h.ao rfl,_,h.ao rfl,_,h.ao rfl, ?_⟩;apply hk14;refine y8 (fun e=>?_) (fun e=>?_)
  ·rw[if_pos e] at hK
   exact hK ⟨core,cur,c,(0,0),Sl.ay⟩ ⟨none,0,0⟩ w (show Ow B w0 w (aa bd (af bk ⟨core,cur,c,(0,0),Sl.ay⟩ 0 0 (-1) ⟨none,0,0⟩)::ah aw ⟨none,0,0⟩ []::aj bk k::R) from h.sub)
  rw[if_neg (by rw[e];exact fun hh=>hh rfl)] at hK;refine h.dr fun w h=>?_
  refine h.aL rfl ⟨_,rfl, ?_⟩;refine h.aV rfl ⟨?_,trivial⟩;refine Av (h.ax rfl rfl fun w h=>?_)
  (try dsimp only[putAt,List.set_cons_zero,List.set_cons_succ] at h)
  refine h.hd rfl ⟨_,rfl, ?_,trivial⟩;refine Av (h.ax rfl rfl fun w h=>?_)
  (try dsimp only[putAt,List.set_cons_zero,List.set_cons_succ] at h)
  have h:Ow B w0 w (aa bd (af bk ⟨core,cur,c,(0,c.at_),k.bM c.at_⟩ 0 0 (-1) ⟨none,0,0⟩)::ah aw ⟨none,0,0⟩ []::aj bk k::R):=h.sub;refine h.xk (Value.int .i64) (cy bd) fun w1 h=>?_
  generalize w.heap.size=m at h⊢;refine h.iS (k:=(0:Int)) (v:=133) (enc:=Value.int .i64) (encV:=cy bd) Tryz.underlying275 (aF .i64 Tryz.underlying3) 0 rfl fun w h=>?_
  refine h.iS (k:=(1:Int)) (v:=134) (enc:=Value.int .i64) (encV:=cy bd) Tryz.underlying275 (aF .i64 Tryz.underlying3) 0 rfl fun w h=>?_
  refine h.iS (k:=(2:Int)) (v:=135) (enc:=Value.int .i64) (encV:=cy bd) Tryz.underlying275 (aF .i64 Tryz.underlying3) 0 rfl fun w h=>?_
  refine h.iS (k:=(3:Int)) (v:=136) (enc:=Value.int .i64) (encV:=cy bd) Tryz.underlying275 (aF .i64 Tryz.underlying3) 0 rfl fun w h=>?_
  refine h.iS (k:=(4:Int)) (v:=137) (enc:=Value.int .i64) (encV:=cy bd) Tryz.underlying275 (aF .i64 Tryz.underlying3) 0 rfl fun w h=>?_
  refine h.iS (k:=(5:Int)) (v:=138) (enc:=Value.int .i64) (encV:=cy bd) Tryz.underlying275 (aF .i64 Tryz.underlying3) 0 rfl fun w h=>?_
  refine h.iS (k:=(6:Int)) (v:=139) (enc:=Value.int .i64) (encV:=cy bd) Tryz.underlying275 (aF .i64 Tryz.underlying3) 0 rfl fun w h=>?_
  refine h.iS (k:=(7:Int)) (v:=140) (enc:=Value.int .i64) (encV:=cy bd) Tryz.underlying275 (aF .i64 Tryz.underlying3) 0 rfl fun w h=>?_
  refine h.iS (k:=(8:Int)) (v:=141) (enc:=Value.int .i64) (encV:=cy bd) Tryz.underlying275 (aF .i64 Tryz.underlying3) 0 rfl fun w h=>?_
  refine h.iS (k:=(9:Int)) (v:=142) (enc:=Value.int .i64) (encV:=cy bd) Tryz.underlying275 (aF .i64 Tryz.underlying3) 0 rfl fun w h=>?_
  refine h.iS (k:=(10:Int)) (v:=143) (enc:=Value.int .i64) (encV:=cy bd) Tryz.underlying275 (aF .i64 Tryz.underlying3) 0 rfl fun w h=>?_
  refine h.iS (k:=(11:Int)) (v:=144) (enc:=Value.int .i64) (encV:=cy bd) Tryz.underlying275 (aF .i64 Tryz.underlying3) 0 rfl fun w h=>?_
  refine h.iS (k:=(12:Int)) (v:=145) (enc:=Value.int .i64) (encV:=cy bd) Tryz.underlying275 (aF .i64 Tryz.underlying3) 0 rfl fun w h=>?_
  refine h.iS (k:=(13:Int)) (v:=146) (enc:=Value.int .i64) (encV:=cy bd) Tryz.underlying275 (aF .i64 Tryz.underlying3) 0 rfl fun w h=>?_
  refine h.iS (k:=(14:Int)) (v:=147) (enc:=Value.int .i64) (encV:=cy bd) Tryz.underlying275 (aF .i64 Tryz.underlying3) 0 rfl fun w h=>?_
  refine h.iS (k:=(15:Int)) (v:=148) (enc:=Value.int .i64) (encV:=cy bd) Tryz.underlying275 (aF .i64 Tryz.underlying3) 0 rfl fun w h=>?_
  refine h.iS (k:=(16:Int)) (v:=149) (enc:=Value.int .i64) (encV:=cy bd) Tryz.underlying275 (aF .i64 Tryz.underlying3) 0 rfl fun w h=>?_
  have h:Ow B w0 w (dI (Value.int .i64) (cy bd) m Hi::aa bd (af bk ⟨core,cur,c,(0,c.at_),k.bM c.at_⟩ 0 0 (-1) ⟨none,0,0⟩)::ah aw ⟨none,0,0⟩ []::aj bk k::R):=h;refine ⟨_,rfl,_,h.ao rfl, ?_⟩;exact zn (d:=⟨core,cur,c,(0,c.at_),k.bM c.at_⟩) hk hN hcore hH hcr ho ha0 ha1 hb2 hw0 hw1 h fun fs' w' h=>hK _ fs' w' h
 refine h.dr fun w h=>?_
 refine ⟨_,rfl,_,h.aq rfl,_,rfl,_,aU (h.ao rfl),_,h.aq rfl, ?_⟩
 (repeat' (first|exact trivial|(exact hbad (by assumption) _ _ _ h.sub)|(exact hgood (by assumption) _ _ _ _ (by assumption) h.sub)|(refine mc hk (h.pick (A:=aj bk k)) (fun hB s c w h=>?_) (fun hB w c hc h=>?_))|(refine h.al fun w h=>?_)|(refine h.dr fun w h=>?_)|(refine h.aL rfl ?_)|(refine h.aV rfl ?_)|(refine ⟨_,h.aq rfl, ?_⟩)|(refine ⟨_,h.ao rfl, ?_⟩)|(refine h.hd rfl ?_)|(refine ⟨h.aq rfl, ?_⟩)|(refine ⟨h.ao rfl, ?_⟩)|((refine h.ax rfl rfl fun w h=>?_);(try dsimp only[putAt,List.set_cons_zero,List.set_cons_succ] at h))|(refine eC ?_)|(refine _root_.Go.Vc.a2 ?_)|(refine h.dy rfl rfl fun w h=>?_)|(refine h.cC rfl rfl fun w h=>?_)|(refine And.intro ?_ ?_)))
end
theorem IY (x:Int) (y:Int) (hy:0≤y/\y≤7):0≤dw .i64 x y/\dw .i64 x y≤7:=by
 obtain ⟨m,rfl⟩:=Int.eq_ofNat_of_zero_le hy.1;obtain ⟨p,hp,e⟩:=Sl.uy x m om;rw[e];omega
theorem sA {c:dj}:Sl.iv c=false↔((0<c.kind/\c.kind<10)/\0≤c.obj/\c.obj<2147483648)/\(0≤c.au/\c.au≤7)/\Sl.iB c.guard c.bits=true/\(Sl.eD c.kind=false->c.au=7)/\(c.aB≠0->Sl.eO c.kind=true)/\(c.bits≠0->c.kind=2):=by
 unfold Sl.iv;simp only[Bool.or_eq_false_iff,Bool.not_eq_false',Bool.and_eq_true,decide_eq_true_eq,Bool.and_eq_false_imp,bne_iff_ne,ne_eq,bne_eq_false_iff_eq,Bool.not_eq_true',and_assoc]
theorem F6 {c:dj} (h:Sl.iv c=false):Sl.cv c=0:=by
 unfold Sl.cv;rw[h];split
 ·rfl
 ·rfl
theorem EC {c:dj} {r g:Int} (hc:Sl.cv c=0) (hm:(ai.fZ c r g).2=0):Sl.cv (ai.fZ c r g).1=0/\(ai.fZ c r g).1.kind=c.kind/\(ai.fZ c r g).1.obj=c.obj/\c.kind≠0:=by
 unfold ai.fZ at*
 rw[if_neg (by rw[hc];exact fun h=>h rfl)] at*
 by_cases hr:¬(0≤r/\r≤7)
 ·rw[if_pos hr] at hm;cases hm
 rw[if_neg hr] at hm⊢;by_cases h2:c.kind=0∨(g≠0/\(Sl.eO c.kind=false∨c.aB≠0))
 ·rw[if_pos h2] at hm;cases hm
 rw[if_neg h2];have hk:c.kind≠0:=fun e=>h2 (.inl e)
 refine ⟨?_,rfl,rfl,hk⟩;have hz:c≠Sl.ay:=fun e=>hk (by rw[e];rfl)
 have hb:Sl.iv c=false:=by
  unfold Sl.cv at hc;rw[if_neg hz] at hc;cases e:Sl.iv c with
  |false=>rfl
  |true=>rw[e,if_pos rfl] at hc;cases hc
 obtain ⟨b1,b2,b3,b4,b5,b6⟩:=sA.1 hb;have hr7:0≤r/\r≤7:=Decidable.byContradiction hr;have ha:=IY c.au r hr7
 have hb2:Sl.iv { c with au:=if Sl.eD c.kind then dw .i64 c.au r else c.au,aB:=if g≠0 then g else c.aB}=false:=by
  refine sA.2 ⟨b1, ?_,b3,fun e=>?_,fun e=>?_,b6⟩
  ·dsimp only
   split
   ·exact ha
   ·exact b2
  ·dsimp only at e⊢
   rw[if_neg (by rw[e];decide)];exact b4 e
  ·dsimp only at e⊢
   by_cases e0:g≠0
   ·cases hh:Sl.eO c.kind with
    |true=>rfl
    |false=>exact absurd (.inr ⟨e0, .inl hh⟩) h2
   ·rw[if_neg e0] at e;exact b5 e
 exact F6 hb2
section
variable {N:Nat} {k:ai} {d:kQ}
theorem DY (hk:aW N k) {w:Int} (hf:k.fI w 1=0):0≤w/\w<64/\k.H (0,w)=none:=by
 obtain ⟨h1,h2,h3⟩:=hk.uJ hf;refine ⟨h1,om, ?_⟩;have:=h3 0 om;rw[show w+((0:Nat):Int)=w from by omega] at this;exact this
theorem aW.oe (hk:aW N k) (hs:k.H d.s=some d.c) (hr:Sl.ia d.c) (ho:k.fT d.c):aW N (k.oe d).2:=by
 unfold ai.oe;split
 ·exact hk
 split
 ·exact hk
 rename_i hf;split
 ·exact hk
 rename_i hm;obtain ⟨h1,h2,h3⟩:=DY hk (Decidable.byContradiction hf);obtain ⟨_,he,_,_⟩:=hk.pv.held _ _ hs;obtain ⟨m1,m2,m3,m4⟩:=EC he (by omega:(ai.fZ d.c d.call.a (IntKind.u64.wrap d.call.b)).2=0);refine (hk.laid (by rw[hs];rfl) ⟨rfl,h1,h2⟩ h3 m1 (by rw[m2];exact m4) (u5 hr (oH _)) ?_).1;unfold ai.fT at ho⊢;rw[m2,m3];exact ho
theorem aW.move (hk:aW N k) (hs:k.H d.s=some d.c):aW N (k.move d).2:=by
 unfold ai.move;split
 ·exact hk
 rename_i hf;obtain ⟨h1,h2,h3⟩:=DY hk (Decidable.byContradiction hf);have hsl:=(hk.held _ _ hs).1;obtain ⟨i,hi⟩:=py ((hk.mem d.s).2 (by rw[hs];rfl));obtain ⟨x,hx,hxs⟩:=Tr.eo hi;have hno:Tr.bR k.T (0,d.call.ak)=none:=s0 fun e=>by rw[hk.mem,h3] at e;cases e
 have hH:(Sl.fk k.bits k.H d.s (0,d.call.ak)).2=Sl.cW (Sl.cW k.H d.s none) (0,d.call.ak) (some d.c):=by
  unfold Sl.fk;rw[lS hk.b0 hsl,lS hk.b0 (s:=(0,d.call.ak)) ⟨rfl,h1,h2⟩,if_neg (by simp),hs];dsimp only;rw[h3,if_neg (by decide)]
 have hT:(Tr.fk k.T d.s (0,d.call.ak)).2=k.T.set i ((0,d.call.ak),Tr.y9 k.T i):=by
  unfold Tr.fk;rw[hi];dsimp only;rw[hno]
 obtain ⟨n1,n2,n3,n4⟩:=hk.pv.held _ _ hs;rw[hH,hT];have hgi:(k.T.map (·.1))[i]?=some d.s:=by rw[List.getElem?_map,hx];exact congrArg some hxs
 show aW N { k with H:=Sl.cW (Sl.cW k.H d.s none) (0,d.call.ak) (some d.c),T:=k.T.set i ((0,d.call.ak),Tr.y9 k.T i)}
 refine { hk with
  pv:=(hk.pv.del d.s).put (lS hk.b0 ⟨rfl,h1,h2⟩) n2 n3 n4
  held:=fun t c hc=>?_
  tok:=hk.tok.move hi hno
  mem:=fun t=>?_}
 ·have hc:Sl.cW (Sl.cW k.H d.s none) (0,d.call.ak) (some d.c) t=some c:=hc
  unfold Sl.cW at hc;split at hc
  ·rename_i e
   cases hc;rw[e];exact ⟨⟨rfl,h1,h2⟩,(hk.held _ _ hs).2⟩
  split at hc
  ·cases hc
  ·exact hk.held t c hc
 ·rw[List.map_set]
  have hnd:=hk.tok.nd;have hlt:=(List.getElem?_eq_some_iff.1 hgi).1;have hne:(0,d.call.ak)≠d.s:=fun e=>by rw[←e,h3] at hs;cases hs
  have hm:t∈(k.T.map (·.1)).set i (0,d.call.ak)↔t=(0,d.call.ak)∨(t∈k.T.map (·.1)/\t≠d.s):=by
   rw[List.set_eq_take_append_cons_drop,if_pos hlt,←Sl.ng hnd hgi,List.eraseIdx_eq_take_drop_succ];simp only[List.mem_append,List.mem_cons];constructor
   ·rintro (h|h|h)
    ·exact .inr (.inl h)
    ·exact .inl h
    ·exact .inr (.inr h)
   ·rintro (h|h|h)
    ·exact .inr (.inl h)
    ·exact .inl h
    ·exact .inr (.inr h)
  show t∈(k.T.map (·.1)).set i (0,d.call.ak)↔_;rw[hm,hk.mem];show _↔(Sl.cW (Sl.cW k.H d.s none) (0,d.call.ak) (some d.c) t).isSome=true;unfold Sl.cW;by_cases e1:t=(0,d.call.ak)
  ·simp[e1]
  ·rw[if_neg e1]
   by_cases e2:t=d.s
   ·rw[if_pos e2];simp[e2,hne.symm]
   ·rw[if_neg e2];simp[e1,e2]
theorem aW.jk (hk:aW N k) {n:Int} {m:Tb.dv} (hm:Tb.fO m):aW N (k.jk n m):=
 hk.ae (by rw[List.length_set]) fun y hy=>by
  rcases List.mem_or_eq_of_mem_set hy with hy|hy
  ·exact hk.Ah y hy
  ·rw[hy];exact hm
theorem aW.yA (hk:aW N k) (n:Int):Tb.fO (k.iM n):=by
 unfold ai.iM;cases e:k.ae[n.toNat]? with
 |none=>exact Tb.fO.new
 |some m=>exact hk.Ah m (List.mem_of_getElem? e)
theorem aW.km (hk:aW N k) (n:Int):aW N (k.km n):=by
 unfold ai.km
 have hu:∀x∈k.u.set n.toNat { k.kr n with used:=0},xh x:=fun x hx=>by
  by_cases hlt:n.toNat<k.u.length
  ·rcases List.mem_or_eq_of_mem_set hx with hx|hx
   ·exact hk.u x hx
   ·have h1:xh (k.kr n):=by
     unfold ai.kr;rw[gE hlt];exact hk.u _ (List.getElem_mem _)
    rw[hx];exact ⟨h1.bits,h1.top,h1.dvd,Nat.zero_le _⟩
  ·rw[List.set_eq_of_length_le om] at hx
   exact hk.u x hx
 exact hk.Fq hu (by rw[List.length_set];exact Nat.le_refl _) (by rw[List.length_set];exact hk.nu)
theorem aW.ji (hk:aW N k):aW N (k.ji d).2:=by
 have hnd:=yR (s:=d.s) hk.tok;have hheld:∀s∈Tr.db k.T d.s,(k.H s).isSome=true:=fun s hs=>(hk.mem s).1 (yQ hs)
 obtain ⟨h1,_⟩:=sG (Tr.db k.T d.s).reverse k hk (List.pairwise_reverse.2 (hnd.imp Ne.symm)) (fun s hs=>hheld s (List.mem_reverse.1 hs));unfold ai.ji;dsimp only;split
 ·exact h1.km _
 ·exact h1
theorem aW.send (hk:aW N k) (h0:0≤d.c.obj) (h1:d.c.obj<(k.ends.length:Int)):aW (N+1) (k.send d).2:=by
 obtain ⟨_,hl⟩:=hk.iR h0 h1;have hse:=Bf (k.iR d.c.obj) d.cur (ai.fz d) (d.call.c !=0);have hE:=hk.fM (n:=d.c.obj) (p:=((k.iR d.c.obj).send d.cur (ai.fz d) (d.call.c !=0)).2.2) om;unfold ai.send;split
 ·exact hE
 split
 ·exact hE.rest
 ·exact hE.mz.gj _
theorem aW.recv (hk:aW N k) (h0:0≤d.c.obj) (h1:d.c.obj<(k.ends.length:Int)):aW (N+1) (k.recv d).2:=by
 obtain ⟨_,hl⟩:=hk.iR h0 h1;have hse:=Ba (k.iR d.c.obj) d.cur (d.call.c !=0);have hE:=hk.fM (n:=d.c.obj) (p:=((k.iR d.c.obj).recv d.cur (d.call.c !=0)).2.2) om;unfold ai.recv;split
 ·exact hE
 split
 ·exact hE.rest
 ·exact hE.mz.gj _
theorem aW.wait (hk:aW N k) (h0:0≤d.c.obj) (h1:d.c.obj<(k.notes.length:Int)):aW (N+1) (k.wait d).2:=by
 obtain ⟨_,hl⟩:=hk.oK h0 h1;have hwl:=Bn (k.oK d.c.obj) d.cur (d.call.c !=0);have hE:=hk.lO (n:=d.c.obj) (p:=((k.oK d.c.obj).wait d.cur (d.call.c !=0)).2) om;unfold ai.wait;split
 ·exact hE
 dsimp only;split
 ·exact hE
 ·exact hE.rest
theorem aW.bind (hk:aW N k):aW N (k.bind d).2:=by
 unfold ai.bind;split
 ·exact hk
 rename_i hB
 have hB:k.dB d.call.ak 5=true:=by
  cases e:k.dB d.call.ak 5 with
  |true=>rfl
  |false=>exact absurd e hB
 obtain ⟨hb1,hb2⟩:=jA hB;obtain ⟨_,_,ho,_,_⟩:=hk.cap hb1;unfold ai.tell;dsimp only;unfold sx;cases hx:lD k.ln d.c.obj with
 |none=>exact hk
 |some x=>
  dsimp only;split
  ·exact hk
  split
  ·exact hk
  ·refine hk.JD (by rw[List.length_set];exact hk.ln) fun y hy hy2=>?_
   rcases List.mem_or_eq_of_mem_set hy with hy|hy
   ·exact hk.Db y hy hy2
   ·rw[hy];exact ⟨ho.1,ho.2.2.2.2.2.1 (hb2 (by decide))⟩
theorem aW.hI (hk:aW N k) {r:(Option (Int × Int)× Int)× xe} (h1:aW N { k with ln:=r.2}) (h2:∀y,r.1.1=some y->0≤y.1/\y.1<(k.notes.length:Int)):aW (N+1) (k.hI r).2.2:=by
 unfold ai.hI;split
 ·exact h1.mono om
 ·rename_i x e
  obtain ⟨a,b⟩:=h2 x e;exact h1.bS a b
theorem aW.asks (hk:aW N k) (hN:N+64≤100000) (hcore:k.t.fR d.core=true) (hH:k.H d.s=some d.c) (hr:Sl.ia d.c) (ho:k.fT d.c) (ha0:0≤d.call.ask) (ha1:d.call.ask<17)
  (hkind:(ai.aM d.call.ask).1≠0->d.c.kind=(ai.aM d.call.ask).1):aW (N+64) (k.asks d).2:=by
 have hsome:(k.H d.s).isSome=true:=by rw[hH];rfl
 have hask:d.call.ask=0∨d.call.ask=1∨d.call.ask=2∨d.call.ask=3∨d.call.ask=4∨d.call.ask=5∨d.call.ask=6∨d.call.ask=7∨d.call.ask=8∨d.call.ask=9∨d.call.ask=10∨d.call.ask=11∨d.call.ask=12∨d.call.ask=13∨d.call.ask=14∨d.call.ask=15∨d.call.ask=16:=by omega
 have m0:∀{x:ai},aW N x->aW (N+64) x:=fun h=>h.mono om
 have m1:∀{x:ai},aW (N+1) x->aW (N+64) x:=fun h=>h.mono om
 rcases hask with e|e|e|e|e|e|e|e|e|e|e|e|e|e|e|e|e
 ·have ea:k.asks d=ai.tell (k.fp d).1 (k.fp d).2:=by
   unfold ai.asks;rw[e];rfl
  rw[ea];have hkd:(ai.aM 0).1≠0->d.c.kind=(ai.aM 0).1:=by rw[e] at hkind;exact hkind
  have hkd:=hkd (by decide);exact hk.fp hN hsome hkd ho hcore
 ·have ea:k.asks d=ai.tell (k.oe d).1 (k.oe d).2:=by
   unfold ai.asks;rw[e];rfl
  rw[ea];exact m0 (hk.oe hH hr ho)
 ·have ea:k.asks d=ai.tell (k.move d).1 (k.move d).2:=by
   unfold ai.asks;rw[e];rfl
  rw[ea];exact m0 (hk.move hH)
 ·have ea:k.asks d=if d.call.at_=0 then ai.tell 181 k else (⟨0,0, -1,(k.gone d.s).1⟩,(k.gone d.s).2):=by
   unfold ai.asks;rw[e];rfl
  rw[ea];split
  ·exact m0 hk
  ·exact m0 (hk.gone hsome).1
 ·have ea:k.asks d=k.ji d:=by
   unfold ai.asks;rw[e];rfl
  rw[ea];exact m0 hk.ji
 ·have ea:k.asks d=ai.dT (k.resume d):=by
   unfold ai.asks;rw[e];rfl
  rw[ea];have hkd:(ai.aM 5).1≠0->d.c.kind=(ai.aM 5).1:=by rw[e] at hkind;exact hkind
  have hkd:=hkd (by decide)
  have h2:aW N (if k.t.cT d.c.obj=true/\(k.t.th d.c.obj).st=3 then k.dY d.c.obj else k):=by
   split
   ·exact hk.dY _
   ·exact hk
  exact m0 (h2.gj _)
 ·have ea:k.asks d=ai.tell (k.t.cp d.c.obj).1 ((k.dY d.c.obj).cu (k.t.cp d.c.obj).2):=by
   unfold ai.asks;rw[e];rfl
  rw[ea];have hkd:(ai.aM 6).1≠0->d.c.kind=(ai.aM 6).1:=by rw[e] at hkind;exact hkind
  have hkd:=hkd (by decide);exact m0 ((hk.dY d.c.obj).cu (hk.inv.suspend _) (by rw[lR];exact Nat.le_refl _))
 ·have ea:k.asks d=ai.tell (k.t.iL d.c.obj d.call.a).1 (k.cu (k.t.iL d.c.obj d.call.a).2):=by
   unfold ai.asks;rw[e];rfl
  rw[ea];have hkd:(ai.aM 7).1≠0->d.c.kind=(ai.aM 7).1:=by rw[e] at hkind;exact hkind
  have hkd:=hkd (by decide);exact m0 (hk.cu (hk.inv.prio _ _) (by rw[vb];exact Nat.le_refl _))
 ·have ea:k.asks d=k.send d:=by
   unfold ai.asks;rw[e];rfl
  rw[ea];have hkd:(ai.aM 8).1≠0->d.c.kind=(ai.aM 8).1:=by rw[e] at hkind;exact hkind
  have hkd:=hkd (by decide);exact m1 (hk.send ho.1 (ho.2.2.2.2.1 hkd))
 ·have ea:k.asks d=k.recv d:=by
   unfold ai.asks;rw[e];rfl
  rw[ea];have hkd:(ai.aM 9).1≠0->d.c.kind=(ai.aM 9).1:=by rw[e] at hkind;exact hkind
  have hkd:=hkd (by decide);exact m1 (hk.recv ho.1 (ho.2.2.2.2.1 hkd))
 ·have ea:k.asks d=(⟨0,0,(k.bS d.c.obj d.c.aB).1,[]⟩,(k.bS d.c.obj d.c.aB).2):=by
   unfold ai.asks;rw[e];rfl
  rw[ea];have hkd:(ai.aM 10).1≠0->d.c.kind=(ai.aM 10).1:=by rw[e] at hkind;exact hkind
  have hkd:=hkd (by decide);exact m1 (hk.bS ho.1 (ho.2.2.2.2.2.1 hkd))
 ·have ea:k.asks d=k.wait d:=by
   unfold ai.asks;rw[e];rfl
  rw[ea];have hkd:(ai.aM 11).1≠0->d.c.kind=(ai.aM 11).1:=by rw[e] at hkind;exact hkind
  have hkd:=hkd (by decide);exact m1 (hk.wait ho.1 (ho.2.2.2.2.2.1 hkd))
 ·have ea:k.asks d=k.table d:=by
   unfold ai.asks;rw[e];rfl
  rw[ea];have hkd:(ai.aM 12).1≠0->d.c.kind=(ai.aM 12).1:=by rw[e] at hkind;exact hkind
  have hkd:=hkd (by decide);unfold ai.table;split
  ·exact m0 hk
  ·exact m0 (hk.jk ((hk.yA _).table _ _))
 ·have ea:k.asks d=k.mapped d:=by
   unfold ai.asks;rw[e];rfl
  rw[ea];have hkd:(ai.aM 13).1≠0->d.c.kind=(ai.aM 13).1:=by rw[e] at hkind;exact hkind
  have hkd:=hkd (by decide);unfold ai.mapped;split
  ·exact m0 hk
  ·exact m0 (hk.jk ((hk.yA _).map _ _))
 ·have ea:k.asks d=k.mL d:=by
   unfold ai.asks;rw[e];rfl
  rw[ea];have hkd:(ai.aM 14).1≠0->d.c.kind=(ai.aM 14).1:=by rw[e] at hkind;exact hkind
  have hkd:=hkd (by decide);exact m0 (hk.jk ((hk.yA _).mL _))
 ·have ea:k.asks d=k.bind d:=by
   unfold ai.asks;rw[e];rfl
  rw[ea];have hkd:(ai.aM 15).1≠0->d.c.kind=(ai.aM 15).1:=by rw[e] at hkind;exact hkind
  have hkd:=hkd (by decide);exact m0 hk.bind
 ·have ea:k.asks d=ai.dT (k.hI (kS k.ln d.c.obj)):=by
   unfold ai.asks;rw[e];rfl
  rw[ea];have hkd:(ai.aM 16).1≠0->d.c.kind=(ai.aM 16).1:=by rw[e] at hkind;exact hkind
  have hkd:=hkd (by decide);exact m1 (hk.hI hk.Jw fun y hy=>xj hk hy)
end
section
variable {B:Nat} {w0 w:World} {R L:List aA} {bd bk:Nat} {k:ai} {d:kQ} {ec wv wk:Int} {fs:Sl} {N:Nat}
theorem aW.pick (hk:aW N k) (core:Int):aW N (k.cu (k.t.bK core)):=hk.cu (hk.inv.bK _) (by rw[ij];exact Nat.le_refl _)
theorem aW.asked (hk:aW N k) (hN:N+64≤100000) {core cur:Int} {c:Call} (hcore:k.t.fR core=true) (ha0:0≤c.ask) (ha1:c.ask<17):aW (N+64) (k.asked core cur c).2:=by
 unfold ai.asked;split
 ·exact hk.mono om
 rename_i hB
 have hB:k.dB c.at_ (ai.aM c.ask).1=true:=by
  cases e:k.dB c.at_ (ai.aM c.ask).1 with
  |true=>rfl
  |false=>exact absurd e hB
 split
 ·exact hk.mono om
 obtain ⟨hb1,hb2⟩:=jA hB;obtain ⟨_,hH,ho,hcr,_⟩:=hk.cap hb1;exact hk.asks hN hcore hH hcr ho ha0 ha1 hb2
theorem aW.do (hk:aW N k) (hN:N+64≤100000) (core:Int) (c:Call):aW (N+64) (k.do core c).2:=by
 have hp:=hk.pick core;unfold ai.do
 cases hr:(k.t.bK core).cV core with
 |none=>exact hp.mono om
 |some cur=>
  dsimp only;split
  ·exact hp.mono om
  split
  ·exact (hp.cu (hp.inv.yield core) (by rw[pR];exact Nat.le_refl _)).mono om
  ·rename_i h1 h2
   exact hp.asked hN (hp.inv.runIn hr).1 om om
theorem aW.tick (hk:aW N k) (core:Int):aW N (k.tick core):=hk.cu (hk.inv.tick _) (by rw[yN];exact Nat.le_refl _)
theorem aW.irq (hk:aW N k) (line:Int):aW (N+1) (k.irq line).2.2:=hk.hI hk.raise fun y hy=>te hk hy
theorem FK {core:Int} {c:Call} {K:Int->Int->Int->Sl->Pw} (hk:aW N k) (hN:N+64≤100000) (hw0: -9223372036854775808≤c.ak) (hw1:c.ak<9223372036854775808)
  (h:Ow B w0 w (aj bk k::R))
  (hK:∀fs' w',Ow B w0 w' (ah aw fs' (k.do core c).1.forget::aj bk (k.do core c).2::R)->K (k.do core c).1.e (k.do core c).1.w (k.do core c).1.dg fs' w'):
  C.qbV (some ⟨bk,0,none⟩) core c.ask c.at_ c.ak c.a c.b c.c K w:=by
 apply S.qbV0;refine h.a fun cb w1 h=>?_;refine h.a fun ob w2 h=>?_;refine h.aV rfl ?_;refine h.a fun bd w3 h=>?_;have h:=Ow.dK (E:=aw) h;have h:Ow B w0 w3 (ah aw ⟨none,0,0⟩ []::aa bd (af bk ⟨core,0,c,(0,0),Sl.ay⟩ 0 0 (-1) ⟨none,0,0⟩)::aa ob [.z 0, .y 0, .z 0, .slice none 0 0]::aa cb [.z c.ask, .z c.at_, .z c.ak, .z c.a, .z c.b, .z c.c]::aj bk k::R):=h;have h:Ow B w0 w3 (aj bk k::aa bd (af bk ⟨core,0,c,(0,0),Sl.ay⟩ 0 0 (-1) ⟨none,0,0⟩)::ah aw ⟨none,0,0⟩ []::aa ob [.z 0, .y 0, .z 0, .slice none 0 0]::aa cb [.z c.ask, .z c.at_, .z c.ak, .z c.a, .z c.b, .z c.c]::R):=h.sub;obtain ⟨bt,Y,h,hc2,hback⟩:=h.oW;refine ⟨_,rfl,_,hc2, ?_⟩;refine Th.gD hk.inv.ok h fun w h=>?_
 have h:=hback _ w _ ij h;have hp:=hk.pick core;unfold ai.do at hK
 refine ⟨_,rfl, ?_⟩;refine h.cC rfl rfl fun w h=>?_
 (try dsimp only[putAt,List.set_cons_zero,List.set_cons_succ] at h)
 intro k25 hk25
 have fin:∀(d':kQ) (e wv wk:Int) (fs:Sl) (F:List dE) (k':ai) (w:World),(∀w',Ow B w0 w' (ah aw fs F::aj bk k'::R)->K e wv wk fs w')->
   Ow B w0 w (aa bd (af bk d' e wv wk fs)::ah aw fs F::aj bk k'::aa ob [.z 0, .y 0, .z 0, .slice none 0 0]::R)->k25 w:=fun d' e wv wk fs F k' w hK h=>by
  apply hk25;refine ⟨_,rfl, ?_⟩;refine eM (h.gH rfl ?_);refine h.ax rfl rfl fun w h=>?_
  (try dsimp only[putAt,List.set_cons_zero,List.set_cons_succ] at h)
  refine h.gH rfl ?_;exact hK w h.sub
 cases hr:(k.t.bK core).cV core with
 |none=>
  rw[hr] at hK;refine bN rfl ?_;refine ⟨_,rfl, ?_⟩;refine h.cC rfl rfl fun w h=>?_
  (try dsimp only[putAt,List.set_cons_zero,List.set_cons_succ] at h)
  refine fin ⟨core,0,c,(0,0),Sl.ay⟩ 182 0 (-1) ⟨none,0,0⟩ [] (k.cu (k.t.bK core)) w (fun w' h=>hK _ w' h) ?_;have h:Ow B w0 w (aj bk (k.cu (k.t.bK core))::aa bd (af bk ⟨core,0,c,(0,0),Sl.ay⟩ 182 0 (-1) ⟨none,0,0⟩)::ah aw ⟨none,0,0⟩ []::aa ob [.z 0, .y 0, .z 0, .slice none 0 0]::aa cb [.z c.ask, .z c.at_, .z c.ak, .z c.a, .z c.b, .z c.c]::R):=by rw[hr] at h;exact h
  exact h.sub
 |some cur=>
  rw[hr] at hK;dsimp only at hK;have h:Ow B w0 w (aj bk (k.cu (k.t.bK core))::aa bd (af bk ⟨core,cur,c,(0,0),Sl.ay⟩ 0 0 (-1) ⟨none,0,0⟩)::ah aw ⟨none,0,0⟩ []::aa ob [.z 0, .y 0, .z 0, .slice none 0 0]::aa cb [.z c.ask, .z c.at_, .z c.ak, .z c.a, .z c.b, .z c.c]::R):=by rw[hr] at h;exact h
  refine bD rfl ?_;intro k39 hk39
  have hbad:c.ask<0∨18≤c.ask->k39 true w:=fun hb=>by
   rw[if_pos hb] at hK;apply hk39;refine bN rfl ?_;refine ⟨_,rfl, ?_⟩;refine h.cC rfl rfl fun w h=>?_
   (try dsimp only[putAt,List.set_cons_zero,List.set_cons_succ] at h)
   refine fin ⟨core,cur,c,(0,0),Sl.ay⟩ 180 0 (-1) ⟨none,0,0⟩ [] (k.cu (k.t.bK core)) w (fun w' h=>hK _ w' h) ?_;have h:Ow B w0 w (aj bk (k.cu (k.t.bK core))::aa bd (af bk ⟨core,cur,c,(0,0),Sl.ay⟩ 180 0 (-1) ⟨none,0,0⟩)::ah aw ⟨none,0,0⟩ []::aa ob [.z 0, .y 0, .z 0, .slice none 0 0]::aa cb [.z c.ask, .z c.at_, .z c.ak, .z c.a, .z c.b, .z c.c]::R):=h;exact h.sub
  have hgood:¬(c.ask<0∨18≤c.ask)->k39 false w:=fun hb=>by
   rw[if_neg hb] at hK;apply hk39;refine bD rfl ?_;refine ⟨_,h.aq rfl, ?_⟩;refine gB (fun e=>?_) (fun e=>?_)
   ·rw[if_pos e] at hK
    obtain ⟨bt,Y,h,hc2,hback⟩:=h.oW;refine ⟨_,rfl,_,hc2, ?_⟩;refine Th.lT hp.inv.ok h fun w h=>?_
    have h:=hback _ w _ pR h;refine fin ⟨core,cur,c,(0,0),Sl.ay⟩ 0 0 (-1) ⟨none,0,0⟩ [] ((k.cu (k.t.bK core)).cu ((k.t.bK core).yield core)) w (fun w' h=>hK _ w' h) ?_;have h:Ow B w0 w (aj bk ((k.cu (k.t.bK core)).cu ((k.t.bK core).yield core))::aa bd (af bk ⟨core,cur,c,(0,0),Sl.ay⟩ 0 0 (-1) ⟨none,0,0⟩)::ah aw ⟨none,0,0⟩ []::aa ob [.z 0, .y 0, .z 0, .slice none 0 0]::aa cb [.z c.ask, .z c.at_, .z c.ak, .z c.a, .z c.b, .z c.c]::R):=h;exact h.sub
   ·rw[if_neg e] at hK
    have hk1:=hp.asked (core:=core) (cur:=cur) (c:=c) hN (hp.inv.runIn hr).1 om om;refine zo (core:=core) (cur:=cur) (c:=c) hp hN (hp.inv.runIn hr).1 om om hw0 hw1 (show Ow B w0 w (aa bd (af bk ⟨core,cur,c,(0,0),Sl.ay⟩ 0 0 (-1) ⟨none,0,0⟩)::ah aw ⟨none,0,0⟩ []::aj bk (k.cu (k.t.bK core))::aa ob [.z 0, .y 0, .z 0, .slice none 0 0]::R) from h.sub) fun d' fs' w h=>?_
    refine ⟨_,rfl, ?_⟩;refine h.cC rfl rfl fun w h=>?_
    (try dsimp only[putAt,List.set_cons_zero,List.set_cons_succ] at h)
    generalize (k.cu (k.t.bK core)).asked core cur c=A at h hK;exact fin d' A.1.e A.1.w A.1.dg fs' A.1.forget A.2 w (fun w' h=>hK _ w' h) h
  refine ⟨_,h.aq rfl, ?_⟩;refine dD (fun e=>?_) (fun e=>?_)
  ·exact hbad (.inl e)
  ·refine ⟨_,h.aq rfl, ?_⟩
   by_cases e2:c.ask≥18
   ·rw[decide_eq_true e2];exact hbad (.inr e2)
   ·rw[decide_eq_false e2];exact hgood om
end
end Go.Proofs.YtlhljbbfckbjpaaGreat
end
section
set_option maxRecDepth 8000
namespace Go.Proofs.YtlhljbbfckbjpaaGreat
open Go Go.Vc Go.Proofs
namespace ai
def Hu {α:Type} (l:List α) (n:Int):Bool:=decide (0≤n)&&decide (n<(l.length:Int))
def jh (k:ai) (n:Int):Tb.fq:=if Hu k.ae n then (k.iM n).pg else []
end ai
theorem vW {α:Type} {l:List α} {n:Int}:ai.Hu l n=true↔0≤n/\n<(l.length:Int):=by unfold ai.Hu;simp
theorem GF {α:Type} {l:List α} {j:Nat} {x:α} (h:l[j]?=some x):l.set j x=l:=by
 obtain ⟨hi,rfl⟩:=List.getElem?_eq_some_iff.1 h;exact List.set_getElem_self hi
section
variable {B:Nat} {w0 w:World} {R L:List aA} {bd bk:Nat} {k:ai} {d:kQ} {ec wv wk:Int} {fs:Sl} {N:Nat}
theorem BI {core:Int} {K:Bool->Pw} (hk:aW N k) (h:Ow B w0 w (aj bk k::R)) (hK:∀w',Ow B w0 w' (aj bk (k.tick core)::R)->K (k.t.cV core).isSome w'):C.qbj (some ⟨bk,0,none⟩) core K w:=by
 apply S.qbj0;obtain ⟨bt,Y,h,hc2,hback⟩:=h.oW;refine ⟨_,rfl,_,hc2, ?_⟩;refine Th.um hk.inv.ok h fun w h=>?_
 exact hK w (hback _ w _ yN h)
theorem BC {K:Sl->Pw} (hk:aW N k) (h:Ow B w0 w (aj bk k::R)) (hK:∀s w',Ow B w0 w' (ah Sl.gZ s (iC k.H)::aj bk k::R)->K s w'):C.qbl (some ⟨bk,0,none⟩) K w:=by
 apply S.qbl0;obtain ⟨x,h⟩:=h.uP;refine ⟨_,rfl,_,h.aq rfl, ?_⟩;refine Sl.gd (h.pick (A:=Sl.av x.n k.bits k.H)) fun s2 hs2 w hih h=>?_
 have e2:hs2=iC k.H:=hih.uniq (xL fun t c hc=>(hk.held t c hc).1);subst e2;have h:Ow B w0 w (aj bk k::ah Sl.gZ s2 (iC k.H)::R):=Ow.bE x h.sub;exact hK s2 w h.sub
theorem jT {n:Int} {K:Sl->Pw} (h:Ow B w0 w (aj bk k::R)) (hK:∀s w',Ow B w0 w' (ah Tb.de s (k.jh n)::aj bk k::R)->K s w'):C.qaX (some ⟨bk,0,none⟩) n K w:=by
 apply S.qaX0;unfold ai.jh at hK;have h0:=h;obtain ⟨ss,ps,Y,h,hc2,hp,hback⟩:=h.mf;have hlen:=h.br ss;refine ⟨_,rfl,ss,hc2, ?_⟩
 have bad:ai.Hu k.ae n=false->K ⟨none,0,0⟩ w:=fun e=>by
  rw[if_neg (by rw[e];decide)] at hK;exact hK _ w (Ow.dK h0)
 apply S.qaU0;refine dD (fun e0=>?_) (fun e0=>?_)
 ·by_cases e1:n<(ss.len:Int)
  ·rw[decide_eq_true e1]
   refine bD rfl ?_;have hin:ai.Hu k.ae n=true:=vW.2 ⟨e0,om⟩;rw[if_pos hin] at hK
   have hx:k.ae[n.toNat]?=some (k.iM n):=by
    unfold ai.iM;rw[gE om];rfl
   refine ⟨_,rfl,ss,hc2, ?_⟩;have hq:ps[n.toNat]?=some ps[n.toNat]:=gE om;generalize ps[n.toNat]=pp at hq;refine gV (s:=ss) (i:=n) (j:=n.toNat) h om hq fun a ha hcc=>⟨_,hcc, ?_⟩
   have h:=(h.pick (A:=ar Tb.bf ps k.ae)).zW hq hx;refine Tb.jT h fun s w h=>?_
   have h:=(h.pick (A:=Tb.bf pp (k.iM n))).perm (List.Perm.cons _ (List.Perm.swap _ _ _));have h:=(h.dp hp hq)
   rw[GF hx] at h;have h:Ow B w0 w (aj bk k::_):=hback (ah Tb.de s (k.iM n).pg::R) w _ h.sub;exact hK s w h.sub
  ·rw[decide_eq_false e1]
   refine bN rfl ?_
   exact bad (by
    cases e:ai.Hu k.ae n with
    |false=>rfl
    |true=>have:=(vW.1 e).2;omega)
 ·refine bN rfl ?_
  exact bad (by
    cases e:ai.Hu k.ae n with
    |false=>rfl
    |true=>have:=(vW.1 e).1;omega)
end
end Go.Proofs.YtlhljbbfckbjpaaGreat
end
section
set_option maxRecDepth 8000
namespace Go.Proofs.YtlhljbbfckbjpaaGreat.Mc
open Go Go.Vc Go.Proofs
structure cP where
 eS:Int
 kind:Int
 about:Int
deriving DecidableEq
structure Item where
 kind:Int
 core:Int
 a:Int
 b:Int
structure oJ where
 tl:List dE
 aT:Int
 n:Int
 told:Told
structure Seen where
 kind:Int
 core:Int
 n:Int
 t:Told
 p:Int × Int
 is:Bool
structure bz where
 k:ai
 line:List Int
 bx:List (List cP)
 cs:List oJ
 room:Int
 prog:List Call
def tZ:Told:=⟨0,0,0,[]⟩
def gU:Seen:=⟨0,0,0,tZ,(0,0),false⟩
def rA (space a8:Int) (l:dE):Bool:=decide (l.space=space)&&decide (l.a8=a8)
def drop (space a8:Int) (l:List dE):List dE:=l.filter fun x=> !rA space a8 x
def look (space a8:Int) (l:List dE):Option (Int × Int):=(l.find? (rA space a8)).map fun x=>(x.frame,x.au)
def fill (room:Int) (x:dE) (l:List dE):List dE:=
 if (drop x.space x.a8 l).length=l.length/\room≤(l.length:Int) then (drop x.space x.a8 l).drop 1++ [x] else drop x.space x.a8 l++ [x]
def cZ (line:List Int) (c:Int):List Int:=if c∈line then line else line++ [c]
def fG (line:List Int) (c:Int):Bool:=decide (line.head?=some c)
def dJ (line:List Int) (c:Int):List Int:=if line.head?=some c then line.tail else line
def iP (eS about:Int) (bx:List (List cP)):List (List cP):=
 if (List.range bx.length).any fun i=>decide ((i:Int)≠eS)&&decide (64≤((bx[i]?).getD []).length) then bx
 else bx.mapIdx fun i l=>if (i:Int)=eS then l else l++ [⟨eS,0,about⟩]
def eG (bx:List (List cP)) (c:Int):Int:=((bx.map fun l=>(l.filter fun m=>decide (m.eS=c)).length).sum:Nat)
def bj (x:Item) (aO:Int):Bool:=decide (0≤x.kind/\x.kind<4/\0≤x.core/\x.core<min aO 8/\(0≤x.a/\x.a≤255)/\(0≤x.b/\x.b≤255))
namespace bz
def ag (m:bz) (n:Int):oJ:=(m.cs[n.toNat]?).getD ⟨[],0,0,tZ⟩
def dx (m:bz) (n:Int) (c:oJ):bz:={ m with cs:=m.cs.set n.toNat c}
def walk (m:bz) (a8:Int):Option (Int × Int):=((m.k.jh 0).find? fun x=>x.1==a8).map (·.2)
def loadT (m:bz) (a8:Int) (t:List dE):(Int × Int)× Bool × List dE:=match look 0 a8 t with
 |some p=>(p,true,t)
 |none=>match m.walk a8 with
  |some p=>(p,true,fill m.room ⟨0,a8,p.1,p.2⟩ t)
  |none=>((0,0),false,t)
def load (m:bz) (n a8:Int):Seen × bz:=
 (⟨3,n,a8,tZ,(m.loadT a8 (m.ag n).tl).1,(m.loadT a8 (m.ag n).tl).2.1⟩,m.dx n { m.ag n with tl:=(m.loadT a8 (m.ag n).tl).2.2})
def user (m:bz) (x:Item):Option Seen × bz:=
 if (m.ag x.core).aT≠0 then (none,m)
 else if 0<x.b then (some (m.load x.core x.a).1,(m.load x.core x.a).2)
 else if x.a<(m.prog.length:Int) then (none,m.dx x.core { m.ag x.core with aT:=1,n:=x.a})
 else (none,m)
def box (m:bz) (n:Int):List cP:=(m.bx[n.toNat]?).getD []
def heard (m:bz) (n:Int) (x:cP):bz:=
 { m with bx:=m.bx.set n.toNat (m.box n).tail,cs:=m.cs.set n.toNat { m.ag n with tl:=drop (IntKind.i64.wrap (x.about.tdiv 4096)) (x.about.tmod 4096) (m.ag n).tl}}
def kH (n:Int):List dE->bz->bz
 | [],m=>m
 |l::r,m=>kH n r { m with cs:=m.cs.set n.toNat { m.ag n with tl:=drop l.space l.a8 (m.ag n).tl},bx:=iP n (IntKind.i64.wrap (IntKind.i64.wrap (l.space*4096)+l.a8)) m.bx}
def aC (m:bz) (n:Int):Call:=(m.prog[(m.ag n).n.toNat]?).getD ⟨0,0,0,0,0,0⟩
def nF (m:bz) (n:Int):Seen × bz:=
 let t:=(m.k.do n (m.aC n)).1
 let m1:=kH n t.forget ({ m with k:=(m.k.do n (m.aC n)).2}.dx n { m.ag n with told:=t})
 (⟨1,n,(m.ag n).n,t,(0,0),false⟩,m1.dx n { m1.ag n with aT:=3})
def step (m:bz) (n:Int):Option Seen × bz:=match m.box n with
 |x::_=>(none,m.heard n x)
 | []=>
  if (m.ag n).aT=1 then (some ⟨0,n,(m.ag n).n,tZ,(0,0),false⟩,{ m with line:=cZ m.line n}.dx n { m.ag n with aT:=2})
  else if (m.ag n).aT=2 then if fG m.line n then (some (m.nF n).1,(m.nF n).2) else (none,m)
  else if (m.ag n).aT=3/\eG m.bx n=0 then (some ⟨2,n,(m.ag n).n,(m.ag n).told,(0,0),false⟩,{ m with line:=dJ m.line n}.dx n { m.ag n with aT:=0})
  else (none,m)
def item (m:bz) (x:Item):Option Seen × bz:=
 if bj x m.cs.length=false then (none,m)
 else if x.kind=1 then m.user x
 else if x.kind=0 then m.step x.core
 else if m.line≠ [] then (none,m)
 else if x.kind=2 then (some ⟨4,x.core,x.a,⟨(m.k.irq x.a).1,0,(m.k.irq x.a).2.1,[]⟩,(0,0),false⟩,{ m with k:=(m.k.irq x.a).2.2})
 else (some ⟨5,x.core,0,tZ,(0,0),(m.k.t.cV x.core).isSome⟩,{ m with k:=m.k.tick x.core})
end bz
end Go.Proofs.YtlhljbbfckbjpaaGreat.Mc
end
section
set_option maxRecDepth 8000
namespace Go.Proofs.YtlhljbbfckbjpaaGreat
open Go Go.Vc Go.Proofs
def p7 (i:Nat) (x:Int × Tb.Pg):dE:=⟨(i:Int),x.1,x.2.1,x.2.2⟩
def fx (l l':List Tb.dv) (F:List dE):Prop:=∀i m,l[i]?=some m->∃m',l'[i]?=some m'/\∀x∈m.pg,x∈m'.pg∨p7 i x∈F
theorem fx.refl (l:List Tb.dv) (F:List dE):fx l l F:=fun i m h=>⟨m,h,fun x hx=> .inl hx⟩
theorem fx.trans {l l1 l2:List Tb.dv} {F G:List dE} (h1:fx l l1 F) (h2:fx l1 l2 G):fx l l2 (F++G):=fun i m hm=>by
 obtain ⟨m1,e1,g1⟩:=h1 i m hm;obtain ⟨m2,e2,g2⟩:=h2 i m1 e1;refine ⟨m2,e2,fun x hx=>?_⟩;rcases g1 x hx with h|h
 ·rcases g2 x h with h|h
  ·exact .inl h
  ·exact .inr (List.mem_append_right _ h)
 ·exact .inr (List.mem_append_left _ h)
theorem fx.app (l Z:List Tb.dv) (F:List dE):fx l (l++Z) F:=fun i m h=>⟨m,by rw[List.getElem?_append_left (List.getElem?_eq_some_iff.1 h).1];exact h,fun x hx=> .inl hx⟩
theorem fx.set {l:List Tb.dv} {F:List dE} {j:Nat} {m m':Tb.dv} (hm:l[j]?=some m) (h:∀x∈m.pg,x∈m'.pg∨p7 j x∈F):fx l (l.set j m') F:=fun i a ha=>by
 by_cases e:i=j
 ·subst e
  rw[hm] at ha;cases ha;exact ⟨m',by rw[List.getElem?_set_self (List.getElem?_eq_some_iff.1 hm).1],h⟩
 ·exact ⟨a,by rw[List.getElem?_set_ne (Ne.symm e)];exact ha,fun x hx=> .inl hx⟩
theorem uV {i:Nat} {P:Tb.fq} {x:Int × Tb.Pg} (hx:x∈P):p7 i x∈ai.bI i P:=List.mem_map.2 ⟨x,hx,rfl⟩
theorem rl (f:Int):∀(l:List Tb.dv) (j i:Nat) (m:Tb.dv),l[i]?=some m->∃m',(ai.bm f j l).2[i]?=some m'/\∀x∈m.pg,x∈m'.pg∨p7 (j+i) x∈(ai.bm f j l).1
 | [],_,_,_,h=>by simp at h
 |a::l,j,0,m,h=>by
  cases h;refine ⟨_,rfl,fun x hx=>?_⟩;cases e:(x.2.1==f) with
  |true=>exact .inr (List.mem_append_left _ (uV (List.mem_filter.2 ⟨hx,e⟩)))
  |false=>exact .inl (List.mem_filter.2 ⟨hx,by rw[e];rfl⟩)
 |a::l,j,i+1,m,h=>by
  obtain ⟨m',e,g⟩:=rl f l (j+1) i m h;refine ⟨m',e,fun x hx=>?_⟩;rcases g x hx with g|g
  ·exact .inl g
  ·rw[show j+(i+1)=j+1+i from by omega]
   exact .inr (List.mem_append_right _ g)
theorem DQ (m:Tb.dv) (j:Int) {x:Int × Tb.Pg} (hx:x∈m.pg):x∈(m.cf j).2.2.pg∨x∈(m.cf j).1:=by
 unfold Tb.dv.cf;split
 ·exact .inl hx
 split
 ·exact .inl hx
 ·cases e:(x.1.toNat / 64==j.toNat) with
  |true=>exact .inr (List.mem_filter.2 ⟨hx,e⟩)
  |false=>exact .inl (List.mem_filter.2 ⟨hx,by simpa using e⟩)
theorem nB (n:Int) (i:Nat):∀(q j:Nat) (m:Tb.dv) (x:Int × Tb.Pg),x∈m.pg->x∈(ai.dt n i q j m).2.pg∨p7 i x∈(ai.dt n i q j m).1
 |0,_,_,_,hx=> .inl hx
 |q+1,j,m,x,hx=>by
  unfold ai.dt;split
  ·rcases DQ m (j:Int) hx with h|h
   ·rcases nB n i q (j+1) _ x h with h|h
    ·exact .inl h
    ·exact .inr (List.mem_append_right _ h)
   ·exact .inr (List.mem_append_left _ (uV h))
  ·exact nB n i q (j+1) m x hx
theorem vq (n:Int):∀(l:List Tb.dv) (j i:Nat) (m:Tb.dv),l[i]?=some m->∃m',(ai.cO n j l).2[i]?=some m'/\∀x∈m.pg,x∈m'.pg∨p7 (j+i) x∈(ai.cO n j l).1
 | [],_,_,_,h=>by simp at h
 |a::l,j,0,m,h=>by
  cases h;refine ⟨_,rfl,fun x hx=>?_⟩;rcases nB n j 64 0 a x hx with g|g
  ·exact .inl g
  ·exact .inr (List.mem_append_left _ g)
 |a::l,j,i+1,m,h=>by
  obtain ⟨m',e,g⟩:=vq n l (j+1) i m h;refine ⟨m',e,fun x hx=>?_⟩;rcases g x hx with g|g
  ·exact .inl g
  ·rw[show j+(i+1)=j+1+i from by omega]
   exact .inr (List.mem_append_right _ g)
theorem Eg (k:ai) (c:dj):fx k.ae (k.last c).2.ae (k.last c).1:=by
 unfold ai.last;split
 ·exact fx.refl _ _
 split
 ·intro i m hm
  have:=rl c.obj k.ae 0 i m hm
  rwa [Nat.zero_add] at this
 split
 ·intro i m hm
  have:=vq c.obj k.ae 0 i m hm
  rwa [Nat.zero_add] at this
 ·exact fx.refl _ _
theorem xJ (k:ai) (s:Slot):fx k.ae (k.gone s).2.ae (k.gone s).1:=by
 unfold ai.gone;split
 ·exact fx.refl _ _
 ·exact Eg (k.taken s) _
theorem uM:∀(l:List Slot) (k:ai),fx k.ae (ai.cg l k).2.ae (ai.cg l k).1
 | [],k=>fx.refl _ _
 |a::l,k=>(xJ k a).trans (uM l (k.gone a).2)
def Pp (k:ai) (r:Told × ai):Prop:=r.1.forget.length+jG r.2.ae≤jG k.ae+1/\fx k.ae r.2.ae r.1.forget
theorem Pp.same {k:ai} {r:Told × ai} (h1:r.1.forget= []) (h2:r.2.ae=k.ae):Pp k r:=by
 unfold Pp;rw[h1,h2];exact ⟨by simp,fx.refl _ _⟩
theorem Pp.from {k k1:ai} {r:Told × ai} (e:k1.ae=k.ae) (h:Pp k1 r):Pp k r:=by
 unfold Pp at*
 rw[e] at h;exact h
theorem A8:∀{l:List Tb.dv} {j:Nat} {m p:Tb.dv},l[j]?=some m->jG (l.set j p)+m.pg.length=jG l+p.pg.length
 | [],_,_,_,h=>by simp at h
 |a::l,0,m,p,h=>by
  cases h;simp only[jG,List.set_cons_zero,List.map_cons,List.sum_cons];omega
 |a::l,j+1,m,p,h=>by
  have:=A8 (l:=l) (j:=j) (m:=m) (p:=p) h;simp only[jG,List.set_cons_succ,List.map_cons,List.sum_cons] at*
  omega
theorem Pp.jk {k:ai} {n:Int} {p:Tb.dv} {t:Told} (hl:t.forget.length+p.pg.length≤(k.iM n).pg.length+1) (hs:∀x∈(k.iM n).pg,x∈p.pg∨p7 n.toNat x∈t.forget)
  (h0:(k.iM n).pg= []->t.forget= []):Pp k (t,k.jk n p):=by
 unfold ai.iM at hl hs h0;cases hm:k.ae[n.toNat]? with
 |none=>
  rw[hm] at h0;refine Pp.same (h0 rfl) ?_;show k.ae.set n.toNat p=k.ae;exact List.set_eq_of_length_le (List.getElem?_eq_none_iff.1 hm)
 |some m=>
  rw[hm] at hl hs;have h1:=A8 (p:=p) hm;simp only[Option.getD_some] at hl hs;exact ⟨by show t.forget.length+jG (k.ae.set n.toNat p)≤_;omega,fx.set hm hs⟩
theorem D5 (P:Tb.fq) (k:Int) (v:Tb.Pg):(Tb.jB P k v).length≤P.length+1:=by
 induction P with
 |nil=>simp[Tb.jB]
 |cons x P ih=>
  simp only[Tb.jB];split
  ·simp
  split
  ·simp
  ·simp only[List.length_cons];omega
theorem D6 {P:Tb.fq} {k:Int} {v:Tb.Pg} (h:Tb.look P k=none) {x:Int × Tb.Pg} (hx:x∈P):x∈Tb.jB P k v:=by
 induction P with
 |nil=>cases hx
 |cons y P ih=>
  have hn:=Tb.di.1 h;have hy:y.1≠k:=hn y List.mem_cons_self;simp only[Tb.jB];split
  ·exact List.mem_cons_of_mem _ hx
  rcases List.mem_cons.1 hx with e|hx
  ·subst e;exact List.mem_cons_self
  ·exact List.mem_cons_of_mem _ (ih (Tb.di.2 fun z hz=>hn z (List.mem_cons_of_mem _ hz)) hx)
theorem HC (m:Tb.dv) (a:Int) (p:Tb.Pg):(m.pf a p).2.pg.length≤m.pg.length+1/\∀x∈m.pg,x∈(m.pf a p).2.pg:=by
 unfold Tb.dv.pf;split
 ·exact ⟨by simp,fun x hx=>hx⟩
 split
 ·exact ⟨by simp,fun x hx=>hx⟩
 split
 ·exact ⟨by simp,fun x hx=>hx⟩
 ·rename_i hl
  exact ⟨D5 _ _ _,fun x hx=>D6 (by cases e:Tb.look m.pg a with|none=>rfl|some v=>rw[e] at hl;exact absurd rfl hl) hx⟩
theorem yK (m:Tb.dv) (i n:Int):(m.jn i n).2.pg=m.pg:=by
 unfold Tb.dv.jn;split
 ·rfl
 split<;>rfl
theorem Gn (k:ai) (core a b:Int) (at_:Nat):∃Z,(k.made core a b at_).2.ae=k.ae++Z/\jG Z=0:=by
 unfold ai.made
 repeat' split
 all_goals first
  |exact ⟨[Tb.kM],rfl,rfl⟩
  |exact ⟨[],(List.append_nil _).symm,rfl⟩
theorem yc (core a b w:Int) (s:Slot):∀(l:List Nat) (j:Nat) (k:ai),∃Z,(ai.makes core a b w s l j k).ae=k.ae++Z/\jG Z=0
 | [],j,k=>⟨[],by simp[ai.makes],rfl⟩
 |at_::r,j,k=>by
  obtain ⟨Z,h1,h2⟩:=Gn k core a b at_;obtain ⟨Y,h3,h4⟩:=yc core a b w s r (j+1) ((k.made core a b at_).2.laid s (0,w+(j:Int)) ⟨a,(k.made core a b at_).1,7,0,0,0⟩);refine ⟨Z++Y, ?_,by rw[rS,h2,h4]⟩;rw[←List.append_assoc,←h1];exact h3
theorem vf (k:ai) (n g:Int):(k.bS n g).2.ae=k.ae:=by
 unfold ai.bS;split<;>rfl
theorem xY (k:ai) (r:(Option (Int × Int)× Int)× xe):(k.hI r).2.2.ae=k.ae:=by
 unfold ai.hI;split
 ·rfl
 ·exact vf _ _ _
theorem wC (k:ai) (d:kQ):(k.rest d).ae=k.ae:=by
 unfold ai.rest;split<;>rfl
section
variable {N:Nat} {k:ai} {d:kQ}
theorem CM:Pp k (ai.tell (k.fp d).1 (k.fp d).2):=by
 unfold ai.fp;split
 ·exact Pp.same rfl rfl
 split
 ·exact Pp.same rfl rfl
 split
 ·exact Pp.same rfl rfl
 ·obtain ⟨Z,h1,h2⟩:=yc d.core d.call.a d.call.b d.call.ak d.s (bF (k.kr d.c.obj) d.call.a d.call.b d.call.c).1 0 { k with u:=k.u.set d.c.obj.toNat (bF (k.kr d.c.obj) d.call.a d.call.b d.call.c).2.1}
  unfold Pp ai.tell;dsimp only at h1⊢;rw[h1];exact ⟨by rw[rS,h2];simp,fx.app _ _ _⟩
theorem FX (hk:aW N k) (ho:0≤d.c.obj):Pp k (k.asks d):=by
 unfold ai.asks;split
 ·exact CM
 ·unfold ai.oe;repeat' split
  all_goals exact Pp.same rfl rfl
 ·unfold ai.move;repeat' split
  all_goals exact Pp.same rfl rfl
 ·split
  ·exact Pp.same rfl rfl
  ·exact ⟨by have:=AH k d.s;dsimp only;omega,xJ k d.s⟩
 ·unfold ai.ji
  have h1:=sH (Tr.db k.T d.s).reverse k;have h2:=uM (Tr.db k.T d.s).reverse k;split
  ·exact ⟨by show _+jG (ai.cg (Tr.db k.T d.s).reverse k).2.ae≤_;dsimp only;omega,h2⟩
  ·exact ⟨by dsimp only;omega,h2⟩
 ·unfold ai.resume;split
  all_goals exact Pp.same rfl rfl
 ·exact Pp.same rfl rfl
 ·exact Pp.same rfl rfl
 ·unfold ai.send;repeat' split
  ·exact Pp.same rfl rfl
  ·exact Pp.same rfl (wC _ _)
  ·exact Pp.same rfl rfl
 ·unfold ai.recv;repeat' split
  ·exact Pp.same rfl rfl
  ·exact Pp.same rfl (wC _ _)
  ·exact Pp.same rfl rfl
 ·exact Pp.same rfl (vf _ _ _)
 ·unfold ai.wait;split
  ·exact Pp.same rfl rfl
  ·refine Pp.same rfl ?_
   dsimp only;split
   ·rfl
   ·exact wC _ _
 ·unfold ai.table;split
  ·exact Pp.same rfl rfl
  ·exact Pp.jk (by rw[yK];simp) (fun x hx=> .inl (by rw[yK];exact hx)) fun _=>rfl
 ·unfold ai.mapped;split
  ·exact Pp.same rfl rfl
  ·obtain ⟨h1,h2⟩:=HC (k.iM (k.bM d.call.ak).obj) d.call.a (d.c.obj,dw .i64 d.c.au d.call.b)
   exact Pp.jk (by simpa using h1) (fun x hx=> .inl (h2 x hx)) fun _=>rfl
 ·unfold ai.mL
  unfold Tb.dv.cH;split
  ·exact Pp.jk (by simp) (fun x hx=> .inl hx) fun _=>rfl
  ·cases hl:Tb.look (k.iM d.c.obj).pg d.call.a with
   |none=>exact Pp.jk (by simp) (fun x hx=> .inl hx) fun _=>rfl
   |some p=>
    refine Pp.jk ?_ (fun x hx=>?_) fun e=>?_
    ·have:=List.length_filter_le (fun x:Int × Tb.Pg=>x.1 !=d.call.a) (k.iM d.c.obj).pg
     simp only[Tb.ll,if_true,List.length_cons,List.length_nil];omega
    ·by_cases e:x.1=d.call.a
     ·refine .inr ?_
      obtain ⟨x1,x2⟩:=x;dsimp only at e;subst e
      have hu:x2=p:=by
       have:=(hk.yA d.c.obj).rj.look hx;rw[hl] at this;exact (Option.some.inj this).symm
      subst hu;dsimp only;rw[if_pos rfl];unfold p7;rw[Int.toNat_of_nonneg ho];exact List.mem_singleton.2 rfl
     ·exact .inl ((Tb.rN _).2 ⟨hx,e⟩)
    ·rw[e] at hl;cases hl
 ·unfold ai.bind;split
  ·exact Pp.same rfl rfl
  ·exact Pp.same rfl rfl
 ·exact Pp.same rfl (xY _ _)
theorem AF (hk:aW N k) (core:Int) (c:Call):Pp k (k.do core c):=by
 unfold ai.do
 split
 ·exact Pp.same rfl rfl
 split
 ·exact Pp.same rfl rfl
 split
 ·exact Pp.same rfl rfl
 ·unfold ai.asked
  split
  ·exact Pp.same rfl rfl
  split
  ·exact Pp.same rfl rfl
  ·refine Pp.from (k1:=k.cu (k.t.bK core)) rfl (FX (hk.pick core) ?_)
   show 0≤(ai.bM _ _).obj;unfold ai.bM;split
   ·cases hh:(k.cu (k.t.bK core)).H (0,c.at_) with
    |none=>exact Int.le_refl 0
    |some x=>exact ((hk.held _ _ hh).2).1
   ·exact Int.le_refl 0
theorem D9 (k:ai) (line:Int):(k.irq line).2.2.ae=k.ae:=xY _ _
end
end Go.Proofs.YtlhljbbfckbjpaaGreat
end
section
set_option maxRecDepth 8000
namespace Go.Proofs.YtlhljbbfckbjpaaGreat.Mc
open Go Go.Vc Go.Proofs
theorem lq (s p:Int) (l:List dE):(drop s p l).length≤l.length:=List.length_filter_le _ _
theorem DU {room:Int} {x:dE} {l:List dE} (h1:1≤room) (h:(l.length:Int)≤room):((fill room x l).length:Int)≤room:=by
 have hd:=lq x.space x.a8 l;unfold fill;split
 ·rename_i e
  simp only[List.length_append,List.length_drop,List.length_cons,List.length_nil];omega
 ·rename_i e
  simp only[List.length_append,List.length_cons,List.length_nil];omega
structure bW (nc N g:Nat) (m:bz):Prop where
 n1:1≤nc
 n8:nc≤8
 cs:m.cs.length=nc
 bx:m.bx.length=nc
 r1:1≤m.room
 r8:m.room≤8
 tl:∀c∈m.cs,(c.tl.length:Int)≤m.room
 nr:∀c∈m.cs,c.aT≠0->0≤c.n/\c.n<(m.prog.length:Int)
 fg:∀c∈m.cs,c.told.forget.length≤g
 FY:∀l∈m.bx,l.length≤64
 G7:m.line.Nodup
 lr:∀c∈m.line,0≤c/\c<(nc:Int)
 k:aW N m.k
 pg:jG m.k.ae≤g
theorem bW.mono {nc N g N' g':Nat} {m:bz} (h:bW nc N g m) (h1:N≤N') (h2:g≤g'):bW nc N' g' m:=
 { h with fg:=fun c hc=>Nat.le_trans (h.fg c hc) h2,k:=h.k.mono h1,pg:=Nat.le_trans h.pg h2}
theorem gx {α:Type} {l:List α} {i:Nat} {x y:α} (h:y∈l.set i x):y∈l∨y=x:=List.mem_or_eq_of_mem_set h
section
variable {nc N g:Nat} {m:bz}
theorem bW.F9 (h:bW nc N g m) {n:Int} (h0:0≤n) (h1:n<(nc:Int)):m.cs[n.toNat]?=some (m.ag n)/\m.ag n∈m.cs:=by
 have hc:=h.cs;have hl:n.toNat<m.cs.length:=by omega
 have e:m.cs[n.toNat]?=some m.cs[n.toNat]:=gE hl;unfold bz.ag;rw[e];exact ⟨rfl,List.getElem_mem hl⟩
theorem bW.dx (h:bW nc N g m) {n:Int} {c:oJ} (ht:(c.tl.length:Int)≤m.room) (hn:c.aT≠0->0≤c.n/\c.n<(m.prog.length:Int)) (hf:c.told.forget.length≤g):bW nc N g (m.dx n c):=
 { h with
  cs:=by show (m.cs.set _ _).length=nc;rw[List.length_set];exact h.cs
  tl:=fun x hx=>(gx hx).elim (fun hx=>h.tl x hx) fun e=>by rw[e];exact ht
  nr:=fun x hx=>(gx hx).elim (fun hx=>h.nr x hx) fun e=>by rw[e];exact hn
  fg:=fun x hx=>(gx hx).elim (fun hx=>h.fg x hx) fun e=>by rw[e];exact hf}
theorem nL (f a:Int) (bx:List (List cP)):(iP f a bx).length=bx.length:=by
 unfold iP;split
 ·rfl
 ·simp
theorem Aw {f a:Int} {bx:List (List cP)} (h:∀l∈bx,l.length≤64):∀l∈iP f a bx,l.length≤64:=by
 unfold iP;split
 ·exact h
 ·rename_i hn
  intro l hl;obtain ⟨i,hi,e⟩:=List.mem_mapIdx.1 hl;have hm:=h _ (List.getElem_mem hi);split at e
  ·rw[←e];exact hm
  ·rename_i hne
   have hlt:(bx[i]).length<64:=by
    rw[Bool.not_eq_true,List.any_eq_false] at hn;have:=hn i (List.mem_range.2 hi);rw[gE hi] at this;simp only[Option.getD_some,Bool.and_eq_true,decide_eq_true_eq,not_and] at this;have:=this hne;omega
   rw[←e];simp;omega
theorem bW.kH (hN:True) (n:Int):∀(l:List dE) (m:bz),bW nc N g m->bW nc N g (bz.kH n l m)/\(bz.kH n l m).prog=m.prog
 | [],m,h=>⟨h,rfl⟩
 |x::l,m,h=>by
  have hb:bW nc N g { m with cs:=m.cs.set n.toNat { m.ag n with tl:=drop x.space x.a8 (m.ag n).tl},bx:=iP n (IntKind.i64.wrap (IntKind.i64.wrap (x.space*4096)+x.a8)) m.bx}:=by
   have hz:∀c∈m.cs.set n.toNat { m.ag n with tl:=drop x.space x.a8 (m.ag n).tl},c∈m.cs∨∃c'∈m.cs,c={ c' with tl:=drop x.space x.a8 c'.tl}:=fun c hc=>by
    by_cases hl:n.toNat<m.cs.length
    ·rcases gx hc with hc|hc
     ·exact .inl hc
     ·refine .inr ⟨m.ag n, ?_,hc⟩
      unfold bz.ag;rw[gE hl];exact List.getElem_mem hl
    ·rw[List.set_eq_of_length_le om] at hc
     exact .inl hc
   exact { h with
    cs:=by show (m.cs.set _ _).length=nc;rw[List.length_set];exact h.cs
    bx:=by show (iP _ _ _).length=nc;rw[nL];exact h.bx
    tl:=fun c hc=>by
     rcases hz c hc with hm|⟨c',hm,rfl⟩
     ·exact h.tl c hm
     ·have:=h.tl c' hm
      have:=lq x.space x.a8 c'.tl;dsimp only;omega
    nr:=fun c hc=>by
     rcases hz c hc with hm|⟨c',hm,rfl⟩
     ·exact h.nr c hm
     ·exact h.nr c' hm
    fg:=fun c hc=>by
     rcases hz c hc with hm|⟨c',hm,rfl⟩
     ·exact h.fg c hm
     ·exact h.fg c' hm
    FY:=Aw h.FY}
  exact bW.kH hN n l _ hb
theorem oP {n:Int} {c:oJ} (hn:n.toNat<m.cs.length):(m.dx n c).ag n=c:=by
 unfold bz.ag bz.dx;dsimp only;rw[List.getElem?_set_self hn];rfl
theorem DL {n i:Int} {c:oJ} (hn:i.toNat≠n.toNat):(m.dx n c).ag i=m.ag i:=by
 unfold bz.ag bz.dx;dsimp only;rw[List.getElem?_set_ne (Ne.symm hn)]
def cq (l:List dE) (t:List dE):List dE:=l.foldl (fun t x=>drop x.space x.a8 t) t
def iV (x:dE):Int:=IntKind.i64.wrap (IntKind.i64.wrap (x.space*4096)+x.a8)
def sendAll (n:Int) (l:List dE) (b:List (List cP)):List (List cP):=l.foldl (fun b x=>iP n (iV x) b) b
theorem tv (n:Int):∀(l:List dE) (m:bz),n.toNat<m.cs.length->bz.kH n l m={ m with cs:=m.cs.set n.toNat { m.ag n with tl:=cq l (m.ag n).tl},bx:=sendAll n l m.bx}
 | [],m,h=>by
  have e:m.cs.set n.toNat { m.ag n with tl:=cq [] (m.ag n).tl}=m.cs:=by
   show m.cs.set n.toNat (m.ag n)=m.cs;unfold bz.ag;rw[gE h];exact List.set_getElem_self h
  show m=_;rw[e];rfl
 |x::l,m,h=>by
  show bz.kH n l _=_;rw[tv n l _ (by show n.toNat<(m.cs.set _ _).length;rw[List.length_set];exact h)]
  have e:(bz.ag { m with cs:=m.cs.set n.toNat { m.ag n with tl:=drop x.space x.a8 (m.ag n).tl},bx:=iP n (IntKind.i64.wrap (IntKind.i64.wrap (x.space*4096)+x.a8)) m.bx} n)={ m.ag n with tl:=drop x.space x.a8 (m.ag n).tl}:=by
   unfold bz.ag;dsimp only;rw[List.getElem?_set_self h];rfl
  rw[e];dsimp only;rw[List.set_set];rfl
theorem bW.nF (h:bW nc N g m) (hN:N+64≤100000) {n:Int} (h0:0≤n) (h1:n<(nc:Int)) (hd:(m.ag n).aT≠0):bW nc (N+64) (g+1) (m.nF n).2/\(m.nF n).1.t.forget.length≤g+1:=by
 obtain ⟨hc1,hc2⟩:=h.F9 h0 h1;obtain ⟨p1,p2⟩:=AF h.k n (m.aC n);have hpg:=h.pg
 have a1:bW nc (N+64) (g+1) ({ m with k:=(m.k.do n (m.aC n)).2}.dx n { m.ag n with told:=(m.k.do n (m.aC n)).1}):=by
  refine bW.dx (m:={ m with k:=(m.k.do n (m.aC n)).2}) ?_ (h.tl (m.ag n) hc2) (fun _=>h.nr (m.ag n) hc2 hd) (by show (m.k.do n (m.aC n)).1.forget.length≤_;omega);exact { h.mono (Nat.le_add_right N 64) (Nat.le_add_right g 1) with k:=h.k.do hN n (m.aC n),pg:=by show jG (m.k.do n (m.aC n)).2.ae≤_;omega}
 obtain ⟨a2,hp⟩:=a1.kH trivial n (m.k.do n (m.aC n)).1.forget _;refine ⟨?_,by show (m.k.do n (m.aC n)).1.forget.length≤_;omega⟩;obtain ⟨_,hc3⟩:=a2.F9 h0 h1;have hlt:n.toNat<m.cs.length:=(List.getElem?_eq_some_iff.1 hc1).1
 have hq:(bz.kH n (m.k.do n (m.aC n)).1.forget ({ m with k:=(m.k.do n (m.aC n)).2}.dx n { m.ag n with told:=(m.k.do n (m.aC n)).1})).ag n={ m.ag n with tl:=cq (m.k.do n (m.aC n)).1.forget (m.ag n).tl,told:=(m.k.do n (m.aC n)).1}:=by
  rw[tv n _ _ (by show n.toNat<(m.cs.set _ _).length;rw[List.length_set];exact hlt)];rw[oP (m:={ m with k:=(m.k.do n (m.aC n)).2}) hlt];unfold bz.ag bz.dx;dsimp only;rw[List.getElem?_set_self (by rw[List.length_set];exact hlt)];rfl
 have t3:=a2.tl _ hc3;have t4:=a2.fg _ hc3;refine a2.dx t3 (fun _=>?_) t4;rw[hq,hp];exact h.nr (m.ag n) hc2 hd
theorem bW.step (h:bW nc N g m) (hN:N+64≤100000) {n:Int} (h0:0≤n) (h1:n<(nc:Int)):bW nc (N+64) (g+1) (m.step n).2/\∀s,(m.step n).1=some s->s.t.forget.length≤g+1:=by
 obtain ⟨hc1,hc2⟩:=h.F9 h0 h1;have h':=h.mono (Nat.le_add_right N 64) (Nat.le_add_right g 1);unfold bz.step;split
 ·rename_i x r hb
  refine ⟨?_,fun s e=>by cases e⟩;have hd:=lq (IntKind.i64.wrap (x.about.tdiv 4096)) (x.about.tmod 4096) (m.ag n).tl;have ht:=h.tl (m.ag n) hc2;have a:=h'.dx (n:=n) (c:={ m.ag n with tl:=drop (IntKind.i64.wrap (x.about.tdiv 4096)) (x.about.tmod 4096) (m.ag n).tl}) (by dsimp only;omega) (h.nr (m.ag n) hc2) (h'.fg (m.ag n) hc2)
  exact { a with
   bx:=by show (m.bx.set _ _).length=nc;rw[List.length_set];exact h.bx
   FY:=fun l hl=>by
    rcases gx hl with hl|hl
    ·exact h.FY l hl
    ·have hm:m.box n∈m.bx:=by
      unfold bz.box at hb⊢;cases e:m.bx[n.toNat]? with
      |none=>rw[e] at hb;cases hb
      |some l=>exact List.mem_of_getElem? e
     have:=h.FY _ hm;rw[hl,List.length_tail];omega}
 ·split
  ·refine ⟨?_,fun s e=>by cases e;exact Nat.zero_le _⟩
   rename_i hd;have a:=h'.dx (n:=n) (c:={ m.ag n with aT:=2}) (h.tl (m.ag n) hc2) (fun _=>h.nr (m.ag n) hc2 (by rw[hd];decide)) (h'.fg (m.ag n) hc2)
   exact { a with
    G7:=by
     show (cZ m.line n).Nodup;unfold cZ;split
     ·exact h.G7
     ·rename_i hn
      exact List.nodup_append.2 ⟨h.G7,by simp,fun a ha b hb=>by
       rw[List.mem_singleton] at hb;rintro rfl;exact hn (hb▸ha)⟩
    lr:=fun c hc=>by
     unfold bz.dx cZ at hc;dsimp only at hc;split at hc
     ·exact h.lr c hc
     ·rcases List.mem_append.1 hc with hc|hc
      ·exact h.lr c hc
      ·rw[List.mem_singleton.1 hc];exact ⟨h0,h1⟩}
  split
  ·split
   ·rename_i hd _
    obtain ⟨a,b⟩:=h.nF hN h0 h1 (by rw[hd];decide);exact ⟨a,fun s e=>by cases e;exact b⟩
   ·exact ⟨h',fun s e=>by cases e⟩
  split
  ·refine ⟨?_,fun s e=>by cases e;exact (h'.fg (m.ag n) hc2)⟩
   have a:=h'.dx (n:=n) (c:={ m.ag n with aT:=0}) (h.tl (m.ag n) hc2) (fun hh=>absurd rfl hh) (h'.fg (m.ag n) hc2)
   have hsub:(dJ m.line n).Sublist m.line:=by
    unfold dJ;split
    ·exact List.tail_sublist _
    ·exact List.Sublist.refl _
   exact { a with
    G7:=h.G7.sublist hsub
    lr:=fun c hc=>h.lr c (hsub.subset hc)}
  ·exact ⟨h',fun s e=>by cases e⟩
theorem Cq {a8:Int} {t:List dE} (h1:1≤m.room) (ht:(t.length:Int)≤m.room):((m.loadT a8 t).2.2.length:Int)≤m.room:=by
 unfold bz.loadT;split
 ·exact ht
 split
 ·exact DU h1 ht
 ·exact ht
theorem bW.load (h:bW nc N g m) {n a8:Int} (h0:0≤n) (h1:n<(nc:Int)):bW nc N g (m.load n a8).2:=by
 obtain ⟨hc1,hc2⟩:=h.F9 h0 h1;exact h.dx (Cq h.r1 (h.tl (m.ag n) hc2)) (h.nr (m.ag n) hc2) (h.fg (m.ag n) hc2)
theorem bW.user (h:bW nc N g m) {x:Item} (h0:0≤x.core) (h1:x.core<(nc:Int)) (ha:0≤x.a):bW nc N g (m.user x).2/\∀s,(m.user x).1=some s->s.t.forget.length≤g:=by
 obtain ⟨hc1,hc2⟩:=h.F9 h0 h1;unfold bz.user;split
 ·exact ⟨h,fun s e=>by cases e⟩
 split
 ·exact ⟨h.load h0 h1,fun s e=>by cases e;exact Nat.zero_le _⟩
 split
 ·rename_i hl
  exact ⟨h.dx (h.tl (m.ag x.core) hc2) (fun _=>⟨ha,hl⟩) (h.fg (m.ag x.core) hc2),fun s e=>by cases e⟩
 ·exact ⟨h,fun s e=>by cases e⟩
theorem ik {x:Item} {c:Int}:bj x c=true↔0≤x.kind/\x.kind<4/\0≤x.core/\x.core<min c 8/\(0≤x.a/\x.a≤255)/\(0≤x.b/\x.b≤255):=by
 unfold bj;exact decide_eq_true_iff
theorem bW.item (h:bW nc N g m) (hN:N+64≤100000) (x:Item):bW nc (N+64) (g+1) (m.item x).2/\∀s,(m.item x).1=some s->s.t.forget.length≤g+1:=by
 have h':=h.mono (Nat.le_add_right N 64) (Nat.le_add_right g 1);have hcs:=h.cs;unfold bz.item;split
 ·exact ⟨h',fun s e=>by cases e⟩
 rename_i hr;have hr:bj x m.cs.length=true:=by cases e:bj x m.cs.length with|true=>rfl|false=>exact absurd e hr
 obtain ⟨k0,k1,c0,c1,⟨a0,a1⟩,b0,b1⟩:=ik.1 hr;have c2:x.core<(nc:Int):=by omega
 split
 ·obtain ⟨a,b⟩:=h.user c0 c2 a0
  exact ⟨a.mono (Nat.le_add_right N 64) (Nat.le_add_right g 1),fun s e=>Nat.le_trans (b s e) (Nat.le_add_right g 1)⟩
 split
 ·exact h.step hN c0 c2
 split
 ·exact ⟨h',fun s e=>by cases e⟩
 split
 ·refine ⟨{ h' with k:=(h.k.irq x.a).mono om,pg:=by show jG (m.k.irq x.a).2.2.ae≤_;rw[D9];exact h'.pg},fun s e=>by cases e;exact Nat.zero_le _⟩
 ·exact ⟨{ h' with k:=(h.k.tick x.core).mono om},fun s e=>by cases e;exact Nat.zero_le _⟩
end
def bU:cQ cP:=⟨3,fun o=>[.z o.eS, .z o.kind, .z o.about],fun _=>rfl,fun x v h=>by
 simp only[List.mem_cons,List.not_mem_nil,or_false] at h;rcases h with rfl|rfl|rfl<;>rfl,by decide⟩
def bJ:cQ Call:=⟨6,fun o=>[.z o.ask, .z o.at_, .z o.ak, .z o.a, .z o.b, .z o.c],fun _=>rfl,fun x v h=>by
 simp only[List.mem_cons,List.not_mem_nil,or_false] at h;rcases h with rfl|rfl|rfl|rfl|rfl|rfl<;>rfl,by decide⟩
def ki:cQ (Option Nat):=⟨1,fun o=>[.pointer (o.map fun p=>⟨p,0,none⟩)],fun _=>rfl,fun x v h=>by
 simp only[List.mem_cons,List.not_mem_nil,or_false] at h;subst h;rfl,by decide⟩
structure Cm where
 p:Nat
 aT:Int
 n:Int
 e:Int
 w:Int
 wk:Int
 fs:Sl
def ct:cQ Cm:=⟨7,fun o=>[.pointer (some ⟨o.p,0,none⟩), .z o.aT, .z o.n, .z o.e, .y o.w, .z o.wk, .slice o.fs.a o.fs.len o.fs.cap],fun _=>rfl,fun x v h=>by
 simp only[List.mem_cons,List.not_mem_nil,or_false] at h;rcases h with rfl|rfl|rfl|rfl|rfl|rfl|rfl<;>rfl,by decide⟩
def eA (b:Nat) (room:Int) (l:List dE):aA:=pV fun s:Sl=>bh [aa b [.slice s.a s.len s.cap, .z room],ah aw s l]
def dW (room:Int) (p:Nat) (x:oJ × Sl):aA:=bh [eA p room x.1.tl,ah aw x.2 x.1.told.forget]
def cX (b:Nat) (bx:List (List cP)):aA:=pV fun x:Sl × List Sl=>bh [aa b [.slice x.1.a x.1.len x.1.cap],ah Af x.1 x.2,dO bU x.2 bx]
def eN (p:Nat) (x:Option Nat × Int):aA:=aa p [.z x.2, .pointer (x.1.map fun q=>⟨q,0,none⟩), .bool true]
def im:Option Nat->aA
 |none=>bh []
 |some q=>pV fun c:Int=>aa q [.z c, .pointer none, .bool false]
structure Lx where
 a0:Option Nat
 s:Sl
 rL:List (Option Nat)
 ps:List Nat
structure FO (nc:Nat) (line:List Int) (x:Lx):Prop where
 len:x.rL.length=nc
 ps:x.ps.length=line.length
 nd:line.Nodup
 wX:∀c∈line,0≤c/\c<(nc:Int)
 at_:∀(j:Nat) (c:Int) (p:Nat),line[j]?=some c->x.ps[j]?=some p->x.rL[c.toNat]?=some (some p)
 no:∀i:Nat,i<nc->(i:Int)∉line->x.rL[i]?=some none
def iE:Option Nat->List Nat->Option Nat
 |a,[]=>a
 |_,p::ps=>iE (some p) ps
def chain:Option Nat->List Nat->List Int->List (Option Nat × Int)
 |a,p::ps,c::cs=>(a,c)::chain (some p) ps cs
 |_,_,_=>[]
abbrev Bj (x:Lx):Option Nat:=iE x.a0 x.ps
abbrev uT (x:Lx) (line:List Int):List (Option Nat × Int):=chain x.a0 x.ps line
def aQ (b nc:Nat) (line:List Int):aA:=pV fun x:Lx=>bh [dX (FO nc line x),aa b [.z (nc:Int), .pointer ((Bj x).map fun q=>⟨q,0,none⟩), .slice x.s.a x.s.len x.s.cap],ah ki x.s x.rL,im x.a0,ar eN x.ps (uT x line)]
def cm (p:Nat) (x:oJ × Sl):Cm:=⟨p,x.1.aT,x.1.n,x.1.told.e,x.1.told.w,x.1.told.dg,x.2⟩
abbrev jf (ps:List Nat) (xs:List (oJ × Sl)):List Cm:=List.zipWith cm ps xs
structure Mx where
 k:Nat
 l:Nat
 b:Nat
 cs:Sl
 pr:Sl
 ps:List Nat
 xs:List (oJ × Sl)
abbrev da (x:Mx):List Value:=[.pointer (some ⟨x.k,0,none⟩), .pointer (some ⟨x.l,0,none⟩), .pointer (some ⟨x.b,0,none⟩), .slice x.cs.a x.cs.len x.cs.cap, .slice x.pr.a x.pr.len x.pr.cap]
def dh (b:Nat) (m:bz):aA:=pV fun x:Mx=>bh [dX (x.xs.map (·.1)=m.cs),aa b (da x),aj x.k m.k,aQ x.l m.cs.length m.line,cX x.b m.bx,ah ct x.cs (jf x.ps x.xs),ar (dW m.room) x.ps x.xs,ah bJ x.pr m.prog]
section
variable {B:Nat} {w0 w:World} {R L:List aA} {b:Nat}
theorem Fm {room:Int} {l:List dE} (h:Ow B w0 w (eA b room l::R)):∃s:Sl,Ow B w0 w (aa b [.slice s.a s.len s.cap, .z room]::ah aw s l::R):=by
 obtain ⟨s,h⟩:=h.ex;exact ⟨s,h.star⟩
theorem po {s:Sl} {room:Int} {l:List dE} (h:Ow B w0 w (aa b [.slice s.a s.len s.cap, .z room]::ah aw s l::R)):Ow B w0 w (eA b room l::R):=Ow.eP s (Ow.aY h)
theorem BZ {bx:List (List cP)} (h:Ow B w0 w (cX b bx::R)):∃(s:Sl) (ss:List Sl),Ow B w0 w (aa b [.slice s.a s.len s.cap]::ah Af s ss::dO bU ss bx::R):=by
 obtain ⟨x,h⟩:=h.ex;exact ⟨x.1,x.2,h.star⟩
theorem sS {s:Sl} {ss:List Sl} {bx:List (List cP)} (h:Ow B w0 w (aa b [.slice s.a s.len s.cap]::ah Af s ss::dO bU ss bx::R)):Ow B w0 w (cX b bx::R):=Ow.eP (s,ss) (Ow.aY h)
theorem p9 {nc:Nat} {line:List Int} (h:Ow B w0 w (aQ b nc line::R)):∃x:Lx,FO nc line x/\Ow B w0 w (aa b [.z (nc:Int), .pointer ((Bj x).map fun q=>⟨q,0,none⟩), .slice x.s.a x.s.len x.s.cap]::ah ki x.s x.rL::im x.a0::ar eN x.ps (uT x line)::R):=by
 obtain ⟨x,h⟩:=h.ex;obtain ⟨h1,h⟩:=Ow.pure h.star;exact ⟨x,h1,h⟩
theorem ml {nc:Nat} {line:List Int} (x:Lx) (hx:FO nc line x) (h:Ow B w0 w (aa b [.z (nc:Int), .pointer ((Bj x).map fun q=>⟨q,0,none⟩), .slice x.s.a x.s.len x.s.cap]::ah ki x.s x.rL::im x.a0::ar eN x.ps (uT x line)::R)):Ow B w0 w (aQ b nc line::R):=
 Ow.eP x (Ow.aY (Ow.dN hx h))
theorem ye {m:bz} (h:Ow B w0 w (dh b m::R)):∃x:Mx,x.xs.map (·.1)=m.cs/\Ow B w0 w (aa b (da x)::aj x.k m.k::aQ x.l m.cs.length m.line::cX x.b m.bx::ah ct x.cs (jf x.ps x.xs)::ar (dW m.room) x.ps x.xs::ah bJ x.pr m.prog::R):=by
 obtain ⟨x,h⟩:=h.ex;obtain ⟨h1,h⟩:=Ow.pure h.star;exact ⟨x,h1,h⟩
theorem lH (x:Mx) {m:bz} (hx:x.xs.map (·.1)=m.cs) (h:Ow B w0 w (aa b (da x)::aj x.k m.k::aQ x.l m.cs.length m.line::cX x.b m.bx::ah ct x.cs (jf x.ps x.xs)::ar (dW m.room) x.ps x.xs::ah bJ x.pr m.prog::R)):Ow B w0 w (dh b m::R):=
 Ow.eP x (Ow.aY (Ow.dN hx h))
end
theorem AS {w:World} {a:Addr} {x:dE} {f:Int->Int->Int->Int->Prop} (g:∀c v,(aw.enc x)[c]?=some v->w.cell? (a.add c)=some v) (hf:f x.space x.a8 x.frame x.au):
  az w a 0 [.o, .o, .o, .o] f:=⟨_,g 0 _ rfl,_,g 1 _ rfl,_,g 2 _ rfl,_,g 3 _ rfl,hf⟩
theorem AN:Tryz.prog.info? 153=some Tryz.t153:=by kernel_rfl
theorem DG:Tryz.t153.bytes=32:=by kernel_rfl
def Fw:dE:=⟨0,0,0,0⟩
theorem Bs (w:World):(zeroValue 153).run Tryz.prog w= .ok (.agg ⟨aw.enc Fw⟩) w:=Tryz.zeroValue153 w
theorem lx {α:Type} (xs:List α) (q:α->Bool) (j:Nat) (x:α) (hx:xs[j]?=some x):(xs.take (j+1)).filter q=(xs.take j).filter q++if q x then [x] else []:=by
 rw[List.take_add_one,hx,List.filter_append];congr 1;simp only[Option.toList_some,List.filter_cons,List.filter_nil]
instance dA.app {b:Nat} {N L:List aA} {l:List Value} [I:dA b L l]:dA b (N++L) l:=⟨N.length+I.i,by rw[List.getElem?_append_right om,Nat.add_sub_cancel_left];exact I.at_⟩
section
variable {B:Nat} {w0 w:World} {R L:List aA} {s:Sl} {xs:List dE}
theorem tT {p:dE->Bool} {f:Value} {K:Int->Pw} [I:bT s L dE aw xs] (h:Ow B w0 w L) (hbig:xs.length≤1000000000)
  (hf:∀(y:dE) (w:World) (Q:Bool->Pw),Ow B w0 w L->(∀w',Ow B w0 w' L->Q (p y) w')->bY Tryz.prog f [.agg ⟨aw.enc y⟩] w fun en w'=>∃r:Bool,en= .returned (.bool r)/\Q r w')
  (hK:∀w',Ow B w0 w' L->K (cN p xs) w'):C.qu s f K w:=by
 apply S.qu0;have hlen:=h.br s;intro l hl
 have loop:∀(rest:List dE) (j:Nat) (w:World),xs.drop j=rest->j≤xs.length->(∀i,i<j->∀y,xs[i]?=some y->p y=false)->Ow B w0 w L->l (j:Int) w:=by
  intro rest
  induction rest with
  |nil=>
   intro j w hj hjl hno h;have:xs.length≤j:=by have:=congrArg List.length hj;simp at this;omega
   apply hl;refine aE om ?_
   have hn:xs.findIdx? p=none:=by
    rw[List.findIdx?_eq_none_iff];intro y hy;obtain ⟨i,hi⟩:=List.mem_iff_getElem?.1 hy;exact hno i (by have:=(List.getElem?_eq_some_iff.1 hi).1;omega) y hi
   have e:cN p xs= -1:=by unfold cN;rw[hn]
   rw[←e];exact hK _ h
  |cons y rest ih=>
   intro j w hj hjl hno h;have hjl2:j<xs.length:=by have:=congrArg List.length hj;simp at this;omega
   have hx:xs[j]?=some y:=by
    have:=congrArg (fun l=>l[0]?) hj;simpa using this
   apply hl;refine aR om ?_;refine h.dZ rfl hx fun a ha h0 hc=>?_
   refine AS hc ?_;refine hf y w _ h fun w h=>?_
   cases hp:p y with
   |true=>
    refine bN rfl ?_
    have hn:xs.findIdx? p=some j:=by
     rw[List.findIdx?_eq_some_iff_getElem];refine ⟨hjl2, ?_,fun i hi=>?_⟩
     ·rw[gE hjl2] at hx;cases hx;exact hp
     ·have:=hno i hi xs[i] (gE om)
      simp[this]
    have e:cN p xs=(j:Int):=by unfold cN;rw[hn]
    rw[←e];exact hK _ h
   |false=>
    refine bD rfl ?_;rw[wr om om];refine ih (j+1) w (by rw[←List.drop_drop,hj];rfl) om (fun i hi z hz=>?_) h;by_cases e:i=j
    ·subst e;rw[hx] at hz;cases hz;exact hp
    ·exact hno i om z hz
 exact loop xs 0 w rfl om (fun i hi=>by omega) h
theorem zd {i j:Nat} {K:Sl->Pw} (h:Ow B w0 w (ah aw s xs::R)) (hij:i<j) (hj:j≤xs.length) (hbig:xs.length≤1000000000)
  (hK:∀s' w',Ow B w0 w' (ah aw s' (xs.take i++xs.drop j)::R)->K s' w'):C.qB s (i:Int) (j:Int) K w:=by
 apply S.qB0;have hlen:=h.br s;have hcap:=h.jN.fo;refine ⟨om,om,om,om,om,om, ?_⟩;refine vN om ?_;refine h.dr fun w h=>?_
 refine ⟨om,om,om,om,a2 ?_⟩;simp only[Int.toNat_natCast];refine h.sw (E:=aw) Tryz.underlying34 AN (by kernel_rfl) om hj om fun w h=>?_
 dsimp only;refine ⟨om,om,om,om, ?_⟩;refine Ow.clear (E:=aw) (z0:=Fw) (n:=i+(xs.length-j)) Tryz.underlying34 Bs rfl h 0 rfl (by simp;omega) fun w h=>?_
 have hp:=h.pre 0 rfl (n:=i+(xs.length-j)) (by simp;omega);refine hK _ w ?_;rw[jx hij hj] at hp;exact hp
theorem rZ {fv:Value} {p:dE->Bool} {K:Sl->Pw} (h:Ow B w0 w (ah aw s xs::L)) (hbig:xs.length≤1000000000)
  (hf:∀(N:List aA) (y:dE) (w:World) (Q:Bool->Pw),Ow B w0 w (N++L)->(∀w',Ow B w0 w' (N++L)->Q (p y) w')->bY Tryz.prog fv [.agg ⟨aw.enc y⟩] w fun en w'=>∃r:Bool,en= .returned (.bool r)/\Q r w')
  (hK:∀s' w',Ow B w0 w' (ah aw s' (xs.filter fun x=> !p x)::L)->K s' w'):C.qr s fv K w:=by
 apply S.qr0;have hlen:=h.br s;have hspot:=(h.vg 0 rfl).spot;refine tT h hbig (fun y w Q h hQ=>hf [ah aw s xs] y w Q h hQ) fun w1 h=>?_
 unfold cN;cases hfi:xs.findIdx? p with
 |none=>
  refine bN rfl ?_
  have:xs.filter (fun x=> !p x)=xs:=by
   rw[List.filter_eq_self];intro x hx;rw[List.findIdx?_eq_none_iff] at hfi;simp[hfi x hx]
  have h2:=hK s w1;rw[this] at h2;exact h2 h
 |some i0=>
  obtain ⟨hi0,hp0,hbefore⟩:=List.findIdx?_eq_some_iff_getElem.1 hfi;refine bD (by simp) ?_;intro l hl;have hcap:=(h.vg 0 rfl).fo
  have key:∀(m j q:Nat) (ys:List dE) (w:World),j+m=xs.length->ys.length=xs.length->ys.take q=(xs.take j).filter (fun x=> !p x)->q<j->q≤ys.length->ys.drop j=xs.drop j->
    Ow B w0 w (ah aw s ys::L)->l (q:Int) (j:Int) w:=by
   intro m
   induction m with
   |zero=>
    intro j q ys w hj hys hq hqj hqy hd h;apply hl;refine aE om ?_;refine ⟨om,om, ?_⟩;rw[Int.toNat_natCast];refine Ow.clear (E:=aw) (z0:=Fw) (n:=q) Tryz.underlying34 Bs rfl h 0 rfl om fun w2 h=>?_
    refine ⟨om,om, ?_⟩;have h3:=h.pre 0 rfl (n:=q) (by simp;omega)
    have e1:(ys.take q++List.replicate (ys.length-q) Fw).take q=xs.filter (fun x=> !p x):=by
     rw[List.take_append_of_le_length (by simp;omega),List.take_take,Nat.min_self,hq,List.take_of_length_le om]
    rw[e1] at h3;rw[CU _ _ _ hspot];exact hK _ _ h3
   |succ m ih=>
    intro j q ys w hj hys hq hqj hqy hd h;have hjlt:j<xs.length:=by omega
    have hyj:ys[j]?=some xs[j]:=by
     have:=congrArg (fun l=>l[0]?) hd;simp only[List.getElem?_drop,Nat.add_zero] at this;rw[this,gE hjlt]
    apply hl;refine aR om ?_;refine h.dZ (s:=s) rfl hyj fun a ha h0 hc=>?_
    refine AS hc ?_;have hft:=lx xs (fun x=> !p x) j _ (gE hjlt)
    have hd1:∀zs:List dE,zs.drop j=xs.drop j->zs.drop (j+1)=xs.drop (j+1):=fun zs hz=>by
     rw[←List.drop_drop (i:=1) (j:=j),←List.drop_drop (i:=1) (j:=j),hz]
    generalize xs[j]=x at hyj hft hc;refine h.a fun d w' h=>?_;refine h.ax rfl rfl fun w h=>?_
    (try dsimp only[putAt,List.set_cons_zero,List.set_cons_succ] at h)
    refine h.gH rfl ?_;refine hf [aa d (aw.enc x),ah aw s ys] x w _ h fun w h=>?_
    have h:Ow B w0 w (aa d (aw.enc x)::ah aw s ys::L):=h;rw[wI j om];cases hp:p x with
    |true=>
     refine bD rfl ?_;refine ih (j+1) q ys w om hys ?_ om hqy (hd1 ys hd) h.drop;rw[hq,hft,hp];simp
    |false=>
     refine bN rfl ?_;refine h.gH rfl ?_;refine ⟨a,ha,om,om, ?_⟩;refine h.dz.yH (s:=s) x rfl om ha fun w h=>?_
     rw[wI q om];refine ih (j+1) (q+1) (ys.set q x) w om (by simpa using hys) ?_ om (by simp;omega) ?_ h.yy
     ·rw[hft,hp,List.take_add_one,List.getElem?_set_self om,List.take_set_of_le (Nat.le_refl _),hq];simp
     ·rw[List.drop_set_of_lt om];exact hd1 ys hd
  have h0:xs.take i0=(xs.take (i0+1)).filter (fun x=> !p x):=by
   rw[lx xs _ i0 _ (gE hi0),hp0];simp only[Bool.not_true,if_false,List.append_nil,Bool.false_eq_true]
   symm
   rw[List.filter_eq_self];intro x hx;obtain ⟨q,hq⟩:=List.mem_iff_getElem?.1 hx;rw[List.getElem?_take] at hq;split at hq
   ·rename_i hlt
    have:=hbefore q hlt;rw[gE om] at hq;cases hq;simpa using this
   ·cases hq
  rw[show IntKind.i64.wrap (((i0:Nat):Int)+1)=((i0+1:Nat):Int) from by rw[wr om om];omega];exact key (xs.length-(i0+1)) (i0+1) i0 xs w1 om rfl h0 om om rfl h
theorem Bw {s:Sl} {xs:List dE} {K:Sl->Pw} [I:bT s L dE aw xs] (h:Ow B w0 w L) (hbig:xs.length≤1000000) (hK:∀s' w',Ow B w0 w' (ah aw s' xs::L)->K s' w'):C.qE s K w:=by
 apply S.qE0;exact Ay (s:=s) (E:=aw) (xs:=xs) (zv:= .agg ⟨aw.enc Fw⟩) Tryz.underlying34 AN (by kernel_rfl) (by kernel_rfl) rfl (by decide) h (by rw[DG];omega) hK
abbrev H5 (c:Nat):Value:= .func (.func 125) #[] #[.pointer (some ⟨c,0,none⟩)]
abbrev HX (c:Nat):Value:= .func (.func 126) #[] #[.pointer (some ⟨c,0,none⟩)]
theorem kg {n:Int} {K:Value->Pw} (h:Ow B w0 w R) (hK:∀c w',Ow B w0 w' (aa c [.z n]::R)->K (H5 c) w'):C.qdO n K w:=by
 apply S.qdO0;refine h.al fun w1 h=>?_
 exact hK _ _ h
theorem vG {n:Int} {K:Value->Pw} (h:Ow B w0 w R) (hK:∀c w',Ow B w0 w' (aa c [.z n]::R)->K (HX c) w'):C.qdP n K w:=by
 apply S.qdP0;refine h.al fun w1 h=>?_
 exact hK _ _ h
theorem JO {c:Nat} {n:Int} {l:dE} {Q:Bool->Pw} [I:dA c L [.z n]] (h:Ow B w0 w L) (hQ:∀w',Ow B w0 w' L->Q (l.space==n) w'):
  bY Tryz.prog (H5 c) [.agg #[.z l.space, .z l.a8, .z l.frame, .z l.au]] w fun en w'=>∃r:Bool,en= .returned (.bool r)/\Q r w':=by
 refine aP ?_;show C.qdQ l.space l.a8 l.frame l.au ⟨c,0,none⟩ Q w;apply S.qdQ0;refine h.a fun d w1 h=>?_;exact ⟨_,h.aq rfl,_,h.aq rfl,hQ _ h.drop⟩
theorem JJ {c:Nat} {n:Int} {l:dE} {Q:Bool->Pw} [I:dA c L [.z n]] (h:Ow B w0 w L) (hQ:∀w',Ow B w0 w' L->Q (l.a8==n) w'):
  bY Tryz.prog (HX c) [.agg #[.z l.space, .z l.a8, .z l.frame, .z l.au]] w fun en w'=>∃r:Bool,en= .returned (.bool r)/\Q r w':=by
 refine aP ?_;show C.qdR l.space l.a8 l.frame l.au ⟨c,0,none⟩ Q w;apply S.qdR0;refine h.a fun d w1 h=>?_;exact ⟨_,h.ao rfl,_,h.aq rfl,hQ _ h.drop⟩
theorem xl {bs c1 c2:Nat} {n1 n2:Int} {l:dE} {K:Bool->Pw} [I:dA bs L [H5 c1,HX c2]] [I1:dA c1 L [.z n1]] [I2:dA c2 L [.z n2]] (h:Ow B w0 w L)
  (hK:∀w',Ow B w0 w' L->K (rA n1 n2 l) w'):C.qdN l.space l.a8 l.frame l.au ⟨some ⟨bs,0,none⟩,2,2⟩ K w:=by
 apply S.qdN0;refine h.a fun d w1 h=>?_;apply S.qb0;apply S.qe0
 have one:∀(f:Value) (b:Bool) (w:World) (Q:Bool->Pw),Ow B w0 w (aa d [.z l.space, .z l.a8, .z l.frame, .z l.au]::L)->
   (∀(w:World) (Q:Bool->Pw),Ow B w0 w (aa d [.z l.space, .z l.a8, .z l.frame, .z l.au]::L)->(∀w',Ow B w0 w' (aa d [.z l.space, .z l.a8, .z l.frame, .z l.au]::L)->Q b w')->
    bY Tryz.prog f [.agg #[.z l.space, .z l.a8, .z l.frame, .z l.au]] w fun en w'=>∃r:Bool,en= .returned (.bool r)/\Q r w')->
   (∀w',Ow B w0 w' (aa d [.z l.space, .z l.a8, .z l.frame, .z l.au]::L)->Q (!b) w')->
   bY Tryz.prog (.func (.func 124) #[] #[.pointer (some ⟨d,0,none⟩)]) [f] w fun en w'=>∃r:Bool,en= .returned (.bool r)/\Q r w':=fun f b w Q h hf hQ=>by
  refine aP ?_;show C.qdL f ⟨d,0,none⟩ Q w;apply S.qdL0;refine h.gH rfl ?_;exact hf w _ h hQ
 intro k hk;apply hk;refine aR (show (0:Int)<2 by decide) ?_;refine ⟨_,rfl,by decide,(show (0:Int)<2 by decide),H5 c1, ?_, ?_⟩
 ·have:=Ow.ao (n:=0) h (I:=dA.tail) (b:=bs) (o:=0) (v:=H5 c1) rfl
  exact this
 refine one _ _ w1 _ h (fun w Q h hQ=>JO (n:=n1) h hQ) fun w h=>?_
 cases e1:(l.space==n1) with
 |false=>
  refine bN rfl ?_
  have e3:rA n1 n2 l=false:=by
   unfold rA;rw[show decide (l.space=n1)=(l.space==n1) from rfl,e1];rfl
  rw[e3] at hK;exact hK w h.drop
 |true=>
  refine bD rfl ?_;rw[show IntKind.i64.wrap ((0:Int)+1)=1 from by decide];apply hk;refine aR (show (1:Int)<2 by decide) ?_;refine ⟨_,rfl,by decide,(show (1:Int)<2 by decide),HX c2, ?_, ?_⟩
  ·have:=Ow.ao (n:=1) h (I:=dA.tail) (b:=bs) (o:=0) (v:=HX c2) rfl
   exact this
  refine one _ _ w _ h (fun w Q h hQ=>JJ (n:=n2) h hQ) fun w h=>?_
  have e3:rA n1 n2 l=(l.a8==n2):=by
   unfold rA;rw[show decide (l.space=n1)=(l.space==n1) from rfl,e1];rfl
  rw[e3] at hK;cases e2:(l.a8==n2) with
  |false=>
   rw[e2] at hK;refine bN rfl ?_;exact hK w h.drop
  |true=>
   rw[e2] at hK;refine bD rfl ?_;rw[show IntKind.i64.wrap ((1:Int)+1)=2 from by decide];apply hk;refine aE (show ¬(2:Int)<2 by decide) ?_;exact hK w h.drop
theorem tu {b bs c1 c2:Nat} {room n1 n2:Int} {l:List dE} {K:Int->Pw} (hbig:l.length≤1000000) (h:Ow B w0 w (eA b room l::R))
  [I:dA bs R [H5 c1,HX c2]] [I1:dA c1 R [.z n1]] [I2:dA c2 R [.z n2]]
  (hK:∀w',Ow B w0 w' (eA b room (drop n1 n2 l)::R)->K ((l.length:Int)-((drop n1 n2 l).length:Int)) w'):C.qcH (some ⟨b,0,none⟩) ⟨some ⟨bs,0,none⟩,2,2⟩ K w:=by
 apply S.qcH0;refine h.a fun d w1 h=>?_;obtain ⟨s,h⟩:=Fm h.dz;have hlen:=h.br s;refine ⟨_,rfl,s,h.aq rfl,_,rfl,s,h.aq rfl, ?_⟩;refine rZ (s:=s) (xs:=l) (p:=fun x=>rA n1 n2 x) h.dz om (fun N y w Q h hQ=>?_) fun s' w h=>?_
 ·refine aP ?_
  show C.qcU y.space y.a8 y.frame y.au ⟨d,0,none⟩ Q w;apply S.qcU0;refine h.a fun e w2 h=>?_;refine h.gH rfl ?_;refine ⟨⟨some ⟨bs,0,none⟩,2,2⟩,h.aq rfl, ?_⟩;exact xl (bs:=bs) (c1:=c1) (c2:=c2) (n1:=n1) (n2:=n2) h fun w h=>hQ w h.drop
 ·have hlen2:=h.br s'
  have hfl:=List.length_filter_le (fun x=> !rA n1 n2 x) l;refine ⟨_,rfl, ?_⟩;refine h.dy rfl rfl fun w h=>?_
  (try dsimp only[putAt,List.set_cons_zero,List.set_cons_succ] at h)
  refine ⟨_,rfl,s',h.aq rfl, ?_⟩;rw[hlen,hlen2,wr om om];have h:Ow B w0 w (ah aw s' (drop n1 n2 l)::aa b [.slice s'.a s'.len s'.cap, .z room]::aa d [.slice (some ⟨bs,0,none⟩) 2 2]::R):=h;have h:Ow B w0 w (aa b [.slice s'.a s'.len s'.cap, .z room]::ah aw s' (drop n1 n2 l)::R):=h.sub;exact hK w (po h)
theorem wQ {room:Int} {K:Option Addr->Int->Pw} (h1:1≤room) (h2:room≤256) (h:Ow B w0 w R) (hK:∀b w',Ow B w0 w' (eA b room []::R)->K (some ⟨b,0,none⟩) 0 w'):C.qdT room K w:=by
 apply S.qdT0;intro k hk;refine aE om ?_;apply hk;refine aE om ?_;refine h.al fun w1 h=>?_
 exact hK _ w1 (po (s:=⟨none,0,0⟩) ((Ow.dK h).perm (List.Perm.swap _ _ _)))
theorem mK {b:Nat} {room n1 n2:Int} {l:List dE} {K:Bool->Pw} (hbig:l.length≤1000000) (h:Ow B w0 w (eA b room l::R)) (hK:∀v w',Ow B w0 w' (eA b room (drop n1 n2 l)::R)->K v w'):C.qcE (some ⟨b,0,none⟩) n1 n2 K w:=by
 apply S.qcE0;refine kg h fun c1 w h=>?_
 refine vG h fun c2 w h=>⟨rfl,rfl, ?_⟩
 refine h.a fun bs w2 h=>?_;refine tu (bs:=bs) (c1:=c1) (c2:=c2) (n1:=n1) (n2:=n2) (l:=l) (room:=room) hbig (h.pick (A:=eA b room l)) fun w h=>?_
 exact hK _ w h.sub
theorem uq {b:Nat} {room n1 n2:Int} {l:List dE} {K:Int->Int->Bool->Pw} (hbig:l.length≤1000000) (h:Ow B w0 w (eA b room l::R))
  (hK:∀w',Ow B w0 w' (eA b room l::R)->K ((look n1 n2 l).getD (0,0)).1 ((look n1 n2 l).getD (0,0)).2 (look n1 n2 l).isSome w'):C.qdd (some ⟨b,0,none⟩) n1 n2 K w:=by
 apply S.qdd0;refine h.a fun d w1 h=>?_;obtain ⟨s,h⟩:=Fm h.dz;have hlen:=h.br s;refine ⟨_,rfl,s,h.aq rfl, ?_⟩;intro lp hlp
 have loop:∀(rest:List dE) (j:Nat) (w:World),l.drop j=rest->j≤l.length->(∀i,i<j->∀y,l[i]?=some y->rA n1 n2 y=false)->Ow B w0 w (aa b [.slice s.a s.len s.cap, .z room]::ah aw s l::aa d [.z 0, .z 0]::R)->lp (j:Int) w:=by
  intro rest
  induction rest with
  |nil=>
   intro j w hj hjl hno h;have:l.length≤j:=by have:=congrArg List.length hj;simp at this;omega
   apply hlp;refine aE om ?_
   have hn:look n1 n2 l=none:=by
    unfold look;rw[List.find?_eq_none.2 fun y hy=>?_]
    ·rfl
    ·obtain ⟨i,hi⟩:=List.mem_iff_getElem?.1 hy
     rw[hno i (by have:=(List.getElem?_eq_some_iff.1 hi).1;omega) y hi];decide
   rw[hn] at hK;refine h.ax rfl rfl fun w h=>?_
   (try dsimp only[putAt,List.set_cons_zero,List.set_cons_succ] at h)
   refine h.aL rfl ?_;have h:Ow B w0 w (aa b [.slice s.a s.len s.cap, .z room]::ah aw s l::R):=h.sub;exact hK w (po h)
  |cons y rest ih=>
   intro j w hj hjl hno h;have hjl2:j<l.length:=by have:=congrArg List.length hj;simp at this;omega
   have hx:l[j]?=some y:=by
    have:=congrArg (fun l=>l[0]?) hj;simpa using this
   apply hlp;refine aR om ?_;refine h.dZ (s:=s) rfl hx fun a ha h0 hc=>?_
   refine AS hc ?_;refine h.a fun e w2 h=>?_;refine h.ax rfl rfl fun w h=>?_
   (try dsimp only[putAt,List.set_cons_zero,List.set_cons_succ] at h)
   refine h.dr fun w h=>?_
   refine h.gH rfl (Go.Vc.a2 ?_);refine kg h fun c1 w h=>?_
   refine h.hd rfl (Go.Vc.a2 ?_);refine vG h fun c2 w h=>?_
   refine h.hd rfl (Go.Vc.a2 ⟨rfl,rfl, ?_⟩);refine h.al fun w3 h=>Go.Vc.a2 ?_
   generalize w.heap.size=bs at h⊢;refine xl (bs:=bs) (c1:=c1) (c2:=c2) (n1:=n1) (n2:=n2) (l:=y) h fun w h=>?_
   cases hp:rA n1 n2 y with
   |true=>
    refine bN rfl ?_
    have hn:look n1 n2 l=some (y.frame,y.au):=by
     unfold look
     have:l.find? (rA n1 n2)=some y:=by
      rw[List.find?_eq_some_iff_getElem];refine ⟨hp,j,hjl2, ?_,fun i hi=>?_⟩
      ·rw[gE hjl2] at hx;exact Option.some.inj hx
      ·rw[hno i hi _ (gE om)];rfl
     rw[this];rfl
    rw[hn] at hK;refine eM (h.aL rfl ?_);refine h.ax rfl rfl fun w h=>?_
    (try dsimp only[putAt,List.set_cons_zero,List.set_cons_succ] at h)
    refine h.aL rfl ?_;have h:Ow B w0 w (aa b [.slice s.a s.len s.cap, .z room]::ah aw s l::R):=h.sub;exact hK w (po h)
   |false=>
    refine bD rfl ?_;rw[wr om om];have h:Ow B w0 w (aa b [.slice s.a s.len s.cap, .z room]::ah aw s l::aa d [.z 0, .z 0]::R):=h.sub;refine ih (j+1) w (by rw[←List.drop_drop,hj];rfl) om (fun i hi z hz=>?_) h;by_cases e:i=j
    ·subst e;rw[hx] at hz;cases hz;exact hp
    ·exact hno i om z hz
 exact loop l 0 w1 rfl om (fun i hi=>by omega) h.sub
theorem xF {b d:Nat} {room:Int} {x:dE} {l:List dE} {K:Pw} (hbig:l.length≤1000000) (h:Ow B w0 w (eA b room l::aa d [.z x.space, .z x.a8, .z x.frame, .z x.au]::R))
  (hK:∀w',Ow B w0 w' (eA b room (l++ [x])::R)->K w'):
  Dr w fun w12=>∃a13:Addr,some (Addr.mk b 0 none)=some a13/\∃l14:Sl,w12.cell? a13=some (.slice l14.a l14.len l14.cap)/\
   az w12 (Addr.mk d 0 none) 0 [.o, .o, .o, .o] fun (t15:Int) (t16:Int) (t17:Int) (t18:Int)=>
   (Al w12 (.cells #[.z t15, .z t16, .z t17, .z t18] 153) fun w19=>
   (∃(t20:Sl) (w21:World),bo Tryz.prog [34,34] 34 (.slice l14.a l14.len l14.cap) (.slice (some (Addr.mk w12.heap.size 0 none)) 1 1) w19 t20 w21/\
   ∃a22:Addr,some (Addr.mk b 0 none)=some a22/\(St w21 a22 (.slice t20.a t20.len t20.cap) fun w23=>K w23)/\True)/\True)/\True:=by
 refine h.dr fun w h=>?_
 obtain ⟨s,h⟩:=Fm h;refine ⟨_,rfl,s,h.aq rfl, ?_⟩;refine h.gH rfl (Go.Vc.a2 ?_);refine h.al fun w2 h=>Go.Vc.a2 ?_
 generalize w.heap.size=e at h⊢;refine xm (s:=s) (ys:=l) (y:=x) h om fun s' w hs' h=>⟨_,rfl,Go.Vc.a2 ?_⟩
 refine h.dy rfl rfl fun w h=>?_
 (try dsimp only[putAt,List.set_cons_zero,List.set_cons_succ] at h)
 have h:Ow B w0 w (aa b [.slice s'.a s'.len s'.cap, .z room]::ah aw s' (l++ [x])::R):=h.sub;exact hK w (po h)
theorem uo {b:Nat} {room:Int} {x:dE} {l:List dE} {K:Pw} (hr:1≤room) (hbig:l.length≤1000000) (h:Ow B w0 w (eA b room l::R))
  (hK:∀w',Ow B w0 w' (eA b room (fill room x l)::R)->K w'):C.qde (some ⟨b,0,none⟩) x.space x.a8 x.frame x.au K w:=by
 apply S.qde0;refine h.a fun d w1 h=>?_;intro k7 hk7;have hdl:=lq x.space x.a8 l;refine h.dr fun w h=>?_
 refine ⟨_,h.aq rfl,_,h.ao rfl,Go.Vc.a2 ?_⟩;refine kg h fun c1 w h=>?_
 refine ⟨h.ao rfl,Go.Vc.a2 ?_⟩;refine vG h fun c2 w h=>Go.Vc.a2 ⟨rfl,rfl, ?_⟩
 refine h.al fun w2 h=>Go.Vc.a2 ?_
 generalize w.heap.size=bs at h⊢;refine tu (bs:=bs) (c1:=c1) (c2:=c2) (n1:=x.space) (n2:=x.a8) (l:=l) (room:=room) hbig (h.pick (A:=eA b room l)) fun w h=>?_
 have h:Ow B w0 w (eA b room (drop x.space x.a8 l)::aa d [.z x.space, .z x.a8, .z x.frame, .z x.au]::R):=h.sub;by_cases e:(drop x.space x.a8 l).length=l.length/\room≤(l.length:Int)
 ·have ef:fill room x l=(drop x.space x.a8 l).drop 1++ [x]:=by unfold fill;rw[if_pos e]
  rw[ef] at hK;refine rz om ?_;obtain ⟨s,h⟩:=Fm h;have hlen:=h.br s;refine ⟨_,rfl,s,h.aq rfl,_,rfl,_,h.ao rfl, ?_⟩;rw[decide_eq_true (show (s.len:Int)≥room by omega)];apply hk7;intro k10 hk10;refine bN rfl ?_;refine ⟨_,rfl,s,h.aq rfl, ?_⟩;refine zd (i:=0) (j:=1) h.dz om om om fun s' w h=>⟨_,rfl, ?_⟩
  refine h.dy rfl rfl fun w h=>?_
  (try dsimp only[putAt,List.set_cons_zero,List.set_cons_succ] at h)
  apply hk10;have h:Ow B w0 w (aa b [.slice s'.a s'.len s'.cap, .z room]::ah aw s' ((drop x.space x.a8 l).drop 1)::aa d [.z x.space, .z x.a8, .z x.frame, .z x.au]::R):=h.dz;exact xF (by rw[List.length_drop];omega) (po h) hK
 ·have ef:fill room x l=drop x.space x.a8 l++ [x]:=by unfold fill;rw[if_neg e]
  rw[ef] at hK
  have no:k7 false w:=by
   apply hk7;intro k10 hk10;refine bD rfl ?_;apply hk10;exact xF om h hK
  by_cases e1:(drop x.space x.a8 l).length=l.length
  ·refine rz om ?_
   obtain ⟨s,h⟩:=Fm h;have hlen:=h.br s;refine ⟨_,rfl,s,h.aq rfl,_,rfl,_,h.ao rfl, ?_⟩;rw[decide_eq_false (show ¬(s.len:Int)≥room by omega)];exact no
  ·exact vN om no
end
end Go.Proofs.YtlhljbbfckbjpaaGreat.Mc
end
section
set_option maxRecDepth 8000
namespace Go.Proofs.YtlhljbbfckbjpaaGreat
open Go Go.Vc Go.Proofs
namespace ai
def kf (c:Nat) (bits:Nat):ai:=⟨[6],fun _=>none,[],Th.eh c,List.replicate 8 ⟨0,0,0⟩,[⟨0,bits,0⟩],[],[],[Tb.kM],0,0⟩
def eI (k:ai) (i kind obj:Int):ai:={ k with H:=(Sl.pA k.bits k.H (0,i) ⟨kind,obj,7,0,0,0⟩).2,T:=(Tr.ve k.T (0,i)).2}
def uC:List Int->Nat->ai->ai
 | [],_,k=>k
 |p::r,j,k=>uC r (j+1) ((k.cu (((k.t.cU p (j:Int)).2.2.cI (k.t.cU p (j:Int)).1).2.bK (j:Int))).eI ((2+j:Nat):Int) 3 (k.t.cU p (j:Int)).1)
def uB:Nat->Nat->Nat->ai->ai
 |0,_,_,k=>k
 |q+1,j,i,k=>uB q (j+1) i (k.eI ((i+j:Nat):Int) 9 (j:Int))
def iu (c bits lines:Nat) (prios:List Int):ai:=
 uB lines 0 (3+prios.length) ((uC prios 0 (((kf c bits).eI 0 2 0).eI 1 1 0)).eI ((2+prios.length:Nat):Int) 8 0)
def kn (c bits lines:Int) (prios:List Int):Bool:=decide (1≤c/\c≤8/\4≤bits/\bits≤20/\0≤lines/\lines≤8/\(prios.length:Int)=c/\∀p∈prios,0≤p/\p<256)
end ai
section
variable {m:Th.Mt}
theorem CE {c k:Int}:(m.bK c).fR k=m.fR k:=by
 unfold Th.Mt.bK Th.Mt.pick;split
 ·split
  ·rfl
  ·split
   ·rw[Th.iN,Th.gq]
   ·split
    ·rfl
    ·rw[Th.iN,Th.gq,Th.gr,Th.gq]
 ·rfl
theorem yr {n k:Int}:(m.cI n).2.fR k=m.fR k:=by
 unfold Th.Mt.cI;split
 ·rfl
 split
 ·rfl
 ·exact Th.gr
theorem Ew {p c k:Int}:(m.make p c).fR k=m.fR k:=rfl
end
structure pT (c n:Nat) (k:ai):Prop where
 ok:aW 1 k
 free:∀i:Int,(n:Int)≤i->k.H (0,i)=none
 bits:k.bits= [6]
 core:∀j:Int,k.t.fR j=true↔0≤j/\j<(c:Int)
 sp:k.ae= [Tb.kM]
 u1:k.u.length=1
section
variable {N c:Nat} {k:ai}
theorem aW.root (h:aW N k) {i kind obj:Int} (hi:0≤i/\i<64) (hn:k.H (0,i)=none) (hc:Sl.cv ⟨kind,obj,7,0,0,0⟩=0) (h0:kind≠0) (ho:k.fT ⟨kind,obj,7,0,0,0⟩):
  aW N (k.eI i kind obj)/\(k.eI i kind obj).H=Sl.cW k.H (0,i) (some ⟨kind,obj,7,0,0,0⟩):=by
 have ht:((0,i):Slot).1=0/\0≤((0,i):Slot).2/\((0,i):Slot).2<64:=⟨rfl,hi.1,hi.2⟩
 have hput:=h.put ht hn hc h0;have hno:Tr.bR k.T (0,i)=none:=s0 fun e=>by rw[h.mem,hn] at e;cases e
 have hT:Tr.ve k.T (0,i)=(0,k.T++ [((0,i),0)]):=by unfold Tr.ve;rw[hno]
 have hH:(k.eI i kind obj).H=Sl.cW k.H (0,i) (some ⟨kind,obj,7,0,0,0⟩):=by unfold ai.eI;rw[hput]
 have hT2:(k.eI i kind obj).T=k.T++ [((0,i),0)]:=by unfold ai.eI;rw[hT]
 have hfew:=h.gT
 refine ⟨{ h with
  pv:=by rw[hH];exact h.pv.put (lS h.b0 ht) hc h0 nQ
  held:=fun s x hx=>?_
  tok:=by rw[hT2];exact h.tok.root om hno
  mem:=fun s=>?_},hH⟩
 ·rw[hH] at hx
  unfold Sl.cW at hx;by_cases e:s=(0,i)
  ·rw[if_pos e] at hx;cases hx;rw[e];exact ⟨ht,ho⟩
  ·rw[if_neg e] at hx;exact h.held s x hx
 ·rw[hH,hT2]
  unfold Sl.cW;rw[List.map_append,List.mem_append];simp only[List.map_cons,List.map_nil,List.mem_singleton];by_cases e:s=(0,i)
  ·simp[e]
  ·rw[if_neg e,←h.mem];simp[e]
theorem pT.root {n:Nat} (h:pT c n k) {kind obj:Int} (hn:n<64) (hc:Sl.cv ⟨kind,obj,7,0,0,0⟩=0) (h0:kind≠0) (ho:k.fT ⟨kind,obj,7,0,0,0⟩):pT c (n+1) (k.eI (n:Int) kind obj):=by
 obtain ⟨h1,h2⟩:=h.ok.root (i:=(n:Int)) ⟨om,om⟩ (h.free _ (Int.le_refl _)) hc h0 ho;refine ⟨h1,fun i hi=>?_,h.bits,h.core,h.sp,h.u1⟩;rw[h2];unfold Sl.cW;rw[if_neg (fun e=>by cases e;omega)];exact h.free i om
theorem AX {bits:Nat} (h8:c≤8) (hb:4≤bits/\bits≤20):pT c 0 (ai.kf c bits):=by
 refine ⟨⟨rfl,⟨by show 1≤64;decide,fun z hz=>by simp[ai.kf] at hz;subst hz;exact .inr ⟨by decide,by decide⟩,fun s x hx=>by cases hx⟩,fun s x hx=>(by cases hx),⟨by show 0≤1000000;decide,trivial,List.nodup_nil⟩,fun s=>by simp[ai.kf],Th.EE h8,by simp[ai.kf],fun x hx hx2=>?_,fun x hx=>?_,fun m hm=>?_,
  by simp[ai.kf],by simp[ai.kf],by simp[ai.kf],by simp[ai.kf],Nat.zero_le _,Nat.zero_le _,fun p hp=>by simp[ai.kf] at hp,fun p hp=>by simp[ai.kf] at hp⟩,fun i hi=>rfl,rfl,fun j=>?_,rfl,rfl⟩
 ·simp only[ai.kf,List.mem_replicate] at hx
  rw[hx.2] at hx2;exact absurd rfl hx2
 ·simp[ai.kf] at hx
  subst hx;refine ⟨hb.2, ?_,Nat.zero_mod _,Nat.zero_le _⟩;show 0+2^bits≤2^20;rw[Nat.zero_add];exact Nat.pow_le_pow_right (by decide) hb.2
 ·simp[ai.kf] at hm
  subst hm;exact Tb.fO.new
 ·rw[Th.fS]
  simp[ai.kf,Th.eh]
theorem IU {a n:Int} (h0:0≤n) (h1:a≠1) (h2:a=2->n<(k.bits.length:Int)) (h3:a=3->n<(k.t.bA.length:Int)) (h4:a≠4) (h5:a≠5) (h6:a≠6) (h7:a≠7) (h8:a=8->n<(k.ae.length:Int)) (h9:a=9->n<8):k.fT ⟨a,n,7,0,0,0⟩:=
 fA h0 (fun e=>absurd e h1) h2 h3 (fun e=>absurd e h4) (fun e=>absurd e h5) (fun e=>absurd e h6) (fun e=>absurd e h7) h8 h9
theorem pT.Fl {j:Nat} {p:Int} (h:pT c (2+j) k) (hj:j<c) (h8:c≤8) (ht:k.t.bA.length=j) (hp:0≤p/\p<256):
  pT c (2+(j+1)) ((k.cu (((k.t.cU p (j:Int)).2.2.cI (k.t.cU p (j:Int)).1).2.bK (j:Int))).eI ((2+j:Nat):Int) 3 (k.t.cU p (j:Int)).1)/\
  ((k.cu (((k.t.cU p (j:Int)).2.2.cI (k.t.cU p (j:Int)).1).2.bK (j:Int))).eI ((2+j:Nat):Int) 3 (k.t.cU p (j:Int)).1).t.bA.length=j+1/\k.t.cU p (j:Int)=((j:Int),0,k.t.make p (j:Int)):=by
 have hc:k.t.fR (j:Int)=true:=(h.core _).2 ⟨om,om⟩
 have hm:k.t.cU p (j:Int)=((j:Int),0,k.t.make p (j:Int)):=by
  unfold Th.Mt.cU;rw[if_neg (fun hh=>hh ⟨hp.1,hp.2,hc⟩),if_neg om,ht]
 rw[hm];dsimp only
 have hl:(((k.t.make p (j:Int)).cI (j:Int)).2.bK (j:Int)).bA.length=j+1:=by
  rw[ij,gK];unfold Th.Mt.make;simp[ht]
 have hi:=((h.ok.inv.make (p:=p) (c:=(j:Int)) om hc hp).resume (j:Int)).bK (j:Int)
 have hb:pT c (2+j) (k.cu (((k.t.make p (j:Int)).cI (j:Int)).2.bK (j:Int))):=by
  refine ⟨h.ok.cu hi (by rw[hl];omega),h.free,h.bits,fun n=>?_,h.sp,h.u1⟩;show (((k.t.make p (j:Int)).cI (j:Int)).2.bK (j:Int)).fR n=true↔_;rw[CE,yr,Ew];exact h.core n
 refine ⟨?_,hl,rfl⟩
 have:=hb.root (kind:=3) (obj:=(j:Int)) om (gn ⟨by decide,by decide⟩ ⟨om,om⟩) (by decide) (IU om (by decide) (fun e=>absurd e (by decide)) (fun _=>by
  show (j:Int)<((((k.t.make p (j:Int)).cI (j:Int)).2.bK (j:Int)).bA.length:Int);rw[hl];omega) (by decide) (by decide) (by decide) (by decide) (fun e=>absurd e (by decide)) (fun e=>absurd e (by decide)))
 exact this
theorem xw (h8:c≤8):∀(ps:List Int) (j:Nat) (k:ai),j+ps.length≤c->(∀p∈ps,0≤p/\p<256)->pT c (2+j) k->k.t.bA.length=j->pT c (2+(j+ps.length)) (ai.uC ps j k)/\(ai.uC ps j k).t.bA.length=j+ps.length
 | [],j,k,_,_,h,ht=>⟨h,ht⟩
 |p::ps,j,k,hj,hp,h,ht=>by
  rw[List.length_cons] at hj⊢;obtain ⟨h1,h2,_⟩:=h.Fl om h8 ht (hp p List.mem_cons_self);have:=xw h8 ps (j+1) _ om (fun q hq=>hp q (List.mem_cons_of_mem _ hq)) h1 h2;rw[show j+1+ps.length=j+(ps.length+1) from by omega] at this;exact this
theorem pT.line {i j:Nat} (h:pT c (i+j) k) (hi:i+j<64) (hj:j<8):pT c (i+(j+1)) (k.eI ((i+j:Nat):Int) 9 (j:Int)):=
 h.root hi (gn ⟨by decide,by decide⟩ ⟨om,om⟩) (by decide) (IU om (by decide) (fun e=>absurd e (by decide)) (fun e=>absurd e (by decide)) (by decide) (by decide) (by decide) (by decide) (fun e=>absurd e (by decide)) (fun _=>by omega))
theorem xv:∀(q j i:Nat) (k:ai),j+q≤8->i≤20->pT c (i+j) k->pT c (i+(j+q)) (ai.uB q j i k)/\(ai.uB q j i k).t=k.t
 |0,j,i,k,_,_,h=>⟨h,rfl⟩
 |q+1,j,i,k,hj,hi,h=>by
  have h1:=h.line om om;have:=xv q (j+1) i _ om hi h1;rw[show j+1+q=j+(q+1) from by omega] at this;exact ⟨this.1,this.2.trans rfl⟩
theorem xx {bits:Nat} (h8:c≤8) (hb:4≤bits/\bits≤20):pT c 1 ((ai.kf c bits).eI 0 2 0)/\pT c 2 (((ai.kf c bits).eI 0 2 0).eI 1 1 0):=by
 have h0:=AX h8 hb;have h1:=h0.root (kind:=2) (obj:=0) (by decide) (gn ⟨by decide,by decide⟩ ⟨by decide,by decide⟩) (by decide) (IU (by decide) (by decide) (fun _=>by show (0:Int)<1;decide) (fun e=>absurd e (by decide)) (by decide) (by decide) (by decide) (by decide) (fun e=>absurd e (by decide)) (fun e=>absurd e (by decide)));have h2:=h1.root (kind:=1) (obj:=0) (by decide) (gn ⟨by decide,by decide⟩ ⟨by decide,by decide⟩) (by decide) (fA (by decide) (fun _=>by show (0:Int)<1;decide) (fun e=>absurd e (by decide)) (fun e=>absurd e (by decide)) (fun e=>absurd e (by decide)) (fun e=>absurd e (by decide)) (fun e=>absurd e (by decide)) (fun e=>absurd e (by decide)) (fun e=>absurd e (by decide)) (fun e=>absurd e (by decide)));exact ⟨h1,h2⟩
theorem pT.space {i:Nat} (h:pT c i k) (hi:i<64):pT c (i+1) (k.eI (i:Int) 8 0):=
 h.root hi (gn ⟨by decide,by decide⟩ ⟨by decide,by decide⟩) (by decide) (IU (by decide) (by decide) (fun e=>absurd e (by decide)) (fun e=>absurd e (by decide)) (by decide) (by decide) (by decide) (by decide) (fun _=>by rw[h.sp];decide) (fun e=>absurd e (by decide)))
theorem DD {bits lines:Nat} {prios:List Int} (h8:c≤8) (hb:4≤bits/\bits≤20) (hl:lines≤8) (hp:prios.length=c) (hps:∀p∈prios,0≤p/\p<256):
  pT c (3+c+lines) (ai.iu c bits lines prios)/\(ai.iu c bits lines prios).t.bA.length=c:=by
 obtain ⟨_,h2⟩:=xx h8 hb;obtain ⟨h3,h4⟩:=xw h8 prios 0 _ om hps h2 rfl;rw[Nat.zero_add] at h3 h4;have h5:=h3.space om
 have h6:=xv lines 0 (3+prios.length) _ om om (show pT c (3+prios.length+0) _ from by
  rw[show 3+prios.length+0=2+prios.length+1 from by omega];exact h5)
 refine ⟨?_, ?_⟩
 ·have:=h6.1
  rw[show 3+prios.length+(0+lines)=3+c+lines from by omega] at this;exact this
 ·show (ai.uB _ _ _ _).t.bA.length=c
  rw[h6.2];exact h4.trans hp
end
end Go.Proofs.YtlhljbbfckbjpaaGreat
end
section
set_option maxRecDepth 8000
namespace Go.Proofs.YtlhljbbfckbjpaaGreat
open Go Go.Vc Go.Proofs
section
variable {B:Nat} {w0 w:World} {R L:List aA} {b bd bk:Nat} {k:ai} {N:Nat} {s:Sl}
theorem mB {p:Int->Bool} {f:Value} {xs:List Int} {K:Int->Pw} [I:bT s L Int aG xs] (h:Ow B w0 w L) (hbig:xs.length≤1000000000)
  (hf:∀(y:Int) (w:World) (Q:Bool->Pw),y∈xs->Ow B w0 w L->(∀w',Ow B w0 w' L->Q (p y) w')->bY Tryz.prog f [.z y] w fun en w'=>∃r:Bool,en= .returned (.bool r)/\Q r w')
  (hK:∀w',Ow B w0 w' L->K (cN p xs) w'):C.qs s f K w:=by
 apply S.qs0;have hlen:s.len=xs.length:=h.br s;intro l hl
 have loop:∀m j w,j+m=xs.length->(∀i,i<j->∀z,xs[i]?=some z->p z=false)->Ow B w0 w L->l (j:Int) w:=by
  intro m
  induction m with
  |zero=>
   intro j w hj hno h;apply hl;refine aE om ?_
   have hn:xs.findIdx? p=none:=by
    rw[List.findIdx?_eq_none_iff];intro y hy;obtain ⟨i,hi⟩:=List.mem_iff_getElem?.1 hy;exact hno i (by have:=(List.getElem?_eq_some_iff.1 hi).1;omega) y hi
   have e:cN p xs= -1:=by unfold cN;rw[hn]
   rw[←e];exact hK _ h
  |succ m ih=>
   intro j w hj hno h;have hx:xs[j]?=some xs[j]:=gE om;apply hl;refine aR om ?_;refine h.dZ (s:=s) rfl hx fun a ha h0 hc=>?_
   refine ⟨_,h0 _ rfl, ?_⟩;refine hf xs[j] w _ (List.getElem_mem _) h fun w h=>?_
   cases hp:p xs[j] with
   |true=>
    refine bN rfl ?_
    have hn:xs.findIdx? p=some j:=by
     rw[List.findIdx?_eq_some_iff_getElem];refine ⟨om,hp,fun i hi=>?_⟩;have:=hno i hi xs[i] (gE om);simp[this]
    have e:cN p xs=(j:Int):=by unfold cN;rw[hn]
    rw[←e];exact hK _ h
   |false=>
    refine bD rfl ?_;rw[wr om om];refine ih (j+1) w om (fun i hi z hz=>?_) h;by_cases e:i=j
    ·subst e;rw[hx] at hz;cases hz;exact hp
    ·exact hno i om z hz
 exact loop xs.length 0 w om (fun i hi=>by omega) h
theorem Ab {c bits lines:Int} {prios:List Int} {K:Bool->Pw} [I:bT s L Int aG prios] (h:Ow B w0 w L) (hbig:prios.length≤1000000000)
  (hK:∀w',Ow B w0 w' L->K (ai.kn c bits lines prios) w'):C.qdc c bits lines s K w:=by
 apply S.qdc0;have hlen:s.len=prios.length:=h.br s;refine h.a fun cb w1 h=>?_;intro k6 hk6
 have hno:∀{w},¬(1≤c/\c≤8/\4≤bits/\bits≤20/\0≤lines/\lines≤8)->Ow B w0 w (aa cb [.z c, .z bits, .z lines, .slice s.a s.len s.cap]::L)->k6 false w:=fun {w} hb h=>by
  apply hk6;refine bD rfl ?_;have:=hK w h.drop;rw[show ai.kn c bits lines prios=false from decide_eq_false fun hh=>hb ⟨hh.1,hh.2.1,hh.2.2.1,hh.2.2.2.1,hh.2.2.2.2.1,hh.2.2.2.2.2.1⟩] at this;exact this
 have hyes:∀{w},(1≤c/\c≤8/\4≤bits/\bits≤20/\0≤lines/\lines≤8)->Ow B w0 w (aa cb [.z c, .z bits, .z lines, .slice s.a s.len s.cap]::L)->k6 true w:=fun {w} hb h=>by
  apply hk6;refine bN rfl ?_;refine ⟨s,h.ao rfl,_,h.aq rfl, ?_⟩;refine gB (fun e=>?_) (fun e=>?_)
  ·refine ⟨s,h.ao rfl, ?_⟩
   apply S.qy0;refine mB (p:=fun y=>decide (y<0)||decide (y≥256)) h hbig (fun y w Q _ h hQ=>aP ?_) fun w h=>?_
   ·show C.qcT y Q w
    apply S.qcT0;have:=hQ w h;refine dD (fun e=>?_) (fun e=>?_)
    ·rw[decide_eq_true e,Bool.true_or] at this;exact this
    ·rw[decide_eq_false e,Bool.false_or] at this;exact this
   ·have:=hK w h.drop
    rw[iD]
    have e2:ai.kn c bits lines prios= !(prios.any fun y=>decide (y<0)||decide (y≥256)):=by
     unfold ai.kn;rw[Bool.eq_iff_iff];simp only[decide_eq_true_eq,Bool.not_eq_true',List.any_eq_false,Bool.or_eq_true,not_or];obtain ⟨b1,b2,b3,b4,b5,b6⟩:=hb;constructor
     ·rintro ⟨_,_,_,_,_,_,_,hp⟩ y hy
      have:=hp y hy;omega
     ·intro hp
      refine ⟨b1,b2,b3,b4,b5,b6,om,fun y hy=>?_⟩;have:=hp y hy;omega
    rw[e2] at this;exact this
  ·have:=hK w h.drop
   rw[show ai.kn c bits lines prios=false from decide_eq_false fun hh=>by have:=hh.2.2.2.2.2.2.1;omega] at this;exact this
 refine ⟨_,h.aq rfl, ?_⟩;refine dD (fun e1=>?_) (fun e1=>hno om h);refine ⟨_,h.aq rfl, ?_⟩;refine dD (fun e2=>?_) (fun e2=>hno om h);refine ⟨_,h.ao rfl, ?_⟩;refine dD (fun e3=>?_) (fun e3=>hno om h);refine ⟨_,h.ao rfl, ?_⟩;refine dD (fun e4=>?_) (fun e4=>hno om h);refine ⟨_,h.ao rfl, ?_⟩;refine dD (fun e5=>?_) (fun e5=>hno om h);refine ⟨_,h.ao rfl, ?_⟩;by_cases e6:lines≤8
 ·rw[decide_eq_true e6];exact hyes om h
 ·rw[decide_eq_false e6];exact hno om h
end
end Go.Proofs.YtlhljbbfckbjpaaGreat
end
section
set_option maxRecDepth 8000
namespace Go.Proofs.YtlhljbbfckbjpaaGreat.Mc
open Go Go.Vc Go.Proofs
theorem Ej {w:World} {a:Addr} {x:cP} {f:Int->Int->Int->Prop} (g:∀c v,(bU.enc x)[c]?=some v->w.cell? (a.add c)=some v) (hf:f x.eS x.kind x.about):
  az w a 0 [.o, .o, .o] f:=⟨_,g 0 _ rfl,_,g 1 _ rfl,_,g 2 _ rfl,hf⟩
theorem xP:Tryz.prog.info? 123=some Tryz.t123:=by kernel_rfl
theorem B1:Tryz.t123.bytes=24:=by kernel_rfl
def Fx:cP:=⟨0,0,0⟩
theorem FA (w:World):(zeroValue 123).run Tryz.prog w= .ok (.agg ⟨bU.enc Fx⟩) w:=Tryz.zeroValue123 w
section
variable {B:Nat} {w0 w:World} {R L:List aA} {s:Sl} {xs:List cP}
theorem xa {i j:Nat} {K:Sl->Pw} (h:Ow B w0 w (ah bU s xs::R)) (hij:i<j) (hj:j≤xs.length) (hbig:xs.length≤1000000000)
  (hK:∀s' w',Ow B w0 w' (ah bU s' (xs.take i++xs.drop j)::R)->K s' w'):C.qC s (i:Int) (j:Int) K w:=by
 apply S.qC0;have hlen:=h.br s;have hcap:=h.jN.fo;refine ⟨om,om,om,om,om,om, ?_⟩;refine vN om ?_;refine h.dr fun w h=>?_
 refine ⟨om,om,om,om,a2 ?_⟩;simp only[Int.toNat_natCast];refine h.sw (E:=bU) Tryz.underlying121 xP (by kernel_rfl) om hj om fun w h=>?_
 dsimp only;refine ⟨om,om,om,om, ?_⟩;refine Ow.clear (E:=bU) (z0:=Fx) (n:=i+(xs.length-j)) Tryz.underlying121 FA rfl h 0 rfl (by simp;omega) fun w h=>?_
 have hp:=h.pre 0 rfl (n:=i+(xs.length-j)) (by simp;omega);refine hK _ w ?_;rw[jx hij hj] at hp;exact hp
theorem BS {y:cP} {c:Nat} {k:Sl->Pw} [I:bT s L cP bU xs] [J:dG (ah bU s xs) L R] (h:Ow B w0 w (aa c (bU.enc y)::L)) (hbig:xs.length≤1000000000)
  (hk:∀s' w',s'.len=xs.length+1->Ow B w0 w' (ah bU s' (xs++ [y])::R)->k s' w'):
  ∃s' w',bo Tryz.prog [121,121] 121 (.slice s.a s.len s.cap) (.slice (some (Addr.mk c 0 none)) 1 1) w s' w'/\k s' w':=
 Ow.fy (E:=bU) (y:=y) Tryz.underlying121 xP (zv:= .agg ⟨bU.enc Fx⟩) (by kernel_rfl) (by kernel_rfl) rfl (by decide) h (by rw[B1];omega) hk
end
section
variable {B:Nat} {w0 w:World} {R L:List aA} {b:Nat} {bx:List (List cP)} {α:Type} {E:cQ α} {ss:List Sl} {rows:List (List α)}
theorem HL (h:Ow B w0 w (dO E ss rows::R)) {j:Nat} {s:Sl} {row:List α} (hs:ss[j]?=some s) (hr:rows[j]?=some row):
  Ow B w0 w (ah E s row::bh ((List.zipWith (ah E) ss rows).eraseIdx j)::R):=Ow.dz (Ow.aY ((h.row hs hr).perm List.perm_middle.symm))
theorem mo {j:Nat} {s':Sl} {row':List α} (hl:ss.length=rows.length) (hj:j<rows.length) (h:Ow B w0 w (ah E s' row'::bh ((List.zipWith (ah E) ss rows).eraseIdx j)::R)):
  Ow B w0 w (dO E (ss.set j s') (rows.set j row')::R):=Ow.E2 hl hj ((h.dz).star.perm List.perm_middle)
theorem jL (h:Ow B w0 w (dO E ss rows::R)):ss.length=rows.length:=h.E3.1
theorem DE {c:Int} {K:Bool->Pw} (h0:0≤c) (h1:c<(bx.length:Int)) (h:Ow B w0 w (cX b bx::R)) (hK:K true w):C.qbv (some ⟨b,0,none⟩) c K w:=by
 apply S.qbv0;obtain ⟨s,ss,h⟩:=BZ h;have hl:=jL (h.pick (A:=dO bU ss bx));have hlen:=h.br s;refine aR om ?_;refine ⟨_,rfl,s,h.aq rfl, ?_⟩;rw[decide_eq_true (show c<(s.len:Int) by omega)];exact hK
theorem vI {nc:Nat} {K:Option Addr->Int->Pw} (n1:1≤nc) (n8:nc≤8) (h:Ow B w0 w R) (hK:∀b w',Ow B w0 w' (cX b (List.replicate nc [])::R)->K (some ⟨b,0,none⟩) 0 w'):C.qdo (nc:Int) K w:=by
 apply S.qdo0;intro k hk;refine aE om ?_;apply hk;refine aE om ?_;have hb:Tryz.t121.bytes=24:=by kernel_rfl
 have hp48:(2:Int)^48=281474976710656:=by decide
 refine Ow.rD (E:=Af) (z0:=⟨none,0,0⟩) (zv:= .slice none 0 0) Tryz.underlying118 (show Tryz.prog.info? 121=some Tryz.t121 from by kernel_rfl) (by kernel_rfl) (by kernel_rfl) rfl (n:=(nc:Int)) h om (by rw[hb,hp48];omega) (by rw[hp48];omega) fun s w hs h=>?_
 rw[Int.toNat_natCast] at h;refine h.al fun w2 h=>?_
 have rows:∀(n:Nat) (R:List aA),Ow B w0 w2 R->Ow B w0 w2 (dO bU (List.replicate n ⟨none,0,0⟩) (List.replicate n [])::R):=fun n R h=>by
  induction n with
  |zero=>exact Ow.E4 h
  |succ n ih=>
   have:=Ow.GC (Ow.dK (E:=bU) ih)
   rwa [←List.replicate_succ',←List.replicate_succ'] at this
 have h3:=rows nc _ h;refine hK _ w2 (sS (s:=s) (ss:=List.replicate nc ⟨none,0,0⟩) ?_);exact h3.sub
theorem ue {c:Int} {K:Int->Int->Int->Bool->Pw} (h0:0≤c) (h1:c<(bx.length:Int)) (h64:∀l∈bx,l.length≤64) (h:Ow B w0 w (cX b bx::R))
  (hK0:bx[c.toNat]?=some []->∀w',Ow B w0 w' (cX b bx::R)->K 0 0 0 false w')
  (hK1:∀x r,bx[c.toNat]?=some (x::r)->∀w',Ow B w0 w' (cX b (bx.set c.toNat r)::R)->K x.eS x.kind x.about true w'):C.qbm (some ⟨b,0,none⟩) c K w:=by
 apply S.qbm0;refine h.a fun d w1 h=>?_;have ec:c=((c.toNat:Nat):Int):=by omega
 have hlt:c.toNat<bx.length:=by omega
 have hrow:bx[c.toNat]?=some bx[c.toNat]:=gE hlt;have hr64:=h64 _ (List.getElem_mem hlt);generalize bx[c.toNat]=row at hrow hr64;intro k4 hk4;refine DE h0 h1 h.dz ?_;refine bD rfl ?_;obtain ⟨s,ss,h⟩:=BZ h.dz;have hl:=jL (h.pick (A:=dO bU ss bx));have hlen:=h.br s;have hsl:ss[c.toNat]?=some ss[c.toNat]:=gE om;generalize ss[c.toNat]=sj at hsl;have h:Ow B w0 w1 (ah bU sj row::bh ((List.zipWith (ah bU) ss bx).eraseIdx c.toNat)::aa b [.slice s.a s.len s.cap]::ah Af s ss::aa d [.z 0, .z 0, .z 0]::R):=(HL (h.pick (A:=dO bU ss bx)) hsl hrow).sub;have hlj:=h.br sj;refine ⟨_,rfl,s,h.aq rfl, ?_⟩;refine h.dZ (s:=s) ec hsl fun a ha hc0 hc=>⟨sj,hc0 _ rfl, ?_⟩
 have same:∀w,Ow B w0 w (ah bU sj row::bh ((List.zipWith (ah bU) ss bx).eraseIdx c.toNat)::aa b [.slice s.a s.len s.cap]::ah Af s ss::R)->Ow B w0 w (cX b bx::R):=fun w h=>by
  have h2:=mo (j:=c.toNat) hl hlt h
  have e1:ss.set c.toNat sj=ss:=by
   obtain ⟨p,q⟩:=List.getElem?_eq_some_iff.1 hsl;rw[←q];exact List.set_getElem_self p
  have e2:bx.set c.toNat row=bx:=by
   obtain ⟨p,q⟩:=List.getElem?_eq_some_iff.1 hrow;rw[←q];exact List.set_getElem_self p
  rw[e1,e2] at h2;exact sS (s:=s) (ss:=ss) h2.sub
 cases row with
 |nil=>
  rw[show ((sj.len:Int)==0)=true from by simp at hlj⊢;omega];apply hk4;refine bN rfl ?_;refine h.ax rfl rfl fun w h=>?_
  (try dsimp only[putAt,List.set_cons_zero,List.set_cons_succ] at h)
  refine h.rB rfl ?_;exact hK0 hrow w (same w h.sub)
 |cons x r=>
  simp only[List.length_cons] at hlj hr64;rw[show ((sj.len:Int)==0)=false from by simp;omega];apply hk4;refine bD rfl ?_;refine ⟨_,rfl,s,h.aq rfl, ?_⟩;refine h.dZ (s:=s) ec hsl fun a ha hc0 hc=>⟨sj,hc0 _ rfl, ?_⟩
  refine h.dZ (s:=sj) (i:=0) (j:=0) rfl rfl fun a2 ha2 hd0 hd=>?_
  refine Ej hd ?_;refine h.a fun e w2 h=>?_;refine h.ax rfl rfl fun w h=>?_
  (try dsimp only[putAt,List.set_cons_zero,List.set_cons_succ] at h)
  refine h.dr fun w h=>?_
  refine ⟨_,rfl,_,rfl,s,h.aq rfl, ?_⟩;refine h.dZ (s:=s) ec hsl fun a ha hc0 hc=>⟨sj,hc0 _ rfl,s,h.aq rfl,Go.Vc.a2 ?_⟩
  refine xa (s:=sj) (xs:=x::r) (i:=0) (j:=1) (h.pick (A:=ah bU sj (x::r))) om (by simp) (by simp;omega) fun s' w h=>⟨h.aq rfl, ?_⟩
  refine ⟨a,ha,h0,om,Go.Vc.a2 ?_⟩;refine h.wL (s:=s) (E:=Af) (i:=c) s' ec om ha rfl fun w h=>?_
  refine h.rB rfl ?_;refine h.ax rfl rfl fun w h=>?_
  (try dsimp only[putAt,List.set_cons_zero,List.set_cons_succ] at h)
  refine h.rB rfl ?_;refine hK1 x r hrow w ?_;have h2:Ow B w0 w (ah bU s' r::bh ((List.zipWith (ah bU) ss bx).eraseIdx c.toNat)::aa b [.slice s.a s.len s.cap]::ah Af s (ss.set c.toNat s')::R):=Ow.sub (show Ow B w0 w (ah Af s (ss.set c.toNat s')::ah bU s' r::_) from h);exact sS (s:=s) (ss:=ss.set c.toNat s') (mo hl hlt h2).sub
def eL (x:cP) (ts:List Int) (bx:List (List cP)):List (List cP):=bx.mapIdx fun i l=>if (i:Int)∈ts then l++ [x] else l
theorem Ac (x:cP) (bx:List (List cP)):eL x [] bx=bx:=by
 unfold eL;refine List.ext_getElem? fun i=>?_
 rw[List.getElem?_mapIdx];cases bx[i]?<;>simp
theorem yB {x:cP} {ts:List Int} {bx:List (List cP)} {t:Int} {l:List cP} (h0:0≤t) (hn:t∉ts) (hl:bx[t.toNat]?=some l):(eL x ts bx).set t.toNat (l++ [x])=eL x (ts++ [t]) bx/\(eL x ts bx)[t.toNat]?=some l:=by
 have et:((t.toNat:Nat):Int)=t:=Int.toNat_of_nonneg h0;constructor
 ·refine List.ext_getElem? fun i=>?_
  unfold eL;by_cases e:i=t.toNat
  ·subst e
   rw[List.getElem?_set_self (by rw[List.length_mapIdx];exact (List.getElem?_eq_some_iff.1 hl).1),List.getElem?_mapIdx,hl];simp[et]
  ·rw[List.getElem?_set_ne (Ne.symm e),List.getElem?_mapIdx,List.getElem?_mapIdx]
   have:(i:Int)≠t:=fun h=>e om
   cases bx[i]?<;>simp[this]
 ·unfold eL
  rw[List.getElem?_mapIdx,hl];simp[et,hn]
theorem uf {x:cP} {to:Sl} {ts:List Int} {K:Int->Pw} (hb:bx.length≤8) (h64:∀l∈bx,l.length≤64) (hts:∀t∈ts,0≤t/\t<(bx.length:Int)) (hnd:ts.Nodup) (hbig:ts.length≤8)
  (h:Ow B w0 w (cX b bx::ah aG to ts::R))
  (hK:∀e w',Ow B w0 w' (cX b (if ts.any (fun t=>decide (64≤((bx[t.toNat]?).getD []).length)) then bx else eL x ts bx)::R)->K e w'):C.qbo (some ⟨b,0,none⟩) x.eS x.kind x.about to K w:=by
 apply S.qbo0;refine h.a fun d w1 h=>?_;refine h.a fun e w2 h=>?_;have hlt:=h.br to;apply S.qy0;refine mB (s:=to) (xs:=ts) (p:=fun t=>decide (64≤((bx[t.toNat]?).getD []).length)) h om (fun y w Q hy h hQ=>aP ?_) fun w h=>?_
 ·show C.qbw y ⟨d,0,none⟩ Q w
  apply S.qbw0;obtain ⟨y0,y1⟩:=hts y hy;have ey:y=((y.toNat:Nat):Int):=by omega
  have h':=h;obtain ⟨s,ss,h⟩:=BZ (h.pick (A:=cX b bx));have hl:=jL (h.pick (A:=dO bU ss bx));have hsl:ss[y.toNat]?=some ss[y.toNat]:=gE om;have hrow:bx[y.toNat]?=some bx[y.toNat]:=gE om;generalize ss[y.toNat]=sj at hsl;generalize bx[y.toNat]=row at hrow;have hlj:sj.len=row.length:=Ow.GD (h.pick (A:=dO bU ss bx)) hsl hrow;refine ⟨_,h.aq rfl,_,rfl,s,h.aq rfl, ?_⟩;refine h.dZ (s:=s) ey hsl fun a ha hc0 hc=>⟨sj,hc0 _ rfl, ?_⟩
  have e2:decide ((sj.len:Int)≥64)=decide (64≤((bx[y.toNat]?).getD []).length):=by
   rw[hrow,Option.getD_some,decide_eq_decide];omega
  rw[e2];exact hQ w h'
 ·rw[iD]
  cases hany:ts.any (fun t=>decide (64≤((bx[t.toNat]?).getD []).length)) with
  |true=>
   rw[hany,if_pos rfl] at hK;exact bN rfl (hK _ w h.sub)
  |false=>
   rw[hany,if_neg (by decide)] at hK;refine bD rfl ?_;intro l hl
   have loop:∀(rest pre:List Int) (w:World),ts=pre++rest->Ow B w0 w (cX b (eL x pre bx)::ah aG to ts::aa d [.pointer (some ⟨b,0,none⟩)]::aa e [.z x.eS, .z x.kind, .z x.about]::R)->l (pre.length:Int) w:=by
    intro rest
    induction rest with
    |nil=>
     intro pre w hp h;rw[List.append_nil] at hp;subst hp;apply hl;refine aE om ?_;exact hK _ w h.sub
    |cons t rest ih=>
     intro pre w hp h;have hlen2:ts.length=pre.length+(rest.length+1):=by rw[hp];simp
     have ht:ts[pre.length]?=some t:=by rw[hp];simp
     have hmem:=List.mem_of_getElem? ht;obtain ⟨t0,t1⟩:=hts t hmem;have et:t=((t.toNat:Nat):Int):=by omega
     have hnt:t∉pre:=fun hm=>by
      rw[hp] at hnd;exact (List.nodup_append.1 hnd).2.2 t hm t List.mem_cons_self rfl
     have hrow:bx[t.toNat]?=some bx[t.toNat]:=gE om;have hr64:=h64 _ (List.getElem_mem (show t.toNat<bx.length by omega));generalize bx[t.toNat]=row at hrow hr64;obtain ⟨g1,g2⟩:=yB (x:=x) t0 hnt hrow;have hsb:(eL x pre bx).length=bx.length:=by unfold eL;rw[List.length_mapIdx]
     apply hl;refine aR om ?_;refine h.dZ (s:=to) rfl ht fun a ha hc0 hc=>⟨_,hc0 _ rfl, ?_⟩
     refine h.dr fun w h=>?_
     obtain ⟨s,ss,h⟩:=BZ h;have hl2:=jL (h.pick (A:=dO bU ss (eL x pre bx)));have hlen:=h.br s;have hsl:ss[t.toNat]?=some ss[t.toNat]:=gE om;generalize ss[t.toNat]=sj at hsl;have h:Ow B w0 w (ah bU sj row::bh ((List.zipWith (ah bU) ss (eL x pre bx)).eraseIdx t.toNat)::aa b [.slice s.a s.len s.cap]::ah Af s ss::ah aG to ts::aa d [.pointer (some ⟨b,0,none⟩)]::aa e [.z x.eS, .z x.kind, .z x.about]::R):=(HL (h.pick (A:=dO bU ss (eL x pre bx))) hsl g2).sub;refine ⟨_,h.aq rfl,_,rfl,s,h.aq rfl, ?_⟩;refine h.dZ (s:=s) et hsl fun a ha hc0 hc=>⟨sj,hc0 _ rfl, ?_⟩
     refine h.rB rfl ?_;refine ⟨_,h.aq rfl,_,rfl,s,h.aq rfl,Go.Vc.a2 ?_⟩;refine h.al fun w3 h=>Go.Vc.a2 ?_
     generalize w.heap.size=f at h⊢;refine BS (s:=sj) (xs:=row) (y:=x) h om fun s' w hs' h=>⟨h.aq rfl,h.aq rfl,a,ha,t0,om,Go.Vc.a2 ?_⟩
     refine h.wL (s:=s) (E:=Af) (i:=t) s' et om ha rfl fun w h=>?_
     rw[show IntKind.i64.wrap ((pre.length:Int)+1)=(((pre++ [t]).length:Nat):Int) from by rw[wr om om,List.length_append];rfl];refine ih (pre++ [t]) w (by rw[hp];simp) ?_;rw[←g1];have h2:Ow B w0 w (ah bU s' (row++ [x])::bh ((List.zipWith (ah bU) ss (eL x pre bx)).eraseIdx t.toNat)::aa b [.slice s.a s.len s.cap]::ah Af s (ss.set t.toNat s')::ah aG to ts::aa d [.pointer (some ⟨b,0,none⟩)]::aa e [.z x.eS, .z x.kind, .z x.about]::R):=Ow.sub h;exact sS (s:=s) (ss:=ss.set t.toNat s') (mo hl2 om h2).sub
   have e0:eL x [] bx=bx:=Ac x bx;refine loop ts [] w rfl ?_;rw[e0];exact h.sub
def others (eS:Int) (n:Nat):List Int:=((List.range n).map Int.ofNat).filter fun i=>i !=eS
theorem yk (eS:Int) (n:Nat):others eS (n+1)=others eS n++if (n:Int) !=eS then [(n:Int)] else []:=by
 unfold others;rw[List.range_succ,List.map_append,List.filter_append];congr 1;cases h:((n:Int) !=eS)<;>simp[h]
theorem iK {eS:Int} {n:Nat} {t:Int}:t∈others eS n↔(0≤t/\t<(n:Int))/\t≠eS:=by
 unfold others;rw[List.mem_filter,List.mem_map];constructor
 ·rintro ⟨⟨i,hi,e⟩,h2⟩
  have e:(i:Int)=t:=e;have:=List.mem_range.1 hi;exact ⟨om,by simpa using h2⟩
 ·rintro ⟨h1,h2⟩
  exact ⟨⟨t.toNat,List.mem_range.2 om,Int.toNat_of_nonneg h1.1⟩,by simpa using h2⟩
theorem CB (eS:Int) (n:Nat):(others eS n).Nodup:=by
 unfold others;refine List.Pairwise.filter _ ?_;rw[List.pairwise_map];exact List.nodup_range.imp fun h e=>h (Int.ofNat.inj e)
theorem sY (eS:Int) (n:Nat):(others eS n).length≤n:=by
 have:=List.length_filter_le (fun i=>i !=eS) ((List.range n).map Int.ofNat);rw[List.length_map,List.length_range] at this;exact this
theorem FU (eS about:Int) (bx:List (List cP)):(if (others eS bx.length).any (fun t=>decide (64≤((bx[t.toNat]?).getD []).length)) then bx else eL ⟨eS,0,about⟩ (others eS bx.length) bx)=iP eS about bx:=by
 have e1:(others eS bx.length).any (fun t=>decide (64≤((bx[t.toNat]?).getD []).length))=(List.range bx.length).any fun i=>decide ((i:Int)≠eS)&&decide (64≤((bx[i]?).getD []).length):=by
  rw[Bool.eq_iff_iff,List.any_eq_true,List.any_eq_true];constructor
  ·rintro ⟨t,ht,h2⟩
   obtain ⟨h1,h3⟩:=iK.1 ht;refine ⟨t.toNat,List.mem_range.2 om, ?_⟩;rw[Bool.and_eq_true];exact ⟨decide_eq_true (by rw[Int.toNat_of_nonneg h1.1];exact h3),h2⟩
  ·rintro ⟨i,hi,h2⟩
   rw[Bool.and_eq_true] at h2;have:=List.mem_range.1 hi;exact ⟨(i:Int),iK.2 ⟨om,of_decide_eq_true h2.1⟩,by rw[Int.toNat_natCast];exact h2.2⟩
 unfold iP;rw[e1];split
 ·rfl
 ·unfold eL
  refine List.ext_getElem? fun i=>?_
  rw[List.getElem?_mapIdx,List.getElem?_mapIdx];by_cases hi:i<bx.length
  ·rw[gE hi]
   simp only[Option.map_some];by_cases e:(i:Int)=eS
   ·rw[if_pos e,if_neg fun h=>(iK.1 h).2 e]
   ·rw[if_neg e,if_pos (iK.2 ⟨om,e⟩)]
  ·rw[List.getElem?_eq_none om];rfl
theorem vH {eS about:Int} {K:Int->Pw} (h0:0≤eS) (h1:eS<(bx.length:Int)) (hb:bx.length≤8) (h64:∀l∈bx,l.length≤64) (h:Ow B w0 w (cX b bx::R))
  (hK:∀e w',Ow B w0 w' (cX b (iP eS about bx)::R)->K e w'):C.qbF (some ⟨b,0,none⟩) eS 0 about K w:=by
 apply S.qbF0;refine DE h0 h1 h ?_;refine bD rfl ?_;have h':=h;obtain ⟨s,ss,hx⟩:=BZ h;have hl:=jL (hx.pick (A:=dO bU ss bx));have hlen:=hx.br s;refine ⟨_,rfl,s,hx.aq rfl, ?_⟩;intro l hl9
 have loop:∀(m j:Nat) (to:Sl) (w:World),j+m=bx.length->Ow B w0 w (ah aG to (others eS j)::cX b bx::R)->l to (j:Int) w:=by
  intro m
  induction m with
  |zero=>
   intro j to w hj h;apply hl9;refine aE om ?_;have ej:j=bx.length:=by omega
   subst ej;refine uf (x:=⟨eS,0,about⟩) (ts:=others eS bx.length) hb h64 (fun t ht=>(iK.1 ht).1) (CB _ _) (Nat.le_trans (sY _ _) hb) h.dz fun e w h=>?_
   rw[FU] at h;exact hK e w h
  |succ m ih=>
   intro j to w hj h;have hsu:=yk eS j;have hol:=sY eS j;apply hl9;refine aR om ?_;have ew:IntKind.i64.wrap ((j:Int)+1)=((j+1:Nat):Int):=by rw[wr om om];omega
   rw[ew];refine y8 (fun e=>?_) (fun e=>?_)
   ·rw[show ((j:Int) !=eS)=true from by simpa using e,if_pos rfl] at hsu
    refine h.a fun d w1 h=>?_;refine kU (s:=to) (y:=(j:Int)) h om fun s' w hs' h=>?_
    refine ih (j+1) s' w om ?_;rw[hsu];exact h.sub
   ·rw[show ((j:Int) !=eS)=false from by simpa using e,if_neg (by decide),List.append_nil] at hsu
    refine ih (j+1) to w om ?_;rw[hsu];exact h
 exact loop bx.length 0 ⟨none,0,0⟩ w om (Ow.dK h')
theorem mC {c:Int} {K:Int->Pw} (hb:bx.length≤8) (h64:∀l∈bx,l.length≤64) (h:Ow B w0 w (cX b bx::R))
  (hK:∀w',Ow B w0 w' (cX b bx::R)->K (eG bx c) w'):C.qaI (some ⟨b,0,none⟩) c K w:=by
 apply S.qaI0;obtain ⟨s,ss,h⟩:=BZ h;have hl:=jL (h.pick (A:=dO bU ss bx));have hlen:=h.br s;refine ⟨_,rfl,s,h.aq rfl, ?_⟩;intro l hl5
 have bound:∀(l:List (List cP)),(∀r∈l,r.length≤64)->(l.map fun l=>(l.filter fun m=>decide (m.eS=c)).length).sum≤64*l.length:=fun l hl=>by
  induction l with
  |nil=>simp
  |cons r l ih=>
   have h1:=ih fun q hq=>hl q (List.mem_cons_of_mem _ hq)
   have h2:=List.length_filter_le (fun m:cP=>decide (m.eS=c)) r;have h3:=hl r List.mem_cons_self;simp only[List.map_cons,List.sum_cons,List.length_cons];omega
 have loop:∀(rest pre:List (List cP)) (w:World),bx=pre++rest->Ow B w0 w (aa b [.slice s.a s.len s.cap]::ah Af s ss::dO bU ss bx::R)->l (eG pre c) (pre.length:Int) w:=by
  intro rest
  induction rest with
  |nil=>
   intro pre w hp h;rw[List.append_nil] at hp;subst hp;apply hl5;refine aE om ?_;exact hK w (sS h)
  |cons row rest ih=>
   intro pre w hp h;have hlen2:bx.length=pre.length+(rest.length+1):=by rw[hp];simp
   have hrow:bx[pre.length]?=some row:=by rw[hp];simp
   have hr64:=h64 row (List.mem_of_getElem? hrow);have hpre:=bound pre fun r hr=>h64 r (by rw[hp];exact List.mem_append_left _ hr)
   have hsl:ss[pre.length]?=some ss[pre.length]:=gE om;generalize ss[pre.length]=sj at hsl;apply hl5;refine aR om ?_;refine h.dZ (s:=s) rfl hsl fun a ha hc0 hc=>⟨sj,hc0 _ rfl, ?_⟩
   have h:Ow B w0 w (ah bU sj row::bh ((List.zipWith (ah bU) ss bx).eraseIdx pre.length)::aa b [.slice s.a s.len s.cap]::ah Af s ss::R):=(HL (h.pick (A:=dO bU ss bx)) hsl hrow).sub;have hlj:=h.br sj;intro l2 hl11
   have inner:∀(m j:Nat) (w:World),j+m=row.length->Ow B w0 w (ah bU sj row::bh ((List.zipWith (ah bU) ss bx).eraseIdx pre.length)::aa b [.slice s.a s.len s.cap]::ah Af s ss::R)->l2 (eG pre c+(((row.take j).filter fun m=>decide (m.eS=c)).length:Int)) (j:Int) w:=by
    intro m
    induction m with
    |zero=>
     intro j w hj h;apply hl11;refine aE om ?_;rw[List.take_of_length_le om];rw[show IntKind.i64.wrap ((pre.length:Int)+1)=(((pre++ [row]).length:Nat):Int) from by rw[wr om om,List.length_append];rfl]
     have e2:eG pre c+((row.filter fun m=>decide (m.eS=c)).length:Int)=eG (pre++ [row]) c:=by
      unfold eG;rw[List.map_append,List.sum_append];simp
     rw[e2];refine ih (pre++ [row]) w (by rw[hp];simp) ?_;have h2:=mo (j:=pre.length) hl om h
     have e1:ss.set pre.length sj=ss:=by
      obtain ⟨p,q⟩:=List.getElem?_eq_some_iff.1 hsl;rw[←q];exact List.set_getElem_self p
     have e2:bx.set pre.length row=bx:=by
      obtain ⟨p,q⟩:=List.getElem?_eq_some_iff.1 hrow;rw[←q];exact List.set_getElem_self p
     rw[e1,e2] at h2;exact h2.sub
    |succ m ihm=>
     intro j w hj h;have hx:row[j]?=some row[j]:=gE om;have hft:=lx row (fun m:cP=>decide (m.eS=c)) j _ hx;generalize row[j]=y at hx hft;have hfl:=List.length_filter_le (fun m:cP=>decide (m.eS=c)) (row.take j);rw[List.length_take] at hfl;apply hl11;refine aR om ?_;refine h.dZ (s:=sj) rfl hx fun a ha hc0 hc=>?_
     refine Ej hc ?_;refine h.a fun d w1 h=>?_;refine h.ax rfl rfl fun w h=>?_
     (try dsimp only[putAt,List.set_cons_zero,List.set_cons_succ] at h)
     refine ⟨_,h.aq rfl, ?_⟩;have ew:IntKind.i64.wrap ((j:Int)+1)=((j+1:Nat):Int):=by rw[wr om om];omega
     rw[ew];have hob:eG pre c≤512/\0≤eG pre c:=by unfold eG;omega
     have h:=h.drop;have hh:=ihm (j+1) w om h;rw[hft] at hh;refine gB (fun e=>?_) (fun e=>?_)
     ·rw[if_pos (decide_eq_true e),List.length_append] at hh
      rw[wr om om,Int.add_assoc];exact hh
     ·rw[if_neg (by rw[decide_eq_false e];decide),List.append_nil] at hh
      exact hh
   have:=inner row.length 0 w om h;rw[List.take_zero] at this;simpa using this
 exact loop bx [] w rfl h
end
section
variable {B:Nat} {w0 w:World} {R L:List aA} {s:Sl}
theorem xg {xs:List Int} {K:Pw} (h:Ow B w0 w (ah aG s xs::L)) (hbig:xs.length≤1000000)
  (hK:∀w',Ow B w0 w' (ah aG s xs.reverse::L)->K w'):C.qam s K w:=by
 apply S.qam0;have hlen:=h.br s;intro l hl
 have loop:∀(m i:Nat) (ys:List Int) (w:World),xs.length≤2*i+m->ys.length=xs.length->(∀k,k<xs.length->ys[k]?=if k<i∨xs.length≤k+i then xs[xs.length-1-k]? else xs[k]?)->
   Ow B w0 w (ah aG s ys::L)->l (i:Int) ((xs.length:Int)-1-(i:Int)) w:=by
  have done:∀(i:Nat) (ys:List Int) (w:World),xs.length≤2*i+1->ys.length=xs.length->(∀k,k<xs.length->ys[k]?=if k<i∨xs.length≤k+i then xs[xs.length-1-k]? else xs[k]?)->
   Ow B w0 w (ah aG s ys::L)->l (i:Int) ((xs.length:Int)-1-(i:Int)) w:=fun i ys w hm hy hg h=>by
   apply hl;refine aE om ?_
   have e:ys=xs.reverse:=by
    refine List.ext_getElem? fun k=>?_
    by_cases hk:k<xs.length
    ·rw[hg k hk,List.getElem?_reverse hk]
     split
     ·rfl
     ·rename_i hn
      rw[show xs.length-1-k=k from by omega]
    ·rw[List.getElem?_eq_none om,List.getElem?_eq_none (by rw[List.length_reverse];omega)]
   rw[e] at h;exact hK w h
  intro m
  induction m with
  |zero=>
   intro i ys w hm hy hg h;exact done i ys w om hy hg h
  |succ m ih=>
   intro i ys w hm hy hg h;by_cases hlt:xs.length≤2*i+1
   ·exact done i ys w hlt hy hg h
   apply hl;refine aR om ?_;refine h.dr fun w h=>?_
   have ej:((xs.length:Int)-1-(i:Int))=((xs.length-1-i:Nat):Int):=by omega
   have hi:ys[i]?=some ys[i]:=gE om;have hj:ys[xs.length-1-i]?=some ys[xs.length-1-i]:=gE om;have hlen2:=h.br s;generalize e1:ys[i]=yi at hi;generalize e2:ys[xs.length-1-i]=yj at hj;refine h.dZ (s:=s) ej hj fun a ha hc0 hc=>⟨_,hc0 _ rfl, ?_⟩
   refine h.dZ (s:=s) rfl hi fun a2 ha2 hd0 hd=>⟨_,hd0 _ rfl, ?_⟩
   refine ⟨a2,ha2,om,om,Go.Vc.a2 ?_⟩;refine h.wL (s:=s) (E:=aG) (i:=(i:Int)) yj rfl om ha2 rfl fun w h=>?_
   refine ⟨a,ha,om,om,Go.Vc.a2 ?_⟩;refine h.wL (s:=s) (E:=aG) (i:=((xs.length:Int)-1-(i:Int))) yi ej (by rw[List.length_set];omega) ha rfl fun w h=>?_
   rw[show IntKind.i64.wrap ((i:Int)+1)=((i+1:Nat):Int) from by rw[wr om om];omega,show IntKind.i64.wrap ((xs.length:Int)-1-(i:Int)-1)=(xs.length:Int)-1-((i+1:Nat):Int) from by rw[wr om om];omega];refine ih (i+1) _ w om (by rw[List.length_set,List.length_set];exact hy) (fun k hk=>?_) h;have g1:=hg i om;have g2:=hg (xs.length-1-i) om;rw[if_neg om,hi] at g1;rw[if_neg om,hj] at g2;by_cases k1:k=xs.length-1-i
   ·subst k1
    rw[List.getElem?_set_self (by rw[List.length_set];omega),if_pos om,show xs.length-1-(xs.length-1-i)=i from by omega];exact g1
   ·rw[List.getElem?_set_ne om]
    by_cases k2:k=i
    ·subst k2
     rw[List.getElem?_set_self om,if_pos om];exact g2
    ·rw[List.getElem?_set_ne om,hg k hk]
     by_cases k3:k<i∨xs.length≤k+i
     ·rw[if_pos k3,if_pos om]
     ·rw[if_neg k3,if_neg om]
 have e0:IntKind.i64.wrap ((s.len:Int)-1)=(xs.length:Int)-1-((0:Nat):Int):=by rw[wr om om];omega
 rw[e0];exact loop xs.length 0 xs w om rfl (fun k hk=>by rw[if_neg om]) h
theorem sf {xs:List (Option Nat)} {p:Option Nat->Bool} {f:Value} {K:Int->Pw} [I:bT s L (Option Nat) ki xs] (h:Ow B w0 w L) (hbig:xs.length≤1000000000)
  (hf:∀(y:Option Nat) (w:World) (Q:Bool->Pw),y∈xs->Ow B w0 w L->(∀w',Ow B w0 w' L->Q (p y) w')->bY Tryz.prog f [.pointer (y.map fun q=>⟨q,0,none⟩)] w fun en w'=>∃r:Bool,en= .returned (.bool r)/\Q r w')
  (hK:∀w',Ow B w0 w' L->K (cN p xs) w'):C.qp s f K w:=by
 apply S.qp0;have hlen:=h.br s;intro l hl
 have loop:∀(rest:List (Option Nat)) (j:Nat) (w:World),xs.drop j=rest->j≤xs.length->(∀i,i<j->∀y,xs[i]?=some y->p y=false)->Ow B w0 w L->l (j:Int) w:=by
  intro rest
  induction rest with
  |nil=>
   intro j w hj hjl hno h;have:xs.length≤j:=by have:=congrArg List.length hj;simp at this;omega
   apply hl;refine aE om ?_
   have hn:xs.findIdx? p=none:=by
    rw[List.findIdx?_eq_none_iff];intro y hy;obtain ⟨i,hi⟩:=List.mem_iff_getElem?.1 hy;exact hno i (by have:=(List.getElem?_eq_some_iff.1 hi).1;omega) y hi
   have e:cN p xs= -1:=by unfold cN;rw[hn]
   rw[←e];exact hK _ h
  |cons y rest ih=>
   intro j w hj hjl hno h;have hjl2:j<xs.length:=by have:=congrArg List.length hj;simp at this;omega
   have hx:xs[j]?=some y:=by
    have:=congrArg (fun l=>l[0]?) hj;simpa using this
   apply hl;refine aR om ?_;refine h.dZ rfl hx fun a ha h0 hc=>?_
   refine ⟨_,h0 _ rfl, ?_⟩;refine hf y w _ (List.mem_of_getElem? hx) h fun w h=>?_
   cases hp:p y with
   |true=>
    refine bN rfl ?_
    have hn:xs.findIdx? p=some j:=by
     rw[List.findIdx?_eq_some_iff_getElem];refine ⟨hjl2, ?_,fun i hi=>?_⟩
     ·rw[gE hjl2] at hx;cases hx;exact hp
     ·have:=hno i hi xs[i] (gE om)
      simp[this]
    have e:cN p xs=(j:Int):=by unfold cN;rw[hn]
    rw[←e];exact hK _ h
   |false=>
    refine bD rfl ?_;rw[wr om om];refine ih (j+1) w (by rw[←List.drop_drop,hj];rfl) om (fun i hi z hz=>?_) h;by_cases e:i=j
    ·subst e;rw[hx] at hz;cases hz;exact hp
    ·exact hno i om z hz
 exact loop xs 0 w rfl om (fun i hi=>by omega) h
end
theorem kd (p:Nat):∀(ps:List Nat) (a:Option Nat),iE a (ps++ [p])=some p
 | [],a=>rfl
 |q::ps,a=>kd p ps (some q)
theorem sB (p:Nat) (c:Int):∀(ps:List Nat) (cs:List Int) (a:Option Nat),ps.length=cs.length->chain a (ps++ [p]) (cs++ [c])=chain a ps cs++ [(iE a ps,c)]
 | [],[],a,_=>rfl
 | [],_::_,a,h=>by simp at h
 |_::_,[],a,h=>by simp at h
 |q::ps,d::cs,a,h=>by
  show (a,d)::chain (some q) (ps++ [p]) (cs++ [c])=_;rw[sB p c ps cs (some q) (by simpa using h)];rfl
theorem lY:∀(ps:List Nat) (cs:List Int) (a:Option Nat) (j:Nat) (c:Int),ps.length=cs.length->cs[j]?=some c->(chain a ps cs)[j]?=some (iE a (ps.take j),c)
 | [],[],a,j,c,_,h=>by simp at h
 | [],_::_,a,_,_,h,_=>by simp at h
 |_::_,[],a,_,_,h,_=>by simp at h
 |q::ps,d::cs,a,0,c,_,h=>by cases h;rfl
 |q::ps,d::cs,a,j+1,c,h1,h=>by
  show (chain (some q) ps cs)[j]?=_;rw[lY ps cs (some q) j c (by simpa using h1) h];rfl
section
variable {B:Nat} {w0 w:World} {R L:List aA} {b nc:Nat} {line:List Int} {x:Lx}
theorem ET {α:Type} {A:Nat->α->aA} {p:Nat} {ps:List Nat} {y:α} {ys:List α} (h:Ow B w0 w (ar A (p::ps) (y::ys)::R)):Ow B w0 w (A p y::ar A ps ys::R):=by
 obtain ⟨hl,h⟩:=h.zX;have h:Ow B w0 w (A p y::(List.zipWith A ps ys++R)):=h;exact Ow.dz (Ow.iH (by simpa using hl) (h.perm List.perm_middle.symm))
theorem Gv {ps:List Nat} {xs:List (Option Nat × Int)} {j p:Nat} {y:Option Nat × Int} [I:dG (ar eN ps xs) L R] (h:Ow B w0 w L) (hp:ps[j]?=some p) (hy:xs[j]?=some y):
  w.cell? ⟨p,0,none⟩=some (.z y.2)/\w.cell? ((Addr.mk p 0 none).add 1)=some (.pointer (y.1.map fun q=>⟨q,0,none⟩))/\w.cell? ((Addr.mk p 0 none).add 2)=some (.bool true):=by
 have h2:Ow B w0 w (aa p [.z y.2, .pointer (y.1.map fun q=>⟨q,0,none⟩), .bool true]::_):=(h.pick (A:=ar eN ps xs)).pt hp hy;exact ⟨h2.aq rfl,h2.ao rfl,h2.ao rfl⟩
theorem F1 {p:Nat} {a c:List Value} (h:Ow B w0 w (aa p a::aa p c::R)):False:=by
 obtain ⟨G,hA,hG,Z,h1,h2,h3,h4⟩:=h.held.cM;cases Z with
 |nil=>cases h1
 |cons z Z=>
  have hz:z.1=aa p c:=(List.cons.inj h1).1;have h5:=(h2 z List.mem_cons_self).1;rw[hz] at h5;exact h4 z List.mem_cons_self p hA.1 h5.1
theorem Gx {p j:Nat}:∀{ps:List Nat} {xs:List (Option Nat × Int)},Ow B w0 w (ar eN ps xs::R)->ps[0]?=some p->ps[j+1]?=some p->False
 | [],_,_,h,_=>by simp at h
 |q::ps,xs,h,h0,hj=>by
  have hl:=h.eQ;cases xs with
  |nil=>simp at hl
  |cons y xs=>
   have e0:q=p:=Option.some.inj h0;subst e0;obtain ⟨_,h⟩:=h.zX;have hj:ps[j]?=some q:=hj;have hlt:=(List.getElem?_eq_some_iff.1 hj).1
   have hz:(List.zipWith eN (q::ps) (y::xs)++R)[j+1]?=some (eN q (xs[j]'(by simp at hl;omega))):=by
    rw[List.getElem?_append_left (by simp at hl⊢;omega)];show (List.zipWith eN ps xs)[j]?=_;rw[List.getElem?_zipWith,hj,gE (by simp at hl;omega)]
   exact F1 (h.take (j+1) hz)
theorem DM {q:Nat} [I:dG (im (some q)) L R] (h:Ow B w0 w L):w.cell? ((Addr.mk q 0 none).add 2)=some (.bool false):=by
 obtain ⟨c,h2⟩:=(h.pick (A:=im (some q))).ex;exact h2.ao rfl
theorem FO.get (hx:FO nc line x) {c:Int} (hc:c∈line):∃(j:Nat) (p:Nat),line[j]?=some c/\x.ps[j]?=some p/\x.rL[c.toNat]?=some (some p):=by
 obtain ⟨j,hj⟩:=List.mem_iff_getElem?.1 hc;have hlt:=(List.getElem?_eq_some_iff.1 hj).1;have hl2:j<x.ps.length:=by rw[hx.ps];exact hlt
 have hp:x.ps[j]?=some x.ps[j]:=gE hl2;exact ⟨j,_,hj,hp,hx.at_ j c _ hj hp⟩
theorem FO.out (hx:FO nc line x) {c:Int} (h0:0≤c) (h1:c<(nc:Int)) (hc:c∉line):x.rL[c.toNat]?=some none:=hx.no c.toNat om (by rw[Int.toNat_of_nonneg h0];exact hc)
theorem we {c:Int} {K:Bool->Pw} (h0:0≤c) (h1:c<(nc:Int)) (h:Ow B w0 w (aQ b nc line::R)) (hK:K true w):C.qcF (some ⟨b,0,none⟩) c K w:=by
 apply S.qcF0;obtain ⟨x,hx,h⟩:=p9 h;refine aR om ?_;refine ⟨_,rfl,_,h.aq rfl, ?_⟩;rw[decide_eq_true h1];exact hK
theorem mE {K:Option Addr->Int->Pw} (n1:1≤nc) (n8:nc≤8) (h:Ow B w0 w R) (hK:∀b w',Ow B w0 w' (aQ b nc []::R)->K (some ⟨b,0,none⟩) 0 w'):C.qdH (nc:Int) K w:=by
 apply S.qdH0;intro k hk;refine aE om ?_;apply hk;refine aE om ?_;have hb:Tryz.t125.bytes=8:=by kernel_rfl
 have hp48:(2:Int)^48=281474976710656:=by decide
 refine Ow.rD (E:=ki) (z0:=none) (zv:= .pointer none) Tryz.underlying126 (show Tryz.prog.info? 125=some Tryz.t125 from by kernel_rfl) (by kernel_rfl) (by kernel_rfl) rfl (n:=(nc:Int)) h om (by rw[hb,hp48];omega) (by rw[hp48];omega) fun s w hs h=>?_
 rw[Int.toNat_natCast] at h;refine h.al fun w2 h=>?_
 refine hK _ w2 (ml ⟨none,s,List.replicate nc none,[]⟩ ⟨by simp,rfl,List.nodup_nil,fun c hc=>(by cases hc),fun j c p hj=>(by simp at hj),fun i hi _=>(by rw[List.getElem?_replicate,if_pos hi])⟩ ?_);have h3:Ow B w0 w2 (ar eN [] []::im none::aa w.heap.size [.z (nc:Int), .pointer none, .slice s.a s.len s.cap]::ah ki s (List.replicate nc none)::R):=Ow.iH rfl (Ow.aY h);have h4:Ow B w0 w2 (aa w.heap.size [.z (nc:Int), .pointer none, .slice s.a s.len s.cap]::ah ki s (List.replicate nc none)::im none::ar eN [] []::R):=h3.sub;exact h4
theorem kB {c:Int} {K:Int->Pw} (h0:0≤c) (h1:c<(nc:Int)) (hc:c∉line) (h:Ow B w0 w (aQ b nc line::R))
  (hK:∀w',Ow B w0 w' (aQ b nc (line++ [c])::R)->K 0 w'):C.qar (some ⟨b,0,none⟩) c K w:=by
 apply S.qar0;refine we h0 h1 h ?_;refine bD rfl ?_;obtain ⟨x,hx,h⟩:=p9 h;have hlen:=h.br x.s;have hxl:=hx.len;refine ⟨_,rfl,x.s,h.ao rfl, ?_⟩;have ec:c=((c.toNat:Nat):Int):=by omega
 refine h.dZ (s:=x.s) ec (hx.out h0 h1 hc) fun a ha hc0 hcc=>⟨_,hc0 _ rfl, ?_⟩
 refine bD rfl ?_;refine ⟨_,rfl,_,h.ao rfl, ?_⟩;refine h.a fun p w1 h=>?_;refine ⟨_,rfl,x.s,h.ao rfl,_,rfl, ?_⟩;refine h.cC rfl rfl fun w h=>?_
 (try dsimp only[putAt,List.set_cons_zero,List.set_cons_succ] at h)
 refine ⟨a,ha,h0,om, ?_⟩;refine h.wL (s:=x.s) (E:=ki) (i:=c) (some p) ec om ha rfl fun w h=>?_
 refine hK w (ml ⟨x.a0,x.s,x.rL.set c.toNat (some p),x.ps++ [p]⟩ ?_ ?_)
 ·have hps:=hx.ps
  refine ⟨by rw[List.length_set];exact hxl,by simp[hps], ?_,fun d hd=>?_,fun j d q hj hq=>?_,fun i hi hn=>?_⟩
  ·exact List.nodup_append.2 ⟨hx.nd,by simp,fun u hu v hv=>by
    rw[List.mem_singleton] at hv;rintro rfl;exact hc (hv▸hu)⟩
  ·rcases List.mem_append.1 hd with hd|hd
   ·exact hx.wX d hd
   ·rw[List.mem_singleton.1 hd];exact ⟨h0,h1⟩
  ·dsimp only at hq⊢
   by_cases hjl:j<line.length
   ·rw[List.getElem?_append_left hjl] at hj
    rw[List.getElem?_append_left om] at hq;have hd:=List.mem_of_getElem? hj;have hr:=hx.wX d hd;rw[List.getElem?_set_ne (fun e=>hc (by rw[show c=d from by omega];exact hd))];exact hx.at_ j d q hj hq
   ·rw[List.getElem?_append_right om] at hj hq
    have e1:j-line.length=0:=by
     have:=(List.getElem?_eq_some_iff.1 hj).1;simp at this;omega
    rw[e1] at hj;rw[hps,e1] at hq;cases hj;cases hq;rw[List.getElem?_set_self om]
  ·dsimp only
   rw[List.getElem?_set_ne (fun e=>hn (List.mem_append_right _ (List.mem_singleton.2 om)))];exact hx.no i hi fun hm=>hn (List.mem_append_left _ hm)
 ·show Ow B w0 w (aa b [.z (nc:Int), .pointer ((iE x.a0 (x.ps++ [p])).map fun q=>⟨q,0,none⟩), .slice x.s.a x.s.len x.s.cap]::ah ki x.s (x.rL.set c.toNat (some p))::im x.a0::ar eN (x.ps++ [p]) (chain x.a0 (x.ps++ [p]) (line++ [c]))::R)
  rw[kd,sB p c _ _ _ hx.ps];have h1:Ow B w0 w (aa p [.z c, .pointer ((iE x.a0 x.ps).map fun q=>⟨q,0,none⟩), .bool true]::ar eN x.ps (chain x.a0 x.ps line)::aa b [.z (nc:Int), .pointer (some ⟨p,0,none⟩), .slice x.s.a x.s.len x.s.cap]::ah ki x.s (x.rL.set c.toNat (some p))::im x.a0::R):=h.sub;have h2:Ow B w0 w (eN p (iE x.a0 x.ps,c)::ar eN x.ps (chain x.a0 x.ps line)::aa b [.z (nc:Int), .pointer (some ⟨p,0,none⟩), .slice x.s.a x.s.len x.s.cap]::ah ki x.s (x.rL.set c.toNat (some p))::im x.a0::R):=h1;have h3:=h2.pz;have h4:Ow B w0 w (aa b [.z (nc:Int), .pointer (some ⟨p,0,none⟩), .slice x.s.a x.s.len x.s.cap]::ah ki x.s (x.rL.set c.toNat (some p))::im x.a0::ar eN (x.ps++ [p]) (chain x.a0 x.ps line++ [(iE x.a0 x.ps,c)])::R):=h3.sub;exact h4
theorem xM {R':List aA} {j p:Nat} {c:Int} {K:Bool->Pw} (hx:FO nc line x) (hj:line[j]?=some c) (hp:x.ps[j]?=some p) [I:dG (ar eN x.ps (uT x line)) L R] [I2:dG (im x.a0) L R'] (h:Ow B w0 w L)
  (hK:K (decide (j=0)) w):C.qdk (some ⟨p,0,none⟩) K w:=by
 apply S.qdk0;have hg:=lY x.ps line x.a0 j c hx.ps hj;obtain ⟨g1,g2,g3⟩:=Gv h hp hg;refine ⟨_,rfl,_,g2, ?_⟩;cases j with
 |zero=>
  rw[List.take_zero] at g2⊢;show bif (Option.map _ x.a0).isNone then _ else _;cases ha:x.a0 with
  |none=>exact bN rfl hK
  |some q=>
   rw[ha] at I2;have g2':w.cell? ((Addr.mk p 0 none).add 1)=some (.pointer (some ⟨q,0,none⟩)):=by rw[g2];show some (Value.pointer (Option.map _ x.a0))=_;rw[ha];rfl
   refine bD rfl ⟨_,rfl,_,g2',_,rfl,_,DM (I:=I2) h,hK⟩
 |succ j=>
  have hlt:j+1<x.ps.length:=(List.getElem?_eq_some_iff.1 hp).1;have hjl:j<line.length:=by rw[←hx.ps];omega
  have ht:x.ps.take (j+1)=x.ps.take j++ [x.ps[j]]:=by rw[List.take_add_one,gE om];rfl
  rw[ht,kd] at g2⊢;have hq:x.ps[j]?=some x.ps[j]:=gE om;obtain ⟨_,_,k3⟩:=Gv h hq (lY x.ps line x.a0 j _ hx.ps (gE hjl));exact bD rfl ⟨_,rfl,_,g2,_,rfl,_,k3,hK⟩
theorem Gf (hx:FO nc line x) {j:Nat} {c:Int} (hj:line[j]?=some c):fG line c=decide (j=0):=by
 unfold fG;rw[decide_eq_decide,List.head?_eq_getElem?];refine ⟨fun e=>?_,fun e=>by rw[←e];exact hj⟩;have h0:=(List.getElem?_eq_some_iff.1 e)
 have h1:=(List.getElem?_eq_some_iff.1 hj)
 obtain ⟨a0,b0⟩:=h0;obtain ⟨a1,b1⟩:=h1;cases j with
 |zero=>rfl
 |succ j=>exact absurd (b0.trans b1.symm) ((List.pairwise_iff_getElem.1 hx.nd) 0 (j+1) a0 a1 om)
theorem eE {c:Int} {K:Bool->Int->Pw} (h0:0≤c) (h1:c<(nc:Int)) (h:Ow B w0 w (aQ b nc line::R))
  (hK:K (fG line c) (if c∈line then 0 else 161) w):C.qbh (some ⟨b,0,none⟩) c K w:=by
 apply S.qbh0;refine we h0 h1 h ?_;refine bD rfl ?_;obtain ⟨x,hx,h⟩:=p9 h;have hlen:=h.br x.s;have hxl:=hx.len;refine ⟨_,rfl,x.s,h.ao rfl, ?_⟩;have ec:c=((c.toNat:Nat):Int):=by omega
 by_cases hc:c∈line
 ·rw[if_pos hc] at hK
  obtain ⟨j,p,hj,hp,hb⟩:=hx.get hc;refine h.dZ (s:=x.s) ec hb fun a ha hc0 hcc=>⟨_,hc0 _ rfl, ?_⟩
  refine bD rfl ?_;refine ⟨_,rfl,x.s,h.ao rfl, ?_⟩;refine h.dZ (s:=x.s) ec hb fun a ha hc0 hcc=>⟨_,hc0 _ rfl, ?_⟩
  refine xM hx hj hp h ?_;rw[←Gf hx hj];exact hK
 ·rw[if_neg hc] at hK
  refine h.dZ (s:=x.s) ec (hx.out h0 h1 hc) fun a ha hc0 hcc=>⟨_,hc0 _ rfl, ?_⟩
  refine bN rfl ?_;have e:fG line c=false:=decide_eq_false fun e=>hc (List.mem_of_mem_head? e)
  rw[e] at hK;exact hK
theorem kC {c:Int} {cs:List Int} {K:Int->Pw} (h:Ow B w0 w (aQ b nc (c::cs)::R))
  (hK:∀w',Ow B w0 w' (aQ b nc cs::R)->K 0 w'):C.qas (some ⟨b,0,none⟩) c K w:=by
 obtain ⟨x0,hx0,_⟩:=p9 h;obtain ⟨h0,h1⟩:=hx0.wX c List.mem_cons_self;apply S.qas0;refine eE h0 h1 h ?_;rw[if_pos List.mem_cons_self,show fG (c::cs) c=true from decide_eq_true rfl];refine fP rfl (bD rfl ?_);clear hx0;obtain ⟨x,hx,h⟩:=p9 h;have hlen:=h.br x.s;have hxl:=hx.len;have hpl:=hx.ps;obtain ⟨a0,s,rL,ps⟩:=x;cases ps with
 |nil=>simp at hpl
 |cons p ps=>
  dsimp only at hlen hxl hpl h;have h:Ow B w0 w (aa b [.z (nc:Int), .pointer ((iE (some p) ps).map fun q=>⟨q,0,none⟩), .slice s.a s.len s.cap]::ah ki s rL::im a0::ar eN (p::ps) ((a0,c)::chain (some p) ps cs)::R):=h;have ec:c=((c.toNat:Nat):Int):=by omega
  have hb:=hx.at_ 0 c p rfl rfl;dsimp only at hb;refine ⟨_,rfl,s,h.ao rfl, ?_⟩;refine h.dZ (s:=s) ec hb fun a ha hc0 hcc=>⟨_,hc0 _ rfl, ?_⟩
  have h:Ow B w0 w (ar eN (p::ps) ((a0,c)::chain (some p) ps cs)::aa b [.z (nc:Int), .pointer ((iE (some p) ps).map fun q=>⟨q,0,none⟩), .slice s.a s.len s.cap]::ah ki s rL::R):=h.sub;have h:=ET h;have h:Ow B w0 w (aa p [.z c, .pointer (a0.map fun q=>⟨q,0,none⟩), .bool true]::ar eN ps (chain (some p) ps cs)::aa b [.z (nc:Int), .pointer ((iE (some p) ps).map fun q=>⟨q,0,none⟩), .slice s.a s.len s.cap]::ah ki s rL::R):=h;refine ⟨_,rfl, ?_⟩;refine h.cC rfl rfl fun w h=>⟨_,rfl, ?_⟩
  refine h.cC rfl rfl fun w h=>⟨_,rfl,s, ?_,a,ha,h0,om, ?_⟩
  ·exact h.ao rfl
  refine h.wL (s:=s) (E:=ki) (i:=c) none ec om ha rfl fun w h=>?_
  (try dsimp only[putAt,List.set_cons_zero,List.set_cons_succ] at h)
  refine hK w (ml ⟨some p,s,rL.set c.toNat none,ps⟩ ?_ ?_)
  ·have hnd:=List.nodup_cons.1 hx.nd
   refine ⟨by rw[List.length_set];exact hxl,by simpa using hpl,hnd.2,fun d hd=>hx.wX d (List.mem_cons_of_mem _ hd),fun j d q hj hq=>?_,fun i hi hn=>?_⟩
   ·dsimp only at hq⊢
    have hd:=List.mem_of_getElem? hj;have hr:=hx.wX d (List.mem_cons_of_mem _ hd);rw[List.getElem?_set_ne (fun e=>hnd.1 (by rw[show c=d from by omega];exact hd))];exact hx.at_ (j+1) d q hj hq
   ·dsimp only
    by_cases e:c.toNat=i
    ·subst e
     rw[List.getElem?_set_self om]
    ·rw[List.getElem?_set_ne e]
     exact hx.no i hi fun hm=>by
      rcases List.mem_cons.1 hm with hm|hm
      ·omega
      ·exact hn hm
  ·have h2:Ow B w0 w (aa p [.z c, .pointer none, .bool false]::ar eN ps (chain (some p) ps cs)::aa b [.z (nc:Int), .pointer ((iE (some p) ps).map fun q=>⟨q,0,none⟩), .slice s.a s.len s.cap]::ah ki s (rL.set c.toNat none)::R):=h.sub
   have h3:Ow B w0 w (im (some p)::ar eN ps (chain (some p) ps cs)::aa b [.z (nc:Int), .pointer ((iE (some p) ps).map fun q=>⟨q,0,none⟩), .slice s.a s.len s.cap]::ah ki s (rL.set c.toNat none)::R):=Ow.eP c h2;exact h3.sub
theorem oZ {K:Int->Bool->Pw} (hl8:nc≤8) (h:Ow B w0 w (aQ b nc line::R))
  (hK:∀v w',Ow B w0 w' (aQ b nc line::R)->K v (!line.isEmpty) w'):C.qbU (some ⟨b,0,none⟩) K w:=by
 apply S.qbU0;obtain ⟨x,hx,h⟩:=p9 h;have hxl:=hx.len;refine ⟨_,rfl,x.s,h.ao rfl, ?_⟩
 have hm:∀y∈x.rL,y=none∨∃j c p,y=some p/\line[j]?=some c/\x.ps[j]?=some p:=fun y hy=>by
  obtain ⟨i,hi⟩:=List.mem_iff_getElem?.1 hy;have hil:=(List.getElem?_eq_some_iff.1 hi).1;by_cases hc:(i:Int)∈line
  ·obtain ⟨j,p,h1,h2,h3⟩:=hx.get hc
   rw[Int.toNat_natCast,hi] at h3;exact .inr ⟨j,_,p,Option.some.inj h3,h1,h2⟩
  ·have:=hx.no i om hc
   rw[hi] at this;exact .inl (Option.some.inj this)
 refine sf (s:=x.s) (xs:=x.rL) (p:=fun y=>match y with|none=>false|some q=>decide (x.ps[0]?=some q)) h om (fun y w Q hy h hQ=>?_) fun w h=>?_
 ·refine aP ?_
  show C.qbW (y.map fun q=>⟨q,0,none⟩) Q w;apply S.qbW0;rcases hm y hy with rfl|⟨j,c,p,rfl,hj,hp⟩
  ·exact bD rfl (hQ w h)
  ·refine bN rfl ?_
   refine xM hx hj hp h ?_
   have e:decide (x.ps[0]?=some p)=decide (j=0):=by
    rw[decide_eq_decide];refine ⟨fun e=>?_,fun e=>by rw[←e];exact hp⟩;cases j with
    |zero=>rfl
    |succ j=>
     exfalso;exact Gx (h.pick (A:=ar eN x.ps (uT x line))) e hp
   rw[←e];exact hQ w h
 ·have e:decide (cN (fun y=>match y with|none=>false|some q=>decide (x.ps[0]?=some q)) x.rL≥0)= !line.isEmpty:=by
   rw[iD];cases hl:line with
   |nil=>
    rw[List.any_eq_false.2 fun y hy=>?_]
    ·rfl
    ·rcases hm y hy with rfl|⟨j,c,p,rfl,hj,hp⟩
     ·exact Bool.false_ne_true
     ·rw[hl] at hj;simp at hj
   |cons c cs=>
    have hlt:0<x.ps.length:=by rw[hx.ps,hl];simp
    have hp:x.ps[0]?=some x.ps[0]:=gE hlt;have hb:=hx.at_ 0 c _ (by rw[hl];rfl) hp;rw[List.any_eq_true.2 ⟨some x.ps[0],List.mem_of_getElem? hb,decide_eq_true hp⟩];rfl
  rw[e];exact hK _ w (ml x hx h)
theorem sQ {K:Sl->Pw} (hl8:nc≤8) (h:Ow B w0 w (aQ b nc line::R))
  (hK:∀s w',Ow B w0 w' (ah aG s line::aQ b nc line::R)->K s w'):C.qcw (some ⟨b,0,none⟩) K w:=by
 apply S.qcw0;obtain ⟨x,hx,h⟩:=p9 h;have hps:=hx.ps
 have hbig:line.length≤8:=by
  have h1:(line.map Int.toNat).Nodup:=by
   rw[List.Nodup,List.pairwise_map];refine List.Pairwise.imp_of_mem (fun {a b} ha hb hab e=>?_) hx.nd;have h1:=hx.wX a ha;have h2:=hx.wX b hb;exact hab om
  have h2:=List.Nodup.length_le_of_subset (l₂:=List.range nc) h1 fun z hz=>by
   obtain ⟨d,hd,rfl⟩:=List.mem_map.1 hz;have:=hx.wX d hd;exact List.mem_range.2 om
  simp at h2;omega
 refine ⟨_,rfl,_,h.ao rfl, ?_⟩;intro l hl
 have loop:∀(r:Nat) (out:Sl) (w:World),r≤line.length->Ow B w0 w (ah aG out (line.drop r).reverse::aa b [.z (nc:Int), .pointer ((Bj x).map fun q=>⟨q,0,none⟩), .slice x.s.a x.s.len x.s.cap]::ah ki x.s x.rL::im x.a0::ar eN x.ps (uT x line)::R)->
   l out ((iE x.a0 (x.ps.take r)).map fun q=>⟨q,0,none⟩) w:=by
  intro r
  induction r with
  |zero=>
   intro out w hr h;apply hl;intro k hk
   have fin:k false w:=by
    apply hk;refine bD rfl ?_;refine xg h (by simp;omega) fun w h=>?_
    rw[List.drop_zero,List.reverse_reverse] at h;exact hK out w (Ow.dz (ml x hx h.dz.sub))
   rw[List.take_zero];show bif !(Option.map _ x.a0).isNone then _ else _;cases ha:x.a0 with
   |none=>exact bD rfl fin
   |some q=>
    have hd:w.cell? ((Addr.mk q 0 none).add 2)=some (.bool false):=by
     rw[ha] at h;exact DM h
    exact bN rfl ⟨_,rfl,_,hd,fin⟩
  |succ r ih=>
   intro out w hr h;have hrl:r<line.length:=by omega
   have hq:x.ps[r]?=some x.ps[r]:=gE om;have ht:x.ps.take (r+1)=x.ps.take r++ [x.ps[r]]:=by rw[List.take_add_one,hq];rfl
   have hg:=lY x.ps line x.a0 r _ hx.ps (gE hrl);obtain ⟨g1,g2,g3⟩:=Gv h hq hg;rw[ht,kd];apply hl;intro k hk;refine bN rfl ⟨_,rfl,_,g3, ?_⟩;apply hk;refine bN rfl ⟨_,rfl,_,g1, ?_⟩;refine h.a fun d w1 h=>?_;refine kU (s:=out) (y:=line[r]) h (by simp;omega) fun s' w hs' h=>?_
   obtain ⟨g1,g2,g3⟩:=Gv h hq hg;refine ⟨_,rfl,_,g2, ?_⟩;refine ih s' w om ?_;rw[List.drop_eq_getElem_cons hrl,List.reverse_cons];exact h.sub
 have e:x.ps.take line.length=x.ps:=List.take_of_length_le om;have:=loop line.length ⟨none,0,0⟩ w (Nat.le_refl _) (by rw[List.drop_length];exact Ow.dK h);rw[e] at this;exact this
end
end Go.Proofs.YtlhljbbfckbjpaaGreat.Mc
end
section
set_option maxRecDepth 8000
namespace Go.Proofs.YtlhljbbfckbjpaaGreat
open Go Go.Vc Go.Proofs
def mN (b nb nt:Nat) (k:ai):aA:=pV fun x:Kx=>bh [aa b (bp x k.bg k.dM nb nt),Sl.av x.n k.bits k.H,Tr.bB x.tr k.T,Th.aZ x.t k.t,bq x.ln k.ln,ah fj x.su k.u,ah cA x.se x.pe,ar cd x.pe k.ends,ah cA x.sn x.pn,ar bG x.pn k.notes,ah cA x.ss x.ps,ar Tb.bf x.ps k.ae]
section
variable {B:Nat} {w0 w:World} {R L:List aA} {b nb nt:Nat} {k:ai} {N:Nat} {s:Sl}
theorem Iv (h:Ow B w0 w (mN b nb nt k::R)):∃x:Kx,Ow B w0 w (aa b (bp x k.bg k.dM nb nt)::Sl.av x.n k.bits k.H::Tr.bB x.tr k.T::Th.aZ x.t k.t::bq x.ln k.ln::ah fj x.su k.u::ah cA x.se x.pe::ar cd x.pe k.ends::ah cA x.sn x.pn::ar bG x.pn k.notes::ah cA x.ss x.ps::ar Tb.bf x.ps k.ae::R):=by
 obtain ⟨x,h⟩:=Ow.ex h;exact ⟨x,h.star⟩
theorem wj (x:Kx) {bits:List Int} {H:Sl.Hs} {T:Tr.Tr} {t:Th.Mt} {ln:xe} {u:List ua} {ends:List kI} {notes:List rK} {ae:List Tb.dv} {fr tb:Nat}
  (h:Ow B w0 w (aa b (bp x fr tb nb nt)::Sl.av x.n bits H::Tr.bB x.tr T::Th.aZ x.t t::bq x.ln ln::ah fj x.su u::ah cA x.se x.pe::ar cd x.pe ends::ah cA x.sn x.pn::ar bG x.pn notes::ah cA x.ss x.ps::ar Tb.bf x.ps ae::R)):
  Ow B w0 w (mN b nb nt ⟨bits,H,T,t,ln,u,ends,notes,ae,fr,tb⟩::R):=Ow.eP x (Ow.aY h)
theorem Ec (h:Ow B w0 w (mN b nb nt k::R)):∃(bt:Nat) (Y:aA),Ow B w0 w (Th.aZ bt k.t::Y::R)/\w.cell? ((Addr.mk b 0 none).add 2)=some (.pointer (some ⟨bt,0,none⟩))/\
  (∀R' w',Ow B w0 w' (Th.aZ bt k.t::Y::R')->w'.cell? ((Addr.mk b 0 none).add 2)=some (.pointer (some ⟨bt,0,none⟩)))/\
  (∀R' w' t,Ow B w0 w' (Th.aZ bt t::Y::R')->w'.cell? ((Addr.mk b 0 none).add 2)=some (.pointer (some ⟨bt,0,none⟩))/\Ow B w0 w' (mN b nb nt (k.cu t)::R')):=by
 obtain ⟨x,h⟩:=Iv h
 have hback:∀R' w' t,Ow B w0 w' (Th.aZ x.t t::bh [aa b (bp x k.bg k.dM nb nt),Sl.av x.n k.bits k.H,Tr.bB x.tr k.T,bq x.ln k.ln,ah fj x.su k.u,ah cA x.se x.pe,ar cd x.pe k.ends,ah cA x.sn x.pn,ar bG x.pn k.notes,ah cA x.ss x.ps,ar Tb.bf x.ps k.ae]::R')->w'.cell? ((Addr.mk b 0 none).add 2)=some (.pointer (some ⟨x.t,0,none⟩))/\Ow B w0 w' (mN b nb nt (k.cu t)::R'):=fun R' w' t h=>by
  have h:Ow B w0 w' (aa b (bp x k.bg k.dM nb nt)::Sl.av x.n k.bits k.H::Tr.bB x.tr k.T::bq x.ln k.ln::ah fj x.su k.u::ah cA x.se x.pe::ar cd x.pe k.ends::ah cA x.sn x.pn::ar bG x.pn k.notes::ah cA x.ss x.ps::ar Tb.bf x.ps k.ae::Th.aZ x.t t::R'):=(h.dz).star;refine ⟨h.ao rfl, ?_⟩;exact (show Ow B w0 w' (mN b nb nt (k.cu t)::R') from wj x h.sub)
 have h1:Ow B w0 w (Th.aZ x.t k.t::bh [aa b (bp x k.bg k.dM nb nt),Sl.av x.n k.bits k.H,Tr.bB x.tr k.T,bq x.ln k.ln,ah fj x.su k.u,ah cA x.se x.pe,ar cd x.pe k.ends,ah cA x.sn x.pn,ar bG x.pn k.notes,ah cA x.ss x.ps,ar Tb.bf x.ps k.ae]::R):=Ow.dz (Ow.aY (show Ow B w0 w (aa b (bp x k.bg k.dM nb nt)::Sl.av x.n k.bits k.H::Tr.bB x.tr k.T::bq x.ln k.ln::ah fj x.su k.u::ah cA x.se x.pe::ar cd x.pe k.ends::ah cA x.sn x.pn::ar bG x.pn k.notes::ah cA x.ss x.ps::ar Tb.bf x.ps k.ae::Th.aZ x.t k.t::R) from h.sub));exact ⟨x.t,_,h1,(hback R w k.t h1).1,fun R' w' h=>(hback R' w' k.t h).1,hback⟩
theorem jK {i kind obj:Int} {K:Int->Pw} (hT:k.T.length<1000000) (h:Ow B w0 w (mN b nb nt k::R)) (hK:∀w',Ow B w0 w' (mN b nb nt (k.eI i kind obj)::R)->K (IntKind.i64.wrap (i+1)) w'):C.qQ (some ⟨b,0,none⟩) i kind obj K w:=by
 apply S.qQ0;refine h.a fun c w1 h=>?_;refine h.ax rfl rfl fun w h=>?_
 (try dsimp only[putAt,List.set_cons_zero,List.set_cons_succ] at h)
 obtain ⟨x,h⟩:=Iv (h.pick (A:=mN b nb nt k));refine h.dr fun w h=>?_
 refine ⟨_,rfl,_,h.aq rfl, ?_⟩;refine h.aL rfl ⟨?_,trivial⟩;refine Sl.gN (s:=(0,i)) (c:=⟨kind,obj,7,0,0,0⟩) nQ (h.pick (A:=Sl.av x.n k.bits k.H)) fun w h=>?_
 refine h.dr fun w h=>?_
 refine ⟨_,rfl,_,h.ao rfl, ?_⟩;refine h.aL rfl ⟨?_,trivial⟩;refine Tr.tz (s:=(0,i)) hT (h.pick (A:=Tr.bB x.tr k.T)) fun w h=>?_
 refine hK w ?_;exact (show Ow B w0 w (mN b nb nt (k.eI i kind obj)::R) from wj x h.sub)
theorem zJ {t:Th.Mt} {bt:Nat} {p c:Int} {K:Int->Int->Pw} (hm:Th.bW t) (h:Ow B w0 w (Th.aZ bt t::R)) (hK:∀w',Ow B w0 w' (Th.aZ bt (t.cU p c).2.2::R)->K (t.cU p c).1 (t.cU p c).2.1 w'):C.qN (some ⟨bt,0,none⟩) p c K w:=by
 unfold Th.Mt.cU at hK;refine Th.mJ hm h (fun e w h=>?_) (fun e e1 w h=>?_) (fun e e1 w h=>?_)
 ·rw[if_pos e] at hK;exact hK w h
 ·rw[if_neg (fun hh=>hh e),if_pos e1] at hK;exact hK w h
 ·rw[if_neg (fun hh=>hh e),if_neg om] at hK;exact hK w h
set_option maxHeartbeats 2000000 in
theorem Bv {c bits lines:Int} {prios:List Int} {K:Option Addr->Int->Pw} [I:bT s L Int aG prios] (h:Ow B w0 w L) (hbig:prios.length≤1000000000)
  (hK0:ai.kn c bits lines prios=false->∀w',Ow B w0 w' L->K none 1 w')
  (hK1:ai.kn c bits lines prios=true->∀b w',Ow B w0 w' (aj b (ai.iu c.toNat bits.toNat lines.toNat prios)::L)->K (some ⟨b,0,none⟩) 0 w'):C.qdn c bits lines s K w:=by
 apply S.qdn0;refine h.a fun cb w1 h=>?_;refine h.gH rfl ?_;refine Ab (s:=s) h hbig fun w h=>?_
 cases hr:ai.kn c bits lines prios with
 |false=>exact bN rfl (hK0 hr w h.drop)
 |true=>
 have hK:=hK1 hr;clear hK0 hK1;obtain ⟨b1,b2,b3,b4,b5,b6,b7,b8⟩:=of_decide_eq_true hr;clear hr;obtain ⟨c,rfl⟩:=Int.eq_ofNat_of_zero_le (show 0≤c by omega);obtain ⟨bits,rfl⟩:=Int.eq_ofNat_of_zero_le (show 0≤bits by omega);obtain ⟨lines,rfl⟩:=Int.eq_ofNat_of_zero_le b5;have b2:c≤8:=by omega
 have b9:4≤bits/\bits≤20:=⟨om,om⟩
 have b6:lines≤8:=by omega
 have b7:prios.length=c:=by omega
 simp only[Int.toNat_natCast] at hK;have hlen:s.len=prios.length:=(h.drop).br s;refine bD rfl ?_;intro k12 hk12
 have fin:∀(kb n tr ub sp pb:Nat) (w:World),Ow B w0 w (aa kb [.pointer (some ⟨n,0,none⟩), .pointer (some ⟨tr,0,none⟩), .pointer none, .pointer none, .slice (some ⟨ub,0,none⟩) 1 1, .slice none 0 0, .slice none 0 0, .slice (some ⟨pb,0,none⟩) 1 1, .z 0, .z 0, .z 1, .z c]::Sl.av n [] (fun _=>none)::Tr.bB tr []::aa ub [.y 0, .z bits, .y 0]::Tb.bf sp Tb.kM::aa pb [.pointer (some ⟨sp,0,none⟩)]::aa cb [.z c, .z bits, .z lines, .slice s.a s.len s.cap]::L)->k12 (some ⟨kb,0,none⟩) w:=fun kb n tr ub sp pb w h=>by
  apply hk12;refine ⟨_,h.aq rfl, ?_⟩;refine Th.wP h (fun e=>absurd ⟨om,om⟩ e) fun cc ecc _ _ bt w h=>?_
  obtain rfl:c=cc:=by omega
  refine ⟨_,rfl, ?_⟩;refine h.cC rfl rfl fun w h=>?_
  (try dsimp only[putAt,List.set_cons_zero,List.set_cons_succ] at h)
  refine vY h fun bl w h=>?_
  refine ⟨_,rfl, ?_⟩;refine h.cC rfl rfl fun w h=>?_
  (try dsimp only[putAt,List.set_cons_zero,List.set_cons_succ] at h)
  refine ⟨_,rfl,_,h.aq rfl, ?_⟩;refine Sl.gg (h.pick (A:=Sl.av n [] (fun _=>none))) fun w h=>?_
  have h:=(h.pick (A:=aa ub [.y 0, .z bits, .y 0])).DA (E:=fj) [⟨0,bits,0⟩] rfl;have h:=(h.pick (A:=aa pb [.pointer (some ⟨sp,0,none⟩)])).DA (E:=cA) [sp] rfl;have h:=Ow.iH (A:=cd) (ps:=[]) (xs:=[]) rfl h;have h:=Ow.dK (E:=cA) h;have h:=Ow.iH (A:=bG) (ps:=[]) (xs:=[]) rfl h;have h:=Ow.dK (E:=cA) h;have h:=Ow.iH (A:=Tb.bf) (ps:=[sp]) (xs:=[Tb.kM]) rfl (h.pick (A:=Tb.bf sp Tb.kM));have h:Ow B w0 w (ar Tb.bf [sp] [Tb.kM]::ah cA ⟨none,0,0⟩ []::ar bG [] []::ah cA ⟨none,0,0⟩ []::ar cd [] []::ah cA ⟨some ⟨pb,0,none⟩,1,1⟩ [sp]::ah fj ⟨some ⟨ub,0,none⟩,1,1⟩ [⟨0,bits,0⟩]::Sl.av n [6] (fun _=>none)::bq bl (List.replicate 8 ⟨0,0,0⟩)::Th.aZ bt (Th.eh c)::aa kb [.pointer (some ⟨n,0,none⟩), .pointer (some ⟨tr,0,none⟩), .pointer (some ⟨bt,0,none⟩), .pointer (some ⟨bl,0,none⟩), .slice (some ⟨ub,0,none⟩) 1 1, .slice none 0 0, .slice none 0 0, .slice (some ⟨pb,0,none⟩) 1 1, .z 0, .z 0, .z 1, .z c]::Tr.bB tr []::aa cb [.z c, .z bits, .z lines, .slice s.a s.len s.cap]::L):=h;have h:Ow B w0 w (aa kb [.pointer (some ⟨n,0,none⟩), .pointer (some ⟨tr,0,none⟩), .pointer (some ⟨bt,0,none⟩), .pointer (some ⟨bl,0,none⟩), .slice (some ⟨ub,0,none⟩) 1 1, .slice none 0 0, .slice none 0 0, .slice (some ⟨pb,0,none⟩) 1 1, .z 0, .z 0, .z 1, .z c]::Sl.av n [6] (fun _=>none)::Tr.bB tr []::Th.aZ bt (Th.eh c)::bq bl (List.replicate 8 ⟨0,0,0⟩)::ah fj ⟨some ⟨ub,0,none⟩,1,1⟩ [⟨0,bits,0⟩]::ah cA ⟨none,0,0⟩ []::ar cd [] []::ah cA ⟨none,0,0⟩ []::ar bG [] []::ah cA ⟨some ⟨pb,0,none⟩,1,1⟩ [sp]::ar Tb.bf [sp] [Tb.kM]::aa cb [.z c, .z bits, .z lines, .slice s.a s.len s.cap]::L):=h.sub;have h:Ow B w0 w (mN kb 1 c (ai.kf c bits)::aa cb [.z c, .z bits, .z lines, .slice s.a s.len s.cap]::L):=wj ⟨n,tr,bt,bl,⟨some ⟨ub,0,none⟩,1,1⟩,⟨none,0,0⟩,⟨none,0,0⟩,⟨some ⟨pb,0,none⟩,1,1⟩,[],[],[sp]⟩ h;have g0:=AX (c:=c) b2 b9;obtain ⟨g1,g2⟩:=xx (c:=c) b2 b9;have gT:∀{m:Nat} {k:ai},pT c m k->k.T.length<1000000:=fun g=>by have:=g.ok.gT;omega
  refine jK (i:=0) (kind:=2) (obj:=0) (gT g0) h fun w h=>?_
  rw[show IntKind.i64.wrap (0+1)=1 from by decide];refine jK (i:=1) (kind:=1) (obj:=0) (gT g1) h fun w h=>?_
  rw[show IntKind.i64.wrap (1+1)=2 from by decide];refine ⟨s,h.ao rfl, ?_⟩;intro l36 hl36
  have loop:∀(ps:List Int) (j:Nat) (k:ai) (w:World),prios.drop j=ps->j+ps.length=c->pT c (2+j) k->k.t.bA.length=j->ai.uC ps j k=ai.uC prios 0 (((ai.kf c bits).eI 0 2 0).eI 1 1 0)->
    Ow B w0 w (mN kb 1 c k::aa cb [.z c, .z bits, .z lines, .slice s.a s.len s.cap]::L)->l36 ((2+j:Nat):Int) (j:Int) w:=by
   intro ps
   induction ps with
   |nil=>
    intro j k w hd hj g ht he h;have hj:j=c:=hj;have he:k=_:=he;apply hl36;refine aE om ?_;refine jK (i:=((2+j:Nat):Int)) (kind:=8) (obj:=0) (gT g) h fun w h=>?_
    refine ⟨_,h.ao rfl, ?_⟩;intro l61 hl61;have g3:=g.space om
    have lines_loop:∀(q t:Nat) (k:ai) (w:World),t+q=lines->pT c (3+c+t) k->ai.uB q t (3+prios.length) k=ai.iu c bits lines prios->k.t.bA.length=c->Ow B w0 w (mN kb 1 c k::aa cb [.z c, .z bits, .z lines, .slice s.a s.len s.cap]::L)->l61 ((3+c+t:Nat):Int) (t:Int) w:=by
     intro q
     induction q with
     |zero=>
      intro t k w hq g he ht h;have he:k=ai.iu c bits lines prios:=he;apply hl61;refine aE om ?_;refine hK kb w ?_;rw[←he]
      have h2:mN kb 1 c k=aj kb k:=by
       unfold mN aj;rw[ht,g.bits];rfl
      rw[h2] at h;exact h.sub
     |succ q ih=>
      intro t k w hq g he ht h;apply hl61;refine aR om ?_;refine jK (i:=((3+c+t:Nat):Int)) (kind:=9) (obj:=(t:Int)) (gT g) h fun w h=>?_
      rw[show IntKind.i64.wrap (((3+c+t:Nat):Int)+1)=((3+c+(t+1):Nat):Int) from by rw[wr om om];omega,
       show IntKind.i64.wrap ((t:Int)+1)=((t+1:Nat):Int) from by rw[wr om om];omega]
      refine ih (t+1) _ w om (g.line om om) ?_ ht h;rw[←he,b7];rfl
    have hi:IntKind.i64.wrap (((2+j:Nat):Int)+1)=((3+c+0:Nat):Int):=by rw[wr om om];omega
    rw[hi];refine lines_loop lines 0 (k.eI ((2+j:Nat):Int) 8 0) w om (show pT c (3+c+0) (k.eI ((2+j:Nat):Int) 8 0) from by rw[show 3+c+0=2+j+1 from by omega];exact g3) ?_ (ht.trans hj) h;unfold ai.iu;rw[←he,hj,b7]
   |cons p ps ih=>
    intro j k w hd hj g ht he h;rw[List.length_cons] at hj
    have hx:prios[j]?=some p:=by
     have:=congrArg (fun l=>l[0]?) hd;simpa using this
    have hp:0≤p/\p<256:=b8 p (List.mem_of_getElem? hx);obtain ⟨g3,g4,g5⟩:=g.Fl om b2 ht hp;apply hl36;refine aR om ?_;refine h.dZ (s:=s) (i:=(j:Int)) (j:=j) rfl hx fun a ha h0 hcc=>⟨_,h0 _ rfl, ?_⟩
    obtain ⟨bt,Y,h,hc2,_,hback⟩:=Ec h;refine ⟨_,rfl,_,hc2, ?_⟩;refine zJ g.ok.inv.ok h fun w h=>?_
    refine ⟨_,rfl,_,(hback _ w _ h).1, ?_⟩;have i1:=g.ok.inv.cU p (j:Int);refine Th.tg i1.ok h fun w h=>?_
    refine ⟨_,rfl,_,(hback _ w _ h).1, ?_⟩;refine Th.gD (i1.resume _).ok h fun w h=>?_
    have h:=(hback _ w _ h).2;refine jK (k:=k.cu (((k.t.cU p (j:Int)).2.2.cI (k.t.cU p (j:Int)).1).2.bK (j:Int))) (i:=((2+j:Nat):Int)) (kind:=3) (obj:=(k.t.cU p (j:Int)).1) (show k.T.length<1000000 from gT g) h fun w h=>?_
    rw[show IntKind.i64.wrap (((2+j:Nat):Int)+1)=((2+(j+1):Nat):Int) from by rw[wr om om];omega,
     show IntKind.i64.wrap ((j:Int)+1)=((j+1:Nat):Int) from by rw[wr om om];omega]
    refine ih (j+1) _ w ?_ om g3 g4 (he▸rfl) h;rw[←List.drop_drop,hd];rfl
  exact loop prios 0 _ w rfl om g2 rfl rfl h
 refine h.dr fun w h=>?_
 refine ⟨_,h.ao rfl,_,h.aq rfl, ?_, ?_,trivial⟩
 ·refine Sl.lQ h fun n w h=>?_
  refine ⟨h.aq rfl,h.ao rfl, ?_, ?_,trivial⟩
  ·refine Tr.jr h fun tr w h=>?_
   refine ⟨h.aq rfl,h.ao rfl, ?_, ?_,trivial⟩
   ·refine h.a fun ub v1 h=>?_;refine ⟨?_,trivial⟩;refine Tb.gF h fun sp w h=>?_
    refine ⟨h.aq rfl, ?_,trivial⟩;refine h.al fun v2 h=>⟨?_,trivial⟩
    generalize w.heap.size=pb at h⊢;refine h.a fun kb v3 h=>?_;exact fin kb n tr ub sp pb _ h.sub
   ·refine Tb.gF h fun sp w h=>?_
    refine ⟨h.aq rfl,h.ao rfl, ?_, ?_,trivial⟩
    ·refine h.al fun v1 h=>⟨?_,trivial⟩
     generalize w.heap.size=ub at h⊢;refine h.al fun v2 h=>⟨?_,trivial⟩
     generalize v1.heap.size=pb at h⊢;refine h.a fun kb v3 h=>?_;exact fin kb n tr ub sp pb _ h.sub
    ·refine h.al fun v1 h=>⟨?_,trivial⟩
     generalize w.heap.size=pb at h⊢;refine h.al fun v2 h=>⟨?_,trivial⟩
     generalize v1.heap.size=ub at h⊢;refine h.a fun kb v3 h=>?_;exact fin kb n tr ub sp pb _ h.sub
  ·refine h.al fun v1 h=>⟨?_,trivial⟩
   generalize w.heap.size=ub at h⊢;refine Tr.jr h fun tr w h=>?_
   refine ⟨h.aq rfl, ?_,trivial⟩;refine Tb.gF h fun sp w h=>?_
   refine ⟨h.aq rfl, ?_,trivial⟩;refine h.al fun v2 h=>⟨?_,trivial⟩
   generalize w.heap.size=pb at h⊢;refine h.a fun kb v3 h=>?_;exact fin kb n tr ub sp pb _ h.sub
 ·refine h.al fun v1 h=>⟨?_,trivial⟩
  generalize w.heap.size=ub at h⊢;refine Sl.lQ h fun n w h=>?_
  refine ⟨h.aq rfl, ?_,trivial⟩;refine Tr.jr h fun tr w h=>?_
  refine ⟨h.aq rfl, ?_,trivial⟩;refine Tb.gF h fun sp w h=>?_
  refine ⟨h.aq rfl, ?_,trivial⟩;refine h.al fun v2 h=>⟨?_,trivial⟩
  generalize w.heap.size=pb at h⊢;refine h.a fun kb v3 h=>?_;exact fin kb n tr ub sp pb _ h.sub
end
end Go.Proofs.YtlhljbbfckbjpaaGreat
end
section
set_option maxRecDepth 8000
namespace Go.Proofs.YtlhljbbfckbjpaaGreat.Mc
open Go Go.Vc Go.Proofs
theorem y5 {p:Nat} {x':oJ × Sl}:∀(ps:List Nat) (xs:List (oJ × Sl)) (j:Nat),ps[j]?=some p->jf ps (xs.set j x')=(jf ps xs).set j (cm p x')
 | [],xs,j,h=>by simp at h
 |_::_,[],j,_=>by cases j<;>simp
 |s::ps,r::xs,0,h=>by simp at h;subst h;simp
 |s::ps,r::xs,j+1,h=>by simp[y5 ps xs j (by simpa using h)]
section
variable {B:Nat} {w0 w:World} {R L:List aA} {b nc N g:Nat} {m:bz}
theorem focus (hm:bW nc N g m) {n:Int} (h0:0≤n) (h1:n<(nc:Int)) (h:Ow B w0 w (dh b m::R)):
  ∃(x:Mx) (p:Nat) (fs:Sl) (Y:aA),(jf x.ps x.xs)[n.toNat]?=some (cm p (m.ag n,fs))/\(jf x.ps x.xs).length=nc/\
   Ow B w0 w (aa b (da x)::aj x.k m.k::aQ x.l nc m.line::cX x.b m.bx::ah ct x.cs (jf x.ps x.xs)::eA p m.room (m.ag n).tl::ah aw fs (m.ag n).told.forget::Y::ah bJ x.pr m.prog::R)/\
   ∀(R':List aA) (m':bz) (c':oJ) (fs':Sl) (w':World),m'.cs=m.cs.set n.toNat c'->m'.room=m.room->m'.prog=m.prog->
    Ow B w0 w' (aa b (da x)::aj x.k m'.k::aQ x.l nc m'.line::cX x.b m'.bx::ah ct x.cs ((jf x.ps x.xs).set n.toNat (cm p (c',fs')))::eA p m.room c'.tl::ah aw fs' c'.told.forget::Y::ah bJ x.pr m.prog::R')->Ow B w0 w' (dh b m'::R'):=by
 obtain ⟨x,hx,h⟩:=ye h;have hcs:=hm.cs;rw[hcs] at h;obtain ⟨c1,_⟩:=hm.F9 h0 h1;have hxl:x.xs.length=nc:=by rw[←hcs,←hx,List.length_map]
 have hpl:x.ps.length=x.xs.length:=Ow.eQ (h.pick (A:=ar (dW m.room) x.ps x.xs));have hlt:n.toNat<nc:=by omega
 have hp:x.ps[n.toNat]?=some x.ps[n.toNat]:=gE om;generalize x.ps[n.toNat]=p at hp;have hxn:x.xs[n.toNat]?=some x.xs[n.toNat]:=gE om
 have ec:x.xs[n.toNat].1=m.ag n:=by
  rw[←hx,List.getElem?_map,hxn] at c1;exact Option.some.inj c1
 generalize hy:x.xs[n.toNat]=y at hxn ec;obtain ⟨c,fs⟩:=y;dsimp only at ec;subst ec;refine ⟨x,p,fs,bh ((List.zipWith (dW m.room) x.ps x.xs).eraseIdx n.toNat), ?_, ?_, ?_,fun R' m' c' fs' w' e1 e2 e3 h=>?_⟩
 ·rw[List.getElem?_zipWith,hp,hxn]
 ·rw[List.length_zipWith];omega
 ·have h2:=Ow.zW (h.pick (A:=ar (dW m.room) x.ps x.xs)) hp hxn
  have h3:Ow B w0 w (bh [eA p m.room (m.ag n).tl,ah aw fs (m.ag n).told.forget]::bh ((List.zipWith (dW m.room) x.ps x.xs).eraseIdx n.toNat)::aa b (da x)::aj x.k m.k::aQ x.l nc m.line::cX x.b m.bx::ah ct x.cs (jf x.ps x.xs)::ah bJ x.pr m.prog::R):=h2;have h4:Ow B w0 w (eA p m.room (m.ag n).tl::ah aw fs (m.ag n).told.forget::bh ((List.zipWith (dW m.room) x.ps x.xs).eraseIdx n.toNat)::aa b (da x)::aj x.k m.k::aQ x.l nc m.line::cX x.b m.bx::ah ct x.cs (jf x.ps x.xs)::ah bJ x.pr m.prog::R):=h3.star;exact h4.sub
 ·rw[←y5 _ _ _ hp] at h
  have h2:Ow B w0 w' (eA p m.room c'.tl::ah aw fs' c'.told.forget::bh ((List.zipWith (dW m.room) x.ps x.xs).eraseIdx n.toNat)::aa b (da x)::aj x.k m'.k::aQ x.l nc m'.line::cX x.b m'.bx::ah ct x.cs (jf x.ps (x.xs.set n.toNat (c',fs')))::ah bJ x.pr m.prog::R'):=h.sub;have h3:Ow B w0 w' (dW m.room p (c',fs')::bh ((List.zipWith (dW m.room) x.ps x.xs).eraseIdx n.toNat)::aa b (da x)::aj x.k m'.k::aQ x.l nc m'.line::cX x.b m'.bx::ah ct x.cs (jf x.ps (x.xs.set n.toNat (c',fs')))::ah bJ x.pr m.prog::R'):=Ow.aY h2;have h4:=Ow.dp (A:=dW m.room) hpl hp h3;refine lH { x with xs:=x.xs.set n.toNat (c',fs')} ?_ ?_
  ·dsimp only
   rw[List.map_set,hx,e1]
  ·rw[e2,e3,e1,List.length_set,hcs]
   exact h4.sub
theorem uG {s:Sl} {xs:List Cm} {y:Cm} {n:Int} {G:Addr->Prop} [I:bT s L Cm ct xs] (h:Ow B w0 w L) (h0:0≤n) (hy:xs[n.toNat]?=some y)
  (hG:∀a,s.a=some a->(∀v,(ct.enc y)[0]?=some v->w.cell? (a.add (n.toNat*7))=some v)->(∀c v,(ct.enc y)[c]?=some v->w.cell? ((a.add (n.toNat*7)).add c)=some v)->G a):
  ∃a,s.a=some a/\0≤n/\n<(s.len:Int)/\G a:=h.dZ (s:=s) (show n=((n.toNat:Nat):Int) by omega) hy hG
theorem gp {s:Sl} {xs:List Cm} {y:Cm} {n:Int} [I:bT s L Cm ct xs] (h:Ow B w0 w L) (h0:0≤n) (hy:xs[n.toNat]?=some y) {a:Addr} (ha:s.a=some a):
  (∀v,(ct.enc y)[0]?=some v->w.cell? (a.add (n.toNat*7))=some v)/\(∀c v,(ct.enc y)[c]?=some v->w.cell? ((a.add (n.toNat*7)).add c)=some v):=h.H4 (s:=s) (show n=((n.toNat:Nat):Int) by omega) hy ha
theorem jQ {c:Nat} {K:Int->Int->Int->Int->Int->Int->Sl->Int->Int->Bool->Pw} {l:List Value} (hl:l.length=10) (h:Ow B w0 w (aa c l::R)) (hK:∀w',Ow B w0 w' R->K 0 0 0 0 0 0 ⟨none,0,0⟩ 0 0 false w'):
  aH w ⟨c,0,none⟩ 0 [.z (0:Int), .z (0:Int), .z (0:Int), .z (0:Int), .y (0:Int), .z (0:Int), .slice none 0 0, .z (0:Int), .z (0:Int), .bool false] fun yU=>
   az yU ⟨c,0,none⟩ 0 [.o, .o, .o, .o, .u, .o, .s, .o, .o, .b] fun (r46:Int) (r47:Int) (r48:Int) (r49:Int) (r50:Int) (r51:Int) (r52:Sl) (r53:Int) (r54:Int) (r55:Bool)=>
   K r46 r47 r48 r49 r50 r51 r52 r53 r54 r55 yU:=by
 obtain ⟨v0,v1,v2,v3,v4,v5,v6,v7,v8,v9,rfl⟩:∃v0 v1 v2 v3 v4 v5 v6 v7 v8 v9,l= [v0,v1,v2,v3,v4,v5,v6,v7,v8,v9]:=by
  match l,hl with
  | [v0,v1,v2,v3,v4,v5,v6,v7,v8,v9],_=>exact ⟨v0,v1,v2,v3,v4,v5,v6,v7,v8,v9,rfl⟩
 refine h.ax rfl rfl fun w h=>?_
 (try dsimp only[putAt,List.set_cons_zero,List.set_cons_succ] at h)
 refine h.nZ (x6:=(⟨none,0,0⟩:Sl)) rfl ?_;exact hK w h.drop
theorem eH {c:Nat} {K:Int->Int->Int->Int->Int->Int->Sl->Int->Int->Bool->Pw} {l:List Value} {k n i e w1 wk p q:Int} {fs:Sl} {is:Bool} (hl:l.length=10) (h:Ow B w0 w (aa c l::R)) (hK:∀w',Ow B w0 w' R->K k n i e w1 wk fs p q is w'):
  aH w ⟨c,0,none⟩ 0 [.z k, .z n, .z i, .z e, .y w1, .z wk, .slice fs.a fs.len fs.cap, .z p, .z q, .bool is] fun yU=>
   az yU ⟨c,0,none⟩ 0 [.o, .o, .o, .o, .u, .o, .s, .o, .o, .b] fun (r46:Int) (r47:Int) (r48:Int) (r49:Int) (r50:Int) (r51:Int) (r52:Sl) (r53:Int) (r54:Int) (r55:Bool)=>
   K r46 r47 r48 r49 r50 r51 r52 r53 r54 r55 yU:=by
 obtain ⟨v0,v1,v2,v3,v4,v5,v6,v7,v8,v9,rfl⟩:∃v0 v1 v2 v3 v4 v5 v6 v7 v8 v9,l= [v0,v1,v2,v3,v4,v5,v6,v7,v8,v9]:=by
  match l,hl with
  | [v0,v1,v2,v3,v4,v5,v6,v7,v8,v9],_=>exact ⟨v0,v1,v2,v3,v4,v5,v6,v7,v8,v9,rfl⟩
 refine h.ax rfl rfl fun w h=>?_
 (try dsimp only[putAt,List.set_cons_zero,List.set_cons_succ] at h)
 refine h.nZ (x6:=fs) rfl ?_;exact hK w h.drop
theorem Bd {x:Item} {c:Int} {K:Bool->Pw} (h:Ow B w0 w R) (hK:∀w',Ow B w0 w' R->K (bj x c) w'):C.qcm x.kind x.core x.a x.b c K w:=by
 apply S.qcm0;refine h.a fun d w1 h=>?_
 have byt:∀(n:Int) (w:World) (Q:Bool->Pw),Q (decide (0≤n/\n≤255)) w->bY Tryz.prog (.func (.func 36) #[] #[]) [.z n] w fun en w'=>∃r:Bool,en= .returned (.bool r)/\Q r w':=fun n w Q hQ=>by
  refine aP ?_;show C.qcS n Q w;apply S.qcS0;refine dD (fun e=>?_) (fun e=>?_)
  ·rw[show decide (n≤255)=decide (0≤n/\n≤255) from by rw[decide_eq_decide];omega]
   exact hQ
  ·rw[decide_eq_false (show ¬(0≤n/\n≤255) by omega)] at hQ
   exact hQ
 have no:∀w,Ow B w0 w (aa d [.z x.kind, .z x.core, .z x.a, .z x.b]::R)->¬(0≤x.kind/\x.kind<4/\0≤x.core/\x.core<min c 8/\(0≤x.a/\x.a≤255)/\(0≤x.b/\x.b≤255))->K false w:=fun w h e=>by
  have e2:bj x c=false:=decide_eq_false e;rw[e2] at hK;exact hK w h.drop
 refine ⟨_,h.aq rfl, ?_⟩;refine dD (fun e1=>?_) (fun e=>no _ h om);refine ⟨_,h.aq rfl, ?_⟩;refine dD (fun e2=>?_) (fun e=>no _ h om);refine ⟨_,h.ao rfl, ?_⟩;refine dD (fun e3=>?_) (fun e=>no _ h om);refine ⟨_,h.ao rfl, ?_⟩;rw[show ic c 8=min c 8 from by unfold ic;omega];refine dD (fun e4=>?_) (fun e=>no _ h om);refine ⟨_,h.ao rfl, ?_⟩;refine byt _ _ _ ?_;refine dD (fun e5=>?_) (fun e=>no _ h om);refine ⟨_,h.ao rfl, ?_⟩;refine byt _ _ _ ?_
 have e6:bj x c=decide (0≤x.b/\x.b≤255):=by
  unfold bj;rw[decide_eq_decide];omega
 rw[e6] at hK;exact hK _ h.drop
theorem free_spec {K:Bool->Pw} (hm:bW nc N g m) (h:Ow B w0 w (dh b m::R)) (hK:∀w',Ow B w0 w' (dh b m::R)->K m.line.isEmpty w'):C.qaH (some ⟨b,0,none⟩) K w:=by
 apply S.qaH0;obtain ⟨x,hx,h⟩:=ye h;refine ⟨_,rfl,_,h.ao rfl, ?_⟩;refine oZ (by have:=hm.cs;have:=hm.n8;omega) (h.pick (A:=aQ x.l m.cs.length m.line)) fun v w h=>?_
 rw[Bool.not_not];exact hK w (lH x hx h.sub)
theorem Gg {n:Int} {K:Bool->Pw} (hm:bW nc N g m) (h:Ow B w0 w (dh b m::R)) (hK:K (decide (0≤n/\n<(nc:Int))) w):C.qbk (some ⟨b,0,none⟩) n K w:=by
 apply S.qbk0;obtain ⟨x,hx,h⟩:=ye h;have hxl:x.xs.length=nc:=by rw[←hm.cs,←hx,List.length_map]
 have hpl:x.ps.length=x.xs.length:=Ow.eQ (h.pick (A:=ar (dW m.room) x.ps x.xs));have hlen:=h.br x.cs;rw[List.length_zipWith] at hlen;refine dD (fun e=>?_) (fun e=>?_)
 ·refine ⟨_,rfl,_,h.ao rfl, ?_⟩
  rw[show decide (n<(x.cs.len:Int))=decide (0≤n/\n<(nc:Int)) from by rw[decide_eq_decide];omega];exact hK
 ·rw[decide_eq_false (show ¬(0≤n/\n<(nc:Int)) by omega)] at hK
  exact hK
end
theorem vZ {w:World} {a:Addr} {x:Int × Tb.Pg} {f:Int->Int->Int->Prop} (g:∀c v,(Tb.de.enc x)[c]?=some v->w.cell? (a.add c)=some v) (hf:f x.1 x.2.1 x.2.2):
  az w a 0 [.o, .o, .o] f:=⟨_,g 0 _ rfl,_,g 1 _ rfl,_,g 2 _ rfl,hf⟩
theorem iq (a:Addr) (i j:Nat):(a.add i).add j=a.add (i+j):=by
 unfold Addr.add;by_cases hj:j=0
 ·subst hj;simp
 ·by_cases hi:i=0
  ·subst hi;simp[hj]
  ·simp[hi,hj,Nat.add_assoc]
section
variable {B:Nat} {w0 w:World} {R L:List aA} {s:Sl} {xs:List (Int × Tb.Pg)}
theorem r9 {p:(Int × Tb.Pg)->Bool} {f:Value} {K:Int->Pw} [I:bT s L (Int × Tb.Pg) Tb.de xs] (h:Ow B w0 w L) (hbig:xs.length≤1000000000)
  (hf:∀(y:(Int × Tb.Pg)) (w:World) (Q:Bool->Pw),Ow B w0 w L->(∀w',Ow B w0 w' L->Q (p y) w')->bY Tryz.prog f [.agg ⟨Tb.de.enc y⟩] w fun en w'=>∃r:Bool,en= .returned (.bool r)/\Q r w')
  (hK:∀w',Ow B w0 w' L->K (cN p xs) w'):C.qt s f K w:=by
 apply S.qt0;have hlen:=h.br s;intro l hl
 have loop:∀(rest:List (Int × Tb.Pg)) (j:Nat) (w:World),xs.drop j=rest->j≤xs.length->(∀i,i<j->∀y,xs[i]?=some y->p y=false)->Ow B w0 w L->l (j:Int) w:=by
  intro rest
  induction rest with
  |nil=>
   intro j w hj hjl hno h;have:xs.length≤j:=by have:=congrArg List.length hj;simp at this;omega
   apply hl;refine aE om ?_
   have hn:xs.findIdx? p=none:=by
    rw[List.findIdx?_eq_none_iff];intro y hy;obtain ⟨i,hi⟩:=List.mem_iff_getElem?.1 hy;exact hno i (by have:=(List.getElem?_eq_some_iff.1 hi).1;omega) y hi
   have e:cN p xs= -1:=by unfold cN;rw[hn]
   rw[←e];exact hK _ h
  |cons y rest ih=>
   intro j w hj hjl hno h;have hjl2:j<xs.length:=by have:=congrArg List.length hj;simp at this;omega
   have hx:xs[j]?=some y:=by
    have:=congrArg (fun l=>l[0]?) hj;simpa using this
   apply hl;refine aR om ?_;refine h.dZ rfl hx fun a ha h0 hc=>?_
   refine vZ hc ?_;refine hf y w _ h fun w h=>?_
   cases hp:p y with
   |true=>
    refine bN rfl ?_
    have hn:xs.findIdx? p=some j:=by
     rw[List.findIdx?_eq_some_iff_getElem];refine ⟨hjl2, ?_,fun i hi=>?_⟩
     ·rw[gE hjl2] at hx;cases hx;exact hp
     ·have:=hno i hi xs[i] (gE om)
      simp[this]
    have e:cN p xs=(j:Int):=by unfold cN;rw[hn]
    rw[←e];exact hK _ h
   |false=>
    refine bD rfl ?_;rw[wr om om];refine ih (j+1) w (by rw[←List.drop_drop,hj];rfl) om (fun i hi z hz=>?_) h;by_cases e:i=j
    ·subst e;rw[hx] at hz;cases hz;exact hp
    ·exact hno i om z hz
 exact loop xs 0 w rfl om (fun i hi=>by omega) h
end
abbrev OL (b nc:Nat) (x:Mx) (p:Nat) (fs:Sl) (Y:aA) (m:bz) (c:oJ) (Z:List Cm) (R:List aA):List aA:=
 aa b (da x)::aj x.k m.k::aQ x.l nc m.line::cX x.b m.bx::ah ct x.cs Z::eA p m.room c.tl::ah aw fs c.told.forget::Y::ah bJ x.pr m.prog::R
section
variable {B:Nat} {w0 w:World} {R L R':List aA} {b nc N g p:Nat} {m:bz} {x:Mx} {fs:Sl} {Y:aA} {c:oJ} {Z:List Cm} {n:Int}
theorem DV {α:Type} (q:α->Bool) (l:List α):(∀i,l.findIdx? q=some i->∃y,l[i]?=some y/\l.find? q=some y)/\(l.findIdx? q=none->l.find? q=none):=by
 constructor
 ·intro i hi
  obtain ⟨h1,h2,h3⟩:=List.findIdx?_eq_some_iff_getElem.1 hi;refine ⟨l[i],gE h1, ?_⟩;rw[List.find?_eq_some_iff_getElem];exact ⟨h2,i,h1,rfl,fun j hj=>by simpa using h3 j hj⟩
 ·intro h
  rw[List.findIdx?_eq_none_iff] at h;exact List.find?_eq_none.2 fun y hy=>by rw[h y hy];decide
theorem C6 {a8:Int} {K:Int->Int->Bool->Pw} [I:dA b L (da x)] [J:dG (aj x.k m.k) L R'] (hpg:(m.k.jh 0).length≤1000000000) (h:Ow B w0 w L)
  (hK:∀w',Ow B w0 w' (aj x.k m.k::R')->K ((m.walk a8).getD (0,0)).1 ((m.walk a8).getD (0,0)).2 (m.walk a8).isSome w'):C.qaM (some ⟨b,0,none⟩) a8 K w:=by
 apply S.qaM0;refine h.a fun c1 w1 h=>?_;refine h.a fun c2 w2 h=>?_;refine ⟨_,rfl,_,h.aq rfl, ?_⟩;have h:Ow B w0 w2 (aj x.k m.k::aa c2 [.z 0, .z 0]::aa c1 [.z a8]::R'):=h.pick (A:=aj x.k m.k);refine jT h fun s w h=>?_
 have hlen:=h.br s;refine r9 (s:=s) (xs:=m.k.jh 0) (p:=fun y=>y.1==a8) h hpg (fun y w Q h hQ=>aP ?_) fun w h=>?_
 ·show C.qaT y.1 y.2.1 y.2.2 ⟨c1,0,none⟩ Q w
  apply S.qaT0;refine h.a fun d w3 h=>?_;exact ⟨_,h.aq rfl,_,h.aq rfl,hQ _ h.drop⟩
 ·unfold bz.walk at hK
  obtain ⟨f1,f2⟩:=DV (fun y:Int × Tb.Pg=>y.1==a8) (m.k.jh 0);unfold cN;cases hi:(m.k.jh 0).findIdx? (fun y=>y.1==a8) with
  |none=>
   rw[f2 hi] at hK;refine aR (by decide) ?_;refine h.ax rfl rfl fun w h=>?_
   (try dsimp only[putAt,List.set_cons_zero,List.set_cons_succ] at h)
   refine h.aL rfl ?_;exact hK w h.sub
  |some i=>
   obtain ⟨y,hy,hf⟩:=f1 i hi;rw[hf] at hK;refine aE (by simp) ?_;refine h.dZ (s:=s) (i:=(i:Int)) (j:=i) rfl hy fun a ha hc0 hc=>?_
   refine ⟨_,by rw[iq];exact hc 1 _ rfl,_,by rw[iq];exact hc 2 _ rfl, ?_⟩;refine h.ax rfl rfl fun w h=>?_
   (try dsimp only[putAt,List.set_cons_zero,List.set_cons_succ] at h)
   refine h.aL rfl ?_;exact hK w h.sub
theorem Cr {a8:Int} {K:Int->Int->Int->Int->Int->Int->Sl->Int->Int->Bool->Bool->Pw} (h0:0≤n) (hZ:Z[n.toNat]?=some (cm p (c,fs))) (hr:1≤m.room) (ht:c.tl.length≤1000000) (hpg:(m.k.jh 0).length≤1000000000)
  (h:Ow B w0 w (OL b nc x p fs Y m c Z R))
  (hK:∀w',Ow B w0 w' (OL b nc x p fs Y m { c with tl:=(m.loadT a8 c.tl).2.2} Z R)->K 3 n a8 0 0 0 ⟨none,0,0⟩ (m.loadT a8 c.tl).1.1 (m.loadT a8 c.tl).1.2 (m.loadT a8 c.tl).2.1 true w'):C.qaK (some ⟨b,0,none⟩) n a8 K w:=by
 apply S.qaK0;refine h.a fun d w1 h=>?_;refine ⟨_,rfl,x.cs,h.ao rfl, ?_⟩;refine uG (s:=x.cs) h h0 hZ fun a ha hc0 hc=>⟨_,rfl,_,hc0 _ rfl, ?_⟩
 refine uq (b:=p) (l:=c.tl) (room:=m.room) ht (h.pick (A:=eA p m.room c.tl)) fun w h=>?_
 refine h.a fun e w2 h=>?_;refine h.ax rfl rfl fun w h=>?_
 (try dsimp only[putAt,List.set_cons_zero,List.set_cons_succ] at h)
 intro k16 hk16;unfold bz.loadT at hK;cases hl:look 0 a8 c.tl with
 |some q=>
  rw[hl] at h hK;refine bD rfl ?_;apply hk16;refine h.aL rfl ?_;have h:Ow B w0 w (aa d [.z 0, .z 0, .z 0, .z 0, .y 0, .z 0, .slice none 0 0, .z 0, .z 0, .bool false]::OL b nc x p fs Y m c Z R):=h.sub;exact eH (fs:=⟨none,0,0⟩) rfl h fun w h=>hK w h
 |none=>
  rw[hl] at h hK;refine bN rfl ?_;refine C6 (x:=x) (m:=m) hpg h fun w h=>?_
  refine h.ax rfl rfl fun w h=>?_
  (try dsimp only[putAt,List.set_cons_zero,List.set_cons_succ] at h)
  cases hw:m.walk a8 with
  |none=>
   rw[hw] at h hK;refine bD rfl ?_;apply hk16;refine h.aL rfl ?_;have h:Ow B w0 w (aa d [.z 0, .z 0, .z 0, .z 0, .y 0, .z 0, .slice none 0 0, .z 0, .z 0, .bool false]::OL b nc x p fs Y m c Z R):=h.sub;exact eH (fs:=⟨none,0,0⟩) rfl h fun w h=>hK w h
  |some q=>
   rw[hw] at h hK;refine bN rfl ?_;refine h.dr fun w h=>?_
   refine ⟨_,rfl,_,(gp (s:=x.cs) h h0 hZ ha).1 _ rfl, ?_⟩;refine h.aL rfl (Go.Vc.a2 ?_);refine uo (b:=p) (x:=⟨0,a8,q.1,q.2⟩) (l:=c.tl) (room:=m.room) hr ht (h.pick (A:=eA p m.room c.tl)) fun w h=>?_
   apply hk16;refine h.aL rfl ?_;have h:Ow B w0 w (aa d [.z 0, .z 0, .z 0, .z 0, .y 0, .z 0, .slice none 0 0, .z 0, .z 0, .bool false]::OL b nc x p fs Y m { c with tl:=fill m.room ⟨0,a8,q.1,q.2⟩ c.tl} Z R):=h.sub;exact eH (fs:=⟨none,0,0⟩) rfl h fun w h=>hK w h
theorem zB {K:Bool->Pw} (h0:0≤n) (h1:n<(m.bx.length:Int)) (h64:∀l∈m.bx,l.length≤64) (hZ:Z[n.toNat]?=some (cm p (c,fs))) (ht:c.tl.length≤1000000) (h:Ow B w0 w (OL b nc x p fs Y m c Z R))
  (hK0:m.box n= []->∀w',Ow B w0 w' (OL b nc x p fs Y m c Z R)->K false w')
  (hK1:∀y r,m.box n=y::r->∀w',Ow B w0 w' (OL b nc x p fs Y { m with bx:=m.bx.set n.toNat r} { c with tl:=drop (IntKind.i64.wrap (y.about.tdiv 4096)) (y.about.tmod 4096) c.tl} Z R)->K true w'):C.qav (some ⟨b,0,none⟩) n K w:=by
 apply S.qav0;refine ⟨_,rfl,_,h.ao rfl, ?_⟩;refine ue (bx:=m.bx) h0 h1 h64 (h.pick (A:=cX x.b m.bx)) (fun e w h=>?_) fun y r e w h=>?_
 ·refine h.a fun d w2 h=>?_;refine h.ax rfl rfl fun w h=>?_
  (try dsimp only[putAt,List.set_cons_zero,List.set_cons_succ] at h)
  refine bD rfl ?_;exact hK0 (by unfold bz.box;rw[e];rfl) w h.sub
 ·refine h.a fun d w2 h=>?_;refine h.ax rfl rfl fun w h=>?_
  (try dsimp only[putAt,List.set_cons_zero,List.set_cons_succ] at h)
  refine bN rfl ?_;refine h.dr fun w h=>?_
  refine ⟨_,rfl,x.cs,h.ao rfl, ?_⟩;refine uG (s:=x.cs) h h0 hZ fun a ha hc0 hc=>⟨_,hc0 _ rfl,_,h.ao rfl,by decide,_,h.ao rfl,by decide,Go.Vc.a2 ?_⟩
  refine mK (b:=p) (l:=c.tl) (room:=m.room) ht (h.pick (A:=eA p m.room c.tl)) fun v w h=>?_
  exact hK1 y r (by unfold bz.box;rw[e];rfl) w h.sub
theorem vo {e u wk:Int} {F:List dE} {K:Int->Int->Int->Sl->Pw} [I:bT fs L dE aw F] (hF:F.length≤1000000) (h:Ow B w0 w L)
  (hK:∀s w',Ow B w0 w' (ah aw s F::L)->K e u wk s w'):C.qcD e u wk fs K w:=by
 apply S.qcD0;refine h.a fun d w1 h=>?_;refine h.a fun d2 w2 h=>?_;refine ⟨fs,h.ao rfl, ?_⟩;refine Bw (s:=fs) h hF fun s w h=>?_
 refine h.cC rfl rfl fun w h=>?_
 (try dsimp only[putAt,List.set_cons_zero,List.set_cons_succ] at h)
 refine h.gH (x3:=s) rfl ?_;refine h.ax rfl rfl fun w h=>?_
 (try dsimp only[putAt,List.set_cons_zero,List.set_cons_succ] at h)
 refine h.gH (x3:=s) rfl ?_;exact hK s w h.sub
end
theorem Hw {w:World} {a:Addr} {x:Call} {f:Int->Int->Int->Int->Int->Int->Prop} (g:∀c v,(bJ.enc x)[c]?=some v->w.cell? (a.add c)=some v) (hf:f x.ask x.at_ x.ak x.a x.b x.c):
  az w a 0 [.o, .o, .o, .o, .o, .o] f:=⟨_,g 0 _ rfl,_,g 1 _ rfl,_,g 2 _ rfl,_,g 3 _ rfl,_,g 4 _ rfl,_,g 5 _ rfl,hf⟩
theorem lM (n:Int):∀(l:List dE) (b:List (List cP)),(sendAll n l b).length=b.length
 | [],b=>rfl
 |x::l,b=>by
  show (sendAll n l (iP n (iV x) b)).length=_;rw[lM n l,nL]
theorem tk (n:Int):∀(l:List dE) (b:List (List cP)),(∀r∈b,r.length≤64)->∀r∈sendAll n l b,r.length≤64
 | [],b,h=>h
 |x::l,b,h=>tk n l _ (Aw h)
theorem pX:∀(l t:List dE),(cq l t).length≤t.length
 | [],t=>Nat.le_refl _
 |x::l,t=>Nat.le_trans (pX l _) (lq x.space x.a8 t)
theorem vQ (l:List dE) (x:dE) (t:List dE):cq (l++ [x]) t=drop x.space x.a8 (cq l t):=by unfold cq;rw[List.foldl_append];rfl
theorem wD (n:Int) (l:List dE) (x:dE) (b:List (List cP)):sendAll n (l++ [x]) b=iP n (iV x) (sendAll n l b):=by unfold sendAll;rw[List.foldl_append];rfl
section
variable {B:Nat} {w0 w:World} {R L R':List aA} {b nc N g p:Nat} {m:bz} {x:Mx} {fs:Sl} {Y:aA} {c:oJ} {Z:List Cm} {n:Int} {s:Sl} {xs:List Cm} {y:Cm} {a:Addr}
theorem Hn {e u wk:Int} {f:Sl} {k:Pw} [I:bT s L Cm ct xs] [J:dG (ah ct s xs) L R'] (h:Ow B w0 w L) (h0:0≤n) (hy:xs[n.toNat]?=some y) (ha:s.a=some a)
  (hk:∀w',Ow B w0 w' (ah ct s (xs.set n.toNat ⟨y.p,y.aT,y.n,e,u,wk,f⟩)::R')->k w'):aH w ((a.add (n.toNat*7)).add 3) 0 [.z e, .y u, .z wk, .slice f.a f.len f.cap] k:=by
 have ei:n=((n.toNat:Nat):Int):=by omega
 have hlt:=(List.getElem?_eq_some_iff.1 hy).1;show St w (((a.add (n.toNat*7)).add 3).add 0) _ _;rw[iq];refine h.tp (s:=s) (E:=ct) (i:=n) ⟨y.p,y.aT,y.n,e,y.w,y.wk,y.fs⟩ ei hy ha rfl (by decide) rfl fun w h=>?_
 show St w (((a.add (n.toNat*7)).add 3).add 1) _ _;rw[iq];refine h.tp (s:=s) (E:=ct) (i:=n) ⟨y.p,y.aT,y.n,e,u,y.wk,y.fs⟩ ei (List.getElem?_set_self hlt) ha rfl (by decide) rfl fun w h=>?_
 show St w (((a.add (n.toNat*7)).add 3).add 2) _ _;rw[iq];refine h.tp (s:=s) (E:=ct) (i:=n) ⟨y.p,y.aT,y.n,e,u,wk,y.fs⟩ ei (List.getElem?_set_self (by rw[List.length_set];exact hlt)) ha rfl (by decide) rfl fun w h=>?_
 show St w (((a.add (n.toNat*7)).add 3).add 3) _ _;rw[iq];refine h.tp (s:=s) (E:=ct) (i:=n) ⟨y.p,y.aT,y.n,e,u,wk,f⟩ ei (List.getElem?_set_self (by rw[List.length_set,List.length_set];exact hlt)) ha rfl (by decide) rfl fun w h=>?_
 rw[List.set_set,List.set_set,List.set_set] at h;exact hk w h
theorem vP {v:Int} {k:Pw} [I:bT s L Cm ct xs] [J:dG (ah ct s xs) L R'] (h:Ow B w0 w L) (h0:0≤n) (hy:xs[n.toNat]?=some y) (ha:s.a=some a)
  (hk:∀w',Ow B w0 w' (ah ct s (xs.set n.toNat ⟨y.p,v,y.n,y.e,y.w,y.wk,y.fs⟩)::R')->k w'):St w ((a.add (n.toNat*7)).add 1) (.z v) k:=
 h.tp (s:=s) (E:=ct) (i:=n) ⟨y.p,v,y.n,y.e,y.w,y.wk,y.fs⟩ (show n=((n.toNat:Nat):Int) by omega) hy ha rfl (by decide) rfl hk
theorem Hm {v:Int} {k:Pw} [I:bT s L Cm ct xs] [J:dG (ah ct s xs) L R'] (h:Ow B w0 w L) (h0:0≤n) (hy:xs[n.toNat]?=some y) (ha:s.a=some a)
  (hk:∀w',Ow B w0 w' (ah ct s (xs.set n.toNat ⟨y.p,y.aT,v,y.e,y.w,y.wk,y.fs⟩)::R')->k w'):St w ((a.add (n.toNat*7)).add 2) (.z v) k:=
 h.tp (s:=s) (E:=ct) (i:=n) ⟨y.p,y.aT,v,y.e,y.w,y.wk,y.fs⟩ (show n=((n.toNat:Nat):Int) by omega) hy ha rfl (by decide) rfl hk
theorem AE {f:Int->Int->Int->Sl->Prop} [I:bT s L Cm ct xs] (h:Ow B w0 w L) (h0:0≤n) (hy:xs[n.toNat]?=some y) (ha:s.a=some a) (hf:f y.e y.w y.wk y.fs):
  az w ((a.add (n.toNat*7)).add 3) 0 [.o, .u, .o, .s] f:=by
 have g:=(gp (s:=s) h h0 hy ha).2;exact ⟨_,by rw[iq];exact g 3 _ rfl,_,by rw[iq];exact g 4 _ rfl,_,by rw[iq];exact g 5 _ rfl,y.fs,by rw[iq];exact g 6 _ rfl,hf⟩
set_option maxHeartbeats 1000000 in
theorem DP {call:Call} {K:Int->Int->Int->Int->Int->Int->Sl->Int->Int->Bool->Pw} (h0:0≤n) (h1:n<(m.bx.length:Int)) (h8:m.bx.length≤8) (h64:∀l∈m.bx,l.length≤64) (hZ:Z[n.toNat]?=some (cm p (c,fs))) (ht:c.tl.length≤1000000)
  (hn0:0≤c.n) (hpr:m.prog[c.n.toNat]?=some call) (hk:aW N m.k) (hN:N+64≤100000) (hw0: -9223372036854775808≤call.ak) (hw1:call.ak<9223372036854775808) (hF:(m.k.do n call).1.forget.length≤1000000)
  (h:Ow B w0 w (OL b nc x p fs Y m c Z R))
  (hK:∀s fs' w',Ow B w0 w' (ah aw s (m.k.do n call).1.forget::OL b nc x p fs' Y { m with k:=(m.k.do n call).2,bx:=sendAll n (m.k.do n call).1.forget m.bx} ⟨cq (m.k.do n call).1.forget c.tl,3,c.n,(m.k.do n call).1⟩ (Z.set n.toNat (cm p (⟨cq (m.k.do n call).1.forget c.tl,3,c.n,(m.k.do n call).1⟩,fs'))) R)->
   K 1 n c.n (m.k.do n call).1.e (m.k.do n call).1.w (m.k.do n call).1.dg s 0 0 false w'):C.qaW (some ⟨b,0,none⟩) n K w:=by
 apply S.qaW0;refine h.a fun d w1 h=>?_;have hlt:=(List.getElem?_eq_some_iff.1 hZ).1;refine ⟨_,rfl,x.cs,h.ao rfl, ?_⟩;refine uG (s:=x.cs) h h0 hZ fun a ha hc0 hc=>?_
 refine h.dr fun w h=>?_
 refine ⟨_,rfl,_,h.aq rfl,_,rfl,x.pr,h.ao rfl,_,rfl,c.n,(gp (s:=x.cs) h h0 hZ ha).2 2 _ rfl, ?_⟩;refine h.dZ (s:=x.pr) (show c.n=((c.n.toNat:Nat):Int) by omega) hpr fun a2 ha2 hd0 hd=>?_
 refine Hw hd (Go.Vc.a2 ?_);refine FK (c:=call) hk hN hw0 hw1 (h.pick (A:=aj x.k m.k)) fun fs' w h=>⟨_,rfl,Go.Vc.a2 ?_⟩
 generalize (m.k.do n call).1=told at*
 generalize (m.k.do n call).2=k' at*
 refine Hn (s:=x.cs) h h0 hZ ha fun w h=>?_
 have hZ1:(Z.set n.toNat ⟨p,c.aT,c.n,told.e,told.w,told.dg,fs'⟩)[n.toNat]?=some ⟨p,c.aT,c.n,told.e,told.w,told.dg,fs'⟩:=List.getElem?_set_self hlt;have hset:∀q,(Z.set n.toNat ⟨p,c.aT,c.n,told.e,told.w,told.dg,fs'⟩).set n.toNat q=Z.set n.toNat q:=fun q=>List.set_set ..
 have h:Ow B w0 w (ah ct x.cs (Z.set n.toNat ⟨p,c.aT,c.n,told.e,told.w,told.dg,fs'⟩)::_):=h;generalize Z.set n.toNat ⟨p,c.aT,c.n,told.e,told.w,told.dg,fs'⟩=Z1 at h hZ1 hset;refine ⟨_,rfl,fs',by rw[iq];exact (gp (s:=x.cs) h h0 hZ1 ha).2 6 _ rfl, ?_⟩;have hflen:=h.br fs';intro l hl
 have loop:∀(rest pre:List dE) (w:World),told.forget=pre++rest->Ow B w0 w (aa d [.z 0, .z 0, .z 0, .z 0, .y 0, .z 0, .slice none 0 0, .z 0, .z 0, .bool false]::ah aw fs' told.forget::aa b (da x)::aj x.k k'::aQ x.l nc m.line::cX x.b (sendAll n pre m.bx)::ah ct x.cs Z1::eA p m.room (cq pre c.tl)::Y::ah bJ x.pr m.prog::R)->l (pre.length:Int) w:=by
  intro rest
  induction rest with
  |nil=>
   intro pre w hp h;rw[List.append_nil] at hp;subst hp;apply hl;refine aE om ⟨_,rfl, ?_⟩;refine vP (s:=x.cs) h h0 hZ1 ha fun w h=>?_
   rw[hset] at h;have hZ2:(Z.set n.toNat ⟨p,3,c.n,told.e,told.w,told.dg,fs'⟩)[n.toNat]?=some ⟨p,3,c.n,told.e,told.w,told.dg,fs'⟩:=List.getElem?_set_self hlt;refine h.dr fun w h=>?_
   refine ⟨_,rfl,_,rfl, ?_⟩;refine AE (s:=x.cs) h h0 hZ2 ha ?_;refine ⟨_,(gp (s:=x.cs) h h0 hZ2 ha).2 2 _ rfl,Go.Vc.a2 ?_⟩;refine vo (F:=told.forget) hF h fun s2 w h=>⟨(gp (s:=x.cs) h h0 hZ2 ha).2 2 _ rfl,Go.Vc.a2 ?_⟩
   have h:Ow B w0 w (aa d [.z 0, .z 0, .z 0, .z 0, .y 0, .z 0, .slice none 0 0, .z 0, .z 0, .bool false]::ah aw s2 told.forget::aa b (da x)::aj x.k k'::aQ x.l nc m.line::cX x.b (sendAll n told.forget m.bx)::ah ct x.cs (Z.set n.toNat ⟨p,3,c.n,told.e,told.w,told.dg,fs'⟩)::eA p m.room (cq told.forget c.tl)::ah aw fs' told.forget::Y::ah bJ x.pr m.prog::R):=h.sub;exact eH (fs:=s2) rfl h fun w h=>hK s2 fs' w h
  |cons z rest ih=>
   intro pre w hp h;have hlen2:told.forget.length=pre.length+(rest.length+1):=by rw[hp];simp
   have hz:told.forget[pre.length]?=some z:=by rw[hp];simp
   have htl:=pX pre c.tl;apply hl;refine aR om ?_;refine h.dZ (s:=fs') rfl hz fun a3 ha3 he0 he=>?_
   refine AS he ?_;refine h.a fun e w2 h=>?_;refine h.ax rfl rfl fun w h=>?_
   (try dsimp only[putAt,List.set_cons_zero,List.set_cons_succ] at h)
   refine h.dr fun w h=>?_
   refine ⟨_,rfl,_,(gp (s:=x.cs) h h0 hZ1 ha).1 _ rfl,_,h.aq rfl,_,h.ao rfl,Go.Vc.a2 ?_⟩;refine mK (b:=p) (l:=cq pre c.tl) (room:=m.room) om (h.pick (A:=eA p m.room (cq pre c.tl))) fun v w h=>?_
   refine h.dr fun w h=>?_
   refine ⟨_,rfl,_,h.ao rfl,_,h.aq rfl,_,h.ao rfl,Go.Vc.a2 ?_⟩;refine vH (bx:=sendAll n pre m.bx) h0 (by rw[lM];exact h1) (by rw[lM];exact h8) (tk n pre _ h64) (h.pick (A:=cX x.b (sendAll n pre m.bx))) fun v2 w h=>?_
   rw[show IntKind.i64.wrap ((pre.length:Int)+1)=(((pre++ [z]).length:Nat):Int) from by rw[wr om om,List.length_append];rfl];refine ih (pre++ [z]) w (by rw[hp];simp) ?_;rw[vQ,wD];have h:Ow B w0 w (cX x.b (iP n (iV z) (sendAll n pre m.bx))::_):=h;exact h.sub
 have h2:Ow B w0 w (aa d [.z 0, .z 0, .z 0, .z 0, .y 0, .z 0, .slice none 0 0, .z 0, .z 0, .bool false]::ah aw fs' told.forget::aa b (da x)::aj x.k k'::aQ x.l nc m.line::cX x.b m.bx::ah ct x.cs Z1::eA p m.room c.tl::Y::ah bJ x.pr m.prog::R):=h.sub;exact loop told.forget [] w rfl h2
end
def Dk (l:List Call):Prop:=∀c∈l, -9223372036854775808≤c.ak/\c.ak<9223372036854775808
theorem CR {α:Type} {l:List α} {j:Nat} {y:α} (h:l[j]?=some y):l.set j y=l:=by
 obtain ⟨p,q⟩:=List.getElem?_eq_some_iff.1 h;rw[←q];exact List.set_getElem_self p
section
variable {B:Nat} {w0 w:World} {R L R':List aA} {b nc N g p:Nat} {m:bz} {n:Int} {line:List Int}
theorem sC (hn:n.toNat<m.cs.length):(m.nF n).2={ m with k:=(m.k.do n (m.aC n)).2,bx:=sendAll n (m.k.do n (m.aC n)).1.forget m.bx,cs:=m.cs.set n.toNat ⟨cq (m.k.do n (m.aC n)).1.forget (m.ag n).tl,3,(m.ag n).n,(m.k.do n (m.aC n)).1⟩}:=by
 unfold bz.nF;dsimp only;rw[tv n _ _ (by show n.toNat<(m.cs.set _ _).length;rw[List.length_set];exact hn),oP (m:={ m with k:=(m.k.do n (m.aC n)).2}) hn];unfold bz.dx bz.ag;dsimp only;simp only[List.set_set,List.getElem?_set_self hn,Option.getD_some]
theorem wb {c:Int} {K:Int->Pw} (h0:0≤c) (h1:c<(nc:Int)) (h:Ow B w0 w (aQ b nc line::R))
  (hK:∀e w',Ow B w0 w' (aQ b nc (cZ line c)::R)->K e w'):C.qar (some ⟨b,0,none⟩) c K w:=by
 unfold cZ at hK;by_cases hc:c∈line
 ·rw[if_pos hc] at hK
  apply S.qar0;refine we h0 h1 h ?_;refine bD rfl ?_;obtain ⟨x,hx,h⟩:=p9 h;refine ⟨_,rfl,x.s,h.ao rfl, ?_⟩;obtain ⟨j,p,hj,hp,hb⟩:=hx.get hc;refine h.dZ (s:=x.s) (show c=((c.toNat:Nat):Int) by omega) hb fun a ha hc0 hcc=>⟨_,hc0 _ rfl, ?_⟩
  exact bN rfl (hK _ w (ml x hx h))
 ·rw[if_neg hc] at hK
  exact kB h0 h1 hc h fun w h=>hK _ w h
theorem wc {c:Int} {K:Int->Pw} (h0:0≤c) (h1:c<(nc:Int)) (h:Ow B w0 w (aQ b nc line::R))
  (hK:∀e w',Ow B w0 w' (aQ b nc (dJ line c)::R)->K e w'):C.qas (some ⟨b,0,none⟩) c K w:=by
 unfold dJ at hK;by_cases hc:line.head?=some c
 ·rw[if_pos hc] at hK
  cases line with
  |nil=>cases hc
  |cons d cs=>
   cases hc;exact kC h fun w h=>hK _ w h
 ·rw[if_neg hc] at hK
  apply S.qas0;refine eE h0 h1 h ?_;rw[show fG line c=false from decide_eq_false hc];refine y8 (fun e=>hK _ w h) (fun e=>?_);exact bN rfl (hK _ w h)
abbrev Dg (K:Int->Int->Int->Int->Int->Int->Sl->Int->Int->Bool->Bool->Pw) (r:Option Seen) (fs:Sl) (w:World):Prop:=
 K (r.getD gU).kind (r.getD gU).core (r.getD gU).n (r.getD gU).t.e (r.getD gU).t.w (r.getD gU).t.dg fs (r.getD gU).p.1 (r.getD gU).p.2 (r.getD gU).is r.isSome w
set_option maxHeartbeats 1000000 in
theorem CZ {K:Int->Int->Int->Int->Int->Int->Sl->Int->Int->Bool->Bool->Pw} (hm:bW nc N g m) (hN:N+64≤100000) (hg:g≤900000) (hpr:Dk m.prog) (h0:0≤n) (h1:n<(nc:Int)) (h:Ow B w0 w (dh b m::R))
  (hK:∀fs w',Ow B w0 w' (ah aw fs ((m.step n).1.getD gU).t.forget::dh b (m.step n).2::R)->Dg K (m.step n).1 fs w'):C.qaG (some ⟨b,0,none⟩) n K w:=by
 apply S.qaG0;refine h.a fun d w1 h=>?_;obtain ⟨x,p,fs,Y,hZ,hzl,h,back⟩:=focus hm h0 h1 h.dz;obtain ⟨hc1,hc2⟩:=hm.F9 h0 h1;have htl:=hm.tl _ hc2;have hr8:=hm.r8;have hfg:=hm.fg _ hc2;have hbx:=hm.bx;have hn8:=hm.n8;have hlt:n.toNat<m.cs.length:=(List.getElem?_eq_some_iff.1 hc1).1;refine ⟨_,rfl,x.cs,h.ao rfl, ?_⟩;refine uG (s:=x.cs) h h0 hZ fun a ha hc0 hc=>?_
 refine zB (m:=m) (x:=x) (p:=p) (fs:=fs) (Y:=Y) (c:=m.ag n) (Z:=jf x.ps x.xs) h0 om hm.FY hZ om h (fun e w h=>?_) fun y r e w h=>?_
 ·have none_:∀w,(m.step n)=(none,m)->Ow B w0 w (OL b nc x p fs Y m (m.ag n) (jf x.ps x.xs) (aa d [.z 0, .z 0, .z 0, .z 0, .y 0, .z 0, .slice none 0 0, .z 0, .z 0, .bool false]::R))->
    aH w ⟨d,0,none⟩ 0 [.z (0:Int), .z (0:Int), .z (0:Int), .z (0:Int), .y (0:Int), .z (0:Int), .slice none 0 0, .z (0:Int), .z (0:Int), .bool false] fun yU=>
     az yU ⟨d,0,none⟩ 0 [.o, .o, .o, .o, .u, .o, .s, .o, .o, .b] fun (r46:Int) (r47:Int) (r48:Int) (r49:Int) (r50:Int) (r51:Int) (r52:Sl) (r53:Int) (r54:Int) (r55:Bool)=>
     K r46 r47 r48 r49 r50 r51 r52 r53 r54 r55 false yU:=fun w es h=>by
   rw[es] at hK;have h:Ow B w0 w (aa d [.z 0, .z 0, .z 0, .z 0, .y 0, .z 0, .slice none 0 0, .z 0, .z 0, .bool false]::OL b nc x p fs Y m (m.ag n) (jf x.ps x.xs) R):=h.sub;exact jQ (K:=fun a b c d e f g h i j w=>K a b c d e f g h i j false w) rfl h fun w h=>hK ⟨none,0,0⟩ w (Ow.dK (back R m (m.ag n) fs w (CR hc1).symm rfl rfl (by rw[CR hZ];exact h)))
  refine bD rfl ⟨_,rfl,_,(gp (s:=x.cs) h h0 hZ ha).2 1 _ rfl, ?_⟩;refine gB (fun e1=>?_) (fun e1=>?_)
  ·have e1:(m.ag n).aT=1:=e1
   refine ⟨_,rfl,_,h.ao rfl, ?_⟩;refine wb h0 h1 (h.pick (A:=aQ x.l nc m.line)) fun v w h=>⟨_,rfl, ?_⟩
   refine vP (s:=x.cs) h h0 hZ ha fun w h=>⟨_,rfl,(m.ag n).n,(gp (s:=x.cs) h h0 (List.getElem?_set_self (by rw[hzl];omega)) ha).2 2 _ rfl, ?_⟩
   have es:m.step n=(some ⟨0,n,(m.ag n).n,tZ,(0,0),false⟩,{ m with line:=cZ m.line n}.dx n { m.ag n with aT:=2}):=by
    unfold bz.step;rw[e];dsimp only;rw[if_pos e1]
   rw[es] at hK;have h:Ow B w0 w (aa d [.z 0, .z 0, .z 0, .z 0, .y 0, .z 0, .slice none 0 0, .z 0, .z 0, .bool false]::aa b (da x)::aj x.k m.k::aQ x.l nc (cZ m.line n)::cX x.b m.bx::ah ct x.cs ((jf x.ps x.xs).set n.toNat (cm p ({ m.ag n with aT:=2},fs)))::eA p m.room (m.ag n).tl::ah aw fs (m.ag n).told.forget::Y::ah bJ x.pr m.prog::R):=Ow.sub (show Ow B w0 w (ah ct x.cs ((jf x.ps x.xs).set n.toNat (cm p ({ m.ag n with aT:=2},fs)))::_) from h);exact eH (K:=fun a b c d e f g h i j w=>K a b c d e f g h i j true w) (fs:=⟨none,0,0⟩) rfl h fun w h=>hK ⟨none,0,0⟩ w (Ow.dK (back R ({ m with line:=cZ m.line n}.dx n { m.ag n with aT:=2}) { m.ag n with aT:=2} fs w rfl rfl rfl h))
  ·have e1:(m.ag n).aT≠1:=e1
   refine ⟨_,rfl,_,(gp (s:=x.cs) h h0 hZ ha).2 1 _ rfl, ?_⟩;refine gB (fun e2=>?_) (fun e2=>?_)
   ·have e2:(m.ag n).aT=2:=e2
    refine ⟨_,rfl,_,h.ao rfl, ?_⟩;refine eE h0 h1 (h.pick (A:=aQ x.l nc m.line)) ?_;cases hpb:fG m.line n with
    |false=>
     refine bD rfl ?_;exact none_ w (by unfold bz.step;rw[e];dsimp only;rw[if_neg e1,if_pos e2,if_neg (by rw[hpb];decide)]) h
    |true=>
     refine bN rfl ?_
     have es:m.step n=(some (m.nF n).1,(m.nF n).2):=by
      unfold bz.step;rw[e];dsimp only;rw[if_neg e1,if_pos e2,if_pos hpb]
     rw[es,sC hlt] at hK;obtain ⟨hn0,hn1⟩:=hm.nr _ hc2 (by rw[e2];decide)
     have hcall:m.prog[(m.ag n).n.toNat]?=some (m.aC n):=by
      unfold bz.aC;rw[gE (show (m.ag n).n.toNat<m.prog.length by omega)];rfl
     have hw:=hpr _ (List.mem_of_getElem? hcall);obtain ⟨q1,_⟩:=AF hm.k n (m.aC n);have hpg:=hm.pg;refine DP (m:=m) (x:=x) (p:=p) (fs:=fs) (Y:=Y) (c:=m.ag n) (Z:=jf x.ps x.xs) h0 om om hm.FY hZ om hn0 hcall hm.k hN hw.1 hw.2 om h fun s fs' w h=>?_
     have h:Ow B w0 w (aa d [.z 0, .z 0, .z 0, .z 0, .y 0, .z 0, .slice none 0 0, .z 0, .z 0, .bool false]::ah aw s (m.k.do n (m.aC n)).1.forget::aa b (da x)::aj x.k (m.k.do n (m.aC n)).2::aQ x.l nc m.line::cX x.b (sendAll n (m.k.do n (m.aC n)).1.forget m.bx)::ah ct x.cs ((jf x.ps x.xs).set n.toNat (cm p (⟨cq (m.k.do n (m.aC n)).1.forget (m.ag n).tl,3,(m.ag n).n,(m.k.do n (m.aC n)).1⟩,fs')))::eA p m.room (cq (m.k.do n (m.aC n)).1.forget (m.ag n).tl)::ah aw fs' (m.k.do n (m.aC n)).1.forget::Y::ah bJ x.pr m.prog::R):=h.sub;exact eH (K:=fun a b c d e f g h i j w=>K a b c d e f g h i j true w) (fs:=s) rfl h fun w h=>hK s w (Ow.dz (back (ah aw s (m.k.do n (m.aC n)).1.forget::R) { m with k:=(m.k.do n (m.aC n)).2,bx:=sendAll n (m.k.do n (m.aC n)).1.forget m.bx,cs:=m.cs.set n.toNat ⟨cq (m.k.do n (m.aC n)).1.forget (m.ag n).tl,3,(m.ag n).n,(m.k.do n (m.aC n)).1⟩} ⟨cq (m.k.do n (m.aC n)).1.forget (m.ag n).tl,3,(m.ag n).n,(m.k.do n (m.aC n)).1⟩ fs' w rfl rfl rfl h.sub))
   ·have e2:(m.ag n).aT≠2:=e2
    intro k81 hk81
    have no:∀w,¬((m.ag n).aT=3/\eG m.bx n=0)->Ow B w0 w (OL b nc x p fs Y m (m.ag n) (jf x.ps x.xs) (aa d [.z 0, .z 0, .z 0, .z 0, .y 0, .z 0, .slice none 0 0, .z 0, .z 0, .bool false]::R))->k81 false w:=fun w hno h=>by
     apply hk81;refine bD rfl ?_;exact none_ w (by unfold bz.step;rw[e];dsimp only;rw[if_neg e1,if_neg e2,if_neg hno]) h
    refine ⟨_,rfl,_,(gp (s:=x.cs) h h0 hZ ha).2 1 _ rfl, ?_⟩;refine gB (fun e3=>?_) (fun e3=>no w (fun hh=>e3 hh.1) h);have e3:(m.ag n).aT=3:=e3;refine ⟨_,rfl,_,h.ao rfl, ?_⟩;refine mC (bx:=m.bx) om hm.FY (h.pick (A:=cX x.b m.bx)) fun w h=>?_
    have h:Ow B w0 w (OL b nc x p fs Y m (m.ag n) (jf x.ps x.xs) (aa d [.z 0, .z 0, .z 0, .z 0, .y 0, .z 0, .slice none 0 0, .z 0, .z 0, .bool false]::R)):=h.sub;by_cases e4:eG m.bx n=0
    ·rw[show (eG m.bx n==0)=true from by simpa using e4]
     apply hk81;refine bN rfl ⟨_,rfl,_,h.ao rfl, ?_⟩;refine wc h0 h1 (h.pick (A:=aQ x.l nc m.line)) fun v w h=>⟨_,rfl, ?_⟩
     refine vP (s:=x.cs) h h0 hZ ha fun w h=>?_
     have hZ2:((jf x.ps x.xs).set n.toNat (cm p ({ m.ag n with aT:=0},fs)))[n.toNat]?=some (cm p ({ m.ag n with aT:=0},fs)):=List.getElem?_set_self (by rw[hzl];omega);have h:Ow B w0 w (ah ct x.cs ((jf x.ps x.xs).set n.toNat (cm p ({ m.ag n with aT:=0},fs)))::_):=h;refine h.dr fun w h=>⟨_,rfl,_,rfl, ?_⟩
     refine AE (s:=x.cs) h h0 hZ2 ha ?_;refine ⟨(m.ag n).n,(gp (s:=x.cs) h h0 hZ2 ha).2 2 _ rfl,Go.Vc.a2 ?_⟩
     have es:m.step n=(some ⟨2,n,(m.ag n).n,(m.ag n).told,(0,0),false⟩,{ m with line:=dJ m.line n}.dx n { m.ag n with aT:=0}):=by
      unfold bz.step;rw[e];dsimp only;rw[if_neg e1,if_neg e2,if_pos ⟨e3,e4⟩]
     rw[es] at hK;refine vo (fs:=fs) (F:=(m.ag n).told.forget) om h fun s w h=>⟨(gp (s:=x.cs) h h0 hZ2 ha).2 2 _ rfl,Go.Vc.a2 ?_⟩
     have h:Ow B w0 w (aa d [.z 0, .z 0, .z 0, .z 0, .y 0, .z 0, .slice none 0 0, .z 0, .z 0, .bool false]::ah aw s (m.ag n).told.forget::aa b (da x)::aj x.k m.k::aQ x.l nc (dJ m.line n)::cX x.b m.bx::ah ct x.cs ((jf x.ps x.xs).set n.toNat (cm p ({ m.ag n with aT:=0},fs)))::eA p m.room (m.ag n).tl::ah aw fs (m.ag n).told.forget::Y::ah bJ x.pr m.prog::R):=h.sub
     exact eH (K:=fun a b c d e f g h i j w=>K a b c d e f g h i j true w) (fs:=s) rfl h fun w h=>by
      have h:Ow B w0 w (aa b (da x)::aj x.k m.k::aQ x.l nc (dJ m.line n)::cX x.b m.bx::ah ct x.cs ((jf x.ps x.xs).set n.toNat (cm p ({ m.ag n with aT:=0},fs)))::eA p m.room (m.ag n).tl::ah aw fs (m.ag n).told.forget::Y::ah bJ x.pr m.prog::ah aw s (m.ag n).told.forget::R):=h.sub;exact hK s w (Ow.dz (back (ah aw s (m.ag n).told.forget::R) ({ m with line:=dJ m.line n}.dx n { m.ag n with aT:=0}) { m.ag n with aT:=0} fs w rfl rfl rfl h))
    ·rw[show (eG m.bx n==0)=false from by simpa using e4]
     exact no w (fun hh=>e4 hh.2) h
 ·refine bN rfl ?_
  have es:m.step n=(none,{ m with bx:=m.bx.set n.toNat r,cs:=m.cs.set n.toNat { m.ag n with tl:=drop (IntKind.i64.wrap (y.about.tdiv 4096)) (y.about.tmod 4096) (m.ag n).tl}}):=by
   unfold bz.step;rw[e];dsimp only;unfold bz.heard;rw[e];rfl
  rw[es] at hK;have h:Ow B w0 w (aa d [.z 0, .z 0, .z 0, .z 0, .y 0, .z 0, .slice none 0 0, .z 0, .z 0, .bool false]::aa b (da x)::aj x.k m.k::aQ x.l nc m.line::cX x.b (m.bx.set n.toNat r)::ah ct x.cs (jf x.ps x.xs)::eA p m.room (drop (IntKind.i64.wrap (y.about.tdiv 4096)) (y.about.tmod 4096) (m.ag n).tl)::ah aw fs (m.ag n).told.forget::Y::ah bJ x.pr m.prog::R):=h.sub;exact jQ (K:=fun a b c d e f g h i j w=>K a b c d e f g h i j false w) rfl h fun w h=>hK ⟨none,0,0⟩ w (Ow.dK (back R { m with bx:=m.bx.set n.toNat r,cs:=m.cs.set n.toNat { m.ag n with tl:=drop (IntKind.i64.wrap (y.about.tdiv 4096)) (y.about.tmod 4096) (m.ag n).tl}} { m.ag n with tl:=drop (IntKind.i64.wrap (y.about.tdiv 4096)) (y.about.tmod 4096) (m.ag n).tl} fs w rfl rfl rfl (by rw[show cm p ({ m.ag n with tl:=drop (IntKind.i64.wrap (y.about.tdiv 4096)) (y.about.tmod 4096) (m.ag n).tl},fs)=cm p (m.ag n,fs) from rfl,CR hZ];exact h)))
end
end Go.Proofs.YtlhljbbfckbjpaaGreat.Mc
end
