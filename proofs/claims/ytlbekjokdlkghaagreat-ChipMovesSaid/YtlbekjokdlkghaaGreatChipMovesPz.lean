import Derived.Test.YtlbekjokdlkghaaGreatChipMovesTa
import Derived.Test.YtlbekjokdlkghaaGreatChipMovesTb
import Derived.Test.YtlbekjokdlkghaaGreatChipMovesMz
import Derived.Test.YtlbekjokdlkghaaGreatChipMovesMi
import Derived.Test.YtlbekjokdlkghaaGreatChipMovesKt
import Derived.Test.YtlbekjokdlkghaaGreatChipMovesVb
set_option linter.unusedVariables false
set_option linter.unusedSimpArgs false
set_option maxHeartbeats 4000000
section
namespace Go.Gm
structure SrcE where
 T:Int->List Int
 W:Int
 home:Int->Int
 tg:Int->List Int
structure WvM where
 b:Nat
 bm:Nat
 m:List (Go.Value×Go.Value)
 ks:List Int
theorem gF4 {α β:Type}(f:α->List β):∀{l:List α} {i:Nat} {x:α},l[i]? =some x->(l.flatMap f).Perm (f x++(l.eraseIdx i).flatMap f)
 |[],i,x,h=>by simp at h
 |y::l,0,x,h=>by
  simp only [QX,qK] at h
  subst h
  rw [Qf,List.eraseIdx_cons_zero]
 |y::l,i+1,x,h=>by
  simp only [Qv] at h
  rw [Qf,List.eraseIdx_cons_succ,Qf]
  refine (QN _ (gF4 f h)).trans ?_
  rw [<-qJ,<-qJ]
  exact List.Perm.append_right _ List.perm_append_comm
theorem lM1 {α β:Type}(f:α->List β){l:List α}{i:Nat}(h:i<l.length)(y:α):((l.set i y).flatMap f).Perm (f y++(l.eraseIdx i).flatMap f):=by
 have:=gF4 f (l:=l.set i y) (i:=i) (x:=y) (by rw [qO,jw rfl,jw h])
 rw [List.eraseIdx_set_eq] at this
 exact this
end Go.Gm
namespace Go.Proofs
open Go Go.Vx Go.Gm
def wvV (x:WvM):List Value:=[.pointer (some ⟨x.b,0,none⟩)]
def wvE (E:SrcE)(x:WvM):HP:=[.row x.b 164 [.map (some x.bm),.int .i64 (bJ7 (x.ks.map E.T):Int),.int .i64 (bW9 E.W E.home E.tg x.ks:Int)],.mapk x.bm x.m]
def hC2 (E:SrcE)(x:WvM):Prop:=CntOf x.m (bS5 (x.ks.map E.T))
theorem fF0 (a b c d x y:Ent){F F':HP}(S:HP)(h:F.Perm ([x,y]++F')):(a::b::c::d::(F++S)).Perm (x::y::d::a::b::c::(F'++S)):=by
 have h1:(F++S).Perm (x::y::(F'++S)):=List.Perm.append_right S h
 refine ((((h1.cons d).cons c).cons b).cons a).trans ?_
 have h2:([a,b,c]++([d,x,y]++(F'++S))).Perm ([d,x,y]++([a,b,c]++(F'++S))):=List.perm_append_comm_assoc ..
 refine h2.trans ?_
 have h3:([d]++([x,y]++([a,b,c]++(F'++S)))).Perm ([x,y]++([d]++([a,b,c]++(F'++S)))):=List.perm_append_comm_assoc ..
 exact h3
theorem cF2 {A B:HP}(h:B.Perm A):HLe A B:=bN6 [] (by rw [qC];exact h)
theorem fW0 {w0:World}{H:HP}{K:Value->HP->Prop}(E:SrcE)(C:Chp)(hroom:1<=C.mesh.room/\C.mesh.room<=64)(pd:Option Addr)(cd:Nat)(ws:List WvM)(hws:∀x∈ws,hC2 E x/\x.ks.length<=65536)(hwl:ws.length<=65536)(pw:Option Addr)(hwp:0<ws.length->∃g,pw=some ⟨g,0,none⟩)(cw bt bc go co:Nat)(t1 t2 t3:Value)(hone:bK6 [t1,t2,t3]=true)(o:List Int)(key:Int)(hko:E.T key=o)(ho:bF7 o)(hol:o.length<=64)(S:HP)
  (hH:HLe (.vec pw ws.length cw 161 1 (bQ1 wvV ws)::.row bt 169 [t1,t2,t3,.slice (some ⟨go,0,none⟩) o.length co]::.row bc 30 (bD5 C pd cd)::.vec (some ⟨go,0,none⟩) o.length co 3 1 (bQ1 bQ6 o)::(ws.flatMap (wvE E)++S)) H)
  (hK:K (.int .i64 (if bH7 E.T C.mesh.room (ws.map (·.ks)) key<ws.length then (bH7 E.T C.mesh.room (ws.map (·.ks)) key:Int) else -1)) (.vec pw ws.length cw 161 1 (bQ1 wvV ws)::.row bt 169 [t1,t2,t3,.slice (some ⟨go,0,none⟩) o.length co]::.row bc 30 (bD5 C pd cd)::.vec (some ⟨go,0,none⟩) o.length co 3 1 (bQ1 bQ6 o)::(ws.flatMap (wvE E)++S))):
  VCall Tryz.cx.P w0 [] H 63 [.slice pw ws.length cw,.func (.func 64) #[] #[.pointer (some ⟨bt,0,none⟩),.pointer (some ⟨bc,0,none⟩)]] K:=by
 refine VCall.le hH ?_
 refine VCall.inl (F:=mF7) Tryz.func63 rfl rfl rfl ok63 ?_
 repeat' (conv=>whnf);first|refine VSeq.go ?_|refine oN fun _=>?_
 all_goals (conv=>whnf)
 refine VLoop.mk (α:=Nat) (fun i=>i<=ws.length/\∀j,j<i->bP0 C.mesh.room (((ws.map (·.ks))[j]?.getD []).map E.T) (E.T key)=false) (fun i=>[(1000000,.tuple #[]),(0,.slice pw ws.length cw),(1,.func (.func 64) #[] #[.pointer (some ⟨bt,0,none⟩),.pointer (some ⟨bc,0,none⟩)]),(4,.int .i64 0),(7,.int .i64 (ws.length:Int)),(8,.int .i64 (i:Int))])
  (fun _=>.vec pw ws.length cw 161 1 (bQ1 wvV ws)::.row bt 169 [t1,t2,t3,.slice (some ⟨go,0,none⟩) o.length co]::.row bc 30 (bD5 C pd cd)::.vec (some ⟨go,0,none⟩) o.length co 3 1 (bQ1 bQ6 o)::(ws.flatMap (wvE E)++S)) (fun i=>ws.length - i) 0 ⟨qB _,fun j hj=>absurd hj qZ⟩ aE (HLe.refl _) ?_
 rintro i ⟨hi,hb⟩
 rcases qy i ws.length with hlt|hge
 ·obtain ⟨x,hx⟩:∃x,ws[i]? =some x:=⟨_,qq hlt⟩
  have hxo:=hws x (qz hx)
  obtain ⟨g,rfl⟩:=hwp qZ
  have hks:(ws.map (·.ks))[i]?.getD []=x.ks:=by rw [qj,hx];rfl
  have hpm:=gF4 (wvE E) hx
  have hch:sub (bD5 C pd cd) 2 1=some [.int .i64 C.mesh.room]:=rfl
  have hml:i<=(ws.map (·.ks)).length:=by rw [qv];exact hi
  have hyes:bP0 C.mesh.room (x.ks.map E.T) o=true->bH7 E.T C.mesh.room (ws.map (·.ks)) key=i:=fun h=>dV1 hml hb (fun _=>by rw [hks,hko];exact h)
  obtain ⟨tk,htk⟩:=gX (bP0 C.mesh.room (x.ks.map E.T) o)
  repeat' (conv=>whnf);first|refine oI ?_|(refine VLd.is ?_;refine oC (.vec aT (bQ8 (f:=wvV) (k:=1) oR hx rfl)) ?_)|(refine VLd.is ?_;refine oC (.row aT (hch)) ?_)|(refine bQ0 64 ?_;refine VCall.inl (F:=mF6) Tryz.func64 rfl rfl rfl ok64 ?_)|(refine bQ0 65 ?_;(refine VCall.hle ?_;refine hL4 (x.ks.map E.T) (by rw [qv];exact hxo.2) o ho hol t1 t2 t3 hone go co x.b x.bm _ _ x.m hxo.1 C.mesh.room qZ (.vec (some ⟨g,0,none⟩) ws.length cw 161 1 (bQ1 wvV ws)::.row bt 169 [t1,t2,t3,.slice (some ⟨go,0,none⟩) o.length co]::.row bc 30 (bD5 C pd cd)::((ws.eraseIdx i).flatMap (wvE E)++S)) (cF2 (fF0 _ _ _ _ _ _ S hpm)) ⟨_,cF2 (fF0 _ _ _ _ _ _ S hpm).symm,?_⟩;rw [htk]))|refine VSeq.go ?_|refine oY fun _=>?_|(refine oB (fun h=>?_) (fun h=>?_)<;>subst h)|refine oL ?_|refine oA ?_
  all_goals (conv=>whnf)
  ·rw [hyes htk,jw hlt] at hK
   exact hK
  ·refine VNext.mk (i+1) ⟨by omega,fun j hj=>?_⟩ qZ aE (HLe.refl _)
   by_cases hji:j<i
   ·exact hb j hji
   ·have:j=i:=by omega
    subst this
    rw [hks,hko];exact htk
 have hil:i=ws.length:=by omega
 subst hil
 have hno:bH7 E.T C.mesh.room (ws.map (·.ks)) key=ws.length:=dV1 (by rw [qv];exact qA _) hb (fun h=>by rw [qv] at h;exact absurd h (Nat.lt_irrefl _))
 rw [hno,jk (Nat.lt_irrefl _)] at hK
 repeat' (conv=>whnf);first|refine VSeq.go ?_|refine oN fun _=>?_
 all_goals (conv=>whnf)
 exact hK
theorem _root_.Go.Vx.cP7 {P:Program}{w0:World}{M:List Nat}{H S R:HP}{f:Nat}{args:List Value}{K:Value->HP->Prop}(htk:Take H S R)(h:VCall P w0 M (S++R) f args K):VCall P w0 M H f args K:=by
 obtain ⟨h⟩:=h
 exact .mk fun w hw=>h w (hw.perm htk.perm)
theorem fK3 {w0:World}{H R:HP}{K:Value->HP->Prop}(E:SrcE)(s:Spc)(hs:s.wf)(hW:E.W=s.wide)(x:WvM)(hx:hC2 E x)(hlen:x.ks.length<=65000)(hre:bW9 E.W E.home E.tg x.ks<=1000)(key:Int)(o:List Int)(hko:E.T key=o)(ho:bF7 o)(hol:o.length<=64)(t1:Value)(hone:bK6 [t1]=true)
  (home:Int) (hkh:E.home key=home) (hhome:I64 home) (tg:List Int) (hkt:E.tg key=tg) (htg:∀t∈tg,I64 t/\(gX8 s home t)=((bG0 s.wide home t:Int),0)/\bG0 s.wide home t<=1000) (htl:tg.length<=65536) (gc cc go co:Nat)
  (hT:Take H (.row x.b 164 [.map (some x.bm),.int .i64 (bJ7 ((x.ks).map E.T):Int),.int .i64 (bW9 E.W E.home E.tg (x.ks):Int)]::.mapk x.bm x.m::.vec (some ⟨go,0,none⟩) o.length co 3 1 (bQ1 bQ6 o)::.vec (some ⟨gc,0,none⟩) tg.length cc 3 1 (bQ1 bQ6 tg)::[]) R)
  (hK:∀m',hC2 E ⟨x.b,x.bm,m',x.ks++[key]⟩->K (.tuple #[]) (.row x.b 164 [.map (some x.bm),.int .i64 (bJ7 ((x.ks++[key]).map E.T):Int),.int .i64 (bW9 E.W E.home E.tg (x.ks++[key]):Int)]::.mapk x.bm m'::.vec (some ⟨go,0,none⟩) o.length co 3 1 (bQ1 bQ6 o)::.vec (some ⟨gc,0,none⟩) tg.length cc 3 1 (bQ1 bQ6 tg)::R)):
  VCall Tryz.cx.P w0 [] H 62 [.pointer (some ⟨x.b,0,none⟩),.agg (cK4 s).toArray,.agg #[t1,.int .i64 home,.slice (some ⟨gc,0,none⟩) tg.length cc,.slice (some ⟨go,0,none⟩) o.length co]] K:=by
 refine cP7 hT ?_
 refine lN2 s hs (x.ks.map E.T) (by rw [qv];omega) o ho hol t1 hone home hhome tg htg htl gc cc go co x.b x.bm (bW9 E.W E.home E.tg x.ks) hre x.m hx R (HLe.refl _) fun m' hm'=>?_
 have e1:(x.ks++[key]).map E.T=x.ks.map E.T++[o]:=by rw [ql,qU,hko]
 have e2:bW9 E.W E.home E.tg (x.ks++[key])=(tg.map fun t=>bG0 s.wide home t).foldl max (bW9 E.W E.home E.tg x.ks):=by rw [fR9,hkt,hkh,hW]
 have:=hK m' (by unfold hC2;dsimp only;rw [e1];exact hm')
 rw [e1,e2] at this
 exact this
theorem hX4 {E:SrcE}{H:HP}{Z:HP->HP}{l:List WvM}{i:Nat}{x:WvM}(h:AtS H (l.flatMap (wvE E)) Z)(hx:l[i]? =some x):HLe (.row x.b 164 [.map (some x.bm),.int .i64 (bJ7 ((x.ks).map E.T):Int),.int .i64 (bW9 E.W E.home E.tg (x.ks):Int)]::.mapk x.bm x.m::((l.eraseIdx i).flatMap (wvE E)++Z [])) H:=by
 refine cF2 (h.perm.trans ?_)
 exact List.Perm.append_right (Z []) (gF4 (wvE E) hx)
theorem kX4 {E:SrcE}{A:HP}{Z:HP->HP}{l:List WvM}{i:Nat}{y:WvM}(h:AtS A ((l.set i y).flatMap (wvE E)) Z)(hi:i<l.length):A.Perm (.row y.b 164 [.map (some y.bm),.int .i64 (bJ7 ((y.ks).map E.T):Int),.int .i64 (bW9 E.W E.home E.tg (y.ks):Int)]::.mapk y.bm y.m::((l.eraseIdx i).flatMap (wvE E)++Z [])):=by
 refine h.perm.trans ?_
 exact List.Perm.append_right (Z []) (lM1 (wvE E) hi y)
theorem fG7 {E:SrcE}{A:HP}{Z:HP->HP}{l:List WvM}{y:WvM}(h:AtS A ((l++[y]).flatMap (wvE E)) Z):A.Perm (.row y.b 164 [.map (some y.bm),.int .i64 (bJ7 ((y.ks).map E.T):Int),.int .i64 (bW9 E.W E.home E.tg (y.ks):Int)]::.mapk y.bm y.m::(l.flatMap (wvE E)++Z [])):=by
 refine h.perm.trans ?_
 rw [QK]
 exact List.Perm.append_right (Z []) List.perm_append_comm
theorem dR2:∀(l:List Nat) (a b:Nat),a<=b->(∀x∈l,x<=b)->l.foldl max a<=b
 |[],a,b,h,_=>h
 |x::l,a,b,h,hl=>by
  rw [Qp]
  exact dR2 l _ b (by have:=hl x qg;omega) fun y hy=>hl y (qu _ hy)
end Go.Proofs
end

section
namespace Go.Proofs
open Go Go.Vx Go.Gm
theorem kT1 (a b:Ent)(P G:HP):(a::b::(P++G)).Perm (P++(a::b::G)):=by
 refine List.Perm.trans ?_ List.perm_middle.symm
 exact List.Perm.cons _ List.perm_middle.symm
theorem fC7 {α:Type}{w0:World}{H:HP}{K:Value->HP->Prop}(X:PlnX)(x:PlnM)(cores:List Int)(hA:AsgOk X.N X.C cores)(hup:PlnUp X X.N.syns x)(hrd:PlnRd X w0)(p:Option Addr)(c b o:Nat)(h1:Sl w0 bQ6 1 cores p cores.length b o)(l b2 b3:Nat)(I:Nat->α->Prop)(G:α->HP)(x0:α)(h0:I 0 x0)
  (hH:HLe (.row b2 146 [.pointer (some ⟨x.b,0,none⟩)]::.row b3 28 [.slice p cores.length c]::(fQ3 X x++G x0)) H)
  (step:∀k v z,k<bV2 X.N->cK1 X.N X.N.syns (k:Int)≠[]->I k v->
   VYield Tryz.cx.P w0 [] (lN4 X.N X.C cores (k:Int) z++(.row b2 146 [.pointer (some ⟨x.b,0,none⟩)]::.row b3 28 [.slice p cores.length c]::(fQ3 X x++G v))) l [.agg (lN5 X.N X.C cores (k:Int) z).toArray] fun r H'=>(r=.bool true/\∃y,I (k+1) y/\HLe (.row b2 146 [.pointer (some ⟨x.b,0,none⟩)]::.row b3 28 [.slice p cores.length c]::(fQ3 X x++G y)) H')\/(r=.bool false/\K (.tuple #[]) H'))
  (skip:∀k v,k<bV2 X.N->cK1 X.N X.N.syns (k:Int)=[]->I k v->I (k+1) v)
  (fin:∀v,I (bV2 X.N) v->K (.tuple #[]) (.row b2 146 [.pointer (some ⟨x.b,0,none⟩)]::.row b3 28 [.slice p cores.length c]::(fQ3 X x++G v))):
  VCall Tryz.cx.P w0 [] H 111 [.func (.yield l) #[] #[],.pointer (some ⟨b2,0,none⟩),.pointer (some ⟨b3,0,none⟩)] K:=by
 have hns:bV2 X.N<=256:=by
  have:=hA.plan.few
  have:=hA.plan.net.inputs
  unfold bV2;omega
 have hTl:x.T.length=bV2 X.N:=by
  have:=congrArg List.length hup.T
  rw [qv] at this
  rw [this];unfold dL2;simp
 have k11:sub (fS0 X x) 11 1=some [.slice (some ⟨x.gt,0,none⟩) x.T.length x.T.length]:=rfl
 refine VCall.le hH ?_
 refine VCall.inl (F:=lD6) Tryz.func111 rfl rfl rfl mZ7 ?_
 repeat' (conv=>whnf);first|(refine VLd.is ?_;refine oC (.row (.there (.there .here)) k11) ?_)|refine VSeq.go ?_|refine oL ?_
 all_goals (conv=>whnf)
 refine VLoop.mk (α:=Nat×α) (fun z=>z.1<=bV2 X.N/\I z.1 z.2) (fun z=>[(1000000,.tuple #[]),(0,.func (.yield l) #[] #[]),(1,.pointer (some ⟨b2,0,none⟩)),(2,.pointer (some ⟨b3,0,none⟩)),(9,.slice (some ⟨x.gt,0,none⟩) x.T.length x.T.length),(10,.int .i64 (x.T.length:Int)),(11,.int .i64 (z.1:Int))])
  (fun z=>.row b2 146 [.pointer (some ⟨x.b,0,none⟩)]::.row b3 28 [.slice p cores.length c]::(fQ3 X x++G z.2)) (fun z=>bV2 X.N - z.1) (0,x0) ⟨qB _,h0⟩ aE (HLe.refl _) ?_
 rintro ⟨k,v⟩ ⟨hk,hI⟩
 dsimp only at hk hI ⊢
 rcases qy k (bV2 X.N) with hlt|hge
 ·obtain ⟨d,hd⟩:∃d,x.T[k]? =some d:=⟨_,qq qZ⟩
  have hdl:d.l=cK1 X.N X.N.syns (k:Int):=by
   have:=congrArg (fun L=>L[k]?) hup.T
   rw [qj,hd] at this
   unfold dL2 at this
   rw [qj,qX hlt] at this
   simpa using this
  have hpt:=fun (hne:0<d.l.length) (w':World)=>hV7 X x cores hA k hlt (by rw [<-hdl];exact QI.1 hne) p c b o w'
  have hst:=fun (hne:0<d.l.length) z=>step k v z hlt (by rw [<-hdl];exact QI.1 hne) hI
  have hsk:=fun (hne:¬0<d.l.length)=>skip k v hlt (by rw [<-hdl];exact List.length_eq_zero_iff.1 qZ) hI
  repeat' (conv=>whnf);first|refine oI ?_|(refine VLd.is ?_;refine oC (.vec (.there (.there (.there .here))) (bQ8 (vs:=[.slice d.p d.l.length d.c]) (s:=1) (f:=srV) (k:=1) oR hd rfl)) ?_)|(refine bQ0 112 ?_;(refine bQ2 (fun w' hw'=>hpt qZ w' (PlnAt.of hA.plan hup (hrd.keep hw') hw' (bN6 _ (kT1 _ _ _ _))) (h1.keep hw' oU)) ?_;rintro z _))|(refine VYield.is ?_;refine VYield.hle (VYield.mono (VYield.weak (HLe.refl _) (hst qZ z)) fun r H' hr=>?_);rcases hr with ⟨rfl,y,hy,hl⟩|⟨rfl,hK⟩<;>first|refine ⟨_,hl,?_⟩|refine ⟨_,HLe.refl _,?_⟩)|refine VSeq.go ?_|refine oY fun _=>?_|refine oS (fun _=>?_) fun _=>?_|refine oL ?_|refine oA ?_
  all_goals (conv=>whnf)
  ·exact VNext.mk (k+1,y) ⟨by dsimp only;omega,hy⟩ (by dsimp only;omega) aE (HLe.refl _)
  ·exact hK
  ·exact VNext.mk (k+1,v) ⟨by dsimp only;omega,hsk qZ⟩ (by dsimp only;omega) aE (HLe.refl _)
 have hkl:k=bV2 X.N:=by omega
 subst hkl
 repeat' (conv=>whnf);first|refine VSeq.go ?_|refine oN fun _=>?_
 all_goals (conv=>whnf)
 exact fin v hI
end Go.Proofs
end

section
namespace Go.Proofs
open Go Go.Vx Go.Gm
theorem _root_.Go.Vx.gJ5 {a:Nat}(h:a<4294967296){k:Int->Prop}(hk:k ((0:Nat):Int)):VShR .u64 (a:Int) 32 k:=
 bM6 (a:=a) 32 qZ fun c hc _=>by
  have:c=0:=by rw [hc,Nat.shiftRight_eq_div_pow];exact Nat.div_eq_of_lt h
  rw [this];exact hk
theorem _root_.Go.Vx.gJ8 {a:Nat}(h:a<4294967296){k:Int->Prop}(hk:k (a:Int)):VBit .and .u64 (a:Int) 4294967295 k:=
 cC5 (b:=4294967295) qZ qZ fun c hc _=>by
  have:c=a:=by
   rw [hc]
   have:(4294967295:Nat)=2 ^ 32 - 1:=rfl
   rw [this,Nat.and_two_pow_sub_one_eq_mod,jv qZ]
  rw [this];exact hk
theorem gZ4 (n:Nat)(hn:n<65536)(w:World):Calls Tryz.prog 110 #[.int .u64 ((1:Nat):Int),.int .u64 (n:Int)] w fun e w'=>e=.returned (.tuple #[.int .u64 ((0:Nat):Int),.int .u64 (n:Int)])/\St w [] [] w':=by
 refine enter (C:=Tryz.cx) (F:=lD7) (args:=[_,_]) Tryz.func110 rfl rfl rfl mZ8 (St.start w []) ?_
 repeat' (conv=>whnf);first|(refine bQ0 175 ?_;refine VCall.inl (F:=lH3) Tryz.func175 rfl rfl rfl lL4 ?_)|(refine VShR.is ?_;refine gJ5 qZ ?_)|(refine VBit.is ?_;refine gJ8 qZ ?_)|(refine VAr.is ?_;refine cC6 qZ qZ fun c hc=>?_;first|(have e:c=0:=qZ;subst e;clear hc)|(have e:n=c:=qZ;subst e;clear hc))|refine VSeq.go ?_
 all_goals (conv=>whnf)
 exact ⟨fun w' hw'=>⟨rfl,hw'.le .nil⟩⟩
theorem hV2 {n j m:Nat}{v:Int}(h:j+m<=n):upd (bQ1 bQ6 (List.replicate j v++List.replicate (n - j) 0)) (j*1) (bQ1 bQ6 (List.replicate m v))=some (bQ1 bQ6 (List.replicate (j+m) v++List.replicate (n - (j+m)) 0)):=by
 have e1:∀q (a:Int),(bQ1 bQ6 (List.replicate q a)).length=q:=fun q a=>by rw [bX9 (k:=1) oR,Qn,Nat.mul_one]
 have h1:(bQ1 bQ6 (List.replicate j v++List.replicate (n - j) 0)).length=n:=by rw [bQ7,qw,e1,e1];omega
 rw [cL0 _ _ _ (by rw [h1,e1];omega)]
 congr 1
 rw [Nat.mul_one,bQ7,bQ7]
 have e2:(bQ1 bQ6 (List.replicate j v)++bQ1 bQ6 (List.replicate (n - j) 0)).take j=bQ1 bQ6 (List.replicate j v):=by
  have:=List.take_left (l₁:=bQ1 bQ6 (List.replicate j v)) (l₂:=bQ1 bQ6 (List.replicate (n - j) 0))
  rw [e1] at this;exact this
 have e3:(bQ1 bQ6 (List.replicate j v)++bQ1 bQ6 (List.replicate (n - j) 0)).drop (j+(bQ1 bQ6 (List.replicate m v)).length)=bQ1 bQ6 (List.replicate (n - (j+m)) 0):=by
  have e4:List.replicate (n - j) (0:Int)=List.replicate m 0++List.replicate (n - (j+m)) 0:=by rw [List.replicate_append_replicate];congr 1;omega
  rw [e4,bQ7,<-qJ]
  have:=List.drop_left (l₁:=bQ1 bQ6 (List.replicate j v)++bQ1 bQ6 (List.replicate m (0:Int))) (l₂:=bQ1 bQ6 (List.replicate (n - (j+m)) (0:Int)))
  rw [qw,e1,e1] at this
  rw [e1];exact this
 rw [e2,e3,<-bQ7,List.replicate_append_replicate]
theorem kC3 {n j m:Nat}{v:Int}(h:j<=n)(hm:m<=j):sub (bQ1 bQ6 (List.replicate j v++List.replicate (n - j) 0)) 0 (m*1)=some (bQ1 bQ6 (List.replicate m v)):=by
 have e1:∀q (a:Int),(bQ1 bQ6 (List.replicate q a)).length=q:=fun q a=>by rw [bX9 (k:=1) oR,Qn,Nat.mul_one]
 rw [cJ0 _ _ _ (by rw [bQ7,qw,e1,e1];omega),Nat.mul_one,List.drop_zero]
 congr 1
 have e4:List.replicate j v++List.replicate (n - j) (0:Int)=List.replicate m v++(List.replicate (j - m) v++List.replicate (n - j) 0):=by
  rw [<-qJ,List.replicate_append_replicate];congr 2;omega
 rw [e4,bQ7]
 have:=List.take_left (l₁:=bQ1 bQ6 (List.replicate m v)) (l₂:=bQ1 bQ6 (List.replicate (j - m) v++List.replicate (n - j) (0:Int)))
 rw [e1] at this;exact this
theorem cB1:∀l:List Int,bK6 (bQ1 bQ6 l)=true
 |[]=>rfl
 |x::l=>by
  have:=cB1 l
  simpa [bQ1,bK6,bQ6,Value.oneCell'] using this
theorem gM4 (v:Int)(n:Nat)(hn:n<65536)(b o c:Nat)(w:World)(h1:Sl w bQ6 1 [v] (some ⟨b,o,none⟩) 1 b o):
  Calls Tryz.prog 58 #[.slice (some ⟨b,o,none⟩) 1 c,.int .i64 (n:Int)] w fun e w'=>∃g:Nat,e=.returned (.slice (some ⟨g,0,none⟩) n n)/\True/\St w [] [.vec (some ⟨g,0,none⟩) n n 3 1 (bQ1 bQ6 (List.replicate n v))] w':=by
 have hmul:=fun w'=>gZ4 n hn w'
 refine enter (C:=Tryz.cx) (F:=mH2) (args:=[_,_]) Tryz.func58 rfl rfl rfl ok58 (St.start w []) ?_
 repeat' (conv=>whnf);first|(refine bQ0 110 ?_;(refine bQ4 (fun w' _=>hmul w') ?_))|(refine VAr.is ?_;refine cC6 qZ qZ fun c hc=>?_;first|(have e:c=1:=qZ;subst e;clear hc)|(have e:n=c:=qZ;subst e;clear hc))|(refine VMk.is ?_;refine VMk.mk qZ qZ (by (try dsimp only);omega) qZ fun g=>?_)|refine VSeq.go ?_|refine oN fun _=>?_|refine oA ?_
 all_goals (conv=>whnf)
 have hsrc:∀H,Src w [] H (some ⟨b,o,none⟩) (min 1 n) 1 (bQ1 bQ6 (List.replicate (min 1 n) v)):=fun H=>by
  by_cases h0:n=0
  ·subst h0;exact .none0
  ·have:min 1 n=1:=by omega
   rw [this]
   exact h1.src oU oR
 have hu0:=hV2 (n:=n) (j:=0) (m:=min 1 n) (v:=v) qZ
 rw [Nat.zero_mul,Qo,List.replicate_zero,Qc,Nat.sub_zero,<-bV3] at hu0
 refine VCp.into (off:=0) rfl (hsrc _) (VSt.vec aT hu0 (cB1 _) ?_)
 repeat' (conv=>whnf);first|refine VSeq.go ?_|refine oN fun _=>?_
 all_goals (conv=>whnf)
 refine VLoop.mk (α:=Nat) (fun j=>j<=n/\(1<=j\/n=0)) (fun j=>[(1000000,.tuple #[]),(4,.slice none 0 0),(7,.slice (some ⟨g,0,none⟩) n n),(8,.int .i64 (j:Int))])
  (fun j=>[.vec (some ⟨g,0,none⟩) n n 3 1 (bQ1 bQ6 (List.replicate j v++List.replicate (n - j) 0))]) (fun j=>n - j) (min 1 n) ⟨by omega,by omega⟩ aE aH ?_
 rintro j ⟨hj,hj1⟩
 rcases qy j n with hlt|hge
 ·have hu:=hV2 (n:=n) (j:=j) (m:=min j (n - j)) (v:=v) qZ
  have hs:=kC3 (n:=n) (j:=j) (m:=min j (n - j)) (v:=v) qZ qZ
  repeat' (conv=>whnf);first|(refine VSl.is ?_;first|refine cG9 (m:=j) (cap:=n) qZ ?_|(refine VSl.off (l:=j) (h:=n) (c:=n) rfl rfl rfl qZ qZ fun off hoff=>?_;have hoe:=hoff qZ;subst hoe))|(refine VCp.is ?_;refine VCp.into rfl (.at_ (.vec aT hs)) (VSt.cast (off':=j*1) oE (VSt.vec aT hu (cB1 _) ?_)))|refine VSeq.go ?_|refine oY fun _=>?_|refine oA ?_|refine oH ?_
  all_goals (conv=>whnf)
  have e:(j:Int)+((min j (n - j):Nat):Int)=((j+min j (n - j):Nat):Int):=by omega
  rw [e]
  exact VNext.mk (j+min j (n - j)) ⟨by omega,by omega⟩ qZ aE aH
 have hjn:j=n:=by omega
 subst hjn
 rw [jx,List.replicate_zero,qC]
 repeat' (conv=>whnf);first|refine VSeq.go ?_|refine oN fun _=>?_
 all_goals (conv=>whnf)
 exact ⟨fun w' hw'=>⟨g,rfl,trivial,hw'.le aH⟩⟩
end Go.Proofs
end

section
namespace Go.Gm
end Go.Gm
namespace Go.Proofs
open Go Go.Vx Go.Gm
end Go.Proofs
end

section
namespace Go.Proofs
open Go Go.Vx Go.Gm
end Go.Proofs
end

section
namespace Go.Proofs
open Go Go.Vx
def Marks (m:List (Int×Value))(S:List Int):Prop:=∀k,bZ4 m k=if k∈S then some (.bool true) else none
theorem dC8 (m:List (Int×Value))(j:Int)(v:Value)(k:Int):bZ4 (cB4 m j v) k=if j=k then some v else bZ4 m k:=by
 induction m with
 |nil=>simp [cB4,bZ4]
 |cons x m ih=>
  obtain ⟨a,b⟩:=x
  simp only [cB4,bZ4]
  by_cases h:a=j
  ·subst h
   by_cases h2:a=k<;>simp [bZ4,h2]
  ·by_cases h2:a=k
   ·have:¬j=k:=fun e=>h qZ
    subst h2
    rw [jk h,jk this]
    simp [bZ4]
   ·simp [bZ4,h,h2,ih]
theorem Marks.add {m:List (Int×Value)}{S:List Int}(h:Marks m S)(j:Int):Marks (cB4 m j (.bool true)) (S++[j]):=by
 intro k
 rw [dC8,h k]
 by_cases e:j=k
 ·subst e;simp
 ·have:¬k=j:=fun h=>e h.symm
  simp [e,this]
end Go.Proofs
end

section
namespace Go.Gm
end Go.Gm
namespace Go.Proofs
open Go Go.Vx Go.Gm
def CntIs (m:List (Int×Value))(f:Int->Nat):Prop:=∀k,bZ4 m k=if f k=0 then none else some (.int .i64 (f k:Int))
theorem CntIs.add {m:List (Int×Value)}{f g:Int->Nat}(h:CntIs m f)(j:Int)(hg:∀k,g k=f k+if j=k then 1 else 0):CntIs (cB4 m j (.int .i64 ((f j:Int)+1))) g:=by
 intro k
 rw [dC8,h k,hg k]
 by_cases e:j=k
 ·subst e
  rw [jw rfl,jw rfl,jk qZ]
  rfl
 ·rw [jk e,jk e];rfl
theorem CntIs.look {m:List (Int×Value)}{f:Int->Nat}(h:CntIs m f)(j:Int):(bZ4 m j=none/\f j=0)\/(bZ4 m j=some (.int .i64 (f j:Int))/\f j≠0):=by
 have:=h j
 by_cases e:f j=0
 ·rw [jw e] at this;exact .inl ⟨this,e⟩
 ·rw [jk e] at this;exact .inr ⟨this,e⟩
end Go.Proofs
end
