import Derived.Test.YtlbekjokdlkghaaGreatChipKnownTa
import Derived.Test.YtlbekjokdlkghaaGreatChipKnownTb
import Derived.Test.YtlbekjokdlkghaaGreatChipKnownMz
import Derived.Test.YtlbekjokdlkghaaGreatChipKnownMi
import Derived.Test.YtlbekjokdlkghaaGreatChipKnownPw
import Derived.Test.YtlbekjokdlkghaaGreatChipKnownVb
set_option linter.unusedVariables false
set_option linter.unusedSimpArgs false
set_option maxHeartbeats 4000000
section
namespace Go.Gm
structure SrcE where
 T:Int->List Int
 W:Int
 home:Int->Int
 tg:Int->List Int
structure WvM where
 b:Nat
 bm:Nat
 m:List (Go.Value×Go.Value)
 ks:List Int
theorem fm_get {α β:Type}(f:α->List β):∀{l:List α} {i:Nat} {x:α},l[i]? =some x->(l.flatMap f).Perm (f x++(l.eraseIdx i).flatMap f)
 |[],i,x,h=>by simp at h
 |y::l,0,x,h=>by
  simp only [QX,qK] at h
  subst h
  rw [Qf,List.eraseIdx_cons_zero]
 |y::l,i+1,x,h=>by
  simp only [Qv] at h
  rw [Qf,List.eraseIdx_cons_succ,Qf]
  refine (QM _ (fm_get f h)).trans ?_
  rw [<-qJ,<-qJ]
  exact List.Perm.append_right _ List.perm_append_comm
theorem fm_set {α β:Type}(f:α->List β){l:List α}{i:Nat}(h:i<l.length)(y:α):((l.set i y).flatMap f).Perm (f y++(l.eraseIdx i).flatMap f):=by
 have:=fm_get f (l:=l.set i y) (i:=i) (x:=y) (by rw [qO,jx rfl,jx h])
 rw [List.eraseIdx_set_eq] at this
 exact this
end Go.Gm
namespace Go.Proofs
open Go Go.Vx Go.Gm
def wvV (x:WvM):List Value:=[.pointer (some ⟨x.b,0,none⟩)]
def wvE (E:SrcE)(x:WvM):HP:=[.row x.b 164 [.map (some x.bm),.int .i64 (mostM (x.ks.map E.T):Int),.int .i64 (reachM E.W E.home E.tg x.ks:Int)],.mapk x.bm x.m]
def WvOk (E:SrcE)(x:WvM):Prop:=CntOf x.m (cntM (x.ks.map E.T))
theorem perm_take (a b c d x y:Ent){F F':HP}(S:HP)(h:F.Perm ([x,y]++F')):(a::b::c::d::(F++S)).Perm (x::y::d::a::b::c::(F'++S)):=by
 have h1:(F++S).Perm (x::y::(F'++S)):=List.Perm.append_right S h
 refine ((((h1.cons d).cons c).cons b).cons a).trans ?_
 have h2:([a,b,c]++([d,x,y]++(F'++S))).Perm ([d,x,y]++([a,b,c]++(F'++S))):=List.perm_append_comm_assoc ..
 refine h2.trans ?_
 have h3:([d]++([x,y]++([a,b,c]++(F'++S)))).Perm ([x,y]++([d]++([a,b,c]++(F'++S)))):=List.perm_append_comm_assoc ..
 exact h3
theorem HLe.ofPerm {A B:HP}(h:B.Perm A):HLe A B:=HLe.of_sub [] (by rw [qC];exact h)
theorem waveIx_vc {w0:World}{H:HP}{K:Value->HP->Prop}(E:SrcE)(C:Chp)(hroom:1<=C.mesh.room/\C.mesh.room<=64)(pd:Option Addr)(cd:Nat)(ws:List WvM)(hws:∀x∈ws,WvOk E x/\x.ks.length<=65536)(hwl:ws.length<=65536)(pw:Option Addr)(hwp:0<ws.length->∃g,pw=some ⟨g,0,none⟩)(cw bt bc go co:Nat)(t1 t2 t3:Value)(hone:oneAll [t1,t2,t3]=true)(o:List Int)(key:Int)(hko:E.T key=o)(ho:OutsOk o)(hol:o.length<=64)(S:HP)
  (hH:HLe (.vec pw ws.length cw 161 1 (flat wvV ws)::.row bt 169 [t1,t2,t3,.slice (some ⟨go,0,none⟩) o.length co]::.row bc 30 (chpC C pd cd)::.vec (some ⟨go,0,none⟩) o.length co 3 1 (flat intV o)::(ws.flatMap (wvE E)++S)) H)
  (hK:K (.int .i64 (if waveIx E.T C.mesh.room (ws.map (·.ks)) key<ws.length then (waveIx E.T C.mesh.room (ws.map (·.ks)) key:Int) else -1)) (.vec pw ws.length cw 161 1 (flat wvV ws)::.row bt 169 [t1,t2,t3,.slice (some ⟨go,0,none⟩) o.length co]::.row bc 30 (chpC C pd cd)::.vec (some ⟨go,0,none⟩) o.length co 3 1 (flat intV o)::(ws.flatMap (wvE E)++S))):
  VCall Tryz.cx.P w0 [] H 63 [.slice pw ws.length cw,.func (.func 64) #[] #[.pointer (some ⟨bt,0,none⟩),.pointer (some ⟨bc,0,none⟩)]] K:=by
 refine VCall.le hH ?_
 refine VCall.inl (F:=Tryz.fx63) Tryz.func63 rfl rfl rfl Tryz.ok63 ?_
 repeat' (conv=>whnf);first|refine VSeq.go ?_|refine oN fun _=>?_
 all_goals (conv=>whnf)
 refine VLoop.mk (α:=Nat) (fun i=>i<=ws.length/\∀j,j<i->takesM C.mesh.room (((ws.map (·.ks))[j]?.getD []).map E.T) (E.T key)=false) (fun i=>[(1000000,.tuple #[]),(0,.slice pw ws.length cw),(1,.func (.func 64) #[] #[.pointer (some ⟨bt,0,none⟩),.pointer (some ⟨bc,0,none⟩)]),(4,.int .i64 0),(7,.int .i64 (ws.length:Int)),(8,.int .i64 (i:Int))])
  (fun _=>.vec pw ws.length cw 161 1 (flat wvV ws)::.row bt 169 [t1,t2,t3,.slice (some ⟨go,0,none⟩) o.length co]::.row bc 30 (chpC C pd cd)::.vec (some ⟨go,0,none⟩) o.length co 3 1 (flat intV o)::(ws.flatMap (wvE E)++S)) (fun i=>ws.length - i) 0 ⟨qB _,fun j hj=>absurd hj qZ⟩ aE (HLe.refl _) ?_
 rintro i ⟨hi,hb⟩
 rcases qy i ws.length with hlt|hge
 ·obtain ⟨x,hx⟩:∃x,ws[i]? =some x:=⟨_,qq hlt⟩
  have hxo:=hws x (qz hx)
  obtain ⟨g,rfl⟩:=hwp qZ
  have hks:(ws.map (·.ks))[i]?.getD []=x.ks:=by rw [qj,hx];rfl
  have hpm:=fm_get (wvE E) hx
  have hch:sub (chpC C pd cd) 2 1=some [.int .i64 C.mesh.room]:=rfl
  have hml:i<=(ws.map (·.ks)).length:=by rw [qv];exact hi
  have hyes:takesM C.mesh.room (x.ks.map E.T) o=true->waveIx E.T C.mesh.room (ws.map (·.ks)) key=i:=fun h=>waveIx_spec hml hb (fun _=>by rw [hks,hko];exact h)
  obtain ⟨tk,htk⟩:=gX (takesM C.mesh.room (x.ks.map E.T) o)
  repeat' (conv=>whnf);first|refine oI ?_|(refine VLd.is ?_;refine VLd.mk (Rd.cast (.vec aT (sub_flat0 (f:=wvV) (k:=1) (fun _=>rfl) hx rfl)) oE) ?_)|(refine VLd.is ?_;refine VLd.mk (Rd.cast (.row aT (hch)) oE) ?_)|(refine VCall.isF 64 ?_;refine VCall.inl (F:=Tryz.fx64) Tryz.func64 rfl rfl rfl Tryz.ok64 ?_)|(refine VCall.isF 65 ?_;(refine VCall.hle ?_;refine takes_vc (x.ks.map E.T) (by rw [qv];exact hxo.2) o ho hol t1 t2 t3 hone go co x.b x.bm _ _ x.m hxo.1 C.mesh.room qZ (.vec (some ⟨g,0,none⟩) ws.length cw 161 1 (flat wvV ws)::.row bt 169 [t1,t2,t3,.slice (some ⟨go,0,none⟩) o.length co]::.row bc 30 (chpC C pd cd)::((ws.eraseIdx i).flatMap (wvE E)++S)) (HLe.ofPerm (perm_take _ _ _ _ _ _ S hpm)) ⟨_,HLe.ofPerm (perm_take _ _ _ _ _ _ S hpm).symm,?_⟩;rw [htk]))|refine VSeq.go ?_|refine oY fun _=>?_|(refine oB (fun h=>?_) (fun h=>?_)<;>subst h)|refine oL ?_|refine oA ?_
  all_goals (conv=>whnf)
  ·rw [hyes htk,jx hlt] at hK
   exact hK
  ·refine VNext.mk (i+1) ⟨by omega,fun j hj=>?_⟩ qZ aE (HLe.refl _)
   by_cases hji:j<i
   ·exact hb j hji
   ·have:j=i:=by omega
    subst this
    rw [hks,hko];exact htk
 have hil:i=ws.length:=by omega
 subst hil
 have hno:waveIx E.T C.mesh.room (ws.map (·.ks)) key=ws.length:=waveIx_spec (by rw [qv];exact qA _) hb (fun h=>by rw [qv] at h;exact absurd h (Nat.lt_irrefl _))
 rw [hno,jz (Nat.lt_irrefl _)] at hK
 repeat' (conv=>whnf);first|refine VSeq.go ?_|refine oN fun _=>?_
 all_goals (conv=>whnf)
 exact hK
theorem _root_.Go.Vx.VCall.takeS {P:Program}{w0:World}{M:List Nat}{H S R:HP}{f:Nat}{args:List Value}{K:Value->HP->Prop}(htk:Take H S R)(h:VCall P w0 M (S++R) f args K):VCall P w0 M H f args K:=by
 obtain ⟨h⟩:=h
 exact .mk fun w hw=>h w (hw.perm htk.perm)
theorem addW_vc {w0:World}{H R:HP}{K:Value->HP->Prop}(E:SrcE)(s:Spc)(hs:s.wf)(hW:E.W=s.wide)(x:WvM)(hx:WvOk E x)(hlen:x.ks.length<=65000)(hre:reachM E.W E.home E.tg x.ks<=1000)(key:Int)(o:List Int)(hko:E.T key=o)(ho:OutsOk o)(hol:o.length<=64)(t1:Value)(hone:oneAll [t1]=true)
  (home:Int) (hkh:E.home key=home) (hhome:I64 home) (tg:List Int) (hkt:E.tg key=tg) (htg:∀t∈tg,I64 t/\(distR s home t)=((distM s.wide home t:Int),0)/\distM s.wide home t<=1000) (htl:tg.length<=65536) (gc cc go co:Nat)
  (hT:Take H (.row x.b 164 [.map (some x.bm),.int .i64 (mostM ((x.ks).map E.T):Int),.int .i64 (reachM E.W E.home E.tg (x.ks):Int)]::.mapk x.bm x.m::.vec (some ⟨go,0,none⟩) o.length co 3 1 (flat intV o)::.vec (some ⟨gc,0,none⟩) tg.length cc 3 1 (flat intV tg)::[]) R)
  (hK:∀m',WvOk E ⟨x.b,x.bm,m',x.ks++[key]⟩->K (.tuple #[]) (.row x.b 164 [.map (some x.bm),.int .i64 (mostM ((x.ks++[key]).map E.T):Int),.int .i64 (reachM E.W E.home E.tg (x.ks++[key]):Int)]::.mapk x.bm m'::.vec (some ⟨go,0,none⟩) o.length co 3 1 (flat intV o)::.vec (some ⟨gc,0,none⟩) tg.length cc 3 1 (flat intV tg)::R)):
  VCall Tryz.cx.P w0 [] H 62 [.pointer (some ⟨x.b,0,none⟩),.agg (spcC s).toArray,.agg #[t1,.int .i64 home,.slice (some ⟨gc,0,none⟩) tg.length cc,.slice (some ⟨go,0,none⟩) o.length co]] K:=by
 refine VCall.takeS hT ?_
 refine add_vc s hs (x.ks.map E.T) (by rw [qv];omega) o ho hol t1 hone home hhome tg htg htl gc cc go co x.b x.bm (reachM E.W E.home E.tg x.ks) hre x.m hx R (HLe.refl _) fun m' hm'=>?_
 have e1:(x.ks++[key]).map E.T=x.ks.map E.T++[o]:=by rw [ql,qU,hko]
 have e2:reachM E.W E.home E.tg (x.ks++[key])=(tg.map fun t=>distM s.wide home t).foldl max (reachM E.W E.home E.tg x.ks):=by rw [reachM_snoc,hkt,hkh,hW]
 have:=hK m' (by unfold WvOk;dsimp only;rw [e1];exact hm')
 rw [e1,e2] at this
 exact this
theorem take_wave {E:SrcE}{H:HP}{Z:HP->HP}{l:List WvM}{i:Nat}{x:WvM}(h:AtS H (l.flatMap (wvE E)) Z)(hx:l[i]? =some x):HLe (.row x.b 164 [.map (some x.bm),.int .i64 (mostM ((x.ks).map E.T):Int),.int .i64 (reachM E.W E.home E.tg (x.ks):Int)]::.mapk x.bm x.m::((l.eraseIdx i).flatMap (wvE E)++Z [])) H:=by
 refine HLe.ofPerm (h.perm.trans ?_)
 exact List.Perm.append_right (Z []) (fm_get (wvE E) hx)
theorem put_wave {E:SrcE}{A:HP}{Z:HP->HP}{l:List WvM}{i:Nat}{y:WvM}(h:AtS A ((l.set i y).flatMap (wvE E)) Z)(hi:i<l.length):A.Perm (.row y.b 164 [.map (some y.bm),.int .i64 (mostM ((y.ks).map E.T):Int),.int .i64 (reachM E.W E.home E.tg (y.ks):Int)]::.mapk y.bm y.m::((l.eraseIdx i).flatMap (wvE E)++Z [])):=by
 refine h.perm.trans ?_
 exact List.Perm.append_right (Z []) (fm_set (wvE E) hi y)
theorem put_wave_new {E:SrcE}{A:HP}{Z:HP->HP}{l:List WvM}{y:WvM}(h:AtS A ((l++[y]).flatMap (wvE E)) Z):A.Perm (.row y.b 164 [.map (some y.bm),.int .i64 (mostM ((y.ks).map E.T):Int),.int .i64 (reachM E.W E.home E.tg (y.ks):Int)]::.mapk y.bm y.m::(l.flatMap (wvE E)++Z [])):=by
 refine h.perm.trans ?_
 rw [QK]
 exact List.Perm.append_right (Z []) List.perm_append_comm
theorem foldl_maxB:∀(l:List Nat) (a b:Nat),a<=b->(∀x∈l,x<=b)->l.foldl max a<=b
 |[],a,b,h,_=>h
 |x::l,a,b,h,hl=>by
  rw [Qp]
  exact foldl_maxB l _ b (by have:=hl x qg;omega) fun y hy=>hl y (qu _ hy)
end Go.Proofs
end

section
namespace Go.Proofs
open Go Go.Vx Go.Gm
theorem perm_pl (a b:Ent)(P G:HP):(a::b::(P++G)).Perm (P++(a::b::G)):=by
 refine List.Perm.trans ?_ List.perm_middle.symm
 exact List.Perm.cons _ List.perm_middle.symm
theorem trees_iter2 {α:Type}{w0:World}{H:HP}{K:Value->HP->Prop}(X:PlnX)(x:PlnM)(cores:List Int)(hA:AsgOk X.N X.C cores)(hup:PlnUp X X.N.syns x)(hrd:PlnRd X w0)(p:Option Addr)(c b o:Nat)(h1:Sl w0 intV 1 cores p cores.length b o)(l b2 b3:Nat)(I:Nat->α->Prop)(G:α->HP)(x0:α)(h0:I 0 x0)
  (hH:HLe (.row b2 146 [.pointer (some ⟨x.b,0,none⟩)]::.row b3 28 [.slice p cores.length c]::(plnH X x++G x0)) H)
  (step:∀k v z,k<nSrc X.N->tgtM X.N X.N.syns (k:Int)≠[]->I k v->
   VYield Tryz.cx.P w0 [] (treH X.N X.C cores (k:Int) z++(.row b2 146 [.pointer (some ⟨x.b,0,none⟩)]::.row b3 28 [.slice p cores.length c]::(plnH X x++G v))) l [.agg (treC X.N X.C cores (k:Int) z).toArray] fun r H'=>(r=.bool true/\∃y,I (k+1) y/\HLe (.row b2 146 [.pointer (some ⟨x.b,0,none⟩)]::.row b3 28 [.slice p cores.length c]::(plnH X x++G y)) H')\/(r=.bool false/\K (.tuple #[]) H'))
  (skip:∀k v,k<nSrc X.N->tgtM X.N X.N.syns (k:Int)=[]->I k v->I (k+1) v)
  (fin:∀v,I (nSrc X.N) v->K (.tuple #[]) (.row b2 146 [.pointer (some ⟨x.b,0,none⟩)]::.row b3 28 [.slice p cores.length c]::(plnH X x++G v))):
  VCall Tryz.cx.P w0 [] H 111 [.func (.yield l) #[] #[],.pointer (some ⟨b2,0,none⟩),.pointer (some ⟨b3,0,none⟩)] K:=by
 have hns:nSrc X.N<=256:=by
  have:=hA.plan.few
  have:=hA.plan.net.inputs
  unfold nSrc;omega
 have hTl:x.T.length=nSrc X.N:=by
  have:=congrArg List.length hup.T
  rw [qv] at this
  rw [this];unfold tgtL;simp
 have k11:sub (plnV X x) 11 1=some [.slice (some ⟨x.gt,0,none⟩) x.T.length x.T.length]:=rfl
 refine VCall.le hH ?_
 refine VCall.inl (F:=Tryz.fx111) Tryz.func111 rfl rfl rfl Tryz.ok111 ?_
 repeat' (conv=>whnf);first|(refine VLd.is ?_;refine VLd.mk (Rd.cast (.row (.there (.there .here)) k11) oE) ?_)|refine VSeq.go ?_|refine oL ?_
 all_goals (conv=>whnf)
 refine VLoop.mk (α:=Nat×α) (fun z=>z.1<=nSrc X.N/\I z.1 z.2) (fun z=>[(1000000,.tuple #[]),(0,.func (.yield l) #[] #[]),(1,.pointer (some ⟨b2,0,none⟩)),(2,.pointer (some ⟨b3,0,none⟩)),(9,.slice (some ⟨x.gt,0,none⟩) x.T.length x.T.length),(10,.int .i64 (x.T.length:Int)),(11,.int .i64 (z.1:Int))])
  (fun z=>.row b2 146 [.pointer (some ⟨x.b,0,none⟩)]::.row b3 28 [.slice p cores.length c]::(plnH X x++G z.2)) (fun z=>nSrc X.N - z.1) (0,x0) ⟨qB _,h0⟩ aE (HLe.refl _) ?_
 rintro ⟨k,v⟩ ⟨hk,hI⟩
 dsimp only at hk hI ⊢
 rcases qy k (nSrc X.N) with hlt|hge
 ·obtain ⟨d,hd⟩:∃d,x.T[k]? =some d:=⟨_,qq qZ⟩
  have hdl:d.l=tgtM X.N X.N.syns (k:Int):=by
   have:=congrArg (fun L=>L[k]?) hup.T
   rw [qj,hd] at this
   unfold tgtL at this
   rw [qj,qX hlt] at this
   simpa using this
  have hpt:=fun (hne:0<d.l.length) (w':World)=>ptree_any X x cores hA k hlt (by rw [<-hdl];exact QA.1 hne) p c b o w'
  have hst:=fun (hne:0<d.l.length) z=>step k v z hlt (by rw [<-hdl];exact QA.1 hne) hI
  have hsk:=fun (hne:¬0<d.l.length)=>skip k v hlt (by rw [<-hdl];exact List.length_eq_zero_iff.1 qZ) hI
  repeat' (conv=>whnf);first|refine oI ?_|(refine VLd.is ?_;refine VLd.mk (Rd.cast (.vec (.there (.there (.there .here))) (sub_flat0 (vs:=[.slice d.p d.l.length d.c]) (s:=1) (f:=srV) (k:=1) (fun _=>rfl) hd rfl)) oE) ?_)|(refine VCall.isF 112 ?_;(refine VCall.genR (fun w' hw'=>hpt qZ w' (PlnAt.of hA.plan hup (hrd.keep hw') hw' (HLe.of_sub _ (perm_pl _ _ _ _))) (h1.keep hw' (by simp))) ?_;rintro z _))|(refine VYield.is ?_;refine VYield.hle (VYield.mono (VYield.weak (HLe.refl _) (hst qZ z)) fun r H' hr=>?_);rcases hr with ⟨rfl,y,hy,hl⟩|⟨rfl,hK⟩<;>first|refine ⟨_,hl,?_⟩|refine ⟨_,HLe.refl _,?_⟩)|refine VSeq.go ?_|refine oY fun _=>?_|refine oS (fun _=>?_) fun _=>?_|refine oL ?_|refine oA ?_
  all_goals (conv=>whnf)
  ·exact VNext.mk (k+1,y) ⟨by dsimp only;omega,hy⟩ (by dsimp only;omega) aE (HLe.refl _)
  ·exact hK
  ·exact VNext.mk (k+1,v) ⟨by dsimp only;omega,hsk qZ⟩ (by dsimp only;omega) aE (HLe.refl _)
 have hkl:k=nSrc X.N:=by omega
 subst hkl
 repeat' (conv=>whnf);first|refine VSeq.go ?_|refine oN fun _=>?_
 all_goals (conv=>whnf)
 exact fin v hI
end Go.Proofs
end

section
namespace Go.Proofs
open Go Go.Vx Go.Gm
theorem _root_.Go.Vx.VShR.zero32 {a:Nat}(h:a<4294967296){k:Int->Prop}(hk:k ((0:Nat):Int)):VShR .u64 (a:Int) 32 k:=
 VShR.natU (a:=a) 32 qZ fun c hc _=>by
  have:c=0:=by rw [hc,Nat.shiftRight_eq_div_pow];exact Nat.div_eq_of_lt h
  rw [this];exact hk
theorem _root_.Go.Vx.VBit.mask32 {a:Nat}(h:a<4294967296){k:Int->Prop}(hk:k (a:Int)):VBit .and .u64 (a:Int) 4294967295 k:=
 VBit.andU (b:=4294967295) qZ qZ fun c hc _=>by
  have:c=a:=by
   rw [hc]
   have:(4294967295:Nat)=2 ^ 32 - 1:=rfl
   rw [this,Nat.and_two_pow_sub_one_eq_mod,Nat.mod_eq_of_lt qZ]
  rw [this];exact hk
theorem bitsMul_one (n:Nat)(hn:n<65536)(w:World):Calls Tryz.prog 110 #[.int .u64 ((1:Nat):Int),.int .u64 (n:Int)] w fun e w'=>e=.returned (.tuple #[.int .u64 ((0:Nat):Int),.int .u64 (n:Int)])/\St w [] [] w':=by
 refine enter (C:=Tryz.cx) (F:=Tryz.fx110) (args:=[_,_]) Tryz.func110 rfl rfl rfl Tryz.ok110 (St.start w []) ?_
 repeat' (conv=>whnf);first|(refine VCall.isF 175 ?_;refine VCall.inl (F:=Tryz.fx175) Tryz.func175 rfl rfl rfl Tryz.ok175 ?_)|(refine VShR.is ?_;refine VShR.zero32 qZ ?_)|(refine VBit.is ?_;refine VBit.mask32 qZ ?_)|(refine VAr.is ?_;refine VAr.u64g qZ qZ fun c hc=>?_;first|(have e:c=0:=qZ;subst e;clear hc)|(have e:n=c:=qZ;subst e;clear hc))|refine VSeq.go ?_
 all_goals (conv=>whnf)
 exact ⟨fun w' hw'=>⟨rfl,hw'.le .nil⟩⟩
theorem rep_upd {n j m:Nat}{v:Int}(h:j+m<=n):upd (flat intV (List.replicate j v++List.replicate (n - j) 0)) (j*1) (flat intV (List.replicate m v))=some (flat intV (List.replicate (j+m) v++List.replicate (n - (j+m)) 0)):=by
 have e1:∀q (a:Int),(flat intV (List.replicate q a)).length=q:=fun q a=>by rw [flat_length (k:=1) (fun _=>rfl),Qn,Nat.mul_one]
 have h1:(flat intV (List.replicate j v++List.replicate (n - j) 0)).length=n:=by rw [flat_append,qw,e1,e1];omega
 rw [upd_mk _ _ _ (by rw [h1,e1];omega)]
 congr 1
 rw [Nat.mul_one,flat_append,flat_append]
 have e2:(flat intV (List.replicate j v)++flat intV (List.replicate (n - j) 0)).take j=flat intV (List.replicate j v):=by
  have:=List.take_left (l₁:=flat intV (List.replicate j v)) (l₂:=flat intV (List.replicate (n - j) 0))
  rw [e1] at this;exact this
 have e3:(flat intV (List.replicate j v)++flat intV (List.replicate (n - j) 0)).drop (j+(flat intV (List.replicate m v)).length)=flat intV (List.replicate (n - (j+m)) 0):=by
  have e4:List.replicate (n - j) (0:Int)=List.replicate m 0++List.replicate (n - (j+m)) 0:=by rw [List.replicate_append_replicate];congr 1;omega
  rw [e4,flat_append,<-qJ]
  have:=List.drop_left (l₁:=flat intV (List.replicate j v)++flat intV (List.replicate m (0:Int))) (l₂:=flat intV (List.replicate (n - (j+m)) (0:Int)))
  rw [qw,e1,e1] at this
  rw [e1];exact this
 rw [e2,e3,<-flat_append,List.replicate_append_replicate]
theorem rep_sub {n j m:Nat}{v:Int}(h:j<=n)(hm:m<=j):sub (flat intV (List.replicate j v++List.replicate (n - j) 0)) 0 (m*1)=some (flat intV (List.replicate m v)):=by
 have e1:∀q (a:Int),(flat intV (List.replicate q a)).length=q:=fun q a=>by rw [flat_length (k:=1) (fun _=>rfl),Qn,Nat.mul_one]
 rw [sub_mk _ _ _ (by rw [flat_append,qw,e1,e1];omega),Nat.mul_one,List.drop_zero]
 congr 1
 have e4:List.replicate j v++List.replicate (n - j) (0:Int)=List.replicate m v++(List.replicate (j - m) v++List.replicate (n - j) 0):=by
  rw [<-qJ,List.replicate_append_replicate];congr 2;omega
 rw [e4,flat_append]
 have:=List.take_left (l₁:=flat intV (List.replicate m v)) (l₂:=flat intV (List.replicate (j - m) v++List.replicate (n - j) (0:Int)))
 rw [e1] at this;exact this
theorem oneAll_ints:∀l:List Int,oneAll (flat intV l)=true
 |[]=>rfl
 |x::l=>by
  have:=oneAll_ints l
  simpa [flat,oneAll,intV,Value.oneCell'] using this
theorem repeat_any (v:Int)(n:Nat)(hn:n<65536)(b o c:Nat)(w:World)(h1:Sl w intV 1 [v] (some ⟨b,o,none⟩) 1 b o):
  Calls Tryz.prog 58 #[.slice (some ⟨b,o,none⟩) 1 c,.int .i64 (n:Int)] w fun e w'=>∃g:Nat,e=.returned (.slice (some ⟨g,0,none⟩) n n)/\True/\St w [] [.vec (some ⟨g,0,none⟩) n n 3 1 (flat intV (List.replicate n v))] w':=by
 have hmul:=fun w'=>bitsMul_one n hn w'
 refine enter (C:=Tryz.cx) (F:=Tryz.fx58) (args:=[_,_]) Tryz.func58 rfl rfl rfl Tryz.ok58 (St.start w []) ?_
 repeat' (conv=>whnf);first|(refine VCall.isF 110 ?_;(refine VCall.valR (fun w' _=>hmul w') ?_))|(refine VAr.is ?_;refine VAr.u64g qZ qZ fun c hc=>?_;first|(have e:c=1:=qZ;subst e;clear hc)|(have e:n=c:=qZ;subst e;clear hc))|(refine VMk.is ?_;refine VMk.mk qZ qZ (by (try dsimp only);omega) qZ fun g=>?_)|refine VSeq.go ?_|refine oN fun _=>?_|refine oA ?_
 all_goals (conv=>whnf)
 have hsrc:∀H,Src w [] H (some ⟨b,o,none⟩) (min 1 n) 1 (flat intV (List.replicate (min 1 n) v)):=fun H=>by
  by_cases h0:n=0
  ·subst h0;exact .none0
  ·have:min 1 n=1:=by omega
   rw [this]
   exact h1.src (by simp) (fun _=>rfl)
 have hu0:=rep_upd (n:=n) (j:=0) (m:=min 1 n) (v:=v) qZ
 rw [Nat.zero_mul,Qo,List.replicate_zero,Qc,Nat.sub_zero,<-flat_rep] at hu0
 refine VCp.into (off:=0) rfl (hsrc _) (VSt.vec aT hu0 (oneAll_ints _) ?_)
 repeat' (conv=>whnf);first|refine VSeq.go ?_|refine oN fun _=>?_
 all_goals (conv=>whnf)
 refine VLoop.mk (α:=Nat) (fun j=>j<=n/\(1<=j\/n=0)) (fun j=>[(1000000,.tuple #[]),(4,.slice none 0 0),(7,.slice (some ⟨g,0,none⟩) n n),(8,.int .i64 (j:Int))])
  (fun j=>[.vec (some ⟨g,0,none⟩) n n 3 1 (flat intV (List.replicate j v++List.replicate (n - j) 0))]) (fun j=>n - j) (min 1 n) ⟨by omega,by omega⟩ aE aH ?_
 rintro j ⟨hj,hj1⟩
 rcases qy j n with hlt|hge
 ·have hu:=rep_upd (n:=n) (j:=j) (m:=min j (n - j)) (v:=v) qZ
  have hs:=rep_sub (n:=n) (j:=j) (m:=min j (n - j)) (v:=v) qZ qZ
  repeat' (conv=>whnf);first|(refine VSl.is ?_;first|refine VSl.cut0 (m:=j) (cap:=n) qZ ?_|(refine VSl.off (l:=j) (h:=n) (c:=n) rfl rfl rfl qZ qZ fun off hoff=>?_;have hoe:=hoff qZ;subst hoe))|(refine VCp.is ?_;refine VCp.into rfl (.at_ (.vec aT hs)) (VSt.cast (off':=j*1) oE (VSt.vec aT hu (oneAll_ints _) ?_)))|refine VSeq.go ?_|refine oY fun _=>?_|refine oA ?_|refine oH ?_
  all_goals (conv=>whnf)
  have e:(j:Int)+((min j (n - j):Nat):Int)=((j+min j (n - j):Nat):Int):=by omega
  rw [e]
  exact VNext.mk (j+min j (n - j)) ⟨by omega,by omega⟩ qZ aE aH
 have hjn:j=n:=by omega
 subst hjn
 rw [jq,List.replicate_zero,qC]
 repeat' (conv=>whnf);first|refine VSeq.go ?_|refine oN fun _=>?_
 all_goals (conv=>whnf)
 exact ⟨fun w' hw'=>⟨g,rfl,trivial,hw'.le aH⟩⟩
end Go.Proofs
end

section
namespace Go.Gm
end Go.Gm
namespace Go.Proofs
open Go Go.Vx Go.Gm
end Go.Proofs
end

section
namespace Go.Proofs
open Go Go.Vx Go.Gm
end Go.Proofs
end

section
namespace Go.Proofs
open Go Go.Vx
def Marks (m:List (Int×Value))(S:List Int):Prop:=∀k,mfind m k=if k∈S then some (.bool true) else none
theorem mfind_mset (m:List (Int×Value))(j:Int)(v:Value)(k:Int):mfind (mset m j v) k=if j=k then some v else mfind m k:=by
 induction m with
 |nil=>simp [mset,mfind]
 |cons x m ih=>
  obtain ⟨a,b⟩:=x
  simp only [mset,mfind]
  by_cases h:a=j
  ·subst h
   by_cases h2:a=k<;>simp [mfind,h2]
  ·by_cases h2:a=k
   ·have:¬j=k:=fun e=>h qZ
    subst h2
    rw [jz h,jz this]
    simp [mfind]
   ·simp [mfind,h,h2,ih]
theorem Marks.add {m:List (Int×Value)}{S:List Int}(h:Marks m S)(j:Int):Marks (mset m j (.bool true)) (S++[j]):=by
 intro k
 rw [mfind_mset,h k]
 by_cases e:j=k
 ·subst e;simp
 ·have:¬k=j:=fun h=>e h.symm
  simp [e,this]
end Go.Proofs
end

section
namespace Go.Gm
end Go.Gm
namespace Go.Proofs
open Go Go.Vx Go.Gm
def CntIs (m:List (Int×Value))(f:Int->Nat):Prop:=∀k,mfind m k=if f k=0 then none else some (.int .i64 (f k:Int))
theorem CntIs.add {m:List (Int×Value)}{f g:Int->Nat}(h:CntIs m f)(j:Int)(hg:∀k,g k=f k+if j=k then 1 else 0):CntIs (mset m j (.int .i64 ((f j:Int)+1))) g:=by
 intro k
 rw [mfind_mset,h k,hg k]
 by_cases e:j=k
 ·subst e
  rw [jx rfl,jx rfl,jz qZ]
  rfl
 ·rw [jz e,jz e];rfl
theorem CntIs.look {m:List (Int×Value)}{f:Int->Nat}(h:CntIs m f)(j:Int):(mfind m j=none/\f j=0)\/(mfind m j=some (.int .i64 (f j:Int))/\f j≠0):=by
 have:=h j
 by_cases e:f j=0
 ·rw [jx e] at this;exact .inl ⟨this,e⟩
 ·rw [jz e] at this;exact .inr ⟨this,e⟩
end Go.Proofs
end
