import Derived.Test.YtlbekjokdlkghaaGreatChipMovesYg
set_option linter.unusedVariables false
set_option linter.unusedSimpArgs false
set_option maxHeartbeats 4000000
namespace Go.Proofs
open Go Go.Vx Go.Gm
theorem _root_.Go.Vx.hC7 {w0:World}{M:List Nat}{H r:HP}{u:Ent->HP}{p:Option Addr}{b off s n cap e size:Nat}{xs vs:List Value}(hat:At H (.vec p n cap e size xs) u r)(hp:p=some ⟨b,0,none⟩)(h:sub xs off s=some vs):Rd w0 M H b off s vs:=by
 subst hp
 exact .vec hat h
def fK9 (w:Wrk)(p h r a:Nat):Wrk:={w with packets:=w.packets+(p:Int),hops:=w.hops+(h:Int),rows:=w.rows+(r:Int),arrivals:=w.arrivals+(a:Int)}
theorem gL2 (w:Wrk)(p h:Nat):fK9 w p h 0 0=fN6 w p h:=by
 unfold fK9 fN6
 simp
set_option maxHeartbeats 8000000 in
theorem dF5 (N:Net)(C:Chp)(cores:List Int)(hA:AsgOk N C cores)(x:MacX)(m:Mac)(hm:MacGo N C x m)(ht:m.t<10000)(ins:List Int)(hil:ins.length<=65536)(hi:ins.Pairwise (· <·))(hi2:∀k∈ins,0<=k)(pi:Option Addr)(ci bi oi:Nat)(w:World)
  (hs:St w (ids (bJ3 N C cores x m)) (bJ3 N C cores x m) w) (hx:MacIn w (ids (bJ3 N C cores x m)) N C cores x) (hin:Sl w bQ6 1 ins pi ins.length bi oi) (hbi:bi∉ids (bJ3 N C cores x m)):
  Calls Tryz.prog 95 #[.pointer (some ⟨x.b,0,none⟩),.slice pi ins.length ci] w fun e w'=>∃y:Option Addr×Nat,e=.returned (.slice y.1 (bZ0 m).length y.2)/\(0<(bZ0 m).length->∃g,y.1=some ⟨g,0,none⟩)/\St w (ids (bJ3 N C cores x m)) (bJ3 N C cores x (bH4 N C cores m ins)++[.vec y.1 (bZ0 m).length y.2 3 1 (bQ1 bQ6 (bZ0 m))]) w':=by
 have hgo:=hm.step hA ht hi hi2
 have hfewW:=hm.few
 obtain ⟨t,cs,wk⟩:=m
 dsimp only at ht hfewW
 obtain ⟨F,hF⟩:=gX (cF t cs)
 have hSp:bZ0 ⟨t,cs,wk⟩=spk F:=by unfold bZ0;rw [hF]
 obtain ⟨Mx,hMx⟩:=gX (ids (bJ3 N C cores x ⟨t,cs,wk⟩))
 have hlen:=hm.ok.len
 have hbs:=hm.bs
 have hdue:=hm.ok.due
 have hids:=hm.ok.ids
 have hsta:=hm.sta
 have hzs:=hm.zs
 have hps:=hm.ok.ps
 dsimp only at hlen hbs hdue hids hsta hzs hps
 have hFl:F.length=cs.length:=by rw [<-hF];exact fM4 t cs
 rw [hMx] at hs hx hbi ⊢
 unfold bJ3 at hs
 rw [hSp]
 have hnf:=hA.plan.net.few
 have hsome:=hA.plan.net.some
 have hpar:=hA.plan.net.ps
 have hnsr:bV2 N<=256:=by
  have:=hA.plan.few
  have:=hA.plan.net.inputs
  unfold bV2;omega
 obtain ⟨hcells,hcM⟩:=hx.cells
 obtain ⟨gtab,htb,htM⟩:=hx.tab
 obtain ⟨KM,⟨hKM,hkM⟩,hKr⟩:=hx.kmap
 have h0:∀w,sub (bV1 N C cores x t w) 0 1=some [.int .i64 (t:Int)]:=fun _=>rfl
 have h2:∀w,sub (bV1 N C cores x t w) 2 1=some [.slice (some ⟨x.cb,0,none⟩) N.ps.length x.cc]:=fun _=>rfl
 have h1:∀w,sub (bV1 N C cores x t w) 1 1=some [.map (some x.kb)]:=fun _=>rfl
 have h7:∀w,sub (bV1 N C cores x t w) 7 3=some [.int .i64 C.mesh.wide,.int .i64 C.mesh.high,.int .i64 C.mesh.room]:=fun _=>rfl
 have h20:∀w,sub (bV1 N C cores x t w) 20 1=some [.slice x.pt (bX1 C) x.ct]:=fun _=>rfl
 have h24:∀w,sub (bV1 N C cores x t w) 24 1=some [.int .i64 (bW4 N C cores:Int)]:=fun _=>rfl
 have h31:∀w,sub (bV1 N C cores x t w) 31 1=some [.int .i64 w.rows]:=fun _=>rfl
 have h30:∀w,sub (bV1 N C cores x t w) 30 1=some [.int .i64 w.arrivals]:=fun _=>rfl
 refine enter (C:=Tryz.cx) (F:=mY9) (args:=[_,_]) Tryz.func95 rfl rfl rfl ok95 hs ?_
 repeat' (conv=>whnf);first|(refine VLd.is ?_;refine oC (.row aT ((h0 wk))) ?_)|(refine VLd.is ?_;refine oC (.row aT ((h2 wk))) ?_)|(refine VSeq.go ?_)|(refine VLd.is ?_;refine VLd.mk (.row aT (by rfl)) ?_)|(refine VNew.mk fun _=>?_)|(refine VM.is ?_;refine oM ?_)
 all_goals (conv=>whnf)
 rename_i b2 b3 b5
 refine VLoop.mk (α:=Nat×Option Addr×Nat) (fun z=>z.1<=N.ps.length/\(0<(spk (F.take z.1)).length->∃g,z.2.1=some ⟨g,0,none⟩))
  (fun z=>[(1000000,.tuple #[]),(2,.pointer (some ⟨b2,0,none⟩)),(3,.pointer (some ⟨b3,0,none⟩)),(4,.slice none 0 0),(5,.pointer (some ⟨b5,0,none⟩)),(6,.int .i64 ((t:Int)%16)),(34,.slice (some ⟨x.cb,0,none⟩) N.ps.length x.cc),(35,.int .i64 (N.ps.length:Int)),(36,.int .i64 (z.1:Int))])
  (fun z=>.row b2 88 [.pointer (some ⟨x.b,0,none⟩)]::.row b3 28 [.slice pi ins.length ci]::.row b5 28 [.slice z.2.1 (spk (F.take z.1)).length z.2.2]::.vec z.2.1 (spk (F.take z.1)).length z.2.2 3 1 (bQ1 bQ6 (spk (F.take z.1)))::.row x.b 135 (bV1 N C cores x t (wk))::(dZ1 (bY0 t) cs z.1).map bB6) (fun z=>N.ps.length - z.1) (0,none,0) ⟨qB _,fun h=>absurd h (by simp [spk,bW8])⟩ aE ?_ ?_
 ·have e0:spk (F.take 0)=[]:=rfl
  dsimp only
  rw [fH2,e0]
  dsimp only [List.length_nil,cN6]
  refine HLe.trans ?_ (HLe.nilv (e:=3) (size:=1) (.refl _))
  exact aH
 rintro ⟨i,p,cap⟩ ⟨hi0,hp⟩
 dsimp only at hi0 hp ⊢
 rcases qy i N.ps.length with hlt|hge
 ·-- cut<
  obtain ⟨c,hc⟩:∃c,cs[i]? =some c:=⟨_,qq (by omega)⟩
  have hcm:=qz hc
  have hb:x.bs[i]? =some c.b:=by rw [<-hbs,qj,hc];rfl
  have hid:=hids i c hc
  have hpo:=hpar c.p (by rw [<-hps];exact qN (f:=(·.p)) hcm)
  have hso:=hsta c hcm
  have hd16:=hdue c hcm
  obtain ⟨xx,hxx⟩:∃xx,c.due[t%16]? =some xx:=⟨_,qq (by omega)⟩
  have hT:=hC4 c.p c.s xx hpo hso
  have hFi:=kD3 (t:=t) hc
  rw [hxx,qY,hF] at hFi
  obtain ⟨⟨s',fb⟩,htk⟩:∃y,tick c.p c.s xx=y:=⟨_,rfl⟩
  rw [htk] at hT hFi
  dsimp only at hT
  have hcf:bY0 t c={c with s:=s',due:=c.due.set (t%16) 0}:=by unfold bY0;rw [hxx,qY,htk]
  have hmi:=gG1 (f:=bY0 t) hc
  have hset:=gY9 (f:=bY0 t) hc
  have hml:i<(dZ1 (bY0 t) cs i).length:=by rw [gG0];omega
  have hspk:=gV8 hFi
  have hsl:=bB5 F i
  dsimp only at hspk
  have hp1:sub (dB7 c) 1 8=some (bH3 c.p):=rfl
  have hp10:sub (dB7 c) 10 2=some (cJ6 c.s):=gB1 c
  have hpd:=fJ6 hxx
  have hu1:upd (dB7 c) 10 [.int .i64 s'.v,.int .i64 s'.rest]=some (dB7 {c with s:=s'}):=fJ5 c s'
  have hu2:upd (dB7 {c with s:=s'}) (12+t%16) [.int .i64 0]=some (dB7 (bY0 t c)):=by rw [hcf];exact dK0 (c:={c with s:=s'}) (by dsimp only;omega) 0
  have hu3:upd (dB7 c) (12+t%16) [.int .i64 0]=some (dB7 {c with due:=c.due.set (t%16) 0}):=dK0 (by omega) 0
  have hu4:upd (dB7 {c with due:=c.due.set (t%16) 0}) 10 [.int .i64 s'.v,.int .i64 s'.rest]=some (dB7 (bY0 t c)):=by rw [hcf];exact fJ5 {c with due:=c.due.set (t%16) 0} s'
  have hbE:(bY0 t c).b=c.b:=rfl
  have h00:sub (dB7 (bY0 t c)) 0 1=some [.int .i64 (i:Int)]:=by rw [<-hid];rfl
  have hmi2:((dZ1 (bY0 t) cs i).set i ⟨c.b,c.id,c.p,c.z,s',c.due⟩)[i]? =some ⟨c.b,c.id,c.p,c.z,s',c.due⟩:=QZ hml
  have hmi3:(dZ1 (bY0 t) cs (i+1))[i]? =some (bY0 t c):=by rw [<-hset];exact QZ hml
  repeat' (conv=>whnf);first|(refine VIx.is ?_;refine VIx.mk rfl (by omega) (by omega) ?_)|(refine VLd.is ?_;refine oC (hcells.rd0 hcM (fun _=>rfl) hb rfl) ?_)|(refine VLd.is ?_;refine oC (Rd.segR (f:=bB6) (l:=dZ1 (bY0 t) cs i) aS hmi rfl hp1) ?_)|(refine VLd.is ?_;refine oC (Rd.segR (f:=bB6) (l:=dZ1 (bY0 t) cs i) aS hmi rfl hp10) ?_)|(refine VLd.is ?_;refine oC (Rd.segR (f:=bB6) (l:=dZ1 (bY0 t) cs i) aS hmi rfl hpd) ?_)|(refine VLd.is ?_;refine oC (Rd.segR (f:=bB6) (l:=dZ1 (bY0 t) cs (i+1)) aS hmi3 rfl h00) ?_)|(refine bQ0 138 ?_;(refine VCall.val hT ?_))|(refine VSt.is ?_;refine VSt.is ?_;refine VSt.cast (off':=10) (by first|omega|(dsimp only;omega)|rfl) (VSt.segR (f:=bB6) (l:=dZ1 (bY0 t) cs i) (y:=⟨c.b,c.id,c.p,c.z,s',c.due⟩) aS hmi rfl hu1 rfl rfl ?_))|(refine VSt.is ?_;refine VSt.is ?_;refine VSt.cast (off':=12+t%16) (by first|omega|(dsimp only;omega)|rfl) (VSt.segR (f:=bB6) (l:=(dZ1 (bY0 t) cs i).set i ⟨c.b,c.id,c.p,c.z,s',c.due⟩) (y:=bY0 t c) aS hmi2 rfl hu2 rfl rfl ?_);rw [List.set_set,hset])|(refine VHs.is ?_;refine VHs.is ?_;refine VHs.mk (.row b5 28 [.slice p (spk (F.take i)).length cap]::(dZ1 (bY0 t) cs (i+1)).map bB6) aH ?_)|(refine VHs.is ?_;refine VHs.is ?_;refine VHs.mk [.row _ 126 [.int .i64 s'.v,.int .i64 s'.rest]] aH ?_)|(refine VAp.is ?_;refine VAp.is ?_;refine VAp.own aT (.at_ (.vec aT rfl)) (by simp [Value.oneCell']) (by (try dsimp only);omega) (by simp only [maxLen];omega) fun p' cap' hp'=>?_)|(refine VSeq.go ?_)|(refine VB.is ?_;refine bX5 (by omega) fun _=>?_)|(refine bT0 (fun h=>?_) (fun h=>?_)<;>subst h)|(refine VLd.is ?_;refine VLd.mk (.row aT (by rfl)) ?_)|(refine VSt.is ?_;refine VSt.row aT (by rfl) (by first|rfl|assumption) ?_)|(refine VNew.mk fun _=>?_)|(refine VAr.is ?_;refine oA ?_)|(refine VKeep.is ?_;refine VKeep.mk aH ?_)|(refine VHs.mk _ (.refl _) ?_)|(refine And.intro ?_ ?_)
  all_goals (conv=>whnf)
  all_goals first
   |(simp only [if_true] at hspk
     refine VNext.mk (i+1,p',cap') ⟨by dsimp only;omega,fun _=>hp' (by omega)⟩ (by dsimp only;omega) aE ?_
     dsimp only;rw [hspk,List.length_append,bQ7];exact aH)
   |(simp only [QV,if_false,qC] at hspk
     refine VNext.mk (i+1,p,cap) ⟨by dsimp only;omega,by dsimp only;rw [hspk];exact hp⟩ (by dsimp only;omega) aE ?_
     dsimp only;rw [hspk];exact aH)
  -- >cut
 have hin2:i=N.ps.length:=by omega
 have hfull:F.take i=F:=qe (by omega)
 have hmid:dZ1 (bY0 t) cs i=bD6 t cs:=by rw [hin2,<-hlen];exact gG2 _ _
 rw [hfull,hmid]
 rw [hfull] at hp
 have hspl:(spk F).length<=1024:=by
  have h:=bB5 F F.length
  rw [Qk] at h
  omega
 repeat' (conv=>whnf);first|(refine bQ0 146 ?_;refine VCall.inl (F:=lH9) Tryz.func146 rfl rfl rfl mQ0 ?_)|(refine VRange.go (ms:=[]) rfl fun hokx hoky l d L hL=>?_)|(refine VSeq.go ?_)|(refine VB.is ?_;refine bZ2 (by omega) fun _=>?_)|(refine VLd.is ?_;refine VLd.mk (.row aT (by rfl)) ?_)|(refine VSt.is ?_;refine VSt.row aT (by rfl) (by first|rfl|assumption) ?_)|(refine VNew.mk fun _=>?_)
 all_goals (conv=>whnf)
 rename_i b13 q2 q3
 have hspkA:(spk F).Pairwise (· <·):=cD6 F 0
 have hspk0:∀k∈spk F,0<=k:=fun k hk=>(cT5 hk).1
 have haf:=dF6 hA hspkA hi hspk0 hi2
 have hwk12:wk.few 1000000000000:=by unfold Wrk.few at hfewW ⊢;omega
 obtain ⟨sends,hse⟩:=gX (bJ8 N (spk F) ins)
 rw [hse] at haf
 have hadd0:∀T,bY4 N C cores (bJ6 N C) sends T 0=[]:=fun _=>rfl
 have harr0:∀T,bK8 N C cores sends T 0=0:=fun _=>rfl
 have hlas0:∀T,bM2 N C cores sends T 0=0:=fun _=>rfl
 refine gP5 N C cores hA x hx t wk hwk12 (spk F) ins (by omega) hil p cap pi ci bi oi hin hbi l q2 q3 b2 b3 b5 (L .ready none::.obj d (.deferred (some []))::.row b13 3 [.int .i64 0]::(bD6 t cs).map bB6) (fun v y=>bY4 N C cores (bJ6 N C) sends (stT N C cores) v=bY4 N C cores (bJ6 N C) sends (stT N C cores) y/\bK8 N C cores sends (stT N C cores) v=bK8 N C cores sends (stT N C cores) y/\bM2 N C cores sends (stT N C cores) v=bM2 N C cores sends (stT N C cores) y/\y<=(bX4 N C cores).length) (fun y=>L .ready none::.obj d (.deferred (some []))::.row q2 88 [.pointer (some ⟨x.b,0,none⟩)]::.row q3 145 [.func (.func 144) #[] #[.pointer (some ⟨b2,0,none⟩),.pointer (some ⟨b5,0,none⟩),.pointer (some ⟨b3,0,none⟩)]]::.row b2 88 [.pointer (some ⟨x.b,0,none⟩)]::.row b5 28 [.slice p (spk F).length cap]::.row b3 28 [.slice pi ins.length ci]::.vec p (spk F).length cap 3 1 (bQ1 bQ6 (spk F))::.row x.b 135 (bV1 N C cores x t (fK9 wk ((bX0 N).filter sends).length (bZ7 N C cores ((bX0 N).filter sends)) ((bY4 N C cores (bJ6 N C) sends (stT N C cores) y).length) (bK8 N C cores sends (stT N C cores) y)))::.row b13 3 [.int .i64 ((bM2 N C cores sends (stT N C cores) y:Nat):Int)]::((bY4 N C cores (bJ6 N C) sends (stT N C cores) y).foldl (cG7 t) (bD6 t cs)).map bB6) 0 ⟨rfl,rfl,rfl,qB _⟩ sends hse ?_ ?_ ?_ ?_ ?_
 ·exact aH
 ·rw [hadd0,harr0,hlas0,List.length_nil,gL2,List.foldl_nil]
  exact aH
 ·rintro v y hv hn ⟨e1,e2,e3,e4⟩
  have h5:=gW1 hA hv hn
  refine ⟨?_,?_,?_,e4⟩
  ·rw [bT3,h5,e1];simp [bF4]
  ·rw [bT2,h5,e2];rfl
  ·rw [cX6,h5,e3];rfl
 ·-- cut<
  rintro F2 v pp c y hv hne ⟨gp,rfl⟩ hmem ⟨e1,e2,e3,e4⟩
  have hd:=cK5 hA sends hv
  have hrun:=fun (w':World) hts htt hpl=>gD9 hA sends hv hne x.tt hx.tabs hx.en x.pt x.ct gtab 0 w' hts htt (some ⟨gp,0,none⟩) c gp 0 hpl
  have hAf:=dW3 hA sends hv
  have hAll:=gB8 hA sends (w:=v) (by omega)
  have hAll2:=gB8 hA sends (w:=v+1) (by omega)
  have hLas:=(fX4 hA sends (v+1) (by omega)).2
  have hWf:=cY3 N C cores
  have hadl:=fun {i j:Nat}=>gS3 (N:=N) (C:=C) (cores:=cores) (sends:=sends) hv (i:=i) (j:=j)
  have harr1:=bT2 N C cores sends (stT N C cores) v
  have hlas1:=cX6 N C cores sends (stT N C cores) v
  have hadz:=gJ3 (N:=N) (C:=C) (cores:=cores) sends v
  have hadal:=gS4 (N:=N) (C:=C) (cores:=cores) sends v
  have hnext:=fun {i:Nat} {a:Nat×Nat×Nat} ha=>gJ4 (N:=N) (C:=C) (cores:=cores) (sends:=sends) (w:=v) (i:=i) (a:=a) ha
  have hrow:=fun {i:Nat} {a:Nat×Nat×Nat} ha {j:Nat} {s:Syn} hs=>gS2 (N:=N) (C:=C) (cores:=cores) (sends:=sends) (w:=v) (i:=i) (a:=a) ha (j:=j) (s:=s) hs
  have hkl:(bF8 N C cores sends v).length<=bV2 N:=by
   unfold bF8 wvK
   refine Qb (qD _ _) (Qb (qD _ _) ?_)
   simp
  have hpkl:(gW4 N C cores sends v).pk.length=(bF8 N C cores sends v).length:=qv _
  have har:=hd.ar
  rw [hpkl] at har
  rw [e1] at hadz
  rw [e2] at harr1 hAll
  rw [e3] at hlas1
  obtain ⟨ks,hks⟩:=gX (bF8 N C cores sends v)
  rw [hks] at hrun hAf hkl har hmem hnext hrow ⊢
  obtain ⟨AR,hAR⟩:=gX ((cF4 N C cores sends (stT N C cores) v).arr)
  rw [hAR] at hrun hAf har harr1 hlas1 hadal hnext hrow
  have hstp:min (bW4 N C cores:Int) 10000=(stT N C cores:Int):=by unfold stT;omega
  refine VYield.go hL hokx hoky aT rfl ?_
  repeat' (conv=>whnf);first|(refine VSeq.is ?_;refine bF1 16 rfl ?_;refine VSeq.cut (at_:=16) (α:=Nat×Option Addr×Nat×Nat) (fun z=>0<AR.length->∃g,z.2.1=some ⟨g,0,none⟩) (fun z=>[(1000000,.tuple #[]),(2,.pointer (some ⟨b2,0,none⟩)),(4,.slice none 0 0),(5,.pointer (some ⟨b5,0,none⟩)),(13,.pointer (some ⟨b13,0,none⟩)),(14,.slice (some ⟨gp,0,none⟩) ks.length c),(15,.pointer (some ⟨z.1,0,none⟩))]) (fun z=>F2++(.row z.1 285 [.slice z.2.1 AR.length z.2.2.1,.slice none 0 0,.slice (some ⟨z.2.2.2,0,none⟩) (bX1 C) (bX1 C),.int .i64 0]::.vec z.2.1 AR.length z.2.2.1 289 3 (bQ1 arV AR)::L .busy none::.obj d (.deferred (some []))::.row q2 88 [.pointer (some ⟨x.b,0,none⟩)]::.row q3 145 [.func (.func 144) #[] #[.pointer (some ⟨b2,0,none⟩),.pointer (some ⟨b5,0,none⟩),.pointer (some ⟨b3,0,none⟩)]]::.row b2 88 [.pointer (some ⟨x.b,0,none⟩)]::.row b5 28 [.slice p (spk F).length cap]::.row b3 28 [.slice pi ins.length ci]::.vec p (spk F).length cap 3 1 (bQ1 bQ6 (spk F))::.row x.b 135 (bV1 N C cores x t (fK9 wk ((bX0 N).filter sends).length (bZ7 N C cores ((bX0 N).filter sends)) ((bY4 N C cores (bJ6 N C) sends (stT N C cores) y).length) (bK8 N C cores sends (stT N C cores) y)))::.row b13 3 [.int .i64 ((bM2 N C cores sends (stT N C cores) y:Nat):Int)]::((bY4 N C cores (bJ6 N C) sends (stT N C cores) y).foldl (cG7 t) (bD6 t cs)).map bB6)) ?_ ?_)|(refine VBegin.is ?_;refine VBegin.mk aT ?_)|(refine VLd.is ?_;refine oC (.row aT ((h7 (fK9 wk ((bX0 N).filter sends).length (bZ7 N C cores ((bX0 N).filter sends)) ((bY4 N C cores (bJ6 N C) sends (stT N C cores) y).length) (bK8 N C cores sends (stT N C cores) y))))) ?_)|(refine VLd.is ?_;refine oC (.row aT ((h20 (fK9 wk ((bX0 N).filter sends).length (bZ7 N C cores ((bX0 N).filter sends)) ((bY4 N C cores (bJ6 N C) sends (stT N C cores) y).length) (bK8 N C cores sends (stT N C cores) y))))) ?_)|(refine VLd.is ?_;refine oC (.row aT ((h24 (fK9 wk ((bX0 N).filter sends).length (bZ7 N C cores ((bX0 N).filter sends)) ((bY4 N C cores (bJ6 N C) sends (stT N C cores) y).length) (bK8 N C cores sends (stT N C cores) y))))) ?_)|(refine bQ0 147 ?_;(first|rw [hstp]|skip;refine bQ2 (fun w' hw'=>hrun w' (htb.keep hw' htM) (fun z hz=>(hx.tabE z hz).elim fun b hb=>⟨b,0,hb.1.keep hw' hb.2⟩) (bZ1 hw' (by (repeat (first|exact hmem|exact List.mem_append_left _ hmem|apply List.mem_cons_of_mem|apply List.mem_append_right));first|done|fail) (fun _=>rfl) (by simp [hV9]))) ?_;rintro ⟨za,zc,zm⟩ hz;dsimp only at hz))|(refine VLd.is ?_;refine VLd.mk (.row aT (by rfl)) ?_)|(refine VSt.is ?_;refine VSt.row aT (by rfl) (by first|rfl|assumption) ?_)|(refine VNew.mk fun _=>?_)|(refine VKeep.is ?_;refine VKeep.mk aH ?_)|(refine VHs.mk _ (.refl _) ?_)|(refine And.intro ?_ ?_)
  all_goals (conv=>whnf)
  any_goals exact VMid.mk (_,za,zc,zm) hz aE aH
  rintro ⟨b15,za,zc,zm⟩ hz
  dsimp only at hz ⊢
  repeat' (conv=>whnf);first|(refine VSeq.go ?_)|(refine VB.is ?_;refine bZ2 (by omega) fun _=>?_)|(refine VLd.is ?_;refine VLd.mk (.row aT (by rfl)) ?_)|(refine VAr.is ?_;refine oA ?_)
  all_goals (conv=>whnf)
  refine VLoop.mk (α:=Nat) (fun i=>i<=AR.length) (fun i=>[(1000000,.tuple #[]),(2,.pointer (some ⟨b2,0,none⟩)),(4,.slice none 0 0),(5,.pointer (some ⟨b5,0,none⟩)),(13,.pointer (some ⟨b13,0,none⟩)),(14,.slice (some ⟨gp,0,none⟩) ks.length c),(15,.pointer (some ⟨b15,0,none⟩)),(103,.slice za AR.length zc),(104,.int .i64 (AR.length:Int)),(105,.int .i64 (i:Int)),(17,.int .i64 ((cJ2 (AR.take i):Nat):Int))]) (fun i=>F2++(.row b15 285 [.slice za AR.length zc,.slice none 0 0,.slice (some ⟨zm,0,none⟩) (bX1 C) (bX1 C),.int .i64 0]::.vec za AR.length zc 289 3 (bQ1 arV AR)::L .busy none::.obj d (.deferred (some []))::.row q2 88 [.pointer (some ⟨x.b,0,none⟩)]::.row q3 145 [.func (.func 144) #[] #[.pointer (some ⟨b2,0,none⟩),.pointer (some ⟨b5,0,none⟩),.pointer (some ⟨b3,0,none⟩)]]::.row b2 88 [.pointer (some ⟨x.b,0,none⟩)]::.row b5 28 [.slice p (spk F).length cap]::.row b3 28 [.slice pi ins.length ci]::.vec p (spk F).length cap 3 1 (bQ1 bQ6 (spk F))::.row x.b 135 (bV1 N C cores x t (fK9 wk ((bX0 N).filter sends).length (bZ7 N C cores ((bX0 N).filter sends)) ((bY5 N C cores sends v i 0).length) (bK8 N C cores sends (stT N C cores) y)))::.row b13 3 [.int .i64 ((bM2 N C cores sends (stT N C cores) y:Nat):Int)]::((bY5 N C cores sends v i 0).foldl (cG7 t) (bD6 t cs)).map bB6)) (fun i=>AR.length - i) 0 (qB _) aE ?_ ?_
  ·rw [hadz]
   exact aH
  intro i hi3
  rcases qy i AR.length with hlt|hge
  ·obtain ⟨⟨ap,ar,at_⟩,ha⟩:∃a,AR[i]? =some a:=⟨_,qq hlt⟩
   obtain ⟨gza,hgz⟩:=hz (by omega)
   obtain ⟨ha1,ha2,_,_⟩:=har ap ar at_ (qz ha)
   have ha2:ar<bX1 C:=ha2
   obtain ⟨key,hkey⟩:∃key,ks[ap]? =some key:=⟨_,qq ha1⟩
   have hkd:ks[ap]?.getD 0=key:=by rw [hkey];rfl
   obtain ⟨kb,hmk,hno,pc,cc',mb,gcl,RM,hcel,⟨hcsl,hcsM⟩,⟨hRM,hmbM⟩,hlook⟩:=hKr ar ha2
   obtain ⟨rp,rc,gr,hlk,hrs,hrM⟩:=hlook key
   have hpkk:(hV9 N cores ks)[ap]? =some ⟨(bJ2 N cores key).toNat,key⟩:=by unfold hV9;rw [qj,hkey];rfl
   have hpv:sub (pkV ⟨(bJ2 N cores key).toNat,key⟩) 2 1=some [.int .i64 key]:=rfl
   have hrE:=hK4 hA (ar:Int) key
   have htE:=hQ6 N C cores key (ar:Int)
   have hnx2:=hnext ha
   have hrow2:=fun {j:Nat} {s:Syn} hs=>hrow ha (j:=j) (s:=s) hs
   dsimp only at hnx2 hrow2
   rw [hkd,htE] at hnx2 hrow2
   rw [qv] at hnx2
   have hSm:∀s∈cL1 N cores (ar:Int) key,s∈N.syns/\bG1 N s.frm=key/\cores[s.to.toNat]? =some (ar:Int):=fun s hs=>by
    unfold cL1 at hs
    rw [qP,jy] at hs
    exact hs
   obtain ⟨SY,hSY⟩:=gX (cL1 N cores (ar:Int) key)
   rw [hSY] at hrE hnx2 hrow2 hSm
   have hrl:(bS8 N C cores (ar:Int) key).length=SY.length:=by rw [hrE,qv]
   obtain ⟨RS,hRS⟩:=gX (bS8 N C cores (ar:Int) key)
   rw [hRS] at hlk hrs hrl hrE
   have hSYl:SY.length<=8192:=by
    rw [<-hSY]
    unfold cL1
    have:=qD (fun s:Syn=>decide (bG1 N s.frm=key/\cores[s.to.toNat]? =some (ar:Int))) N.syns
    have:=hA.plan.net.fewS
    omega
   have hak1:sub ([.slice pc (bH5 cores (ar:Int)).length cc',.map (some mb)]:List Value) 1 1=some [.map (some mb)]:=rfl
   have hak0:sub ([.slice pc (bH5 cores (ar:Int)).length cc',.map (some mb)]:List Value) 0 1=some [.slice pc (bH5 cores (ar:Int)).length cc']:=rfl
   have hlast:max ((cJ2 (AR.take i):Nat):Int) ((at_:Int)+1)=((cJ2 (AR.take (i+1)):Nat):Int):=by
    rw [qi,ha,qW,gQ2]
    dsimp only
    omega
   have hat2:at_+1<=960:=by
    have h:=gV9 hA sends hv (p:=ap) (r:=ar) (t:=at_) (by rw [hAR];exact qz ha)
    have h2:=(gW2 hA sends hv).2
    omega
   have hav:sub (arV (ap,ar,at_)) 0 3=some [.int .i64 (ap:Int),.int .i64 (ar:Int),.int .i64 (at_:Int)]:=rfl
   repeat' (conv=>whnf);first|(refine VIx.is ?_;refine VIx.mk hgz (by omega) (by omega) ?_)|(refine VIx.is ?_;refine VIx.mk rfl (by omega) (by omega) ?_)|(refine VLd.is ?_;refine oC (hC7 aT hgz (bQ8 (f:=arV) (k:=3) (fun _=>rfl) ha hav)) ?_)|(refine VLd.is ?_;refine oC (.row aT ((h1 (fK9 wk ((bX0 N).filter sends).length (bZ7 N C cores ((bX0 N).filter sends)) ((bY5 N C cores sends v i 0).length) (bK8 N C cores sends (stT N C cores) y))))) ?_)|(refine VMp.is ?_;refine VMp.is ?_;refine VMp.old hKM hkM ?_)|(refine VMp.is ?_;refine VMp.is ?_;refine VMp.old hRM hmbM ?_)|(refine VLk.is ?_;refine VLk.is ?_;refine VLk.has hmk ?_)|(refine VLk.is ?_;refine VLk.is ?_;refine VLk.val hlk ?_)|(refine VLd.is ?_;refine oC (.old (hcel.part hak1) rfl hno) ?_)|(refine VLd.is ?_;refine oC (fK5 (by (repeat (first|exact hmem|exact List.mem_append_left _ hmem|apply List.mem_cons_of_mem|apply List.mem_append_right));first|done|fail) (bT7 (o:=2) (f:=pkV) (k:=4) (fun _=>rfl) hpkk hpv)) ?_)|(refine VSeq.go ?_)|(refine VB.is ?_;refine bX5 (by omega) fun _=>?_)|(refine VLd.is ?_;refine VLd.mk (.row aT (by rfl)) ?_)|(refine VSt.is ?_;refine VSt.row aT (by rfl) (by first|rfl|assumption) ?_)|(refine VNew.mk fun _=>?_)|(refine VAr.is ?_;refine oA ?_)|(refine VHs.mk _ (.refl _) ?_)
   all_goals (conv=>whnf)
   refine VLoop.mk (α:=Nat) (fun j=>j<=RS.length) (fun j=>[(1000000,.tuple #[]),(2,.pointer (some ⟨b2,0,none⟩)),(4,.slice none 0 0),(5,.pointer (some ⟨b5,0,none⟩)),(13,.pointer (some ⟨b13,0,none⟩)),(14,.slice (some ⟨gp,0,none⟩) ks.length c),(15,.pointer (some ⟨b15,0,none⟩)),(103,.slice za AR.length zc),(104,.int .i64 (AR.length:Int)),(105,.int .i64 (i:Int)),(17,.int .i64 ((cJ2 (AR.take (i+1)):Nat):Int)),(20,.pointer (some ⟨kb,0,none⟩)),(132,.slice rp RS.length rc),(133,.int .i64 (RS.length:Int)),(134,.int .i64 (j:Int))]) (fun j=>F2++(.row b15 285 [.slice za AR.length zc,.slice none 0 0,.slice (some ⟨zm,0,none⟩) (bX1 C) (bX1 C),.int .i64 0]::.vec za AR.length zc 289 3 (bQ1 arV AR)::L .busy none::.obj d (.deferred (some []))::.row q2 88 [.pointer (some ⟨x.b,0,none⟩)]::.row q3 145 [.func (.func 144) #[] #[.pointer (some ⟨b2,0,none⟩),.pointer (some ⟨b5,0,none⟩),.pointer (some ⟨b3,0,none⟩)]]::.row b2 88 [.pointer (some ⟨x.b,0,none⟩)]::.row b5 28 [.slice p (spk F).length cap]::.row b3 28 [.slice pi ins.length ci]::.vec p (spk F).length cap 3 1 (bQ1 bQ6 (spk F))::.row x.b 135 (bV1 N C cores x t (fK9 wk ((bX0 N).filter sends).length (bZ7 N C cores ((bX0 N).filter sends)) ((bY5 N C cores sends v i j).length) (bK8 N C cores sends (stT N C cores) y)))::.row b13 3 [.int .i64 ((bM2 N C cores sends (stT N C cores) y:Nat):Int)]::((bY5 N C cores sends v i j).foldl (cG7 t) (bD6 t cs)).map bB6)) (fun j=>RS.length - j) 0 (qB _) (by rw [<-hlast];exact aE) aH ?_
   intro j hj
   rcases qy j RS.length with hjl|hjg
   ·obtain ⟨s,hsy⟩:∃s,SY[j]? =some s:=⟨_,qq (by omega)⟩
    obtain ⟨hsN,hsk,hsc⟩:=hSm s (qz hsy)
    obtain ⟨i0,z,hto,hi0,hz0,hzr,hqs,hok⟩:=cH7 hA.plan.net (gX3 hA.plan.chip.bits) hsN
    have hdl0:=(hA.plan.net.syns s hsN).2.2.2
    have hto2:s.to.toNat=i0:=by omega
    rw [hto2] at hsc
    have hslot:=kQ3 hsc
    have hcs:=fM3 hsc
    obtain ⟨sl,hsl⟩:=gX (cQ4 (cores.take i0) (ar:Int))
    rw [hsl] at hcs hslot
    obtain ⟨dl,hdl⟩:∃dl:Nat,s.dl=(dl:Int):=⟨s.dl.toNat,by omega⟩
    obtain ⟨q,hq⟩:=gX (bL1 (bX2 N (bW6 C.bits)) s)
    have hrj:RS[j]? =some (cM1 N cores s (bL1 (bX2 N (bW6 C.bits)) s)):=by rw [hrE,qj,hsy];rfl
    have hrv:sub (rwV (cM1 N cores s (bL1 (bX2 N (bW6 C.bits)) s))) 0 4=some [.int .i64 key,.int .i64 (sl:Int),.int .i64 q,.int .i64 (dl:Int)]:=by
     unfold cM1
     rw [hto2,hslot,qY,hq,hdl,hsk]
     rfl
    obtain ⟨CS,hCS⟩:=gX ((bY5 N C cores sends v i j).foldl (cG7 t) (bD6 t cs))
    have hCSb:CS.map (·.b)=x.bs:=by
     rw [<-hCS,mP7,<-hbs]
     unfold bD6
     rw [List.map_map];rfl
    have hCSz:CS.map (·.z)=bX2 N (bW6 C.bits):=by
     rw [<-hCS,mP6,<-hzs]
     unfold bD6
     rw [List.map_map];rfl
    have hCSd:cS8 CS:=by rw [<-hCS];exact dB8 _ (dB6 hdue)
    have hCSl:CS.length=N.ps.length:=by
     have h:=congrArg List.length hCSb
     rw [qv,hx.bl] at h
     exact h
    obtain ⟨c0,hc0⟩:∃c0,CS[i0]? =some c0:=⟨_,qq (by omega)⟩
    have hb0:x.bs[i0]? =some c0.b:=by rw [<-hCSb,qj,hc0];rfl
    have hz00:c0.z=z:=by
     have h:=congrArg (fun l=>l[i0]?) hCSz
     rw [qj,hc0,hz0] at h
     simpa using h
    have hptr:((bH5 cores (ar:Int)).map fun i=>(x.bs[i]?).getD 0)[sl]? =some c0.b:=by rw [qj,hcs,qV,hb0,qY]
    have hsll:sl<(bH5 cores (ar:Int)).length:=(qx.1 hcs).1
    have hcal:(bH5 cores (ar:Int)).length<=cores.length:=by
     unfold bH5 bP8
     have:=qD (fun i=>decide (cores[i]? =some (ar:Int))) (List.range cores.length)
     rw [Qg] at this
     exact this
    have hd0:=hCSd c0 (qz hc0)
    obtain ⟨dv,hdv⟩:∃dv,c0.due[(t+dl)%16]? =some dv:=⟨_,qq (by omega)⟩
    have hread:=fJ6 hdv
    have hz1:sub (dB7 c0) 9 1=some [.int .i64 z]:=by rw [<-hz00];rfl
    obtain ⟨wt,hwt⟩:=gX ((fN7 (bX2 N (bW6 C.bits)) s).wt)
    have hmul:q*z=wt:=by
     rw [<-hwt,<-hq]
     show _=bL1 (bX2 N (bW6 C.bits)) s*((bX2 N (bW6 C.bits))[s.to.toNat]?.getD 1)
     rw [hto2,hz0,qY]
    have hwb: -32768<=wt/\wt<=32768:=by
     rw [<-hmul,<-hq,hqs]
     exact hok.2
    have hset:=dK0 (c:=c0) (k:=(t+dl)%16) (by omega) (wadd dv wt)
    have hnew:=kF6 (t:=t) (cs:=CS) (s:=fN7 (bX2 N (bW6 C.bits)) s) (i:=i0) (c:=c0) (a:=dv) hto2 hc0 (by show c0.due[(t+s.dl.toNat)%16]? =some dv;rw [hdl,jf];exact hdv)
    have hdlE:(fN7 (bX2 N (bW6 C.bits)) s).dl.toNat=dl:=by show s.dl.toNat=dl;omega
    rw [hdlE,hwt] at hnew
    have hadd:=hrow2 (j:=j) (s:=fN7 (bX2 N (bW6 C.bits)) s) (by rw [qj,hsy];rfl)
    have hadl2:=hadl (i:=i) (j:=j)
    have hr31:sub (bV1 N C cores x t (fK9 wk ((bX0 N).filter sends).length (bZ7 N C cores ((bX0 N).filter sends)) ((bY5 N C cores sends v i j).length) (bK8 N C cores sends (stT N C cores) y))) 31 1=some [.int .i64 (wk.rows+((bY5 N C cores sends v i j).length:Int))]:=rfl
    have hs31:upd (bV1 N C cores x t (fK9 wk ((bX0 N).filter sends).length (bZ7 N C cores ((bX0 N).filter sends)) ((bY5 N C cores sends v i j).length) (bK8 N C cores sends (stT N C cores) y))) 31 [.int .i64 (wk.rows+((bY5 N C cores sends v i j).length:Int)+1)]=some (bV1 N C cores x t (fK9 wk ((bX0 N).filter sends).length (bZ7 N C cores ((bX0 N).filter sends)) ((bY5 N C cores sends v i j).length+1) (bK8 N C cores sends (stT N C cores) y))):=by
     have e:wk.rows+((bY5 N C cores sends v i j).length:Int)+1=wk.rows+(((bY5 N C cores sends v i j).length+1:Nat):Int):=by omega
     rw [e];rfl
    unfold Wrk.few at hwk12
    rw [hCS]
    repeat' (conv=>whnf);first|(refine VIx.is ?_;refine VIx.mk (hrs.ptr (by omega)) (by omega) (by omega) ?_)|(refine VLd.is ?_;refine oC (hrs.rd0 hrM (fun _=>rfl) hrj hrv) ?_)|(refine VLd.is ?_;refine oC (.old (hcel.part hak0) rfl hno) ?_)|(refine VIx.is ?_;refine VIx.mk (hcsl.ptr (by omega)) (by omega) (by omega) ?_)|(refine VLd.is ?_;refine oC (hcsl.rd0 hcsM (fun _=>rfl) hptr rfl) ?_)|(refine VLd.is ?_;refine oC (.row aT ((h0 (fK9 wk ((bX0 N).filter sends).length (bZ7 N C cores ((bX0 N).filter sends)) ((bY5 N C cores sends v i j).length) (bK8 N C cores sends (stT N C cores) y))))) ?_)|(refine VLd.is ?_;refine oC (.row aT (hr31)) ?_)|(refine VIx.is ?_;refine VIx.mk rfl (by omega) (by omega) ?_)|(refine VLd.is ?_;refine oC (Rd.segR (f:=bB6) (l:=CS) aS hc0 rfl hread) ?_)|(refine VLd.is ?_;refine oC (Rd.segR (f:=bB6) (l:=CS) aS hc0 rfl hz1) ?_)|(refine VAr.is ?_;refine VAr.is ?_;refine VAr.mul hmul (by omega) (by omega) ?_)|(refine VAr.is ?_;refine oA ?_)|(refine VAr.is ?_;refine VAr.wadd ?_)|(refine VSt.is ?_;refine VSt.is ?_;refine VSt.cast (off':=12+(t+dl)%16) (by first|omega|(dsimp only;omega)|rfl) (VSt.segR (f:=bB6) (l:=CS) (y:=⟨c0.b,c0.id,c0.p,c0.z,c0.s,c0.due.set ((t+dl)%16) (wadd dv wt)⟩) aS hc0 rfl hset rfl rfl ?_))|(refine VSt.is ?_;refine VSt.is ?_;refine VSt.cast (off':=31) (by first|omega|(dsimp only;omega)|rfl) (VSt.row aT hs31 rfl ?_))|(refine VSeq.go ?_)|(refine VB.is ?_;refine bX5 (by omega) fun _=>?_)|(refine VLd.is ?_;refine VLd.mk (.row aT (by rfl)) ?_)|(refine VSt.is ?_;refine VSt.row aT (by rfl) (by first|rfl|assumption) ?_)|(refine VNew.mk fun _=>?_)|(refine VHs.mk _ (.refl _) ?_)|(refine VM.is ?_;refine oM ?_)
    all_goals (conv=>whnf)
    refine VNext.mk (j+1) (by omega) (by omega) aE ?_
    rw [hadd,qw,qM,Qx,hCS,Qp,List.foldl_nil,<-hnew]
    exact aH
   have hje:j=RS.length:=by omega
   subst hje
   rw [hrl,hnx2]
   repeat' (conv=>whnf);first|(refine VSeq.go ?_)|(refine VB.is ?_;refine bZ2 (by omega) fun _=>?_)|(refine VLd.is ?_;refine VLd.mk (.row aT (by rfl)) ?_)|(refine VAr.is ?_;refine oA ?_)
   all_goals (conv=>whnf)
   exact VNext.mk (i+1) (by omega) (by omega) aE aH
  have hie:i=AR.length:=by omega
  subst hie
  have hfl:AR.take AR.length=AR:=Qk
  rw [hadal,hfl]
  have hadl3:=hadl (i:=AR.length) (j:=0)
  rw [hadal] at hadl3
  have hr30:sub (bV1 N C cores x t (fK9 wk ((bX0 N).filter sends).length (bZ7 N C cores ((bX0 N).filter sends)) ((bY4 N C cores (bJ6 N C) sends (stT N C cores) (v+1)).length) (bK8 N C cores sends (stT N C cores) y))) 30 1=some [.int .i64 (wk.arrivals+((bK8 N C cores sends (stT N C cores) y:Nat):Int))]:=rfl
  have hs30:upd (bV1 N C cores x t (fK9 wk ((bX0 N).filter sends).length (bZ7 N C cores ((bX0 N).filter sends)) ((bY4 N C cores (bJ6 N C) sends (stT N C cores) (v+1)).length) (bK8 N C cores sends (stT N C cores) y))) 30 [.int .i64 (wk.arrivals+((bK8 N C cores sends (stT N C cores) y:Nat):Int)+(AR.length:Int))]=some (bV1 N C cores x t (fK9 wk ((bX0 N).filter sends).length (bZ7 N C cores ((bX0 N).filter sends)) ((bY4 N C cores (bJ6 N C) sends (stT N C cores) (v+1)).length) (bK8 N C cores sends (stT N C cores) (v+1)))):=by
   have e:wk.arrivals+((bK8 N C cores sends (stT N C cores) y:Nat):Int)+(AR.length:Int)=wk.arrivals+((bK8 N C cores sends (stT N C cores) (v+1):Nat):Int):=by rw [harr1];omega
   rw [e];rfl
  unfold Wrk.few at hwk12
  repeat' (conv=>whnf);first|(refine VLd.is ?_;refine oC (.row aT (hr30)) ?_)|(refine VSt.is ?_;refine VSt.is ?_;refine VSt.cast (off':=30) (by first|omega|(dsimp only;omega)|rfl) (VSt.row aT hs30 rfl ?_))|(refine VSeq.go ?_)|(refine VB.is ?_;refine bZ2 (by omega) fun _=>?_)|(refine VLd.is ?_;refine VLd.mk (.row aT (by rfl)) ?_)|(refine VSt.is ?_;refine VSt.row aT (by rfl) (by first|rfl|assumption) ?_)|(refine VAr.is ?_;refine oA ?_)|(refine VHs.mk _ (.refl _) ?_)
  all_goals (conv=>whnf)
  refine VRound.mk aT ?_
  refine ⟨rfl,v+1,⟨rfl,rfl,rfl,by omega⟩,?_⟩
  dsimp only
  rw [hlas1,Int.natCast_add]
  exact aH
  -- >cut
 ·rintro nn y hnn hrest ⟨e1,e2,e3,e4⟩
  obtain ⟨r1,r2,r3⟩:=hQ5 hA (L:=bJ6 N C) (sends:=sends) (m:=nn) (bX4 N C cores).length hnn (qA _) hrest
  have hy1:bY4 N C cores (bJ6 N C) sends (stT N C cores) y=bY8 N C cores sends:=by rw [<-e1,<-r1];rfl
  have hy2:bK8 N C cores sends (stT N C cores) y=cB7 N C cores sends:=by rw [<-e2,<-r2];rfl
  have hy3:bM2 N C cores sends (stT N C cores) y=bS2 N C cores sends:=by rw [<-e3,<-r3];rfl
  have hst:bH4 N C cores ⟨t,cs,wk⟩ ins=⟨t+1,(bY8 N C cores sends).foldl (cG7 t) (bD6 t cs),lW0 N C cores wk (spk F).length sends⟩:=by unfold bH4;rw [hSp,hse]
  have hml:=(fX4 hA sends _ (qA _)).2
  have hWf:=cY3 N C cores
  have hml2:bS2 N C cores sends<=(bX4 N C cores).length*960:=hml
  rw [hst,hy1,hy2,hy3]
  obtain ⟨ML,hML⟩:=gX (bS2 N C cores sends)
  rw [hML] at hml2 ⊢
  have hr25:∀w,sub (bV1 N C cores x t w) 25 1=some [.int .i64 w.ticks]:=fun _=>rfl
  have hr26:∀w,sub (bV1 N C cores x t w) 26 1=some [.int .i64 w.updates]:=fun _=>rfl
  have hr27:∀w,sub (bV1 N C cores x t w) 27 1=some [.int .i64 w.spikes]:=fun _=>rfl
  have hr32:∀w,sub (bV1 N C cores x t w) 32 1=some [.int .i64 w.steps]:=fun _=>rfl
  have hr33:∀w,sub (bV1 N C cores x t w) 33 1=some [.int .i64 w.most]:=fun _=>rfl
  have hu25:∀(w:Wrk) (v:Int),upd (bV1 N C cores x t w) 25 [.int .i64 v]=some (bV1 N C cores x t {w with ticks:=v}):=fun _ _=>rfl
  have hu26:∀(w:Wrk) (v:Int),upd (bV1 N C cores x t w) 26 [.int .i64 v]=some (bV1 N C cores x t {w with updates:=v}):=fun _ _=>rfl
  have hu27:∀(w:Wrk) (v:Int),upd (bV1 N C cores x t w) 27 [.int .i64 v]=some (bV1 N C cores x t {w with spikes:=v}):=fun _ _=>rfl
  have hu32:∀(w:Wrk) (v:Int),upd (bV1 N C cores x t w) 32 [.int .i64 v]=some (bV1 N C cores x t {w with steps:=v}):=fun _ _=>rfl
  have hu33:∀(w:Wrk) (v:Int),upd (bV1 N C cores x t w) 33 [.int .i64 v]=some (bV1 N C cores x t {w with most:=v}):=fun _ _=>rfl
  have hu0:∀(w:Wrk),upd (bV1 N C cores x t w) 0 [.int .i64 ((t:Int)+1)]=some (bV1 N C cores x (t+1) w):=fun _=>rfl
  unfold Wrk.few at hwk12
  have hwq:fK9 wk ((bX0 N).filter sends).length (bZ7 N C cores ((bX0 N).filter sends)) (bY8 N C cores sends).length (cB7 N C cores sends)=⟨wk.ticks,wk.updates,wk.spikes,wk.packets+(((bX0 N).filter sends).length:Int),wk.hops+(bZ7 N C cores ((bX0 N).filter sends):Int),wk.arrivals+(cB7 N C cores sends:Int),wk.rows+((bY8 N C cores sends).length:Int),wk.steps,wk.most⟩:=rfl
  rw [hwq]
  repeat' (conv=>whnf);first|(refine VEnd.is ?_;refine VEnd.mk aT (by simp) ?_)|(refine VLd.is ?_;refine oC (.row aT ((h0 _))) ?_)|(refine VLd.is ?_;refine oC (.row aT ((h2 _))) ?_)|(refine VLd.is ?_;refine oC (.row aT ((hr25 _))) ?_)|(refine VLd.is ?_;refine oC (.row aT ((hr26 _))) ?_)|(refine VLd.is ?_;refine oC (.row aT ((hr27 _))) ?_)|(refine VLd.is ?_;refine oC (.row aT ((hr32 _))) ?_)|(refine VLd.is ?_;refine oC (.row aT ((hr33 _))) ?_)|(refine VSt.is ?_;refine VSt.is ?_;refine VSt.cast (off':=25) (by first|omega|(dsimp only;omega)|rfl) (VSt.row aT (hu25 _ _) rfl ?_))|(refine VSt.is ?_;refine VSt.is ?_;refine VSt.cast (off':=26) (by first|omega|(dsimp only;omega)|rfl) (VSt.row aT (hu26 _ _) rfl ?_))|(refine VSt.is ?_;refine VSt.is ?_;refine VSt.cast (off':=27) (by first|omega|(dsimp only;omega)|rfl) (VSt.row aT (hu27 _ _) rfl ?_))|(refine VSt.is ?_;refine VSt.is ?_;refine VSt.cast (off':=32) (by first|omega|(dsimp only;omega)|rfl) (VSt.row aT (hu32 _ _) rfl ?_))|(refine VSt.is ?_;refine VSt.is ?_;refine VSt.cast (off':=33) (by first|omega|(dsimp only;omega)|rfl) (VSt.row aT (hu33 _ _) rfl ?_))|(refine VSt.is ?_;refine VSt.is ?_;refine VSt.cast (off':=0) (by first|omega|(dsimp only;omega)|rfl) (VSt.row aT (hu0 _) rfl ?_))|(refine VAr.is ?_;refine VAr.is ?_;dsimp only;refine oA ?_)|(refine VUn.is ?_;refine VUn.mk aT ?_)|(refine VSeq.go ?_)|(refine VLd.is ?_;refine VLd.mk (.row aT (by rfl)) ?_)|(refine VHs.mk _ (.refl _) ?_)
  all_goals (conv=>whnf)
  refine ⟨fun w' hw'=>⟨(p,cap),rfl,hp,hw'.le ?_⟩⟩
  unfold bJ3 lW0
  dsimp only
  rw [hML]
  exact aH
end Go.Proofs
