import Derived.Test.YtlbekjokdlkghaaGreatChipKnownYg
set_option linter.unusedVariables false
set_option linter.unusedSimpArgs false
set_option maxHeartbeats 4000000
namespace Go.Proofs
open Go Go.Vx Go.Gm
theorem _root_.Go.Vx.Rd.vecQ {w0:World}{M:List Nat}{H r:HP}{u:Ent->HP}{p:Option Addr}{b off s n cap e size:Nat}{xs vs:List Value}(hat:At H (.vec p n cap e size xs) u r)(hp:p=some ⟨b,0,none⟩)(h:sub xs off s=some vs):Rd w0 M H b off s vs:=by
 subst hp
 exact .vec hat h
def wrkQ (w:Wrk)(p h r a:Nat):Wrk:={w with packets:=w.packets+(p:Int),hops:=w.hops+(h:Int),rows:=w.rows+(r:Int),arrivals:=w.arrivals+(a:Int)}
theorem wrkQ_zero (w:Wrk)(p h:Nat):wrkQ w p h 0 0=wrkP w p h:=by
 unfold wrkQ wrkP
 simp
set_option maxHeartbeats 8000000 in
theorem macStep_any (N:Net)(C:Chp)(cores:List Int)(hA:AsgOk N C cores)(x:MacX)(m:Mac)(hm:MacGo N C x m)(ht:m.t<10000)(ins:List Int)(hil:ins.length<=65536)(hi:ins.Pairwise (· <·))(hi2:∀k∈ins,0<=k)(pi:Option Addr)(ci bi oi:Nat)(w:World)
  (hs:St w (ids (macOwn N C cores x m)) (macOwn N C cores x m) w) (hx:MacIn w (ids (macOwn N C cores x m)) N C cores x) (hin:Sl w intV 1 ins pi ins.length bi oi) (hbi:bi∉ids (macOwn N C cores x m)):
  Calls Tryz.prog 95 #[.pointer (some ⟨x.b,0,none⟩),.slice pi ins.length ci] w fun e w'=>∃y:Option Addr×Nat,e=.returned (.slice y.1 (macSpk m).length y.2)/\(0<(macSpk m).length->∃g,y.1=some ⟨g,0,none⟩)/\St w (ids (macOwn N C cores x m)) (macOwn N C cores x (macStep N C cores m ins)++[.vec y.1 (macSpk m).length y.2 3 1 (flat intV (macSpk m))]) w':=by
 have hgo:=hm.step hA ht hi hi2
 have hfewW:=hm.few
 obtain ⟨t,cs,wk⟩:=m
 dsimp only at ht hfewW
 obtain ⟨F,hF⟩:=gX (cF t cs)
 have hSp:macSpk ⟨t,cs,wk⟩=spk F:=by unfold macSpk;rw [hF]
 obtain ⟨Mx,hMx⟩:=gX (ids (macOwn N C cores x ⟨t,cs,wk⟩))
 have hlen:=hm.ok.len
 have hbs:=hm.bs
 have hdue:=hm.ok.due
 have hids:=hm.ok.ids
 have hsta:=hm.sta
 have hzs:=hm.zs
 have hps:=hm.ok.ps
 dsimp only at hlen hbs hdue hids hsta hzs hps
 have hFl:F.length=cs.length:=by rw [<-hF];exact cF_len t cs
 rw [hMx] at hs hx hbi ⊢
 unfold macOwn at hs
 rw [hSp]
 have hnf:=hA.plan.net.few
 have hsome:=hA.plan.net.some
 have hpar:=hA.plan.net.ps
 have hnsr:nSrc N<=256:=by
  have:=hA.plan.few
  have:=hA.plan.net.inputs
  unfold nSrc;omega
 obtain ⟨hcells,hcM⟩:=hx.cells
 obtain ⟨gtab,htb,htM⟩:=hx.tab
 obtain ⟨KM,⟨hKM,hkM⟩,hKr⟩:=hx.kmap
 have h0:∀w,sub (macC N C cores x t w) 0 1=some [.int .i64 (t:Int)]:=fun _=>rfl
 have h2:∀w,sub (macC N C cores x t w) 2 1=some [.slice (some ⟨x.cb,0,none⟩) N.ps.length x.cc]:=fun _=>rfl
 have h1:∀w,sub (macC N C cores x t w) 1 1=some [.map (some x.kb)]:=fun _=>rfl
 have h7:∀w,sub (macC N C cores x t w) 7 3=some [.int .i64 C.mesh.wide,.int .i64 C.mesh.high,.int .i64 C.mesh.room]:=fun _=>rfl
 have h20:∀w,sub (macC N C cores x t w) 20 1=some [.slice x.pt (nCores C) x.ct]:=fun _=>rfl
 have h24:∀w,sub (macC N C cores x t w) 24 1=some [.int .i64 (stepsF N C cores:Int)]:=fun _=>rfl
 have h31:∀w,sub (macC N C cores x t w) 31 1=some [.int .i64 w.rows]:=fun _=>rfl
 have h30:∀w,sub (macC N C cores x t w) 30 1=some [.int .i64 w.arrivals]:=fun _=>rfl
 refine enter (C:=Tryz.cx) (F:=Tryz.fx95) (args:=[_,_]) Tryz.func95 rfl rfl rfl Tryz.ok95 hs ?_
 repeat' (conv=>whnf);first|(refine VLd.is ?_;refine VLd.mk (Rd.cast (.row aT ((h0 wk))) (by first|omega|(dsimp only;omega)|rfl)) ?_)|(refine VLd.is ?_;refine VLd.mk (Rd.cast (.row aT ((h2 wk))) (by first|omega|(dsimp only;omega)|rfl)) ?_)|(refine VSeq.go ?_)|(refine VLd.is ?_;refine VLd.mk (.row aT (by rfl)) ?_)|(refine VNew.mk fun _=>?_)|(refine VM.is ?_;refine oM ?_)
 all_goals (conv=>whnf)
 rename_i b2 b3 b5
 refine VLoop.mk (α:=Nat×Option Addr×Nat) (fun z=>z.1<=N.ps.length/\(0<(spk (F.take z.1)).length->∃g,z.2.1=some ⟨g,0,none⟩))
  (fun z=>[(1000000,.tuple #[]),(2,.pointer (some ⟨b2,0,none⟩)),(3,.pointer (some ⟨b3,0,none⟩)),(4,.slice none 0 0),(5,.pointer (some ⟨b5,0,none⟩)),(6,.int .i64 ((t:Int)%16)),(34,.slice (some ⟨x.cb,0,none⟩) N.ps.length x.cc),(35,.int .i64 (N.ps.length:Int)),(36,.int .i64 (z.1:Int))])
  (fun z=>.row b2 88 [.pointer (some ⟨x.b,0,none⟩)]::.row b3 28 [.slice pi ins.length ci]::.row b5 28 [.slice z.2.1 (spk (F.take z.1)).length z.2.2]::.vec z.2.1 (spk (F.take z.1)).length z.2.2 3 1 (flat intV (spk (F.take z.1)))::.row x.b 135 (macC N C cores x t (wk))::(midM (cfire1 t) cs z.1).map celE) (fun z=>N.ps.length - z.1) (0,none,0) ⟨qB _,fun h=>absurd h (by simp [spk,spkFrom])⟩ aE ?_ ?_
 ·have e0:spk (F.take 0)=[]:=rfl
  dsimp only
  rw [midM_zero,e0]
  dsimp only [List.length_nil,flat_nil]
  refine HLe.trans ?_ (HLe.nilv (e:=3) (size:=1) (.refl _))
  exact aH
 rintro ⟨i,p,cap⟩ ⟨hi0,hp⟩
 dsimp only at hi0 hp ⊢
 rcases qy i N.ps.length with hlt|hge
 ·-- cut<
  obtain ⟨c,hc⟩:∃c,cs[i]? =some c:=⟨_,qq (by omega)⟩
  have hcm:=qz hc
  have hb:x.bs[i]? =some c.b:=by rw [<-hbs,qj,hc];rfl
  have hid:=hids i c hc
  have hpo:=hpar c.p (by rw [<-hps];exact qN (f:=(·.p)) hcm)
  have hso:=hsta c hcm
  have hd16:=hdue c hcm
  obtain ⟨xx,hxx⟩:∃xx,c.due[t%16]? =some xx:=⟨_,qq (by omega)⟩
  have hT:=Tick_ok c.p c.s xx hpo hso
  have hFi:=cF_get (t:=t) hc
  rw [hxx,qY,hF] at hFi
  obtain ⟨⟨s',fb⟩,htk⟩:∃y,tick c.p c.s xx=y:=⟨_,rfl⟩
  rw [htk] at hT hFi
  dsimp only at hT
  have hcf:cfire1 t c={c with s:=s',due:=c.due.set (t%16) 0}:=by unfold cfire1;rw [hxx,qY,htk]
  have hmi:=midM_get (f:=cfire1 t) hc
  have hset:=midM_set (f:=cfire1 t) hc
  have hml:i<(midM (cfire1 t) cs i).length:=by rw [midM_len];omega
  have hspk:=spk_take hFi
  have hsl:=spk_length F i
  dsimp only at hspk
  have hp1:sub (celC c) 1 8=some (parV c.p):=rfl
  have hp10:sub (celC c) 10 2=some (staV c.s):=celC_sub c
  have hpd:=celC_due hxx
  have hu1:upd (celC c) 10 [.int .i64 s'.v,.int .i64 s'.rest]=some (celC {c with s:=s'}):=celC_sta c s'
  have hu2:upd (celC {c with s:=s'}) (12+t%16) [.int .i64 0]=some (celC (cfire1 t c)):=by rw [hcf];exact celC_set (c:={c with s:=s'}) (by dsimp only;omega) 0
  have hu3:upd (celC c) (12+t%16) [.int .i64 0]=some (celC {c with due:=c.due.set (t%16) 0}):=celC_set (by omega) 0
  have hu4:upd (celC {c with due:=c.due.set (t%16) 0}) 10 [.int .i64 s'.v,.int .i64 s'.rest]=some (celC (cfire1 t c)):=by rw [hcf];exact celC_sta {c with due:=c.due.set (t%16) 0} s'
  have hbE:(cfire1 t c).b=c.b:=rfl
  have h00:sub (celC (cfire1 t c)) 0 1=some [.int .i64 (i:Int)]:=by rw [<-hid];rfl
  have hmi2:((midM (cfire1 t) cs i).set i ⟨c.b,c.id,c.p,c.z,s',c.due⟩)[i]? =some ⟨c.b,c.id,c.p,c.z,s',c.due⟩:=QZ hml
  have hmi3:(midM (cfire1 t) cs (i+1))[i]? =some (cfire1 t c):=by rw [<-hset];exact QZ hml
  repeat' (conv=>whnf);first|(refine VIx.is ?_;refine VIx.mk rfl (by omega) (by omega) ?_)|(refine VLd.is ?_;refine VLd.mk (Rd.cast (hcells.rd0 hcM (fun _=>rfl) hb rfl) (by first|omega|(dsimp only;omega)|rfl)) ?_)|(refine VLd.is ?_;refine VLd.mk (Rd.cast (Rd.segR (f:=celE) (l:=midM (cfire1 t) cs i) aS hmi rfl hp1) (by first|omega|(dsimp only;omega)|rfl)) ?_)|(refine VLd.is ?_;refine VLd.mk (Rd.cast (Rd.segR (f:=celE) (l:=midM (cfire1 t) cs i) aS hmi rfl hp10) (by first|omega|(dsimp only;omega)|rfl)) ?_)|(refine VLd.is ?_;refine VLd.mk (Rd.cast (Rd.segR (f:=celE) (l:=midM (cfire1 t) cs i) aS hmi rfl hpd) (by first|omega|(dsimp only;omega)|rfl)) ?_)|(refine VLd.is ?_;refine VLd.mk (Rd.cast (Rd.segR (f:=celE) (l:=midM (cfire1 t) cs (i+1)) aS hmi3 rfl h00) (by first|omega|(dsimp only;omega)|rfl)) ?_)|(refine VCall.isF 138 ?_;(refine VCall.val hT ?_))|(refine VSt.is ?_;refine VSt.is ?_;refine VSt.cast (off':=10) (by first|omega|(dsimp only;omega)|rfl) (VSt.segR (f:=celE) (l:=midM (cfire1 t) cs i) (y:=⟨c.b,c.id,c.p,c.z,s',c.due⟩) aS hmi rfl hu1 rfl rfl ?_))|(refine VSt.is ?_;refine VSt.is ?_;refine VSt.cast (off':=12+t%16) (by first|omega|(dsimp only;omega)|rfl) (VSt.segR (f:=celE) (l:=(midM (cfire1 t) cs i).set i ⟨c.b,c.id,c.p,c.z,s',c.due⟩) (y:=cfire1 t c) aS hmi2 rfl hu2 rfl rfl ?_);rw [List.set_set,hset])|(refine VHs.is ?_;refine VHs.is ?_;refine VHs.mk (.row b5 28 [.slice p (spk (F.take i)).length cap]::(midM (cfire1 t) cs (i+1)).map celE) aH ?_)|(refine VHs.is ?_;refine VHs.is ?_;refine VHs.mk [.row _ 126 [.int .i64 s'.v,.int .i64 s'.rest]] aH ?_)|(refine VAp.is ?_;refine VAp.is ?_;refine VAp.own aT (.at_ (.vec aT rfl)) (by simp [Value.oneCell']) (by (try dsimp only);omega) (by simp only [maxLen];omega) fun p' cap' hp'=>?_)|(refine VSeq.go ?_)|(refine VB.is ?_;refine VB.yes (by omega) fun _=>?_)|(refine boolE_split (fun h=>?_) (fun h=>?_)<;>subst h)|(refine VLd.is ?_;refine VLd.mk (.row aT (by rfl)) ?_)|(refine VSt.is ?_;refine VSt.row aT (by rfl) (by first|rfl|assumption) ?_)|(refine VNew.mk fun _=>?_)|(refine VAr.is ?_;refine oA ?_)|(refine VKeep.is ?_;refine VKeep.mk aH ?_)|(refine VHs.mk _ (.refl _) ?_)|(refine And.intro ?_ ?_)
  all_goals (conv=>whnf)
  all_goals first
   |(simp only [if_true] at hspk
     refine VNext.mk (i+1,p',cap') ⟨by dsimp only;omega,fun _=>hp' (by omega)⟩ (by dsimp only;omega) aE ?_
     dsimp only;rw [hspk,List.length_append,flat_append];exact aH)
   |(simp only [QV,if_false,qC] at hspk
     refine VNext.mk (i+1,p,cap) ⟨by dsimp only;omega,by dsimp only;rw [hspk];exact hp⟩ (by dsimp only;omega) aE ?_
     dsimp only;rw [hspk];exact aH)
  -- >cut
 have hin2:i=N.ps.length:=by omega
 have hfull:F.take i=F:=qe (by omega)
 have hmid:midM (cfire1 t) cs i=cfire t cs:=by rw [hin2,<-hlen];exact midM_all _ _
 rw [hfull,hmid]
 rw [hfull] at hp
 have hspl:(spk F).length<=1024:=by
  have h:=spk_length F F.length
  rw [Qk] at h
  omega
 repeat' (conv=>whnf);first|(refine VCall.isF 146 ?_;refine VCall.inl (F:=Tryz.fx146) Tryz.func146 rfl rfl rfl Tryz.ok146 ?_)|(refine VRange.go (ms:=[]) rfl fun hokx hoky l d L hL=>?_)|(refine VSeq.go ?_)|(refine VB.is ?_;refine VB.no (by omega) fun _=>?_)|(refine VLd.is ?_;refine VLd.mk (.row aT (by rfl)) ?_)|(refine VSt.is ?_;refine VSt.row aT (by rfl) (by first|rfl|assumption) ?_)|(refine VNew.mk fun _=>?_)
 all_goals (conv=>whnf)
 rename_i b13 q2 q3
 have hspkA:(spk F).Pairwise (· <·):=spkF_asc F 0
 have hspk0:∀k∈spk F,0<=k:=fun k hk=>(spkY_range hk).1
 have haf:=macAdds_few hA hspkA hi hspk0 hi2
 have hwk12:wk.few 1000000000000:=by unfold Wrk.few at hfewW ⊢;omega
 obtain ⟨sends,hse⟩:=gX (sendsM N (spk F) ins)
 rw [hse] at haf
 have hadd0:∀T,addsTo N C cores (qSyns N C) sends T 0=[]:=fun _=>rfl
 have harr0:∀T,arrsTo N C cores sends T 0=0:=fun _=>rfl
 have hlas0:∀T,lastTo N C cores sends T 0=0:=fun _=>rfl
 refine waves_iter N C cores hA x hx t wk hwk12 (spk F) ins (by omega) hil p cap pi ci bi oi hin hbi l q2 q3 b2 b3 b5 (L .ready none::.obj d (.deferred (some []))::.row b13 3 [.int .i64 0]::(cfire t cs).map celE) (fun v y=>addsTo N C cores (qSyns N C) sends (stT N C cores) v=addsTo N C cores (qSyns N C) sends (stT N C cores) y/\arrsTo N C cores sends (stT N C cores) v=arrsTo N C cores sends (stT N C cores) y/\lastTo N C cores sends (stT N C cores) v=lastTo N C cores sends (stT N C cores) y/\y<=(wavesF N C cores).length) (fun y=>L .ready none::.obj d (.deferred (some []))::.row q2 88 [.pointer (some ⟨x.b,0,none⟩)]::.row q3 145 [.func (.func 144) #[] #[.pointer (some ⟨b2,0,none⟩),.pointer (some ⟨b5,0,none⟩),.pointer (some ⟨b3,0,none⟩)]]::.row b2 88 [.pointer (some ⟨x.b,0,none⟩)]::.row b5 28 [.slice p (spk F).length cap]::.row b3 28 [.slice pi ins.length ci]::.vec p (spk F).length cap 3 1 (flat intV (spk F))::.row x.b 135 (macC N C cores x t (wrkQ wk ((keysM N).filter sends).length (hopsOf N C cores ((keysM N).filter sends)) ((addsTo N C cores (qSyns N C) sends (stT N C cores) y).length) (arrsTo N C cores sends (stT N C cores) y)))::.row b13 3 [.int .i64 ((lastTo N C cores sends (stT N C cores) y:Nat):Int)]::((addsTo N C cores (qSyns N C) sends (stT N C cores) y).foldl (cadd t) (cfire t cs)).map celE) 0 ⟨rfl,rfl,rfl,qB _⟩ sends hse ?_ ?_ ?_ ?_ ?_
 ·exact aH
 ·rw [hadd0,harr0,hlas0,List.length_nil,wrkQ_zero,List.foldl_nil]
  exact aH
 ·rintro v y hv hn ⟨e1,e2,e3,e4⟩
  have h5:=snd_none hA hv hn
  refine ⟨?_,?_,?_,e4⟩
  ·rw [addsTo_next,h5,e1];simp [arrAdds]
  ·rw [arrsTo_next,h5,e2];rfl
  ·rw [lastTo_next,h5,e3];rfl
 ·-- cut<
  rintro F2 v pp c y hv hne ⟨gp,rfl⟩ hmem ⟨e1,e2,e3,e4⟩
  have hd:=sndT_done hA sends hv
  have hrun:=fun (w':World) hts htt hpl=>sndRun_any hA sends hv hne x.tt hx.tabs hx.en x.pt x.ct gtab 0 w' hts htt (some ⟨gp,0,none⟩) c gp 0 hpl
  have hAf:=snd_arr_few hA sends hv
  have hAll:=arrs_all hA sends (w:=v) (by omega)
  have hAll2:=arrs_all hA sends (w:=v+1) (by omega)
  have hLas:=(last_le hA sends (v+1) (by omega)).2
  have hWf:=wavesN_few N C cores
  have hadl:=fun {i j:Nat}=>addsAt_few (N:=N) (C:=C) (cores:=cores) (sends:=sends) hv (i:=i) (j:=j)
  have harr1:=arrsTo_next N C cores sends (stT N C cores) v
  have hlas1:=lastTo_next N C cores sends (stT N C cores) v
  have hadz:=addsAt_zero (N:=N) (C:=C) (cores:=cores) sends v
  have hadal:=addsAt_all (N:=N) (C:=C) (cores:=cores) sends v
  have hnext:=fun {i:Nat} {a:Nat×Nat×Nat} ha=>addsAt_next (N:=N) (C:=C) (cores:=cores) (sends:=sends) (w:=v) (i:=i) (a:=a) ha
  have hrow:=fun {i:Nat} {a:Nat×Nat×Nat} ha {j:Nat} {s:Syn} hs=>addsAt_row (N:=N) (C:=C) (cores:=cores) (sends:=sends) (w:=v) (i:=i) (a:=a) ha (j:=j) (s:=s) hs
  have hkl:(sndK N C cores sends v).length<=nSrc N:=by
   unfold sndK wvK
   refine Qb (qD _ _) (Qb (qD _ _) ?_)
   simp
  have hpkl:(sndC N C cores sends v).pk.length=(sndK N C cores sends v).length:=qv _
  have har:=hd.ar
  rw [hpkl] at har
  rw [e1] at hadz
  rw [e2] at harr1 hAll
  rw [e3] at hlas1
  obtain ⟨ks,hks⟩:=gX (sndK N C cores sends v)
  rw [hks] at hrun hAf hkl har hmem hnext hrow ⊢
  obtain ⟨AR,hAR⟩:=gX ((sndS N C cores sends (stT N C cores) v).arr)
  rw [hAR] at hrun hAf har harr1 hlas1 hadal hnext hrow
  have hstp:min (stepsF N C cores:Int) 10000=(stT N C cores:Int):=by unfold stT;omega
  refine VYield.go hL hokx hoky aT rfl ?_
  repeat' (conv=>whnf);first|(refine VSeq.is ?_;refine VSeq.isN 16 rfl ?_;refine VSeq.cut (at_:=16) (α:=Nat×Option Addr×Nat×Nat) (fun z=>0<AR.length->∃g,z.2.1=some ⟨g,0,none⟩) (fun z=>[(1000000,.tuple #[]),(2,.pointer (some ⟨b2,0,none⟩)),(4,.slice none 0 0),(5,.pointer (some ⟨b5,0,none⟩)),(13,.pointer (some ⟨b13,0,none⟩)),(14,.slice (some ⟨gp,0,none⟩) ks.length c),(15,.pointer (some ⟨z.1,0,none⟩))]) (fun z=>F2++(.row z.1 285 [.slice z.2.1 AR.length z.2.2.1,.slice none 0 0,.slice (some ⟨z.2.2.2,0,none⟩) (nCores C) (nCores C),.int .i64 0]::.vec z.2.1 AR.length z.2.2.1 289 3 (flat arV AR)::L .busy none::.obj d (.deferred (some []))::.row q2 88 [.pointer (some ⟨x.b,0,none⟩)]::.row q3 145 [.func (.func 144) #[] #[.pointer (some ⟨b2,0,none⟩),.pointer (some ⟨b5,0,none⟩),.pointer (some ⟨b3,0,none⟩)]]::.row b2 88 [.pointer (some ⟨x.b,0,none⟩)]::.row b5 28 [.slice p (spk F).length cap]::.row b3 28 [.slice pi ins.length ci]::.vec p (spk F).length cap 3 1 (flat intV (spk F))::.row x.b 135 (macC N C cores x t (wrkQ wk ((keysM N).filter sends).length (hopsOf N C cores ((keysM N).filter sends)) ((addsTo N C cores (qSyns N C) sends (stT N C cores) y).length) (arrsTo N C cores sends (stT N C cores) y)))::.row b13 3 [.int .i64 ((lastTo N C cores sends (stT N C cores) y:Nat):Int)]::((addsTo N C cores (qSyns N C) sends (stT N C cores) y).foldl (cadd t) (cfire t cs)).map celE)) ?_ ?_)|(refine VBegin.is ?_;refine VBegin.mk aT ?_)|(refine VLd.is ?_;refine VLd.mk (Rd.cast (.row aT ((h7 (wrkQ wk ((keysM N).filter sends).length (hopsOf N C cores ((keysM N).filter sends)) ((addsTo N C cores (qSyns N C) sends (stT N C cores) y).length) (arrsTo N C cores sends (stT N C cores) y))))) (by first|omega|(dsimp only;omega)|rfl)) ?_)|(refine VLd.is ?_;refine VLd.mk (Rd.cast (.row aT ((h20 (wrkQ wk ((keysM N).filter sends).length (hopsOf N C cores ((keysM N).filter sends)) ((addsTo N C cores (qSyns N C) sends (stT N C cores) y).length) (arrsTo N C cores sends (stT N C cores) y))))) (by first|omega|(dsimp only;omega)|rfl)) ?_)|(refine VLd.is ?_;refine VLd.mk (Rd.cast (.row aT ((h24 (wrkQ wk ((keysM N).filter sends).length (hopsOf N C cores ((keysM N).filter sends)) ((addsTo N C cores (qSyns N C) sends (stT N C cores) y).length) (arrsTo N C cores sends (stT N C cores) y))))) (by first|omega|(dsimp only;omega)|rfl)) ?_)|(refine VCall.isF 147 ?_;(first|rw [hstp]|skip;refine VCall.genR (fun w' hw'=>hrun w' (htb.keep hw' htM) (fun z hz=>(hx.tabE z hz).elim fun b hb=>⟨b,0,hb.1.keep hw' hb.2⟩) (Sl.own' hw' (by (repeat (first|exact hmem|exact List.mem_append_left _ hmem|apply List.mem_cons_of_mem|apply List.mem_append_right));first|done|fail) (fun _=>rfl) (by simp [pkOf]))) ?_;rintro ⟨za,zc,zm⟩ hz;dsimp only at hz))|(refine VLd.is ?_;refine VLd.mk (.row aT (by rfl)) ?_)|(refine VSt.is ?_;refine VSt.row aT (by rfl) (by first|rfl|assumption) ?_)|(refine VNew.mk fun _=>?_)|(refine VKeep.is ?_;refine VKeep.mk aH ?_)|(refine VHs.mk _ (.refl _) ?_)|(refine And.intro ?_ ?_)
  all_goals (conv=>whnf)
  any_goals exact VMid.mk (_,za,zc,zm) hz aE aH
  rintro ⟨b15,za,zc,zm⟩ hz
  dsimp only at hz ⊢
  repeat' (conv=>whnf);first|(refine VSeq.go ?_)|(refine VB.is ?_;refine VB.no (by omega) fun _=>?_)|(refine VLd.is ?_;refine VLd.mk (.row aT (by rfl)) ?_)|(refine VAr.is ?_;refine oA ?_)
  all_goals (conv=>whnf)
  refine VLoop.mk (α:=Nat) (fun i=>i<=AR.length) (fun i=>[(1000000,.tuple #[]),(2,.pointer (some ⟨b2,0,none⟩)),(4,.slice none 0 0),(5,.pointer (some ⟨b5,0,none⟩)),(13,.pointer (some ⟨b13,0,none⟩)),(14,.slice (some ⟨gp,0,none⟩) ks.length c),(15,.pointer (some ⟨b15,0,none⟩)),(103,.slice za AR.length zc),(104,.int .i64 (AR.length:Int)),(105,.int .i64 (i:Int)),(17,.int .i64 ((lastOf (AR.take i):Nat):Int))]) (fun i=>F2++(.row b15 285 [.slice za AR.length zc,.slice none 0 0,.slice (some ⟨zm,0,none⟩) (nCores C) (nCores C),.int .i64 0]::.vec za AR.length zc 289 3 (flat arV AR)::L .busy none::.obj d (.deferred (some []))::.row q2 88 [.pointer (some ⟨x.b,0,none⟩)]::.row q3 145 [.func (.func 144) #[] #[.pointer (some ⟨b2,0,none⟩),.pointer (some ⟨b5,0,none⟩),.pointer (some ⟨b3,0,none⟩)]]::.row b2 88 [.pointer (some ⟨x.b,0,none⟩)]::.row b5 28 [.slice p (spk F).length cap]::.row b3 28 [.slice pi ins.length ci]::.vec p (spk F).length cap 3 1 (flat intV (spk F))::.row x.b 135 (macC N C cores x t (wrkQ wk ((keysM N).filter sends).length (hopsOf N C cores ((keysM N).filter sends)) ((addsAt N C cores sends v i 0).length) (arrsTo N C cores sends (stT N C cores) y)))::.row b13 3 [.int .i64 ((lastTo N C cores sends (stT N C cores) y:Nat):Int)]::((addsAt N C cores sends v i 0).foldl (cadd t) (cfire t cs)).map celE)) (fun i=>AR.length - i) 0 (qB _) aE ?_ ?_
  ·rw [hadz]
   exact aH
  intro i hi3
  rcases qy i AR.length with hlt|hge
  ·obtain ⟨⟨ap,ar,at_⟩,ha⟩:∃a,AR[i]? =some a:=⟨_,qq hlt⟩
   obtain ⟨gza,hgz⟩:=hz (by omega)
   obtain ⟨ha1,ha2,_,_⟩:=har ap ar at_ (qz ha)
   have ha2:ar<nCores C:=ha2
   obtain ⟨key,hkey⟩:∃key,ks[ap]? =some key:=⟨_,qq ha1⟩
   have hkd:ks[ap]?.getD 0=key:=by rw [hkey];rfl
   obtain ⟨kb,hmk,hno,pc,cc',mb,gcl,RM,hcel,⟨hcsl,hcsM⟩,⟨hRM,hmbM⟩,hlook⟩:=hKr ar ha2
   obtain ⟨rp,rc,gr,hlk,hrs,hrM⟩:=hlook key
   have hpkk:(pkOf N cores ks)[ap]? =some ⟨(homeM N cores key).toNat,key⟩:=by unfold pkOf;rw [qj,hkey];rfl
   have hpv:sub (pkV ⟨(homeM N cores key).toNat,key⟩) 2 1=some [.int .i64 key]:=rfl
   have hrE:=rowsAt_eq hA (ar:Int) key
   have htE:=toCore_eq N C cores key (ar:Int)
   have hnx2:=hnext ha
   have hrow2:=fun {j:Nat} {s:Syn} hs=>hrow ha (j:=j) (s:=s) hs
   dsimp only at hnx2 hrow2
   rw [hkd,htE] at hnx2 hrow2
   rw [qv] at hnx2
   have hSm:∀s∈synsAt N cores (ar:Int) key,s∈N.syns/\keyM N s.frm=key/\cores[s.to.toNat]? =some (ar:Int):=fun s hs=>by
    unfold synsAt at hs
    rw [qP,jv] at hs
    exact hs
   obtain ⟨SY,hSY⟩:=gX (synsAt N cores (ar:Int) key)
   rw [hSY] at hrE hnx2 hrow2 hSm
   have hrl:(rowsAt N C cores (ar:Int) key).length=SY.length:=by rw [hrE,qv]
   obtain ⟨RS,hRS⟩:=gX (rowsAt N C cores (ar:Int) key)
   rw [hRS] at hlk hrs hrl hrE
   have hSYl:SY.length<=8192:=by
    rw [<-hSY]
    unfold synsAt
    have:=qD (fun s:Syn=>decide (keyM N s.frm=key/\cores[s.to.toNat]? =some (ar:Int))) N.syns
    have:=hA.plan.net.fewS
    omega
   have hak1:sub ([.slice pc (cellsAt cores (ar:Int)).length cc',.map (some mb)]:List Value) 1 1=some [.map (some mb)]:=rfl
   have hak0:sub ([.slice pc (cellsAt cores (ar:Int)).length cc',.map (some mb)]:List Value) 0 1=some [.slice pc (cellsAt cores (ar:Int)).length cc']:=rfl
   have hlast:max ((lastOf (AR.take i):Nat):Int) ((at_:Int)+1)=((lastOf (AR.take (i+1)):Nat):Int):=by
    rw [qi,ha,qW,lastOf_next]
    dsimp only
    omega
   have hat2:at_+1<=960:=by
    have h:=snd_time hA sends hv (p:=ap) (r:=ar) (t:=at_) (by rw [hAR];exact qz ha)
    have h2:=(snd_last hA sends hv).2
    omega
   have hav:sub (arV (ap,ar,at_)) 0 3=some [.int .i64 (ap:Int),.int .i64 (ar:Int),.int .i64 (at_:Int)]:=rfl
   repeat' (conv=>whnf);first|(refine VIx.is ?_;refine VIx.mk hgz (by omega) (by omega) ?_)|(refine VIx.is ?_;refine VIx.mk rfl (by omega) (by omega) ?_)|(refine VLd.is ?_;refine VLd.mk (Rd.cast (Rd.vecQ aT hgz (sub_flat0 (f:=arV) (k:=3) (fun _=>rfl) ha hav)) (by first|omega|(dsimp only;omega)|rfl)) ?_)|(refine VLd.is ?_;refine VLd.mk (Rd.cast (.row aT ((h1 (wrkQ wk ((keysM N).filter sends).length (hopsOf N C cores ((keysM N).filter sends)) ((addsAt N C cores sends v i 0).length) (arrsTo N C cores sends (stT N C cores) y))))) (by first|omega|(dsimp only;omega)|rfl)) ?_)|(refine VMp.is ?_;refine VMp.is ?_;refine VMp.old hKM hkM ?_)|(refine VMp.is ?_;refine VMp.is ?_;refine VMp.old hRM hmbM ?_)|(refine VLk.is ?_;refine VLk.is ?_;refine VLk.has hmk ?_)|(refine VLk.is ?_;refine VLk.is ?_;refine VLk.val hlk ?_)|(refine VLd.is ?_;refine VLd.mk (Rd.cast (.old (hcel.part hak1) rfl hno) (by first|omega|(dsimp only;omega)|rfl)) ?_)|(refine VLd.is ?_;refine VLd.mk (Rd.cast (Rd.mVec (by (repeat (first|exact hmem|exact List.mem_append_left _ hmem|apply List.mem_cons_of_mem|apply List.mem_append_right));first|done|fail) (sub_flat (o:=2) (f:=pkV) (k:=4) (fun _=>rfl) hpkk hpv)) (by first|omega|(dsimp only;omega)|rfl)) ?_)|(refine VSeq.go ?_)|(refine VB.is ?_;refine VB.yes (by omega) fun _=>?_)|(refine VLd.is ?_;refine VLd.mk (.row aT (by rfl)) ?_)|(refine VSt.is ?_;refine VSt.row aT (by rfl) (by first|rfl|assumption) ?_)|(refine VNew.mk fun _=>?_)|(refine VAr.is ?_;refine oA ?_)|(refine VHs.mk _ (.refl _) ?_)
   all_goals (conv=>whnf)
   refine VLoop.mk (α:=Nat) (fun j=>j<=RS.length) (fun j=>[(1000000,.tuple #[]),(2,.pointer (some ⟨b2,0,none⟩)),(4,.slice none 0 0),(5,.pointer (some ⟨b5,0,none⟩)),(13,.pointer (some ⟨b13,0,none⟩)),(14,.slice (some ⟨gp,0,none⟩) ks.length c),(15,.pointer (some ⟨b15,0,none⟩)),(103,.slice za AR.length zc),(104,.int .i64 (AR.length:Int)),(105,.int .i64 (i:Int)),(17,.int .i64 ((lastOf (AR.take (i+1)):Nat):Int)),(20,.pointer (some ⟨kb,0,none⟩)),(132,.slice rp RS.length rc),(133,.int .i64 (RS.length:Int)),(134,.int .i64 (j:Int))]) (fun j=>F2++(.row b15 285 [.slice za AR.length zc,.slice none 0 0,.slice (some ⟨zm,0,none⟩) (nCores C) (nCores C),.int .i64 0]::.vec za AR.length zc 289 3 (flat arV AR)::L .busy none::.obj d (.deferred (some []))::.row q2 88 [.pointer (some ⟨x.b,0,none⟩)]::.row q3 145 [.func (.func 144) #[] #[.pointer (some ⟨b2,0,none⟩),.pointer (some ⟨b5,0,none⟩),.pointer (some ⟨b3,0,none⟩)]]::.row b2 88 [.pointer (some ⟨x.b,0,none⟩)]::.row b5 28 [.slice p (spk F).length cap]::.row b3 28 [.slice pi ins.length ci]::.vec p (spk F).length cap 3 1 (flat intV (spk F))::.row x.b 135 (macC N C cores x t (wrkQ wk ((keysM N).filter sends).length (hopsOf N C cores ((keysM N).filter sends)) ((addsAt N C cores sends v i j).length) (arrsTo N C cores sends (stT N C cores) y)))::.row b13 3 [.int .i64 ((lastTo N C cores sends (stT N C cores) y:Nat):Int)]::((addsAt N C cores sends v i j).foldl (cadd t) (cfire t cs)).map celE)) (fun j=>RS.length - j) 0 (qB _) (by rw [<-hlast];exact aE) aH ?_
   intro j hj
   rcases qy j RS.length with hjl|hjg
   ·obtain ⟨s,hsy⟩:∃s,SY[j]? =some s:=⟨_,qq (by omega)⟩
    obtain ⟨hsN,hsk,hsc⟩:=hSm s (qz hsy)
    obtain ⟨i0,z,hto,hi0,hz0,hzr,hqs,hok⟩:=quot_bounds hA.plan.net (half_ok hA.plan.chip.bits) hsN
    have hdl0:=(hA.plan.net.syns s hsN).2.2.2
    have hto2:s.to.toNat=i0:=by omega
    rw [hto2] at hsc
    have hslot:=slot_get hsc
    have hcs:=cellsAt_slot hsc
    obtain ⟨sl,hsl⟩:=gX (useN (cores.take i0) (ar:Int))
    rw [hsl] at hcs hslot
    obtain ⟨dl,hdl⟩:∃dl:Nat,s.dl=(dl:Int):=⟨s.dl.toNat,by omega⟩
    obtain ⟨q,hq⟩:=gX (quotS (scalesM N (halfM C.bits)) s)
    have hrj:RS[j]? =some (rowOf N cores s (quotS (scalesM N (halfM C.bits)) s)):=by rw [hrE,qj,hsy];rfl
    have hrv:sub (rwV (rowOf N cores s (quotS (scalesM N (halfM C.bits)) s))) 0 4=some [.int .i64 key,.int .i64 (sl:Int),.int .i64 q,.int .i64 (dl:Int)]:=by
     unfold rowOf
     rw [hto2,hslot,qY,hq,hdl,hsk]
     rfl
    obtain ⟨CS,hCS⟩:=gX ((addsAt N C cores sends v i j).foldl (cadd t) (cfire t cs))
    have hCSb:CS.map (·.b)=x.bs:=by
     rw [<-hCS,cs_b,<-hbs]
     unfold cfire
     rw [List.map_map];rfl
    have hCSz:CS.map (·.z)=scalesM N (halfM C.bits):=by
     rw [<-hCS,cs_z,<-hzs]
     unfold cfire
     rw [List.map_map];rfl
    have hCSd:Due16 CS:=by rw [<-hCS];exact cadds_due _ (cfire_due hdue)
    have hCSl:CS.length=N.ps.length:=by
     have h:=congrArg List.length hCSb
     rw [qv,hx.bl] at h
     exact h
    obtain ⟨c0,hc0⟩:∃c0,CS[i0]? =some c0:=⟨_,qq (by omega)⟩
    have hb0:x.bs[i0]? =some c0.b:=by rw [<-hCSb,qj,hc0];rfl
    have hz00:c0.z=z:=by
     have h:=congrArg (fun l=>l[i0]?) hCSz
     rw [qj,hc0,hz0] at h
     simpa using h
    have hptr:((cellsAt cores (ar:Int)).map fun i=>(x.bs[i]?).getD 0)[sl]? =some c0.b:=by rw [qj,hcs,qV,hb0,qY]
    have hsll:sl<(cellsAt cores (ar:Int)).length:=(qx.1 hcs).1
    have hcal:(cellsAt cores (ar:Int)).length<=cores.length:=by
     unfold cellsAt cellsTo
     have:=qD (fun i=>decide (cores[i]? =some (ar:Int))) (List.range cores.length)
     rw [Qg] at this
     exact this
    have hd0:=hCSd c0 (qz hc0)
    obtain ⟨dv,hdv⟩:∃dv,c0.due[(t+dl)%16]? =some dv:=⟨_,qq (by omega)⟩
    have hread:=celC_due hdv
    have hz1:sub (celC c0) 9 1=some [.int .i64 z]:=by rw [<-hz00];rfl
    obtain ⟨wt,hwt⟩:=gX ((synQ (scalesM N (halfM C.bits)) s).wt)
    have hmul:q*z=wt:=by
     rw [<-hwt,<-hq]
     show _=quotS (scalesM N (halfM C.bits)) s*((scalesM N (halfM C.bits))[s.to.toNat]?.getD 1)
     rw [hto2,hz0,qY]
    have hwb: -32768<=wt/\wt<=32768:=by
     rw [<-hmul,<-hq,hqs]
     exact hok.2
    have hset:=celC_set (c:=c0) (k:=(t+dl)%16) (by omega) (wadd dv wt)
    have hnew:=cadd_set (t:=t) (cs:=CS) (s:=synQ (scalesM N (halfM C.bits)) s) (i:=i0) (c:=c0) (a:=dv) hto2 hc0 (by show c0.due[(t+s.dl.toNat)%16]? =some dv;rw [hdl,jw];exact hdv)
    have hdlE:(synQ (scalesM N (halfM C.bits)) s).dl.toNat=dl:=by show s.dl.toNat=dl;omega
    rw [hdlE,hwt] at hnew
    have hadd:=hrow2 (j:=j) (s:=synQ (scalesM N (halfM C.bits)) s) (by rw [qj,hsy];rfl)
    have hadl2:=hadl (i:=i) (j:=j)
    have hr31:sub (macC N C cores x t (wrkQ wk ((keysM N).filter sends).length (hopsOf N C cores ((keysM N).filter sends)) ((addsAt N C cores sends v i j).length) (arrsTo N C cores sends (stT N C cores) y))) 31 1=some [.int .i64 (wk.rows+((addsAt N C cores sends v i j).length:Int))]:=rfl
    have hs31:upd (macC N C cores x t (wrkQ wk ((keysM N).filter sends).length (hopsOf N C cores ((keysM N).filter sends)) ((addsAt N C cores sends v i j).length) (arrsTo N C cores sends (stT N C cores) y))) 31 [.int .i64 (wk.rows+((addsAt N C cores sends v i j).length:Int)+1)]=some (macC N C cores x t (wrkQ wk ((keysM N).filter sends).length (hopsOf N C cores ((keysM N).filter sends)) ((addsAt N C cores sends v i j).length+1) (arrsTo N C cores sends (stT N C cores) y))):=by
     have e:wk.rows+((addsAt N C cores sends v i j).length:Int)+1=wk.rows+(((addsAt N C cores sends v i j).length+1:Nat):Int):=by omega
     rw [e];rfl
    unfold Wrk.few at hwk12
    rw [hCS]
    repeat' (conv=>whnf);first|(refine VIx.is ?_;refine VIx.mk (hrs.ptr (by omega)) (by omega) (by omega) ?_)|(refine VLd.is ?_;refine VLd.mk (Rd.cast (hrs.rd0 hrM (fun _=>rfl) hrj hrv) (by first|omega|(dsimp only;omega)|rfl)) ?_)|(refine VLd.is ?_;refine VLd.mk (Rd.cast (.old (hcel.part hak0) rfl hno) (by first|omega|(dsimp only;omega)|rfl)) ?_)|(refine VIx.is ?_;refine VIx.mk (hcsl.ptr (by omega)) (by omega) (by omega) ?_)|(refine VLd.is ?_;refine VLd.mk (Rd.cast (hcsl.rd0 hcsM (fun _=>rfl) hptr rfl) (by first|omega|(dsimp only;omega)|rfl)) ?_)|(refine VLd.is ?_;refine VLd.mk (Rd.cast (.row aT ((h0 (wrkQ wk ((keysM N).filter sends).length (hopsOf N C cores ((keysM N).filter sends)) ((addsAt N C cores sends v i j).length) (arrsTo N C cores sends (stT N C cores) y))))) (by first|omega|(dsimp only;omega)|rfl)) ?_)|(refine VLd.is ?_;refine VLd.mk (Rd.cast (.row aT (hr31)) (by first|omega|(dsimp only;omega)|rfl)) ?_)|(refine VIx.is ?_;refine VIx.mk rfl (by omega) (by omega) ?_)|(refine VLd.is ?_;refine VLd.mk (Rd.cast (Rd.segR (f:=celE) (l:=CS) aS hc0 rfl hread) (by first|omega|(dsimp only;omega)|rfl)) ?_)|(refine VLd.is ?_;refine VLd.mk (Rd.cast (Rd.segR (f:=celE) (l:=CS) aS hc0 rfl hz1) (by first|omega|(dsimp only;omega)|rfl)) ?_)|(refine VAr.is ?_;refine VAr.is ?_;refine VAr.mul hmul (by omega) (by omega) ?_)|(refine VAr.is ?_;refine oA ?_)|(refine VAr.is ?_;refine VAr.wadd ?_)|(refine VSt.is ?_;refine VSt.is ?_;refine VSt.cast (off':=12+(t+dl)%16) (by first|omega|(dsimp only;omega)|rfl) (VSt.segR (f:=celE) (l:=CS) (y:=⟨c0.b,c0.id,c0.p,c0.z,c0.s,c0.due.set ((t+dl)%16) (wadd dv wt)⟩) aS hc0 rfl hset rfl rfl ?_))|(refine VSt.is ?_;refine VSt.is ?_;refine VSt.cast (off':=31) (by first|omega|(dsimp only;omega)|rfl) (VSt.row aT hs31 rfl ?_))|(refine VSeq.go ?_)|(refine VB.is ?_;refine VB.yes (by omega) fun _=>?_)|(refine VLd.is ?_;refine VLd.mk (.row aT (by rfl)) ?_)|(refine VSt.is ?_;refine VSt.row aT (by rfl) (by first|rfl|assumption) ?_)|(refine VNew.mk fun _=>?_)|(refine VHs.mk _ (.refl _) ?_)|(refine VM.is ?_;refine oM ?_)
    all_goals (conv=>whnf)
    refine VNext.mk (j+1) (by omega) (by omega) aE ?_
    rw [hadd,qw,qM,Qx,hCS,Qp,List.foldl_nil,<-hnew]
    exact aH
   have hje:j=RS.length:=by omega
   subst hje
   rw [hrl,hnx2]
   repeat' (conv=>whnf);first|(refine VSeq.go ?_)|(refine VB.is ?_;refine VB.no (by omega) fun _=>?_)|(refine VLd.is ?_;refine VLd.mk (.row aT (by rfl)) ?_)|(refine VAr.is ?_;refine oA ?_)
   all_goals (conv=>whnf)
   exact VNext.mk (i+1) (by omega) (by omega) aE aH
  have hie:i=AR.length:=by omega
  subst hie
  have hfl:AR.take AR.length=AR:=Qk
  rw [hadal,hfl]
  have hadl3:=hadl (i:=AR.length) (j:=0)
  rw [hadal] at hadl3
  have hr30:sub (macC N C cores x t (wrkQ wk ((keysM N).filter sends).length (hopsOf N C cores ((keysM N).filter sends)) ((addsTo N C cores (qSyns N C) sends (stT N C cores) (v+1)).length) (arrsTo N C cores sends (stT N C cores) y))) 30 1=some [.int .i64 (wk.arrivals+((arrsTo N C cores sends (stT N C cores) y:Nat):Int))]:=rfl
  have hs30:upd (macC N C cores x t (wrkQ wk ((keysM N).filter sends).length (hopsOf N C cores ((keysM N).filter sends)) ((addsTo N C cores (qSyns N C) sends (stT N C cores) (v+1)).length) (arrsTo N C cores sends (stT N C cores) y))) 30 [.int .i64 (wk.arrivals+((arrsTo N C cores sends (stT N C cores) y:Nat):Int)+(AR.length:Int))]=some (macC N C cores x t (wrkQ wk ((keysM N).filter sends).length (hopsOf N C cores ((keysM N).filter sends)) ((addsTo N C cores (qSyns N C) sends (stT N C cores) (v+1)).length) (arrsTo N C cores sends (stT N C cores) (v+1)))):=by
   have e:wk.arrivals+((arrsTo N C cores sends (stT N C cores) y:Nat):Int)+(AR.length:Int)=wk.arrivals+((arrsTo N C cores sends (stT N C cores) (v+1):Nat):Int):=by rw [harr1];omega
   rw [e];rfl
  unfold Wrk.few at hwk12
  repeat' (conv=>whnf);first|(refine VLd.is ?_;refine VLd.mk (Rd.cast (.row aT (hr30)) (by first|omega|(dsimp only;omega)|rfl)) ?_)|(refine VSt.is ?_;refine VSt.is ?_;refine VSt.cast (off':=30) (by first|omega|(dsimp only;omega)|rfl) (VSt.row aT hs30 rfl ?_))|(refine VSeq.go ?_)|(refine VB.is ?_;refine VB.no (by omega) fun _=>?_)|(refine VLd.is ?_;refine VLd.mk (.row aT (by rfl)) ?_)|(refine VSt.is ?_;refine VSt.row aT (by rfl) (by first|rfl|assumption) ?_)|(refine VAr.is ?_;refine oA ?_)|(refine VHs.mk _ (.refl _) ?_)
  all_goals (conv=>whnf)
  refine VRound.mk aT ?_
  refine ⟨rfl,v+1,⟨rfl,rfl,rfl,by omega⟩,?_⟩
  dsimp only
  rw [hlas1,Int.natCast_add]
  exact aH
  -- >cut
 ·rintro nn y hnn hrest ⟨e1,e2,e3,e4⟩
  obtain ⟨r1,r2,r3⟩:=to_rest hA (L:=qSyns N C) (sends:=sends) (m:=nn) (wavesF N C cores).length hnn (qA _) hrest
  have hy1:addsTo N C cores (qSyns N C) sends (stT N C cores) y=macAdds N C cores sends:=by rw [<-e1,<-r1];rfl
  have hy2:arrsTo N C cores sends (stT N C cores) y=macArrs N C cores sends:=by rw [<-e2,<-r2];rfl
  have hy3:lastTo N C cores sends (stT N C cores) y=macLast N C cores sends:=by rw [<-e3,<-r3];rfl
  have hst:macStep N C cores ⟨t,cs,wk⟩ ins=⟨t+1,(macAdds N C cores sends).foldl (cadd t) (cfire t cs),macW N C cores wk (spk F).length sends⟩:=by unfold macStep;rw [hSp,hse]
  have hml:=(last_le hA sends _ (qA _)).2
  have hWf:=wavesN_few N C cores
  have hml2:macLast N C cores sends<=(wavesF N C cores).length*960:=hml
  rw [hst,hy1,hy2,hy3]
  obtain ⟨ML,hML⟩:=gX (macLast N C cores sends)
  rw [hML] at hml2 ⊢
  have hr25:∀w,sub (macC N C cores x t w) 25 1=some [.int .i64 w.ticks]:=fun _=>rfl
  have hr26:∀w,sub (macC N C cores x t w) 26 1=some [.int .i64 w.updates]:=fun _=>rfl
  have hr27:∀w,sub (macC N C cores x t w) 27 1=some [.int .i64 w.spikes]:=fun _=>rfl
  have hr32:∀w,sub (macC N C cores x t w) 32 1=some [.int .i64 w.steps]:=fun _=>rfl
  have hr33:∀w,sub (macC N C cores x t w) 33 1=some [.int .i64 w.most]:=fun _=>rfl
  have hu25:∀(w:Wrk) (v:Int),upd (macC N C cores x t w) 25 [.int .i64 v]=some (macC N C cores x t {w with ticks:=v}):=fun _ _=>rfl
  have hu26:∀(w:Wrk) (v:Int),upd (macC N C cores x t w) 26 [.int .i64 v]=some (macC N C cores x t {w with updates:=v}):=fun _ _=>rfl
  have hu27:∀(w:Wrk) (v:Int),upd (macC N C cores x t w) 27 [.int .i64 v]=some (macC N C cores x t {w with spikes:=v}):=fun _ _=>rfl
  have hu32:∀(w:Wrk) (v:Int),upd (macC N C cores x t w) 32 [.int .i64 v]=some (macC N C cores x t {w with steps:=v}):=fun _ _=>rfl
  have hu33:∀(w:Wrk) (v:Int),upd (macC N C cores x t w) 33 [.int .i64 v]=some (macC N C cores x t {w with most:=v}):=fun _ _=>rfl
  have hu0:∀(w:Wrk),upd (macC N C cores x t w) 0 [.int .i64 ((t:Int)+1)]=some (macC N C cores x (t+1) w):=fun _=>rfl
  unfold Wrk.few at hwk12
  have hwq:wrkQ wk ((keysM N).filter sends).length (hopsOf N C cores ((keysM N).filter sends)) (macAdds N C cores sends).length (macArrs N C cores sends)=⟨wk.ticks,wk.updates,wk.spikes,wk.packets+(((keysM N).filter sends).length:Int),wk.hops+(hopsOf N C cores ((keysM N).filter sends):Int),wk.arrivals+(macArrs N C cores sends:Int),wk.rows+((macAdds N C cores sends).length:Int),wk.steps,wk.most⟩:=rfl
  rw [hwq]
  repeat' (conv=>whnf);first|(refine VEnd.is ?_;refine VEnd.mk aT (by simp) ?_)|(refine VLd.is ?_;refine VLd.mk (Rd.cast (.row aT ((h0 _))) (by first|omega|(dsimp only;omega)|rfl)) ?_)|(refine VLd.is ?_;refine VLd.mk (Rd.cast (.row aT ((h2 _))) (by first|omega|(dsimp only;omega)|rfl)) ?_)|(refine VLd.is ?_;refine VLd.mk (Rd.cast (.row aT ((hr25 _))) (by first|omega|(dsimp only;omega)|rfl)) ?_)|(refine VLd.is ?_;refine VLd.mk (Rd.cast (.row aT ((hr26 _))) (by first|omega|(dsimp only;omega)|rfl)) ?_)|(refine VLd.is ?_;refine VLd.mk (Rd.cast (.row aT ((hr27 _))) (by first|omega|(dsimp only;omega)|rfl)) ?_)|(refine VLd.is ?_;refine VLd.mk (Rd.cast (.row aT ((hr32 _))) (by first|omega|(dsimp only;omega)|rfl)) ?_)|(refine VLd.is ?_;refine VLd.mk (Rd.cast (.row aT ((hr33 _))) (by first|omega|(dsimp only;omega)|rfl)) ?_)|(refine VSt.is ?_;refine VSt.is ?_;refine VSt.cast (off':=25) (by first|omega|(dsimp only;omega)|rfl) (VSt.row aT (hu25 _ _) rfl ?_))|(refine VSt.is ?_;refine VSt.is ?_;refine VSt.cast (off':=26) (by first|omega|(dsimp only;omega)|rfl) (VSt.row aT (hu26 _ _) rfl ?_))|(refine VSt.is ?_;refine VSt.is ?_;refine VSt.cast (off':=27) (by first|omega|(dsimp only;omega)|rfl) (VSt.row aT (hu27 _ _) rfl ?_))|(refine VSt.is ?_;refine VSt.is ?_;refine VSt.cast (off':=32) (by first|omega|(dsimp only;omega)|rfl) (VSt.row aT (hu32 _ _) rfl ?_))|(refine VSt.is ?_;refine VSt.is ?_;refine VSt.cast (off':=33) (by first|omega|(dsimp only;omega)|rfl) (VSt.row aT (hu33 _ _) rfl ?_))|(refine VSt.is ?_;refine VSt.is ?_;refine VSt.cast (off':=0) (by first|omega|(dsimp only;omega)|rfl) (VSt.row aT (hu0 _) rfl ?_))|(refine VAr.is ?_;refine VAr.is ?_;dsimp only;refine oA ?_)|(refine VUn.is ?_;refine VUn.mk aT ?_)|(refine VSeq.go ?_)|(refine VLd.is ?_;refine VLd.mk (.row aT (by rfl)) ?_)|(refine VHs.mk _ (.refl _) ?_)
  all_goals (conv=>whnf)
  refine ⟨fun w' hw'=>⟨(p,cap),rfl,hp,hw'.le ?_⟩⟩
  unfold macOwn macW
  dsimp only
  rw [hML]
  exact aH
end Go.Proofs
