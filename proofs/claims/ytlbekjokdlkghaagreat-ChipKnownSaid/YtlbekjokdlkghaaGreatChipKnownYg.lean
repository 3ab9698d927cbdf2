import Derived.Test.YtlbekjokdlkghaaGreatChipKnownYf
import Derived.Test.YtlbekjokdlkghaaGreatChipKnownNb
set_option linter.unusedVariables false
set_option linter.unusedSimpArgs false
set_option maxHeartbeats 4000000
section
namespace Go.Proofs
open Go Go.Vx Go.Gm
def wrkP (w:Wrk)(p h:Nat):Wrk:={w with packets:=w.packets+(p:Int),hops:=w.hops+(h:Int)}
theorem waves_iter {α:Type}{w0:World}{M:List Nat}{H:HP}{K:Value->HP->Prop}(N:Net)(C:Chp)(cores:List Int)(hA:AsgOk N C cores)(x:MacX)(hx:MacIn w0 M N C cores x)(t:Nat)(wk:Wrk)(hwk:wk.few 1000000000000)(spk ins:List Int)(hspk:spk.length<=65536)(hins:ins.length<=65536)
  (ps:Option Addr) (cs:Nat) (pi:Option Addr) (ci bi oi:Nat) (hin:Sl w0 intV 1 ins pi ins.length bi oi) (hbi:bi∉M) (l q2 q3 b2 b3 b5:Nat) (R:HP) (I:Nat->α->Prop) (G:α->HP) (x0:α) (h0:I 0 x0)
  (sends:Int->Bool) (hse:sendsM N spk ins=sends)
  (hH:HLe (.row q2 88 [.pointer (some ⟨x.b,0,none⟩)]::.row q3 145 [.func (.func 144) #[] #[.pointer (some ⟨b2,0,none⟩),.pointer (some ⟨b5,0,none⟩),.pointer (some ⟨b3,0,none⟩)]]::.row b2 88 [.pointer (some ⟨x.b,0,none⟩)]::.row b5 28 [.slice ps spk.length cs]::.row b3 28 [.slice pi ins.length ci]::.vec ps spk.length cs 3 1 (flat intV spk)::.row x.b 135 (macC N C cores x t (wk))::R) H)
  (hG:HLe (G x0) (.row q2 88 [.pointer (some ⟨x.b,0,none⟩)]::.row q3 145 [.func (.func 144) #[] #[.pointer (some ⟨b2,0,none⟩),.pointer (some ⟨b5,0,none⟩),.pointer (some ⟨b3,0,none⟩)]]::.row b2 88 [.pointer (some ⟨x.b,0,none⟩)]::.row b5 28 [.slice ps spk.length cs]::.row b3 28 [.slice pi ins.length ci]::.vec ps spk.length cs 3 1 (flat intV spk)::.row x.b 135 (macC N C cores x t (wrkP wk ((keysM N).filter sends).length (hopsOf N C cores ((keysM N).filter sends))))::R))
  (skip:∀(v:Nat) (y:α),v<(wavesF N C cores).length->sndK N C cores sends v=[]->I v y->I (v+1) y)
  (step:∀(F:HP) (v:Nat) (p:Option Addr) (c:Nat) (y:α),v<(wavesF N C cores).length->sndK N C cores sends v≠[]->(∃g,p=some ⟨g,0,none⟩)->Ent.vec p (sndK N C cores sends v).length c 291 4 (flat pkV (pkOf N cores (sndK N C cores sends v)))∈F->I v y->
   VYield Tryz.cx.P w0 M (F++G y) l [.slice p (sndK N C cores sends v).length c] fun u H'=>u=.bool true/\∃y',I (v+1) y'/\HLe (F++G y') H')
  (fin:∀(n:Nat) (y:α),n<=(wavesF N C cores).length->(∀v,n<=v->sndK N C cores sends v=[])->I n y->K (.tuple #[]) (G y)):
  VCall Tryz.cx.P w0 M H 195 [.func (.yield l) #[] #[],.pointer (some ⟨q2,0,none⟩),.pointer (some ⟨q3,0,none⟩)] K:=by
 obtain ⟨gs,hsl,hsM⟩:=hx.srcs
 obtain ⟨gw,hwv,hwM⟩:=hx.waves
 have hfew:=hA.plan.few
 have hnf:=hA.plan.net.few
 have hinp:=hA.plan.net.inputs
 have hns:nSrc N<=1024:=by unfold nSrc;omega
 have hkl:=keys_le N
 have hrange:=waveOf_ge (wavesF N C cores)
 have hsnd:=snd_filter N C cores sends
 obtain ⟨W,hW⟩:=gX (wavesF N C cores)
 have hwnd:=waves_nodup N C cores
 have hWl:=wavesN_few N C cores
 have hwm:=fun k=>waves_mem (N:=N) (C:=C) (cores:=cores) (key:=k)
 rw [hW] at hwv hrange hsnd hwnd hwm hWl skip step fin
 have h3:∀w,sub (macC N C cores x t w) 3 1=some [.slice x.sp (keysM N).length x.sc]:=fun _=>rfl
 have h2':∀w,sub (macC N C cores x t w) 2 1=some [.slice (some ⟨x.cb,0,none⟩) N.ps.length x.cc]:=fun _=>rfl
 have h21:∀w,sub (macC N C cores x t w) 21 1=some [.slice x.pw (nSrc N) x.cw]:=fun _=>rfl
 have h28:∀w,sub (macC N C cores x t w) 28 1=some [.int .i64 w.packets]:=fun _=>rfl
 have h29:∀w,sub (macC N C cores x t w) 29 1=some [.int .i64 w.hops]:=fun _=>rfl
 have hu28:∀(w:Wrk) (v:Int),upd (macC N C cores x t w) 28 [.int .i64 v]=some (macC N C cores x t {w with packets:=v}):=fun _ _=>rfl
 have hu29:∀(w:Wrk) (v:Int),upd (macC N C cores x t w) 29 [.int .i64 v]=some (macC N C cores x t {w with hops:=v}):=fun _ _=>rfl
 have hkeys:∀k∈keysM N,(0<=k/\k<nSrc N)/\∃v:Nat,waveOf W k=(v:Int)/\v<W.length:=fun k hk=>by
  refine ⟨(keys_src hk).1,?_⟩
  obtain ⟨l',h1,h2⟩:=(hwm k).2 hk
  obtain ⟨v,hv⟩:=jy h1
  exact ⟨v,(waveOf_iff hwnd).2 ⟨l',hv,h2⟩,(qx.1 hv).1⟩
 obtain ⟨nk,hnk⟩:=gX ((keysM N).length)
 have hks:(srcsM N C cores).length=nk:=by unfold srcsM;rw [qv];exact hnk
 refine VCall.le hH (VCall.leK ?_)
 refine VCall.inl (F:=Tryz.fx195) Tryz.func195 rfl rfl rfl Tryz.ok195 ?_
 repeat' (conv=>whnf);first|(refine VLd.is ?_;refine VLd.mk (Rd.cast (.row aT (h3 wk)) oE) ?_)|refine VSeq.go ?_|refine oL ?_
 all_goals (conv=>whnf)
 refine VLoop.mk (α:=Nat×List PRow×Option Addr×Nat) (fun z=>z.1<=nk/\z.2.1.map (·.ks)=wvN W z.2.1.length (((keysM N).take z.1).filter sends)/\(∀r∈z.2.1,r.ok)/\(∀k∈((keysM N).take z.1).filter sends,waveOf W k<(z.2.1.length:Int))/\z.2.1.length<=W.length/\(0<z.2.1.length->∃g,z.2.2.1=some ⟨g,0,none⟩))
  (fun z=>[(1000000,.tuple #[]),(0,.func (.yield l) #[] #[]),(1,.pointer (some ⟨q2,0,none⟩)),(2,.pointer (some ⟨q3,0,none⟩)),(4,.slice z.2.2.1 z.2.1.length z.2.2.2),(14,.slice x.sp (keysM N).length x.sc),(15,.int .i64 (((keysM N).length:Nat):Int)),(16,.int .i64 (z.1:Int))])
  (fun z=>.row q2 88 [.pointer (some ⟨x.b,0,none⟩)]::.row q3 145 [.func (.func 144) #[] #[.pointer (some ⟨b2,0,none⟩),.pointer (some ⟨b5,0,none⟩),.pointer (some ⟨b3,0,none⟩)]]::.row b2 88 [.pointer (some ⟨x.b,0,none⟩)]::.row b5 28 [.slice ps spk.length cs]::.row b3 28 [.slice pi ins.length ci]::.vec ps spk.length cs 3 1 (flat intV spk)::.row x.b 135 (macC N C cores x t (wrkP wk (((keysM N).take z.1).filter sends).length (hopsOf N C cores (((keysM N).take z.1).filter sends))))::(.vec z.2.2.1 (z.2.1).length z.2.2.2 280 1 (flat prV (z.2.1))::((z.2.1).map (prE N cores)++R))) (fun z=>nk - z.1) (0,[],none,0) ⟨qB _,rfl,by simp,by simp,qB _,fun h=>absurd h (by simp)⟩ aE ?_ ?_
 ·dsimp only
  have e1:wrkP wk (((keysM N).take 0).filter sends).length (hopsOf N C cores (((keysM N).take 0).filter sends))=wk:=by
   unfold wrkP hopsOf
   simp
  rw [e1]
  refine HLe.trans ?_ (HLe.nilv (e:=280) (size:=1) (.refl _))
  exact aH
 rintro ⟨i,L,lp,lc⟩ ⟨hi,hL,hLk,hLw,hLl,hLp⟩
 dsimp only at hi hL hLk hLw hLl hLp ⊢
 obtain ⟨ks,hkse⟩:=gX (((keysM N).take i).filter sends)
 have hksl:ks.length<=nSrc N:=by
  rw [<-hkse]
  have:=qD sends ((keysM N).take i)
  rw [qh] at this
  omega
 have hhop:=hops_le hA ks
 rw [hkse] at hL hLw ⊢
 rcases qy i nk with hlt|hge
 ·obtain ⟨key0,hkey⟩:∃key,(keysM N)[i]? =some key:=⟨_,qq qZ⟩
  have hkm:=qz hkey
  obtain ⟨hk0,v,hv,hvl⟩:=hkeys key0 hkm
  obtain ⟨kn,rfl⟩:∃kn:Nat,key0=(kn:Int):=⟨key0.toNat,by omega⟩
  have hgs:(srcsM N C cores)[i]? =some (srcAt N C cores (kn:Int)):=by unfold srcsM;rw [qj,hkey];rfl
  have hll:=links_le hA (kn:Int)
  obtain ⟨lk,hlk⟩:=gX (linksM (srcTree N C cores (kn:Int)))
  obtain ⟨hm,hhm⟩:=gX ((homeM N cores (kn:Int)).toNat)
  have hsv:sub (srcV (srcAt N C cores (kn:Int))) 0 3=some [.int .i64 (kn:Int),.int .i64 (hm:Int),.int .i64 (lk:Int)]:=by
   rw [<-hlk,<-hhm];rfl
  rw [hlk] at hll
  have htk:(keysM N).take (i+1)=(keysM N).take i++[(kn:Int)]:=by rw [qi,hkey];rfl
  cases hB:sends (kn:Int) with
  |false=>
   have hnx:((keysM N).take (i+1)).filter sends=ks:=by
    rw [htk,Qa,hkse]
    simp [hB]
   rw [<-hse] at hB
   repeat' (conv=>whnf);first|(refine VIx.is ?_;refine VIx.mk (hsl.ptr qZ) qZ qZ ?_)|(refine VLd.is ?_;refine VLd.mk (Rd.cast (hsl.rd0 hsM (fun _=>rfl) hgs hsv) oE) ?_)|(refine VNew.mk fun b6=>?_)|(refine VCall.isF 144 ?_;(refine sends_vc N qZ b2 b3 b5 x.b x.cb x.cc _ (h2' (wrkP wk ks.length (hopsOf N C cores ks))) spk ins hspk hins ps cs pi ci bi oi hin hbi (by simp) (by simp) (by simp) (by simp) (by simp) (kn:Int) qZ false hB ?_))|refine VSeq.go ?_|refine oY fun _=>?_|refine oL ?_|refine oT ?_|refine oA ?_
   all_goals (conv=>whnf)
   refine VNext.mk (i+1,L,lp,lc) ⟨by dsimp only;omega,by dsimp only;rw [hnx];exact hL,hLk,by dsimp only;rw [hnx];exact hLw,hLl,hLp⟩ (by dsimp only;omega) aE ?_
   dsimp only
   rw [hnx]
   exact aH
  |true=>
   have hnx:((keysM N).take (i+1)).filter sends=ks++[(kn:Int)]:=by
    rw [htk,Qa,hkse]
    simp [hB]
   rw [<-hse] at hB
   have hwg:((List.range (nSrc N)).map fun (k:Nat)=>waveOf W (k:Int))[kn]? =some (v:Int):=by
    rw [qj,qX qZ,qV,hv]
   have hpwp:0<nSrc N:=by omega
   repeat' (conv=>whnf);first|(refine VIx.is ?_;refine VIx.mk (hsl.ptr qZ) qZ qZ ?_)|(refine VLd.is ?_;refine VLd.mk (Rd.cast (hsl.rd0 hsM (fun _=>rfl) hgs hsv) oE) ?_)|(refine VNew.mk fun b6=>?_)|(refine VCall.isF 144 ?_;(refine sends_vc N qZ b2 b3 b5 x.b x.cb x.cc _ (h2' (wrkP wk ks.length (hopsOf N C cores ks))) spk ins hspk hins ps cs pi ci bi oi hin hbi (by simp) (by simp) (by simp) (by simp) (by simp) (kn:Int) qZ true hB ?_))|(refine VLd.is ?_;refine VLd.mk (Rd.cast (.row aT ((h21 _))) oE) ?_)|(refine VIx.is ?_;refine VIx.mk (hwv.ptr hpwp) qZ qZ ?_)|(refine VLd.is ?_;refine VLd.mk (Rd.cast (hwv.rd0 hwM (fun _=>rfl) hwg rfl) oE) ?_)|refine VSeq.go ?_|refine oY fun _=>?_|refine oL ?_|refine oT ?_|refine oH ?_
   all_goals (conv=>whnf)
   refine VLoop.mk (α:=List PRow×Option Addr×Nat) (fun z=>z.1.map (·.ks)=wvN W z.1.length ks/\(∀r∈z.1,r.ok)/\(∀k∈ks,waveOf W k<(z.1.length:Int))/\z.1.length<=W.length/\(0<z.1.length->∃g,z.2.1=some ⟨g,0,none⟩))
    (fun z=>[(1000000,.tuple #[]),(0,.func (.yield l) #[] #[]),(1,.pointer (some ⟨q2,0,none⟩)),(2,.pointer (some ⟨q3,0,none⟩)),(4,.slice z.2.1 z.1.length z.2.2),(6,.pointer (some ⟨b6,0,none⟩)),(7,.int .i64 (v:Int)),(14,.slice x.sp (keysM N).length x.sc),(15,.int .i64 (((keysM N).length:Nat):Int)),(16,.int .i64 (i:Int))])
    (fun z=>.row b6 217 [.int .i64 (kn:Int),.int .i64 (hm:Int),.int .i64 (lk:Int)]::.row q2 88 [.pointer (some ⟨x.b,0,none⟩)]::.row q3 145 [.func (.func 144) #[] #[.pointer (some ⟨b2,0,none⟩),.pointer (some ⟨b5,0,none⟩),.pointer (some ⟨b3,0,none⟩)]]::.row b2 88 [.pointer (some ⟨x.b,0,none⟩)]::.row b5 28 [.slice ps spk.length cs]::.row b3 28 [.slice pi ins.length ci]::.vec ps spk.length cs 3 1 (flat intV spk)::.row x.b 135 (macC N C cores x t (wrkP wk ks.length (hopsOf N C cores ks)))::(.vec z.2.1 (z.1).length z.2.2 280 1 (flat prV (z.1))::((z.1).map (prE N cores)++R))) (fun z=>W.length - z.1.length) (L,lp,lc) ⟨hL,hLk,hLw,hLl,hLp⟩ aE aH ?_
   rintro ⟨L2,lp2,lc2⟩ ⟨hL2,hLk2,hLw2,hLl2,hLp2⟩
   dsimp only at hL2 hLk2 hLw2 hLl2 hLp2 ⊢
   have hl2:(wvN W L2.length ks).length=L2.length:=wvN_len ..
   rcases qy v L2.length with hvlt|hvge
   ·obtain ⟨row,hrow⟩:∃row,L2[v]? =some row:=⟨_,qq hvlt⟩
    have hrks:row.ks=ks.filter fun k=>decide (waveOf W k=(v:Int)):=by
     have h1:=congrArg (fun l=>l[v]?) hL2
     rw [qj,hrow,wvN_get hvlt] at h1
     simpa using h1
    have hrl:row.ks.length<=ks.length:=by rw [hrks];exact qD _ _
    have hnx2:=wvN_add (ks:=ks) hv hvlt
    rw [<-hrks] at hnx2
    obtain ⟨gl,rfl⟩:=hLp2 qZ
    have hpe:wk.packets+(ks.length:Int)+1=wk.packets+((ks++[(kn:Int)]).length:Int):=by rw [qw,qM];omega
    have hhe:wk.hops+(hopsOf N C cores ks:Int)+(lk:Int)=wk.hops+(hopsOf N C cores (ks++[(kn:Int)]):Int):=by rw [hops_snoc,hlk];omega
    have hs28:upd (macC N C cores x t (wrkP wk ks.length (hopsOf N C cores ks))) 28 [.int .i64 (wk.packets+(ks.length:Int)+1)]=some (macC N C cores x t (wrkP wk (ks++[(kn:Int)]).length (hopsOf N C cores ks))):=by rw [hpe];rfl
    have hs29:upd (macC N C cores x t (wrkP wk (ks++[(kn:Int)]).length (hopsOf N C cores ks))) 29 [.int .i64 (wk.hops+(hopsOf N C cores ks:Int)+(lk:Int))]=some (macC N C cores x t (wrkP wk (ks++[(kn:Int)]).length (hopsOf N C cores (ks++[(kn:Int)])))):=by rw [hhe];rfl
    have hr28:sub (macC N C cores x t (wrkP wk ks.length (hopsOf N C cores ks))) 28 1=some [.int .i64 (wk.packets+(ks.length:Int))]:=rfl
    have hr29:sub (macC N C cores x t (wrkP wk (ks++[(kn:Int)]).length (hopsOf N C cores ks))) 29 1=some [.int .i64 (wk.hops+(hopsOf N C cores ks:Int))]:=rfl
    unfold Wrk.few at hwk
    repeat' (conv=>whnf);first|(refine VHs.is ?_;refine VHs.mk [.row b6 217 [.int .i64 (kn:Int),.int .i64 (hm:Int),.int .i64 (lk:Int)],.vec (some ⟨gl,0,none⟩) L2.length lc2 280 1 (flat prV L2),.row x.b 135 (macC N C cores x t (wrkP wk ks.length (hopsOf N C cores ks))),.row q2 88 [.pointer (some ⟨x.b,0,none⟩)]] aH ?_)|refine oI ?_|(refine VLd.is ?_;refine VLd.mk (Rd.cast (.vec aT (sub_flat0 (f:=prV) (k:=1) (fun _=>rfl) hrow rfl)) oE) ?_)|(refine VAp.is ?_;refine VAp.seg (f:=prE N cores) (l:=L2) aS hrow rfl (.at_ (.vec aT rfl)) (by simp [Value.oneCell']) (by (try dsimp only);omega) (by simp only [maxLen];omega) fun p1 c1 hp1=>?_)|(refine VSt.is ?_;refine VSt.cast (off':=v*1) oE (VSt.vec aT (upd_flat0 (f:=prV) (k:=1) (y:=⟨p1,c1,row.ks++[(kn:Int)]⟩) (fun _=>rfl) hrow (prV_upd _ _ _ _)) rfl ?_))|(refine VLd.is ?_;refine VLd.mk (Rd.cast (.row aT (hr28)) oE) ?_)|(refine VLd.is ?_;refine VLd.mk (Rd.cast (.row aT (hr29)) oE) ?_)|(refine VAr.is ?_;refine oA ?_)|(refine VSt.is ?_;refine VSt.cast (off':=28) oE (VSt.row aT hs28 rfl ?_))|(refine VSt.is ?_;refine VSt.cast (off':=29) oE (VSt.row aT hs29 rfl ?_))|refine VSeq.go ?_|refine oN fun _=>?_|refine oL ?_|refine oV fun _=>?_|refine oK ?_|refine oH ?_
    all_goals (conv=>whnf)
    refine VNext.mk (i+1,L2.set v ⟨p1,c1,row.ks++[(kn:Int)]⟩,some ⟨gl,0,none⟩,lc2) ⟨by dsimp only;omega,?_,fun r hr=>?_,?_,by dsimp only;rw [List.length_set];exact hLl2,fun _=>⟨gl,rfl⟩⟩ (by dsimp only;omega) (by dsimp only;rw [List.length_set];exact aE) ?_
    ·dsimp only
     rw [hnx,QF,hnx2,<-hL2,List.map_set]
    ·rcases Qq hr with h|rfl
     ·exact hLk2 r h
     ·exact fun _=>hp1 qZ
    ·dsimp only
     rw [hnx,QF]
     intro k hk
     rcases qH.1 hk with h|h
     ·exact hLw2 k h
     ·rw [qt] at h
      subst h
      omega
    ·dsimp only
     rw [hnx,QF]
     refine HLe.permL ?_ (put_seg (f:=prE N cores) aS qZ)
     rw [prE_snoc,hhm]
     exact aH
   ·have hmo:=wvN_more (ws:=W) (n:=L2.length) (ks:=ks) hLw2
    repeat' (conv=>whnf);first|(refine VAp.is ?_;refine VAp.own aT (.at_ (.vec aT rfl)) (by simp [Value.oneCell']) (by (try dsimp only);omega) (by simp only [maxLen];omega) fun p1 c1 hp1=>?_)|refine VSeq.go ?_|refine oY fun _=>?_|refine oV fun _=>?_
    all_goals (conv=>whnf)
    refine VNext.mk (L2++[⟨none,0,[]⟩],p1,c1) ⟨?_,fun r hr=>?_,fun k hk=>?_,?_,fun _=>hp1 qZ⟩ ?_ ?_ ?_
    ·dsimp only
     rw [ql,qw,qM,hL2,hmo];rfl
    ·rcases qH.1 hr with h|h
     ·exact hLk2 r h
     ·rw [qt] at h;subst h
      intro h;cases h
    ·have:=hLw2 k hk
     dsimp only
     rw [qw,qM];omega
    ·dsimp only
     rw [qw,qM];omega
    ·dsimp only
     rw [qw,qM];omega
    ·dsimp only
     rw [qw,qM]
     exact aE
    ·dsimp only
     have he:prE N cores ⟨none,0,[]⟩=.vec none 0 0 291 4 []:=rfl
     rw [ql,qw,qM,flat_append,qU,he,qJ]
     refine HLe.trans ?_ (HLe.nilv (e:=291) (size:=4) (.refl _))
     exact aH
 have hie:i=nk:=by omega
 subst hie
 have hkall:ks=(keysM N).filter sends:=by rw [<-hkse,<-hnk,Qk]
 have hLs:∀(w:Nat) (r:PRow),L[w]? =some r->r.ks=sndK N C cores sends w:=fun w r hr=>by
  have h1:=congrArg (fun l=>l[w]?) hL
  have hw:=(qx.1 hr).1
  rw [qj,hr,wvN_get hw,hkall] at h1
  have h2:=hsnd w
  rw [h2] at h1
  simpa using h1
 have hrest:∀w,L.length<=w->sndK N C cores sends w=[]:=fun w hw=>by
  have h2:=hsnd w
  rw [<-h2,<-hkall,List.filter_eq_nil_iff]
  intro k hk
  have:=hLw k hk
  simp;omega
 rw [hkall]
 repeat' (conv=>whnf);first|refine VSeq.go ?_|refine oN fun _=>?_
 all_goals (conv=>whnf)
 refine VLoop.mk (α:=Nat×α) (fun z=>z.1<=L.length/\I z.1 z.2) (fun z=>[(1000000,.tuple #[]),(0,.func (.yield l) #[] #[]),(76,.slice lp L.length lc),(77,.int .i64 (L.length:Int)),(78,.int .i64 (z.1:Int))])
  (fun z=>.vec lp L.length lc 280 1 (flat prV L)::(L.map (prE N cores)++G z.2)) (fun z=>L.length - z.1) (0,x0) ⟨qB _,h0⟩ aE ?_ ?_
 ·dsimp only
  refine HLe.trans (HLe.left (.vec lp L.length lc 280 1 (flat prV L)::L.map (prE N cores)) hG) ?_
  exact aH
 rintro ⟨i,y⟩ ⟨hi,hI⟩
 dsimp only at hi hI ⊢
 rcases qy i L.length with hlt|hge
 ·obtain ⟨row,hrow⟩:∃row,L[i]? =some row:=⟨_,qq hlt⟩
  have hrk:=hLs i row hrow
  have hrok:=hLk row (qz hrow)
  obtain ⟨gl,rfl⟩:=hLp qZ
  have hrl:row.ks.length<=nSrc N:=by
   rw [hrk]
   unfold sndK wvK
   refine Qb (qD _ _) (Qb (qD _ _) ?_)
   simp
  have hsk:=skip i y qZ
  have hst:=fun F=>step F i row.p row.c y qZ
  rw [<-hrk] at hsk hst
  have hpe:Ent.vec row.p row.ks.length row.c 291 4 (flat pkV (pkOf N cores row.ks))∈(Ent.vec (some ⟨gl,0,none⟩) L.length lc 280 1 (flat prV L)::L.map (prE N cores)):=qu _ (qo.2 ⟨row,qz hrow,rfl⟩)
  rcases Nat.eq_zero_or_pos row.ks.length with hz|hz
  ·have hnil:row.ks=[]:=List.length_eq_zero_iff.1 hz
   have hI2:=hsk hnil hI
   repeat' (conv=>whnf);first|refine oI ?_|(refine VLd.is ?_;refine VLd.mk (Rd.cast (.vec aT (sub_flat0 (f:=prV) (k:=1) (fun _=>rfl) hrow rfl)) oE) ?_)|refine VSeq.go ?_|refine oY fun _=>?_|refine oN fun _=>?_|refine oA ?_
   all_goals (conv=>whnf)
   exact VNext.mk (i+1,y) ⟨by dsimp only;omega,hI2⟩ (by dsimp only;omega) aE aH
  ·have hne:row.ks≠[]:=QA.1 hz
   have hst2:=hst (Ent.vec (some ⟨gl,0,none⟩) L.length lc 280 1 (flat prV L)::L.map (prE N cores)) hne (hrok hz) hpe hI
   repeat' (conv=>whnf);first|refine oI ?_|(refine VLd.is ?_;refine VLd.mk (Rd.cast (.vec aT (sub_flat0 (f:=prV) (k:=1) (fun _=>rfl) hrow rfl)) oE) ?_)|(refine VYield.is ?_;refine VYield.hle (VYield.mono (VYield.weak ?_ hst2) fun v H' hr=>?_);(focus (exact aH));obtain ⟨rfl,y2,hy2,hl2⟩:=hr;refine ⟨_,hl2,?_⟩)|refine VSeq.go ?_|refine oY fun _=>?_|refine oA ?_
   all_goals (conv=>whnf)
   exact VNext.mk (i+1,y2) ⟨by dsimp only;omega,hy2⟩ (by dsimp only;omega) aE aH
 have hie:i=L.length:=by omega
 subst hie
 have hK:=fin L.length y hLl hrest hI
 repeat' (conv=>whnf);first|refine VSeq.go ?_|refine oN fun _=>?_
 all_goals (conv=>whnf)
 exact ⟨_,by exact aH,hK⟩
end Go.Proofs
end

section
namespace Go.Proofs
open Go Go.Vx Go.Gm
theorem _root_.Go.Vx.Rd.segR {α:Type}{w0:World}{M:List Nat}{H:HP}{l:List α}{f:α->Ent}{Z:HP->HP}{i:Nat}{x:α}{b off s e:Nat}{xs vs:List Value}(h:AtS H (l.map f) Z)(hx:l[i]? =some x)
  (hf:f x=.row b e xs) (hs:sub xs off s=some vs):Rd w0 M H b off s vs:=by
 obtain ⟨u,r,h1,_,_⟩:=h.one hx
 rw [hf] at h1
 exact .row h1 hs
theorem _root_.Go.Vx.VSt.segR {α:Type}{H:HP}{l:List α}{f:α->Ent}{Z:HP->HP}{i:Nat}{x y:α}{b off e:Nat}{xs xs' vs:List Value}{k:HP->Prop}(h:AtS H (l.map f) Z)(hx:l[i]? =some x)
  (hf:f x=.row b e xs) (hu:upd xs off vs=some xs') (hy:f y=.row b e xs') (h1:oneAll vs=true) (hk:k (Z ((l.set i y).map f))):VSt H b off vs k:=by
 obtain ⟨u,r,hat,hz,_⟩:=h.one hx
 rw [hf] at hat
 rw [<-hz,hy] at hk
 exact .row hat hu h1 hk
theorem sub_mapV {α:Type}{f:α->Value}{l:List α}{k:Nat}{a:α}(h:l[k]? =some a):sub (l.map f) k 1=some [f a]:=by
 obtain ⟨hlt,rfl⟩:=qx.1 h
 rw [sub_mk _ _ _ (by rw [qv];omega),<-List.map_drop,qG hlt]
 rfl
theorem upd_mapV {α:Type}{f:α->Value}{l:List α}{k:Nat}(h:k<l.length)(a:α):upd (l.map f) k [f a]=some ((l.set k a).map f):=by
 rw [upd_mk _ _ _ (by rw [qv];exact h)]
 congr 1
 rw [List.map_set,List.set_eq_take_append_cons_drop,jx (by rw [qv];exact h)]
 simp
theorem celC_due {c:CelM}{k:Nat}{a:Int}(h:c.due[k]? =some a):sub (celC c) (12+k) 1=some [.int .i64 a]:=by
 rw [Nat.add_comm]
 exact sub_mapV (f:=fun x=>Value.int .i64 x) h
theorem upd_cons {v:Value}{r cs:List Value}{o:Nat}{vs:List Value}(h:upd r o vs=some cs):upd (v::r) (o+1) vs=some (v::cs):=by
 unfold upd
 rw [h]
theorem celC_set {c:CelM}{k:Nat}(h:k<c.due.length)(a:Int):upd (celC c) (12+k) [.int .i64 a]=some (celC {c with due:=c.due.set k a}):=by
 rw [Nat.add_comm]
 unfold celC
 have h1:=upd_mapV (f:=fun x=>Value.int .i64 x) h a
 exact upd_cons (upd_cons (upd_cons (upd_cons (upd_cons (upd_cons (upd_cons (upd_cons (upd_cons (upd_cons (upd_cons (upd_cons h1)))))))))))
theorem celC_sta (c:CelM)(s:Sta):upd (celC c) 10 [.int .i64 s.v,.int .i64 s.rest]=some (celC {c with s:=s}):=by
 rw [upd_mk _ _ _ (by simp [celC])]
 rfl
theorem celC_sub (c:CelM):sub (celC c) 10 2=some [.int .i64 c.s.v,.int .i64 c.s.rest]:=by
 rw [sub_mk _ _ _ (by simp [celC])]
 rfl
theorem cadd_set {t:Nat}{cs:List CelM}{s:Syn}{i:Nat}{c:CelM}{a:Int}(hi:s.to.toNat=i)(hc:cs[i]? =some c)(ha:c.due[(t+s.dl.toNat)%16]? =some a):
  cs.set i {c with due:=c.due.set ((t+s.dl.toNat)%16) (wadd a s.wt)}=cadd t cs s:=by
 subst hi
 unfold cadd
 rw [modify_of_get _ hc]
 unfold cadd1
 rw [modify_of_get _ ha]
def macOwn (N:Net)(C:Chp)(cores:List Int)(x:MacX)(m:Mac):HP:=.row x.b 135 (macC N C cores x m.t m.w)::m.cs.map celE
theorem sndRun_any {N:Net}{C:Chp}{cores:List Int}(hA:AsgOk N C cores)(sends:Int->Bool){v:Nat}(hv:v<(wavesF N C cores).length)(hne:sndK N C cores sends v≠[])(tt:List ERow)(htb:tt.map (·.l)=tablesF N C cores)(hen:∀t∈tablesF N C cores,(t.length:Int)<=C.en)(pt:Option Addr)(ct bt ot:Nat)(w:World)(hts:Sl w erV 1 tt pt tt.length bt ot)(htt:∀z∈tt,∃b o,Sl w etyV 3 z.l z.p z.l.length b o)
  (pl:Option Addr) (cl bl ol:Nat) (hpl:Sl w pkV 4 (pkOf N cores (sndK N C cores sends v)) pl (sndK N C cores sends v).length bl ol):
  Calls Tryz.prog 147 #[.agg #[.int .i64 C.mesh.wide,.int .i64 C.mesh.high,.int .i64 C.mesh.room],.slice pt (nCores C) ct,.slice pl (sndK N C cores sends v).length cl,.int .i64 (stT N C cores:Int)] w fun e w'=>∃z:Option Addr×Nat×Nat,e=.returned (.tuple #[.agg #[.slice z.1 (sndS N C cores sends (stT N C cores) v).arr.length z.2.1,.slice none 0 0,.slice (some ⟨z.2.2,0,none⟩) (nCores C) (nCores C),.int .i64 0],.int .i64 0])/\(0<(sndS N C cores sends (stT N C cores) v).arr.length->∃g,z.1=some ⟨g,0,none⟩)/\St w [] [.vec z.1 (sndS N C cores sends (stT N C cores) v).arr.length z.2.1 289 3 (flat arV (sndS N C cores sends (stT N C cores) v).arr)] w':=by
 have hn:=nCores_ok hA.plan.chip
 have hfew:=hA.plan.few
 have hinp:=hA.plan.net.inputs
 have hce:=hA.plan.chip.en
 have htl:tt.length=nCores C:=by
  have:=congrArg List.length htb
  rw [qv] at this
  rw [this];unfold tablesF;rw [qv,Qg]
 have hpkE:(sndC N C cores sends v).pk=pkOf N cores (sndK N C cores sends v):=rfl
 have hpkl:(pkOf N cores (sndK N C cores sends v)).length=(sndK N C cores sends v).length:=qv _
 have hns:nSrc N<=1024:=by unfold nSrc;omega
 have hfe:(sndK N C cores sends v).length<=nSrc N:=by
  unfold sndK wvK
  refine Qb (qD _ _) (Qb (qD _ _) ?_)
  simp
 have hpos:0<(sndK N C cores sends v).length:=QA.2 hne
 have hz:∀z∈tt,z.l.length<=1024/\∀e∈z.l,EtyOk e:=fun z hz=>by
  have hm:z.l∈tablesF N C cores:=by rw [<-htb];exact qN (f:=(·.l)) hz
  have h1:=hen _ hm
  refine ⟨by omega,?_⟩
  unfold tablesF at hm
  obtain ⟨r,_,hr⟩:=qo.1 hm
  rw [<-hr]
  exact (tabF_good (T:=srcTree N C cores) (fun k=>tree_ok _ _ _ _) (keys:=keysM N) (fun k hk=>by have:=(keys_src hk).1;unfold nSrc at*;omega) C.en r).1
 have hsrc:∀u∈(sndC N C cores sends v).pk,(u.src:Int)<C.mesh.wide*C.mesh.high/\0<=u.key/\u.key<=65535:=fun u hu=>by
  obtain ⟨k,hk,rfl⟩:=qo.1 hu
  have h1:=(keys_src (sndK_keys hk).1).1
  have h2:=Gm.home_range hA k h1.1
  refine ⟨?_,h1.1,by unfold nSrc at h1;dsimp only;omega⟩
  show ((homeM N cores k).toNat:Int)<_
  omega
 have hout:∀p r,0<=(sndC N C cores sends v).outs p r/\(sndC N C cores sends v).outs p r<32:=fun p r=>by
  show 0<=(srcTree N C cores ((sndK N C cores sends v)[p]?.getD 0))[r]?.getD 0/\(srcTree N C cores ((sndK N C cores sends v)[p]?.getD 0))[r]?.getD 0<32
  cases h:(srcTree N C cores ((sndK N C cores sends v)[p]?.getD 0))[r]? with
  |none=>rw [Option.getD_none];omega
  |some x=>rw [qY];exact (tree_ok _ _ _ _:OutsOk (srcTree N C cores _)) x (qz h)
 have h:=meshRun_any (sndC N C cores sends v) (snd_ok hA sends hv) hA.plan.chip.mesh hn.1 tt htb.symm htl pt ct bt ot w hts htt hz (by rw [hpkE,hpkl];omega) (by rw [hpkE,hpkl];exact hpos) pl cl bl ol (by rw [hpkE,hpkl];exact hpl) hsrc hout (stT N C cores) (by unfold stT;omega) (sndT_done hA sends hv)
 rw [hpkE,hpkl,htl] at h
 refine h.mono fun e w'' h=>?_
 obtain ⟨z,e1,e2⟩:=h
 exact ⟨z,e1,(vec_facts (e2.own _ qg)).2.1,e2⟩
end Go.Proofs
end
