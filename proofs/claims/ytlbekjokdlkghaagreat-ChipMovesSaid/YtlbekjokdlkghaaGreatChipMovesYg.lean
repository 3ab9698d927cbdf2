import Derived.Test.YtlbekjokdlkghaaGreatChipMovesYf
import Derived.Test.YtlbekjokdlkghaaGreatChipMovesNb
set_option linter.unusedVariables false
set_option linter.unusedSimpArgs false
set_option maxHeartbeats 4000000
section
namespace Go.Proofs
open Go Go.Vx Go.Gm
def fN6 (w:Wrk)(p h:Nat):Wrk:={w with packets:=w.packets+(p:Int),hops:=w.hops+(h:Int)}
theorem gP5 {α:Type}{w0:World}{M:List Nat}{H:HP}{K:Value->HP->Prop}(N:Net)(C:Chp)(cores:List Int)(hA:AsgOk N C cores)(x:MacX)(hx:MacIn w0 M N C cores x)(t:Nat)(wk:Wrk)(hwk:wk.few 1000000000000)(spk ins:List Int)(hspk:spk.length<=65536)(hins:ins.length<=65536)
  (ps:Option Addr) (cs:Nat) (pi:Option Addr) (ci bi oi:Nat) (hin:Sl w0 bQ6 1 ins pi ins.length bi oi) (hbi:bi∉M) (l q2 q3 b2 b3 b5:Nat) (R:HP) (I:Nat->α->Prop) (G:α->HP) (x0:α) (h0:I 0 x0)
  (sends:Int->Bool) (hse:bJ8 N spk ins=sends)
  (hH:HLe (.row q2 88 [.pointer (some ⟨x.b,0,none⟩)]::.row q3 145 [.func (.func 144) #[] #[.pointer (some ⟨b2,0,none⟩),.pointer (some ⟨b5,0,none⟩),.pointer (some ⟨b3,0,none⟩)]]::.row b2 88 [.pointer (some ⟨x.b,0,none⟩)]::.row b5 28 [.slice ps spk.length cs]::.row b3 28 [.slice pi ins.length ci]::.vec ps spk.length cs 3 1 (bQ1 bQ6 spk)::.row x.b 135 (bV1 N C cores x t (wk))::R) H)
  (hG:HLe (G x0) (.row q2 88 [.pointer (some ⟨x.b,0,none⟩)]::.row q3 145 [.func (.func 144) #[] #[.pointer (some ⟨b2,0,none⟩),.pointer (some ⟨b5,0,none⟩),.pointer (some ⟨b3,0,none⟩)]]::.row b2 88 [.pointer (some ⟨x.b,0,none⟩)]::.row b5 28 [.slice ps spk.length cs]::.row b3 28 [.slice pi ins.length ci]::.vec ps spk.length cs 3 1 (bQ1 bQ6 spk)::.row x.b 135 (bV1 N C cores x t (fN6 wk ((bX0 N).filter sends).length (bZ7 N C cores ((bX0 N).filter sends))))::R))
  (skip:∀(v:Nat) (y:α),v<(bX4 N C cores).length->bF8 N C cores sends v=[]->I v y->I (v+1) y)
  (step:∀(F:HP) (v:Nat) (p:Option Addr) (c:Nat) (y:α),v<(bX4 N C cores).length->bF8 N C cores sends v≠[]->(∃g,p=some ⟨g,0,none⟩)->Ent.vec p (bF8 N C cores sends v).length c 291 4 (bQ1 pkV (hV9 N cores (bF8 N C cores sends v)))∈F->I v y->
   VYield Tryz.cx.P w0 M (F++G y) l [.slice p (bF8 N C cores sends v).length c] fun u H'=>u=.bool true/\∃y',I (v+1) y'/\HLe (F++G y') H')
  (fin:∀(n:Nat) (y:α),n<=(bX4 N C cores).length->(∀v,n<=v->bF8 N C cores sends v=[])->I n y->K (.tuple #[]) (G y)):
  VCall Tryz.cx.P w0 M H 195 [.func (.yield l) #[] #[],.pointer (some ⟨q2,0,none⟩),.pointer (some ⟨q3,0,none⟩)] K:=by
 obtain ⟨gs,hsl,hsM⟩:=hx.srcs
 obtain ⟨gw,hwv,hwM⟩:=hx.waves
 have hfew:=hA.plan.few
 have hnf:=hA.plan.net.few
 have hinp:=hA.plan.net.inputs
 have hns:bV2 N<=1024:=by unfold bV2;omega
 have hkl:=fX5 N
 have hrange:=gL7 (bX4 N C cores)
 have hsnd:=gD8 N C cores sends
 obtain ⟨W,hW⟩:=gX (bX4 N C cores)
 have hwnd:=bN7 N C cores
 have hWl:=cY3 N C cores
 have hwm:=fun k=>bD8 (N:=N) (C:=C) (cores:=cores) (key:=k)
 rw [hW] at hwv hrange hsnd hwnd hwm hWl skip step fin
 have h3:∀w,sub (bV1 N C cores x t w) 3 1=some [.slice x.sp (bX0 N).length x.sc]:=fun _=>rfl
 have h2':∀w,sub (bV1 N C cores x t w) 2 1=some [.slice (some ⟨x.cb,0,none⟩) N.ps.length x.cc]:=fun _=>rfl
 have h21:∀w,sub (bV1 N C cores x t w) 21 1=some [.slice x.pw (bV2 N) x.cw]:=fun _=>rfl
 have h28:∀w,sub (bV1 N C cores x t w) 28 1=some [.int .i64 w.packets]:=fun _=>rfl
 have h29:∀w,sub (bV1 N C cores x t w) 29 1=some [.int .i64 w.hops]:=fun _=>rfl
 have hu28:∀(w:Wrk) (v:Int),upd (bV1 N C cores x t w) 28 [.int .i64 v]=some (bV1 N C cores x t {w with packets:=v}):=fun _ _=>rfl
 have hu29:∀(w:Wrk) (v:Int),upd (bV1 N C cores x t w) 29 [.int .i64 v]=some (bV1 N C cores x t {w with hops:=v}):=fun _ _=>rfl
 have hkeys:∀k∈bX0 N,(0<=k/\k<bV2 N)/\∃v:Nat,bW0 W k=(v:Int)/\v<W.length:=fun k hk=>by
  refine ⟨(bF0 hk).1,?_⟩
  obtain ⟨l',h1,h2⟩:=(hwm k).2 hk
  obtain ⟨v,hv⟩:=jh h1
  exact ⟨v,(cT1 hwnd).2 ⟨l',hv,h2⟩,(qx.1 hv).1⟩
 obtain ⟨nk,hnk⟩:=gX ((bX0 N).length)
 have hks:(dD3 N C cores).length=nk:=by unfold dD3;rw [qv];exact hnk
 refine VCall.le hH (bF5 ?_)
 refine VCall.inl (F:=lF1) Tryz.func195 rfl rfl rfl lS2 ?_
 repeat' (conv=>whnf);first|(refine VLd.is ?_;refine oC (.row aT (h3 wk)) ?_)|refine VSeq.go ?_|refine oL ?_
 all_goals (conv=>whnf)
 refine VLoop.mk (α:=Nat×List PRow×Option Addr×Nat) (fun z=>z.1<=nk/\z.2.1.map (·.ks)=wvN W z.2.1.length (((bX0 N).take z.1).filter sends)/\(∀r∈z.2.1,r.ok)/\(∀k∈((bX0 N).take z.1).filter sends,bW0 W k<(z.2.1.length:Int))/\z.2.1.length<=W.length/\(0<z.2.1.length->∃g,z.2.2.1=some ⟨g,0,none⟩))
  (fun z=>[(1000000,.tuple #[]),(0,.func (.yield l) #[] #[]),(1,.pointer (some ⟨q2,0,none⟩)),(2,.pointer (some ⟨q3,0,none⟩)),(4,.slice z.2.2.1 z.2.1.length z.2.2.2),(14,.slice x.sp (bX0 N).length x.sc),(15,.int .i64 (((bX0 N).length:Nat):Int)),(16,.int .i64 (z.1:Int))])
  (fun z=>.row q2 88 [.pointer (some ⟨x.b,0,none⟩)]::.row q3 145 [.func (.func 144) #[] #[.pointer (some ⟨b2,0,none⟩),.pointer (some ⟨b5,0,none⟩),.pointer (some ⟨b3,0,none⟩)]]::.row b2 88 [.pointer (some ⟨x.b,0,none⟩)]::.row b5 28 [.slice ps spk.length cs]::.row b3 28 [.slice pi ins.length ci]::.vec ps spk.length cs 3 1 (bQ1 bQ6 spk)::.row x.b 135 (bV1 N C cores x t (fN6 wk (((bX0 N).take z.1).filter sends).length (bZ7 N C cores (((bX0 N).take z.1).filter sends))))::(.vec z.2.2.1 (z.2.1).length z.2.2.2 280 1 (bQ1 prV (z.2.1))::((z.2.1).map (prE N cores)++R))) (fun z=>nk - z.1) (0,[],none,0) ⟨qB _,rfl,by simp,by simp,qB _,fun h=>absurd h oU⟩ aE ?_ ?_
 ·dsimp only
  have e1:fN6 wk (((bX0 N).take 0).filter sends).length (bZ7 N C cores (((bX0 N).take 0).filter sends))=wk:=by
   unfold fN6 bZ7
   simp
  rw [e1]
  refine HLe.trans ?_ (HLe.nilv (e:=280) (size:=1) (.refl _))
  exact aH
 rintro ⟨i,L,lp,lc⟩ ⟨hi,hL,hLk,hLw,hLl,hLp⟩
 dsimp only at hi hL hLk hLw hLl hLp ⊢
 obtain ⟨ks,hkse⟩:=gX (((bX0 N).take i).filter sends)
 have hksl:ks.length<=bV2 N:=by
  rw [<-hkse]
  have:=qD sends ((bX0 N).take i)
  rw [qh] at this
  omega
 have hhop:=gX2 hA ks
 rw [hkse] at hL hLw ⊢
 rcases qy i nk with hlt|hge
 ·obtain ⟨key0,hkey⟩:∃key,(bX0 N)[i]? =some key:=⟨_,qq qZ⟩
  have hkm:=qz hkey
  obtain ⟨hk0,v,hv,hvl⟩:=hkeys key0 hkm
  obtain ⟨kn,rfl⟩:∃kn:Nat,key0=(kn:Int):=⟨key0.toNat,by omega⟩
  have hgs:(dD3 N C cores)[i]? =some (hZ7 N C cores (kn:Int)):=by unfold dD3;rw [qj,hkey];rfl
  have hll:=gG7 hA (kn:Int)
  obtain ⟨lk,hlk⟩:=gX (bK7 (bQ5 N C cores (kn:Int)))
  obtain ⟨hm,hhm⟩:=gX ((bJ2 N cores (kn:Int)).toNat)
  have hsv:sub (kB4 (hZ7 N C cores (kn:Int))) 0 3=some [.int .i64 (kn:Int),.int .i64 (hm:Int),.int .i64 (lk:Int)]:=by
   rw [<-hlk,<-hhm];rfl
  rw [hlk] at hll
  have htk:(bX0 N).take (i+1)=(bX0 N).take i++[(kn:Int)]:=by rw [qi,hkey];rfl
  cases hB:sends (kn:Int) with
  |false=>
   have hnx:((bX0 N).take (i+1)).filter sends=ks:=by
    rw [htk,Qa,hkse]
    simp [hB]
   rw [<-hse] at hB
   repeat' (conv=>whnf);first|(refine VIx.is ?_;refine VIx.mk (hsl.ptr qZ) qZ qZ ?_)|(refine VLd.is ?_;refine oC (hsl.rd0 hsM oR hgs hsv) ?_)|(refine VNew.mk fun b6=>?_)|(refine bQ0 144 ?_;(refine gW5 N qZ b2 b3 b5 x.b x.cb x.cc _ (h2' (fN6 wk ks.length (bZ7 N C cores ks))) spk ins hspk hins ps cs pi ci bi oi hin hbi oU oU oU oU oU (kn:Int) qZ false hB ?_))|refine VSeq.go ?_|refine oY fun _=>?_|refine oL ?_|refine oT ?_|refine oA ?_
   all_goals (conv=>whnf)
   refine VNext.mk (i+1,L,lp,lc) ⟨by dsimp only;omega,by dsimp only;rw [hnx];exact hL,hLk,by dsimp only;rw [hnx];exact hLw,hLl,hLp⟩ (by dsimp only;omega) aE ?_
   dsimp only
   rw [hnx]
   exact aH
  |true=>
   have hnx:((bX0 N).take (i+1)).filter sends=ks++[(kn:Int)]:=by
    rw [htk,Qa,hkse]
    simp [hB]
   rw [<-hse] at hB
   have hwg:((List.range (bV2 N)).map fun (k:Nat)=>bW0 W (k:Int))[kn]? =some (v:Int):=by
    rw [qj,qX qZ,qV,hv]
   have hpwp:0<bV2 N:=by omega
   repeat' (conv=>whnf);first|(refine VIx.is ?_;refine VIx.mk (hsl.ptr qZ) qZ qZ ?_)|(refine VLd.is ?_;refine oC (hsl.rd0 hsM oR hgs hsv) ?_)|(refine VNew.mk fun b6=>?_)|(refine bQ0 144 ?_;(refine gW5 N qZ b2 b3 b5 x.b x.cb x.cc _ (h2' (fN6 wk ks.length (bZ7 N C cores ks))) spk ins hspk hins ps cs pi ci bi oi hin hbi oU oU oU oU oU (kn:Int) qZ true hB ?_))|(refine VLd.is ?_;refine oC (.row aT ((h21 _))) ?_)|(refine VIx.is ?_;refine VIx.mk (hwv.ptr hpwp) qZ qZ ?_)|(refine VLd.is ?_;refine oC (hwv.rd0 hwM oR hwg rfl) ?_)|refine VSeq.go ?_|refine oY fun _=>?_|refine oL ?_|refine oT ?_|refine oH ?_
   all_goals (conv=>whnf)
   refine VLoop.mk (α:=List PRow×Option Addr×Nat) (fun z=>z.1.map (·.ks)=wvN W z.1.length ks/\(∀r∈z.1,r.ok)/\(∀k∈ks,bW0 W k<(z.1.length:Int))/\z.1.length<=W.length/\(0<z.1.length->∃g,z.2.1=some ⟨g,0,none⟩))
    (fun z=>[(1000000,.tuple #[]),(0,.func (.yield l) #[] #[]),(1,.pointer (some ⟨q2,0,none⟩)),(2,.pointer (some ⟨q3,0,none⟩)),(4,.slice z.2.1 z.1.length z.2.2),(6,.pointer (some ⟨b6,0,none⟩)),(7,.int .i64 (v:Int)),(14,.slice x.sp (bX0 N).length x.sc),(15,.int .i64 (((bX0 N).length:Nat):Int)),(16,.int .i64 (i:Int))])
    (fun z=>.row b6 217 [.int .i64 (kn:Int),.int .i64 (hm:Int),.int .i64 (lk:Int)]::.row q2 88 [.pointer (some ⟨x.b,0,none⟩)]::.row q3 145 [.func (.func 144) #[] #[.pointer (some ⟨b2,0,none⟩),.pointer (some ⟨b5,0,none⟩),.pointer (some ⟨b3,0,none⟩)]]::.row b2 88 [.pointer (some ⟨x.b,0,none⟩)]::.row b5 28 [.slice ps spk.length cs]::.row b3 28 [.slice pi ins.length ci]::.vec ps spk.length cs 3 1 (bQ1 bQ6 spk)::.row x.b 135 (bV1 N C cores x t (fN6 wk ks.length (bZ7 N C cores ks)))::(.vec z.2.1 (z.1).length z.2.2 280 1 (bQ1 prV (z.1))::((z.1).map (prE N cores)++R))) (fun z=>W.length - z.1.length) (L,lp,lc) ⟨hL,hLk,hLw,hLl,hLp⟩ aE aH ?_
   rintro ⟨L2,lp2,lc2⟩ ⟨hL2,hLk2,hLw2,hLl2,hLp2⟩
   dsimp only at hL2 hLk2 hLw2 hLl2 hLp2 ⊢
   have hl2:(wvN W L2.length ks).length=L2.length:=dS3 ..
   rcases qy v L2.length with hvlt|hvge
   ·obtain ⟨row,hrow⟩:∃row,L2[v]? =some row:=⟨_,qq hvlt⟩
    have hrks:row.ks=ks.filter fun k=>decide (bW0 W k=(v:Int)):=by
     have h1:=congrArg (fun l=>l[v]?) hL2
     rw [qj,hrow,dS4 hvlt] at h1
     simpa using h1
    have hrl:row.ks.length<=ks.length:=by rw [hrks];exact qD _ _
    have hnx2:=kM3 (ks:=ks) hv hvlt
    rw [<-hrks] at hnx2
    obtain ⟨gl,rfl⟩:=hLp2 qZ
    have hpe:wk.packets+(ks.length:Int)+1=wk.packets+((ks++[(kn:Int)]).length:Int):=by rw [qw,qM];omega
    have hhe:wk.hops+(bZ7 N C cores ks:Int)+(lk:Int)=wk.hops+(bZ7 N C cores (ks++[(kn:Int)]):Int):=by rw [hB3,hlk];omega
    have hs28:upd (bV1 N C cores x t (fN6 wk ks.length (bZ7 N C cores ks))) 28 [.int .i64 (wk.packets+(ks.length:Int)+1)]=some (bV1 N C cores x t (fN6 wk (ks++[(kn:Int)]).length (bZ7 N C cores ks))):=by rw [hpe];rfl
    have hs29:upd (bV1 N C cores x t (fN6 wk (ks++[(kn:Int)]).length (bZ7 N C cores ks))) 29 [.int .i64 (wk.hops+(bZ7 N C cores ks:Int)+(lk:Int))]=some (bV1 N C cores x t (fN6 wk (ks++[(kn:Int)]).length (bZ7 N C cores (ks++[(kn:Int)])))):=by rw [hhe];rfl
    have hr28:sub (bV1 N C cores x t (fN6 wk ks.length (bZ7 N C cores ks))) 28 1=some [.int .i64 (wk.packets+(ks.length:Int))]:=rfl
    have hr29:sub (bV1 N C cores x t (fN6 wk (ks++[(kn:Int)]).length (bZ7 N C cores ks))) 29 1=some [.int .i64 (wk.hops+(bZ7 N C cores ks:Int))]:=rfl
    unfold Wrk.few at hwk
    repeat' (conv=>whnf);first|(refine VHs.is ?_;refine VHs.mk [.row b6 217 [.int .i64 (kn:Int),.int .i64 (hm:Int),.int .i64 (lk:Int)],.vec (some ⟨gl,0,none⟩) L2.length lc2 280 1 (bQ1 prV L2),.row x.b 135 (bV1 N C cores x t (fN6 wk ks.length (bZ7 N C cores ks))),.row q2 88 [.pointer (some ⟨x.b,0,none⟩)]] aH ?_)|refine oI ?_|(refine VLd.is ?_;refine oC (.vec aT (bQ8 (f:=prV) (k:=1) (fun _=>rfl) hrow rfl)) ?_)|(refine VAp.is ?_;refine VAp.seg (f:=prE N cores) (l:=L2) aS hrow rfl (.at_ (.vec aT rfl)) (by simp [Value.oneCell']) (by (try dsimp only);omega) (by simp only [maxLen];omega) fun p1 c1 hp1=>?_)|(refine VSt.is ?_;refine VSt.cast (off':=v*1) oE (VSt.vec aT (bZ9 (f:=prV) (k:=1) (y:=⟨p1,c1,row.ks++[(kn:Int)]⟩) (fun _=>rfl) hrow (kC7 _ _ _ _)) rfl ?_))|(refine VLd.is ?_;refine oC (.row aT (hr28)) ?_)|(refine VLd.is ?_;refine oC (.row aT (hr29)) ?_)|(refine VAr.is ?_;refine oA ?_)|(refine VSt.is ?_;refine VSt.cast (off':=28) oE (VSt.row aT hs28 rfl ?_))|(refine VSt.is ?_;refine VSt.cast (off':=29) oE (VSt.row aT hs29 rfl ?_))|refine VSeq.go ?_|refine oN fun _=>?_|refine oL ?_|refine oV fun _=>?_|refine oK ?_|refine oH ?_
    all_goals (conv=>whnf)
    refine VNext.mk (i+1,L2.set v ⟨p1,c1,row.ks++[(kn:Int)]⟩,some ⟨gl,0,none⟩,lc2) ⟨by dsimp only;omega,?_,fun r hr=>?_,?_,by dsimp only;rw [List.length_set];exact hLl2,fun _=>⟨gl,rfl⟩⟩ (by dsimp only;omega) (by dsimp only;rw [List.length_set];exact aE) ?_
    ·dsimp only
     rw [hnx,QH,hnx2,<-hL2,List.map_set]
    ·rcases Qq hr with h|rfl
     ·exact hLk2 r h
     ·exact fun _=>hp1 qZ
    ·dsimp only
     rw [hnx,QH]
     intro k hk
     rcases qH.1 hk with h|h
     ·exact hLw2 k h
     ·rw [qt] at h
      subst h
      omega
    ·dsimp only
     rw [hnx,QH]
     refine HLe.permL ?_ (cH8 (f:=prE N cores) aS qZ)
     rw [kX6,hhm]
     exact aH
   ·have hmo:=hR4 (ws:=W) (n:=L2.length) (ks:=ks) hLw2
    repeat' (conv=>whnf);first|(refine VAp.is ?_;refine VAp.own aT (.at_ (.vec aT rfl)) (by simp [Value.oneCell']) (by (try dsimp only);omega) (by simp only [maxLen];omega) fun p1 c1 hp1=>?_)|refine VSeq.go ?_|refine oY fun _=>?_|refine oV fun _=>?_
    all_goals (conv=>whnf)
    refine VNext.mk (L2++[⟨none,0,[]⟩],p1,c1) ⟨?_,fun r hr=>?_,fun k hk=>?_,?_,fun _=>hp1 qZ⟩ ?_ ?_ ?_
    ·dsimp only
     rw [ql,qw,qM,hL2,hmo];rfl
    ·rcases qH.1 hr with h|h
     ·exact hLk2 r h
     ·rw [qt] at h;subst h
      intro h;cases h
    ·have:=hLw2 k hk
     dsimp only
     rw [qw,qM];omega
    ·dsimp only
     rw [qw,qM];omega
    ·dsimp only
     rw [qw,qM];omega
    ·dsimp only
     rw [qw,qM]
     exact aE
    ·dsimp only
     have he:prE N cores ⟨none,0,[]⟩=.vec none 0 0 291 4 []:=rfl
     rw [ql,qw,qM,bQ7,qU,he,qJ]
     refine HLe.trans ?_ (HLe.nilv (e:=291) (size:=4) (.refl _))
     exact aH
 have hie:i=nk:=by omega
 subst hie
 have hkall:ks=(bX0 N).filter sends:=by rw [<-hkse,<-hnk,Qk]
 have hLs:∀(w:Nat) (r:PRow),L[w]? =some r->r.ks=bF8 N C cores sends w:=fun w r hr=>by
  have h1:=congrArg (fun l=>l[w]?) hL
  have hw:=(qx.1 hr).1
  rw [qj,hr,dS4 hw,hkall] at h1
  have h2:=hsnd w
  rw [h2] at h1
  simpa using h1
 have hrest:∀w,L.length<=w->bF8 N C cores sends w=[]:=fun w hw=>by
  have h2:=hsnd w
  rw [<-h2,<-hkall,List.filter_eq_nil_iff]
  intro k hk
  have:=hLw k hk
  simp;omega
 rw [hkall]
 repeat' (conv=>whnf);first|refine VSeq.go ?_|refine oN fun _=>?_
 all_goals (conv=>whnf)
 refine VLoop.mk (α:=Nat×α) (fun z=>z.1<=L.length/\I z.1 z.2) (fun z=>[(1000000,.tuple #[]),(0,.func (.yield l) #[] #[]),(76,.slice lp L.length lc),(77,.int .i64 (L.length:Int)),(78,.int .i64 (z.1:Int))])
  (fun z=>.vec lp L.length lc 280 1 (bQ1 prV L)::(L.map (prE N cores)++G z.2)) (fun z=>L.length - z.1) (0,x0) ⟨qB _,h0⟩ aE ?_ ?_
 ·dsimp only
  refine HLe.trans (HLe.left (.vec lp L.length lc 280 1 (bQ1 prV L)::L.map (prE N cores)) hG) ?_
  exact aH
 rintro ⟨i,y⟩ ⟨hi,hI⟩
 dsimp only at hi hI ⊢
 rcases qy i L.length with hlt|hge
 ·obtain ⟨row,hrow⟩:∃row,L[i]? =some row:=⟨_,qq hlt⟩
  have hrk:=hLs i row hrow
  have hrok:=hLk row (qz hrow)
  obtain ⟨gl,rfl⟩:=hLp qZ
  have hrl:row.ks.length<=bV2 N:=by
   rw [hrk]
   unfold bF8 wvK
   refine Qb (qD _ _) (Qb (qD _ _) ?_)
   simp
  have hsk:=skip i y qZ
  have hst:=fun F=>step F i row.p row.c y qZ
  rw [<-hrk] at hsk hst
  have hpe:Ent.vec row.p row.ks.length row.c 291 4 (bQ1 pkV (hV9 N cores row.ks))∈(Ent.vec (some ⟨gl,0,none⟩) L.length lc 280 1 (bQ1 prV L)::L.map (prE N cores)):=qu _ (qo.2 ⟨row,qz hrow,rfl⟩)
  rcases Nat.eq_zero_or_pos row.ks.length with hz|hz
  ·have hnil:row.ks=[]:=List.length_eq_zero_iff.1 hz
   have hI2:=hsk hnil hI
   repeat' (conv=>whnf);first|refine oI ?_|(refine VLd.is ?_;refine oC (.vec aT (bQ8 (f:=prV) (k:=1) oR hrow rfl)) ?_)|refine VSeq.go ?_|refine oY fun _=>?_|refine oN fun _=>?_|refine oA ?_
   all_goals (conv=>whnf)
   exact VNext.mk (i+1,y) ⟨by dsimp only;omega,hI2⟩ (by dsimp only;omega) aE aH
  ·have hne:row.ks≠[]:=QI.1 hz
   have hst2:=hst (Ent.vec (some ⟨gl,0,none⟩) L.length lc 280 1 (bQ1 prV L)::L.map (prE N cores)) hne (hrok hz) hpe hI
   repeat' (conv=>whnf);first|refine oI ?_|(refine VLd.is ?_;refine oC (.vec aT (bQ8 (f:=prV) (k:=1) oR hrow rfl)) ?_)|(refine VYield.is ?_;refine VYield.hle (VYield.mono (VYield.weak ?_ hst2) fun v H' hr=>?_);(focus (exact aH));obtain ⟨rfl,y2,hy2,hl2⟩:=hr;refine ⟨_,hl2,?_⟩)|refine VSeq.go ?_|refine oY fun _=>?_|refine oA ?_
   all_goals (conv=>whnf)
   exact VNext.mk (i+1,y2) ⟨by dsimp only;omega,hy2⟩ (by dsimp only;omega) aE aH
 have hie:i=L.length:=by omega
 subst hie
 have hK:=fin L.length y hLl hrest hI
 repeat' (conv=>whnf);first|refine VSeq.go ?_|refine oN fun _=>?_
 all_goals (conv=>whnf)
 exact ⟨_,by exact aH,hK⟩
end Go.Proofs
end

section
namespace Go.Proofs
open Go Go.Vx Go.Gm
theorem _root_.Go.Vx.Rd.segR {α:Type}{w0:World}{M:List Nat}{H:HP}{l:List α}{f:α->Ent}{Z:HP->HP}{i:Nat}{x:α}{b off s e:Nat}{xs vs:List Value}(h:AtS H (l.map f) Z)(hx:l[i]? =some x)
  (hf:f x=.row b e xs) (hs:sub xs off s=some vs):Rd w0 M H b off s vs:=by
 obtain ⟨u,r,h1,_,_⟩:=h.one hx
 rw [hf] at h1
 exact .row h1 hs
theorem _root_.Go.Vx.VSt.segR {α:Type}{H:HP}{l:List α}{f:α->Ent}{Z:HP->HP}{i:Nat}{x y:α}{b off e:Nat}{xs xs' vs:List Value}{k:HP->Prop}(h:AtS H (l.map f) Z)(hx:l[i]? =some x)
  (hf:f x=.row b e xs) (hu:upd xs off vs=some xs') (hy:f y=.row b e xs') (h1:bK6 vs=true) (hk:k (Z ((l.set i y).map f))):VSt H b off vs k:=by
 obtain ⟨u,r,hat,hz,_⟩:=h.one hx
 rw [hf] at hat
 rw [<-hz,hy] at hk
 exact .row hat hu h1 hk
theorem hL6 {α:Type}{f:α->Value}{l:List α}{k:Nat}{a:α}(h:l[k]? =some a):sub (l.map f) k 1=some [f a]:=by
 obtain ⟨hlt,rfl⟩:=qx.1 h
 rw [cJ0 _ _ _ (by rw [qv];omega),<-List.map_drop,qG hlt]
 rfl
theorem hS7 {α:Type}{f:α->Value}{l:List α}{k:Nat}(h:k<l.length)(a:α):upd (l.map f) k [f a]=some ((l.set k a).map f):=by
 rw [cL0 _ _ _ (by rw [qv];exact h)]
 congr 1
 rw [List.map_set,List.set_eq_take_append_cons_drop,jw (by rw [qv];exact h)]
 simp
theorem fJ6 {c:CelM}{k:Nat}{a:Int}(h:c.due[k]? =some a):sub (dB7 c) (12+k) 1=some [.int .i64 a]:=by
 rw [Nat.add_comm]
 exact hL6 (f:=fun x=>Value.int .i64 x) h
theorem bB0 {v:Value}{r cs:List Value}{o:Nat}{vs:List Value}(h:upd r o vs=some cs):upd (v::r) (o+1) vs=some (v::cs):=by
 unfold upd
 rw [h]
theorem dK0 {c:CelM}{k:Nat}(h:k<c.due.length)(a:Int):upd (dB7 c) (12+k) [.int .i64 a]=some (dB7 {c with due:=c.due.set k a}):=by
 rw [Nat.add_comm]
 unfold dB7
 have h1:=hS7 (f:=fun x=>Value.int .i64 x) h a
 exact bB0 (bB0 (bB0 (bB0 (bB0 (bB0 (bB0 (bB0 (bB0 (bB0 (bB0 (bB0 h1)))))))))))
theorem fJ5 (c:CelM)(s:Sta):upd (dB7 c) 10 [.int .i64 s.v,.int .i64 s.rest]=some (dB7 {c with s:=s}):=by
 rw [cL0 _ _ _ (by simp [dB7])]
 rfl
theorem gB1 (c:CelM):sub (dB7 c) 10 2=some [.int .i64 c.s.v,.int .i64 c.s.rest]:=by
 rw [cJ0 _ _ _ (by simp [dB7])]
 rfl
theorem kF6 {t:Nat}{cs:List CelM}{s:Syn}{i:Nat}{c:CelM}{a:Int}(hi:s.to.toNat=i)(hc:cs[i]? =some c)(ha:c.due[(t+s.dl.toNat)%16]? =some a):
  cs.set i {c with due:=c.due.set ((t+s.dl.toNat)%16) (wadd a s.wt)}=cG7 t cs s:=by
 subst hi
 unfold cG7
 rw [bP5 _ hc]
 unfold fJ8
 rw [bP5 _ ha]
def bJ3 (N:Net)(C:Chp)(cores:List Int)(x:MacX)(m:Mac):HP:=.row x.b 135 (bV1 N C cores x m.t m.w)::m.cs.map bB6
theorem gD9 {N:Net}{C:Chp}{cores:List Int}(hA:AsgOk N C cores)(sends:Int->Bool){v:Nat}(hv:v<(bX4 N C cores).length)(hne:bF8 N C cores sends v≠[])(tt:List ERow)(htb:tt.map (·.l)=bK9 N C cores)(hen:∀t∈bK9 N C cores,(t.length:Int)<=C.en)(pt:Option Addr)(ct bt ot:Nat)(w:World)(hts:Sl w erV 1 tt pt tt.length bt ot)(htt:∀z∈tt,∃b o,Sl w bY1 3 z.l z.p z.l.length b o)
  (pl:Option Addr) (cl bl ol:Nat) (hpl:Sl w pkV 4 (hV9 N cores (bF8 N C cores sends v)) pl (bF8 N C cores sends v).length bl ol):
  Calls Tryz.prog 147 #[.agg #[.int .i64 C.mesh.wide,.int .i64 C.mesh.high,.int .i64 C.mesh.room],.slice pt (bX1 C) ct,.slice pl (bF8 N C cores sends v).length cl,.int .i64 (stT N C cores:Int)] w fun e w'=>∃z:Option Addr×Nat×Nat,e=.returned (.tuple #[.agg #[.slice z.1 (cF4 N C cores sends (stT N C cores) v).arr.length z.2.1,.slice none 0 0,.slice (some ⟨z.2.2,0,none⟩) (bX1 C) (bX1 C),.int .i64 0],.int .i64 0])/\(0<(cF4 N C cores sends (stT N C cores) v).arr.length->∃g,z.1=some ⟨g,0,none⟩)/\St w [] [.vec z.1 (cF4 N C cores sends (stT N C cores) v).arr.length z.2.1 289 3 (bQ1 arV (cF4 N C cores sends (stT N C cores) v).arr)] w':=by
 have hn:=bX6 hA.plan.chip
 have hfew:=hA.plan.few
 have hinp:=hA.plan.net.inputs
 have hce:=hA.plan.chip.en
 have htl:tt.length=bX1 C:=by
  have:=congrArg List.length htb
  rw [qv] at this
  rw [this];unfold bK9;rw [qv,Qg]
 have hpkE:(gW4 N C cores sends v).pk=hV9 N cores (bF8 N C cores sends v):=rfl
 have hpkl:(hV9 N cores (bF8 N C cores sends v)).length=(bF8 N C cores sends v).length:=qv _
 have hns:bV2 N<=1024:=by unfold bV2;omega
 have hfe:(bF8 N C cores sends v).length<=bV2 N:=by
  unfold bF8 wvK
  refine Qb (qD _ _) (Qb (qD _ _) ?_)
  simp
 have hpos:0<(bF8 N C cores sends v).length:=QI.2 hne
 have hz:∀z∈tt,z.l.length<=1024/\∀e∈z.l,EtyOk e:=fun z hz=>by
  have hm:z.l∈bK9 N C cores:=by rw [<-htb];exact qN (f:=(·.l)) hz
  have h1:=hen _ hm
  refine ⟨by omega,?_⟩
  unfold bK9 at hm
  obtain ⟨r,_,hr⟩:=qo.1 hm
  rw [<-hr]
  exact (fW9 (T:=bQ5 N C cores) (fun k=>tree_ok _ _ _ _) (keys:=bX0 N) (fun k hk=>by have:=(bF0 hk).1;unfold bV2 at*;omega) C.en r).1
 have hsrc:∀u∈(gW4 N C cores sends v).pk,(u.src:Int)<C.mesh.wide*C.mesh.high/\0<=u.key/\u.key<=65535:=fun u hu=>by
  obtain ⟨k,hk,rfl⟩:=qo.1 hu
  have h1:=(bF0 (bC0 hk).1).1
  have h2:=Gm.home_range hA k h1.1
  refine ⟨?_,h1.1,by unfold bV2 at h1;dsimp only;omega⟩
  show ((bJ2 N cores k).toNat:Int)<_
  omega
 have hout:∀p r,0<=(gW4 N C cores sends v).outs p r/\(gW4 N C cores sends v).outs p r<32:=fun p r=>by
  show 0<=(bQ5 N C cores ((bF8 N C cores sends v)[p]?.getD 0))[r]?.getD 0/\(bQ5 N C cores ((bF8 N C cores sends v)[p]?.getD 0))[r]?.getD 0<32
  cases h:(bQ5 N C cores ((bF8 N C cores sends v)[p]?.getD 0))[r]? with
  |none=>rw [Option.getD_none];omega
  |some x=>rw [qY];exact (tree_ok _ _ _ _:bF7 (bQ5 N C cores _)) x (qz h)
 have h:=fL2 (gW4 N C cores sends v) (kB6 hA sends hv) hA.plan.chip.mesh hn.1 tt htb.symm htl pt ct bt ot w hts htt hz (by rw [hpkE,hpkl];omega) (by rw [hpkE,hpkl];exact hpos) pl cl bl ol (by rw [hpkE,hpkl];exact hpl) hsrc hout (stT N C cores) (by unfold stT;omega) (cK5 hA sends hv)
 rw [hpkE,hpkl,htl] at h
 refine h.mono fun e w'' h=>?_
 obtain ⟨z,e1,e2⟩:=h
 exact ⟨z,e1,(bB9 (e2.own _ qg)).2.1,e2⟩
end Go.Proofs
end
