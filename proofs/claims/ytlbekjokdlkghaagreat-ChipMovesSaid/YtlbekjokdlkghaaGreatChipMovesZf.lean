import Derived.Test.YtlbekjokdlkghaaGreatChipMovesImg
set_option linter.unusedVariables false
set_option linter.unusedSimpArgs false
set_option maxHeartbeats 4000000
section
namespace Go.Proofs
open Go Go.Vx Go.Gm
theorem CorF.keep {w0 w:World}{M:List Nat}{H:HP}{N:Net}{C:Chp}{cores:List Int}{bs:List Nat}{r b:Nat}(h:CorF w0 M N C cores bs r b)(hs:St w0 M H w):CorF w M N C cores bs r b:=by
 obtain ⟨h0,pc,cc,mb,g,RM,h1,⟨h2,h3⟩,⟨h4,h5⟩,h6⟩:=h
 refine ⟨h0,pc,cc,mb,g,RM,h1.keep hs h0,⟨h2.keep hs h3,h3⟩,⟨cR2 h4 h5 hs,h5⟩,fun key=>?_⟩
 obtain ⟨p,c,g,a1,a2,a3⟩:=h6 key
 exact ⟨p,c,g,a1,a2.keep hs a3,a3⟩
theorem MacIn.keep {w0 w:World}{M:List Nat}{H:HP}{N:Net}{C:Chp}{cores:List Int}{x:MacX}(h:MacIn w0 M N C cores x)(hs:St w0 M H w):MacIn w M N C cores x:=by
 obtain ⟨h1,⟨h2,h3⟩,⟨g4,h4,h5⟩,⟨g6,h6,h7⟩,h8,⟨g9,h9,h10⟩,h11,h12,KM,⟨h13,h14⟩,h15⟩:=h
 refine ⟨h1,⟨h2.keep hs h3,h3⟩,⟨g4,h4.keep hs h5,h5⟩,⟨g6,h6.keep hs h7,h7⟩,h8,⟨g9,h9.keep hs h10,h10⟩,fun z hz=>?_,h12,KM,⟨cR2 h13 h14 hs,h14⟩,fun r hr=>?_⟩
 ·obtain ⟨g,a1,a2⟩:=h11 z hz
  exact ⟨g,a1.keep hs a2,a2⟩
 ·obtain ⟨b,a1,a2⟩:=h15 r hr
  exact ⟨b,a1,a2.keep hs⟩
theorem hG6 (N:Net)(C:Chp)(cores:List Int)(hA:AsgOk N C cores)(x:MacX)(hn2:x.n2=.int .i64 N.inputs)(m:Mac)(hm:MacGo N C x m)(ht:m.t<10000)(ins:List Int)(hil:ins.length<=65536)(hi:ins.Pairwise (· <·))(hi2:∀k∈ins,0<=k/\k<N.inputs)(pi:Option Addr)(ci bi oi:Nat)(w:World)
  (hs:St w (ids (bJ3 N C cores x m)) (bJ3 N C cores x m) w) (hx:MacIn w (ids (bJ3 N C cores x m)) N C cores x) (hin:Sl w bQ6 1 ins pi ins.length bi oi) (hbi:bi∉ids (bJ3 N C cores x m)):
  Calls Tryz.prog 37 #[.pointer (some ⟨x.b,0,none⟩),.slice pi ins.length ci] w fun e w'=>∃y:Option Addr×Nat,e=.returned (.tuple #[.slice y.1 (bZ0 m).length y.2,.int .i64 0])/\(0<(bZ0 m).length->∃g,y.1=some ⟨g,0,none⟩)/\St w (ids (bJ3 N C cores x m)) (bJ3 N C cores x (bH4 N C cores m ins)++[.vec y.1 (bZ0 m).length y.2 3 1 (bQ1 bQ6 (bZ0 m))]) w':=by
 have hpos:=hA.plan.net.some
 have hinp:=hA.plan.net.inputs
 have hstep:=fun (w1:World) hs1 hx1 hin1=>dF5 N C cores hA x m hm ht ins hil hi (fun k hk=>(hi2 k hk).1) pi ci bi oi w1 hs1 hx1 hin1 hbi
 obtain ⟨cs,hcs⟩:=gX (bV1 N C cores x m.t m.w)
 have h0:sub cs 0 1=some [.int .i64 (m.t:Int)]:=by rw [<-hcs];rfl
 have h2:sub cs 2 1=some [.slice (some ⟨x.cb,0,none⟩) N.ps.length x.cc]:=by rw [<-hcs];rfl
 have h5:sub cs 5 1=some [.int .i64 N.inputs]:=by rw [<-hcs,<-hn2];rfl
 obtain ⟨Mx,hMx⟩:=gX (ids (bJ3 N C cores x m))
 rw [hMx] at hs hbi hx ⊢
 have hown:bJ3 N C cores x m=.row x.b 135 cs::m.cs.map bB6:=by unfold bJ3;rw [hcs]
 have hs0:=hs
 rw [hown] at hs
 refine enter (C:=Tryz.cx) (F:=mH8) (args:=[_,_]) Tryz.func37 rfl rfl rfl ok37 hs ?_
 repeat' (conv=>whnf);first|(refine bQ0 91 ?_;refine VCall.inl (F:=lC1) Tryz.func91 rfl rfl rfl lT0 ?_)|(refine VLd.is ?_;refine oC (.row aT (h0)) ?_)|(refine VLd.is ?_;refine oC (.row aT (h2)) ?_)|refine VSeq.go ?_|refine oY fun _=>?_|refine oN fun _=>?_
 all_goals (conv=>whnf)
 refine VLoop.mk (α:=Nat) (fun j=>j<=ins.length) (fun j=>[(1000000,.tuple #[]),(0,.pointer (some ⟨x.b,0,none⟩)),(1,.slice pi ins.length ci),(4,.slice none 0 0),(5,.int .i64 0),(19,.slice pi ins.length ci),(20,.int .i64 (ins.length:Int)),(21,.int .i64 (j:Int))])
  (fun _=>.row x.b 135 cs::m.cs.map bB6) (fun j=>ins.length - j) 0 (qB _) aE aH ?_
 intro j hj
 rcases qy j ins.length with hlt|hge
 ·obtain ⟨k,hk⟩:=hin.get hlt
  have hk2:=hi2 k (qz hk)
  by_cases hj0:j=0
  ·repeat' (conv=>whnf);first|(refine VLd.is ?_;refine oC (.row aT (h5)) ?_)|(refine VIx.is ?_;refine VIx.mk (hin.ptr qZ) qZ qZ ?_)|(refine VLd.is ?_;refine oC (hin.rd0 (by simp [hbi]) oR hk rfl) ?_)|refine VSeq.go ?_|refine oY fun _=>?_|refine oN fun _=>?_|refine oA ?_
   all_goals (conv=>whnf)
   exact VNext.mk (j+1) qZ qZ aE aH
  ·obtain ⟨k',hk'⟩:∃k',ins[((j:Int) - 1).toNat]? =some k':=⟨_,qq qZ⟩
   have hlt2:k'<k:=by
    obtain ⟨q1,rfl⟩:=qx.1 hk
    obtain ⟨q2,rfl⟩:=qx.1 hk'
    exact List.pairwise_iff_getElem.1 hi _ _ q2 q1 qZ
   repeat' (conv=>whnf);first|(refine VLd.is ?_;refine oC (.row aT (h5)) ?_)|(refine VIx.is ?_;refine VIx.mk (hin.ptr qZ) qZ qZ ?_)|(refine VLd.is ?_;refine oC (hin.rd0 (by simp [hbi]) oR hk' rfl) ?_)|(refine VLd.is ?_;refine oC (hin.rd0 (by simp [hbi]) oR hk rfl) ?_)|refine VSeq.go ?_|refine oY fun _=>?_|refine oN fun _=>?_|refine oA ?_
   all_goals (conv=>whnf)
   exact VNext.mk (j+1) qZ qZ aE aH
 ·repeat' (conv=>whnf);first|refine VSeq.go ?_|refine oN fun _=>?_|refine oL ?_|refine oT ?_
  all_goals (conv=>whnf)
  refine cZ9 (α:=Option Addr×Nat) (S:=bJ3 N C cores x m) (fun y=>.slice y.1 (bZ0 m).length y.2) (fun y=>0<(bZ0 m).length->∃g,y.1=some ⟨g,0,none⟩) (fun y=>bJ3 N C cores x (bH4 N C cores m ins)) (fun y=>[.vec y.1 (bZ0 m).length y.2 3 1 (bQ1 bQ6 (bZ0 m))]) (by rw [hown];exact AtS.last) (fun w1 hw1 hs1=>?_) (fun y hy=>?_)
  ·rw [<-hcs] at hw1
   have hw2:St w Mx (bJ3 N C cores x m) w1:=hw1
   subst hMx
   exact hstep w1 hs1 (hx.keep hw2) (hin.keep hw2 hbi)
  ·repeat' (conv=>whnf);first|refine VSeq.go ?_|refine oN fun _=>?_|refine oL ?_|refine oT ?_
   all_goals (conv=>whnf)
   exact ⟨fun w' hw'=>⟨y,rfl,hy,hw'.le aH⟩⟩
structure MacRd (w:World) (N:Net) (C:Chp) (cores:List Int) (x:MacX) (m:Mac):Prop where
 row:Cells w x.b 0 (bV1 N C cores x m.t m.w)
 ptr:Sl w cpV 1 x.bs (some ⟨x.cb,0,none⟩) N.ps.length x.cb 0
 cel:∀c∈m.cs,Cells w c.b 0 (dB7 c)
theorem hM4 {cs:List CelM}{j k:Nat}{c:CelM}{a:Int}(h:cs[k]? =some c)(ha:c.due[j]? =some a):cF9 (cs.take (k+1)) j=cF9 (cs.take k) j++[a]:=by
 unfold cF9
 rw [qi,h,qW,ql,qU,ha];rfl
theorem gC1 (N:Net)(C:Chp)(cores:List Int)(hA:AsgOk N C cores)(x:MacX)(m:Mac)(hm:MacGo N C x m)(w:World)(hr:MacRd w N C cores x m):
  Calls Tryz.prog 33 #[.pointer (some ⟨x.b,0,none⟩)] w fun e w'=>∃y:ImgM,e=.returned (.tuple #[kP6 y,.int .i64 0])/\
   (y.tick=m.t/\y.sts=(smC m.cs).sts/\y.D.map (·.l)=rot m.t (smC m.cs).D)/\St w [] (gX0 y) w':=by
 have hpos:=hA.plan.net.some
 have hnf:=hA.plan.net.few
 have hlen:=hm.ok.len
 have hbs:=hm.bs
 have hdue:=hm.ok.due
 have htk:=hm.tick
 obtain ⟨hc,hptr,hcel⟩:=hr
 have hcol:=fun (j:Nat) (hj:j<16)=>fR0 m.cs hj
 have hDl:(smC m.cs).D.length=16:=by unfold smC;simp
 have hst0:(smC m.cs).sts=m.cs.map (·.s):=rfl
 rw [hst0]
 obtain ⟨DD,hDD⟩:=gX ((smC m.cs).D)
 rw [hDD] at hcol hDl ⊢
 obtain ⟨t,cs,wk⟩:=m
 dsimp only at hlen hbs hdue htk hc hcel hcol ⊢
 have hR:(rot t DD).length=16:=cT9 _ _
 obtain ⟨mc,hmc⟩:=gX (bV1 N C cores x t wk)
 rw [hmc] at hc
 have h0:sub mc 0 1=some [.int .i64 (t:Int)]:=by rw [<-hmc];rfl
 have h2:sub mc 2 1=some [.slice (some ⟨x.cb,0,none⟩) N.ps.length x.cc]:=by rw [<-hmc];rfl
 have hbk:∀(k:Nat) (c:CelM),cs[k]? =some c->x.bs[k]? =some c.b:=fun k c h=>by rw [<-hbs,qj,h];rfl
 refine enter (C:=Tryz.cx) (F:=mB2) (args:=[_]) Tryz.func33 rfl rfl rfl ok33 (St.start w []) ?_
 repeat' (conv=>whnf);first|(refine bQ0 91 ?_;refine VCall.inl (F:=lC1) Tryz.func91 rfl rfl rfl lT0 ?_)|(refine VLd.is ?_;refine oC (.old (hc.part h0) rfl oU) ?_)|(refine VLd.is ?_;refine oC (.old (hc.part h2) rfl oU) ?_)|(refine VNew.mk fun b4=>?_)|refine VSeq.go ?_|refine oY fun _=>?_|refine oT ?_
 all_goals (conv=>whnf)
 rename_i b2 _
 refine VLoop.mk (α:=Nat×Option Addr×Nat) (fun z=>z.1<=N.ps.length) (fun z=>[(1000000,.tuple #[]),(0,.pointer (some ⟨x.b,0,none⟩)),(2,.pointer (some ⟨b2,0,none⟩)),(3,.int .i64 0),(4,.pointer (some ⟨b4,0,none⟩)),(25,.slice (some ⟨x.cb,0,none⟩) N.ps.length x.cc),(26,.int .i64 (N.ps.length:Int)),(27,.int .i64 (z.1:Int))])
  (fun z=>.row b2 94 [.int .i64 0,.slice none 0 0,.slice none 0 0]::.row b4 94 [.int .i64 (t:Int),.slice z.2.1 z.1 z.2.2,.slice none 0 0]::.vec z.2.1 z.1 z.2.2 126 2 (bQ1 cJ6 ((cs.take z.1).map (·.s)))::[]) (fun z=>N.ps.length - z.1) (0,none,0) (qB _) aE ?_ ?_
 ·dsimp only
  rw [QU,QA]
  refine HLe.trans ?_ (HLe.nilv (e:=126) (size:=2) (.refl _))
  exact aH
 rintro ⟨k,p1,c1⟩ hk
 dsimp only at hk ⊢
 rcases qy k N.ps.length with hlt|hge
 ·obtain ⟨c,hck⟩:∃c,cs[k]? =some c:=⟨_,qq qZ⟩
  have hbc:=hbk k c hck
  have hcc:=hcel c (qz hck)
  have htake:(cs.take (k+1)).map (·.s)=(cs.take k).map (·.s)++[c.s]:=by rw [qi,hck,qW,ql];rfl
  repeat' (conv=>whnf);first|(refine VIx.is ?_;refine VIx.mk (hptr.ptr qZ) qZ qZ ?_)|(refine VLd.is ?_;refine oC (hptr.rd0 (by simp) (fun _=>rfl) hbc rfl) ?_)|(refine VLd.is ?_;refine oC (.old (hcc.part (gB1 c)) rfl (by simp)) ?_)|(refine VNew.mk fun bn=>?_)|(refine VAp.is ?_;refine VAp.own (p:=p1) aT (.at_ (.vec aT rfl)) (by simp [Value.oneCell']) (by (try dsimp only);omega) (by simp only [maxLen];omega) fun p' cap' hp'=>?_)|refine VSeq.go ?_|refine oY fun _=>?_|refine oL ?_|refine oT ?_|refine oA ?_|refine oK ?_|refine oH ?_
  all_goals (conv=>whnf)
  refine VNext.mk (k+1,p',cap') (by dsimp only;omega) (by dsimp only;omega) aE ?_
  dsimp only
  rw [htake,bQ7]
  exact aH
 have hkn:k=N.ps.length:=by omega
 subst hkn
 rw [qe qZ]
 repeat' (conv=>whnf);first|refine VSeq.go ?_|refine oN fun _=>?_
 all_goals (conv=>whnf)
 refine VLoop.mk (α:=List DRow×Option Addr×Nat) (fun y=>y.1.length<=16/\y.1.map (·.l)=(rot t DD).take y.1.length) (fun y=>[(1000000,.tuple #[]),(0,.pointer (some ⟨x.b,0,none⟩)),(2,.pointer (some ⟨b2,0,none⟩)),(3,.int .i64 0),(4,.pointer (some ⟨b4,0,none⟩)),(41,.int .i64 (y.1.length:Int))])
  (fun y=>.row b2 94 [.int .i64 0,.slice none 0 0,.slice none 0 0]::.row b4 94 [.int .i64 (t:Int),.slice p1 N.ps.length c1,.slice y.2.1 y.1.length y.2.2]::.vec p1 N.ps.length c1 126 2 (bQ1 cJ6 (cs.map (·.s)))::.vec y.2.1 y.1.length y.2.2 28 1 (bQ1 bL8 y.1)::y.1.map bY9) (fun y=>16 - y.1.length) ([],none,0) ⟨by simp,by simp⟩ aE ?_ ?_
 ·dsimp only
  refine HLe.trans ?_ (HLe.nilv (e:=28) (size:=1) (.refl _))
  exact aH
 rintro ⟨D,p2,c2⟩ ⟨hD,hDl'⟩
 dsimp only at hD hDl' ⊢
 rcases qy D.length 16 with hlt|hge
 ·have hcd:=hcol ((t+D.length)%16) qZ
  have htk2:=gW8 t DD (i:=D.length) hlt hcd
  obtain ⟨j,hj⟩:=gX ((t+D.length)%16)
  rw [hj] at hcd htk2
  have hj16:j<16:=by omega
  repeat' (conv=>whnf);first|(refine VLd.is ?_;refine oC (.old (hc.part h2) rfl oU) ?_)|refine VSeq.go ?_|refine oY fun _=>?_
  all_goals (conv=>whnf)
  refine VLoop.mk (α:=Nat×Option Addr×Nat) (fun z=>z.1<=N.ps.length/\(0<z.1->∃g,z.2.1=some ⟨g,0,none⟩)) (fun z=>[(1000000,.tuple #[]),(0,.pointer (some ⟨x.b,0,none⟩)),(2,.pointer (some ⟨b2,0,none⟩)),(3,.int .i64 0),(4,.pointer (some ⟨b4,0,none⟩)),(7,.int .i64 (D.length:Int)),(8,.slice z.2.1 z.1 z.2.2),(41,.int .i64 (D.length:Int)),(48,.slice (some ⟨x.cb,0,none⟩) N.ps.length x.cc),(49,.int .i64 (N.ps.length:Int)),(50,.int .i64 (z.1:Int))])
   (fun z=>.vec z.2.1 z.1 z.2.2 3 1 (bQ1 bQ6 (cF9 (cs.take z.1) j))::.row b2 94 [.int .i64 0,.slice none 0 0,.slice none 0 0]::.row b4 94 [.int .i64 (t:Int),.slice p1 N.ps.length c1,.slice p2 D.length c2]::.vec p1 N.ps.length c1 126 2 (bQ1 cJ6 (cs.map (·.s)))::.vec p2 D.length c2 28 1 (bQ1 bL8 D)::D.map bY9) (fun z=>N.ps.length - z.1) (0,none,0) ⟨qB _,fun h=>absurd h oU⟩ aE ?_ ?_
  ·dsimp only
   refine HLe.trans ?_ (HLe.nilv (e:=3) (size:=1) (.refl _))
   exact aH
  rintro ⟨k,q,qc⟩ ⟨hk1,hq⟩
  dsimp only at hk1 hq ⊢
  rcases qy k N.ps.length with hlk|hgk
  ·obtain ⟨c,hck⟩:∃c,cs[k]? =some c:=⟨_,qq qZ⟩
   have hbc:=hbk k c hck
   have hcc:=hcel c (qz hck)
   have h16:=hdue c (qz hck)
   obtain ⟨a,ha⟩:∃a,c.due[j]? =some a:=⟨_,qq qZ⟩
   have htake:=hM4 hck ha
   have hca:=fJ6 ha
   have hjj:((t:Int)+(D.length:Int))%16=(j:Int):=by omega
   repeat' (conv=>whnf);first|(refine VIx.is ?_;refine VIx.mk (hptr.ptr qZ) qZ qZ ?_)|(refine VLd.is ?_;refine oC (hptr.rd0 (by simp) (fun _=>rfl) hbc rfl) ?_)|(refine VLd.is ?_;refine oC (.old (hc.part h0) rfl (by simp)) ?_)|(refine VLd.is ?_;refine oC (.old (hcc.part hca) rfl (by simp)) ?_)|refine oI ?_|(refine VNew.mk fun bn=>?_)|(refine VAp.is ?_;refine VAp.own (p:=q) aT (.at_ (.vec aT rfl)) (by simp [Value.oneCell']) (by (try dsimp only);omega) (by simp only [maxLen];omega) fun p' cap' hp'=>?_)|refine VSeq.go ?_|refine oY fun _=>?_|refine oA ?_|refine oH ?_|refine oM ?_
   all_goals (conv=>whnf)
   refine VNext.mk (k+1,p',cap') ⟨by dsimp only;omega,fun _=>hp' qZ⟩ (by dsimp only;omega) aE ?_
   dsimp only
   rw [htake,bQ7]
   exact aH
  have hkn:k=N.ps.length:=by omega
  subst hkn
  obtain ⟨g2,rfl⟩:=hq hpos
  rw [qe qZ]
  have hcl:(cF9 cs j).length=N.ps.length:=by unfold cF9;rw [qv,hlen]
  repeat' (conv=>whnf);first|(refine VNew.mk fun bn=>?_)|(refine VAp.is ?_;refine VAp.own (p:=p2) aT (.at_ (.vec aT rfl)) (by simp [Value.oneCell']) (by (try dsimp only);omega) (by simp only [maxLen];omega) fun p' cap' hp'=>?_)|refine VSeq.go ?_|refine oN fun _=>?_|refine oL ?_|refine oT ?_|refine oA ?_
  all_goals (conv=>whnf)
  refine VNext.mk (D++[⟨g2,qc,cF9 cs j⟩],p',cap') ⟨by simp;omega,?_⟩ (by simp;omega) ?_ ?_
  ·dsimp only
   rw [ql,qw,hDl',qR,List.length_nil,htk2]
   rfl
  ·dsimp only
   simp only [qw,qR,List.length_nil]
   exact aE
  ·dsimp only
   have e2:(D++[(⟨g2,qc,cF9 cs j⟩:DRow)]).map bY9=D.map bY9++[.vec (some ⟨g2,0,none⟩) (cF9 cs j).length qc 3 1 (bQ1 bQ6 (cF9 cs j))]:=by simp [bY9]
   have e3:bQ1 bL8 (D++[(⟨g2,qc,cF9 cs j⟩:DRow)])=bQ1 bL8 D++[.slice (some ⟨g2,0,none⟩) (cF9 cs j).length qc]:=by simp [bQ1,bL8,bJ9]
   rw [e2,e3,qw,qR,List.length_nil,hcl]
   refine HLe.cons aT (HLe.cons aT (HLe.cons aT (HLe.cons aT ?_)))
   refine HLe.permL (A:=.vec (some ⟨g2,0,none⟩) N.ps.length qc 3 1 (bQ1 bQ6 (cF9 cs j))::D.map bY9) ?_ oU
   exact aH
 ·repeat' (conv=>whnf);first|refine VSeq.go ?_|refine oN fun _=>?_|refine oL ?_|refine oT ?_
  all_goals (conv=>whnf)
  have h16:D.length=16:=by omega
  have hcsl:(cs.map (·.s)).length=N.ps.length:=by rw [qv,hlen]
  refine ⟨fun w' hw'=>⟨⟨t,p1,c1,cs.map (·.s),p2,c2,D⟩,?_,⟨rfl,rfl,?_⟩,hw'.le ?_⟩⟩
  ·unfold kP6
   dsimp only
   rw [hcsl];rfl
  ·dsimp only
   rw [hDl',h16,qe qZ]
  ·unfold gX0
   dsimp only
   rw [hcsl]
   exact aH
end Go.Proofs
end

section
namespace Go.Proofs
open Go Go.Vx Go.Gm
theorem _root_.Go.Vx.cQ0 (y:Value){P:Program}{w0:World}{M:List Nat}{H:HP}{f:Nat}{x:Value}{zs:List Value}{K:Value->HP->Prop}(hh:VCall P w0 M H f (x::y::zs) K):VCall P w0 M H f (x::y::zs) K:=hh
theorem _root_.Go.Vx.cF0 (z:Value){P:Program}{w0:World}{M:List Nat}{H:HP}{f:Nat}{x y:Value}{zs:List Value}{K:Value->HP->Prop}(hh:VCall P w0 M H f (x::y::z::zs) K):VCall P w0 M H f (x::y::z::zs) K:=hh
structure MacUp (N:Net) (C:Chp) (x:MacX) (l:List Evt) (t:Nat) (m:Mac):Prop where
 go:MacGo N C x m
 tick:m.t=t
 sm:smC m.cs=fG1 (cP8 N C) l t
theorem MacUp.of {N:Net}{C:Chp}{cores:List Int}{x:MacX}{l:List Evt}{t:Nat}{m:Mac}(h:MacAt N C cores x l t m):MacUp N C x l t m:=⟨h.go,h.tick,by rw [h.sm,fR8]⟩
theorem MacUp.spk {N:Net}{C:Chp}{x:MacX}{l:List Evt}{t:Nat}{m:Mac}(h:MacUp N C x l t m):bZ0 m=cM3 (cP8 N C) l t:=by
 rw [fB1 (C:=C) h.go.ok,h.tick,h.sm];rfl
theorem MacUp.step {N:Net}{C:Chp}{cores:List Int}{x:MacX}{l:List Evt}{t:Nat}{m:Mac}(hA:AsgOk N C cores)(h:MacUp N C x l t m)(ht:t<10000){inputs limit:Int}(hl:EvOk inputs limit l):MacUp N C x l (t+1) (bH4 N C cores m (bV0 l (t:Int))):=by
 obtain ⟨h1,h2,_⟩:=hl.ins (t:Int)
 have h3:∀k∈bV0 l (t:Int),0<=k:=fun k hk=>(h2 k hk).1
 refine ⟨h.go.step hA (by rw [h.tick];exact ht) h1 h3,by show m.t+1=t+1;rw [h.tick],?_⟩
 rw [gG5 hA h.go.ok h1 h3,h.tick,h.sm];rfl
theorem fH1 {w0:World}{M:List Nat}{H R:HP}{K:Value->HP->Prop}{N:Net}{C:Chp}{cores:List Int}{l:List Evt}{t:Nat}{limit:Int}(hA:AsgOk N C cores)(htabs:∀t∈bK9 N C cores,(t.length:Int)<=C.en){z:NewZ}(hz:NewIs N C cores z)(m:Mac)(h:MacUp N C (bC3 N C cores z) l t m)(ht:t<10000)(hev:EvOk N.inputs limit l)(sp:List Int)(hsp:cM3 (cP8 N C) l t=sp)(ins:List Int)(hins:bV0 l (t:Int)=ins)(p:Option Addr)(n c:Nat)(hn:n=ins.length)
  (htk:Take H (.row z.bm 135 (bV1 N C cores (bC3 N C cores z) t m.w)::m.cs.map bB6) R) (hle:HLe (.row z.bm 135 (bV1 N C cores (bC3 N C cores z) t m.w)::(m.cs.map bB6++cM7 N C cores z)) H) (hin:∀w,St w0 M H w->∃bi oi,Sl w bQ6 1 ins p ins.length bi oi/\bi∉ids (.row z.bm 135 (bV1 N C cores (bC3 N C cores z) t m.w)::m.cs.map bB6))
  (hk:∀m2,MacUp N C (bC3 N C cores z) l (t+1) m2->∀q cap,(0<sp.length->∃g,q=some ⟨g,0,none⟩)->K (.tuple #[.slice q sp.length cap,.int .i64 0]) (.row z.bm 135 (bV1 N C cores (bC3 N C cores z) (t+1) m2.w)::(m2.cs.map bB6++(.vec q sp.length cap 3 1 (bQ1 bQ6 sp)::R)))):
  VCall Tryz.cx.P w0 M H 37 [.pointer (some ⟨z.bm,0,none⟩),.slice p n c] K:=by
 obtain ⟨a1,a2,a3⟩:=hev.ins (t:Int)
 rw [hins] at a1 a2 a3
 have hspk:=h.spk
 rw [hsp] at hspk
 have hnx:=h.step hA ht hev
 rw [hins] at hnx
 have hmt:=h.tick
 have hown:bJ3 N C cores (bC3 N C cores z) m=.row z.bm 135 (bV1 N C cores (bC3 N C cores z) t m.w)::m.cs.map bB6:=by unfold bJ3;rw [hmt];rfl
 have hown2:bJ3 N C cores (bC3 N C cores z) (bH4 N C cores m ins)=.row z.bm 135 (bV1 N C cores (bC3 N C cores z) (t+1) (bH4 N C cores m ins).w)::(bH4 N C cores m ins).cs.map bB6:=by unfold bJ3;rw [hnx.tick];rfl
 subst hn
 refine cP6 (α:=Option Addr×Nat) (S:=.row z.bm 135 (bV1 N C cores (bC3 N C cores z) t m.w)::m.cs.map bB6) (fun y=>.tuple #[.slice y.1 sp.length y.2,.int .i64 0]) (fun y=>0<sp.length->∃g,y.1=some ⟨g,0,none⟩) (fun y=>bJ3 N C cores (bC3 N C cores z) (bH4 N C cores m ins)++[.vec y.1 sp.length y.2 3 1 (bQ1 bQ6 sp)]) htk (fun w hw hs=>?_) (fun y hy=>?_)
 ·obtain ⟨bi,oi,g1,g2⟩:=hin w hw
  have hx:=kP0 hA htabs hz (S:=.row z.bm 135 (bV1 N C cores (bC3 N C cores z) t m.w)::m.cs.map bB6) (hw.le hle)
  rw [<-hown] at hs g2 hx ⊢
  have hst:=hG6 N C cores hA (bC3 N C cores z) rfl m h.go (by rw [hmt];exact ht) ins a3 a1 a2 p c bi oi w hs hx g1 g2
  rw [hspk] at hst
  exact hst
 ·rw [qJ,hown2]
  exact hk _ hnx y.1 y.2 hy
theorem MacRd.of {w0 w:World}{M:List Nat}{H:HP}{N:Net}{C:Chp}{cores:List Int}{l:List Evt}{t:Nat}{z:NewZ}(hz:NewIs N C cores z){m:Mac}(hm:MacUp N C (bC3 N C cores z) l t m)(hs:St w0 M H w)(hle:HLe (.row z.bm 135 (bV1 N C cores (bC3 N C cores z) t m.w)::(m.cs.map bB6++cM7 N C cores z)) H):MacRd w N C cores (bC3 N C cores z) m:=by
 have h:=hs.le hle
 have m2:Ent.vec (some ⟨z.cb,0,none⟩) N.ps.length z.cc 212 1 (bQ1 cpV (z.cs.map (·.b)))∈cM7 N C cores z:=by unfold cM7;exact qu _ qg
 refine ⟨?_,bZ1 h (qu _ (QT _ m2)) oR (by show (z.cs.map (·.b)).length=N.ps.length;rw [qv,hz.cl]),fun c hc=>?_⟩
 ·rw [hm.tick]
  exact Cells.own h qg
 ·exact Cells.own h (qu _ (QW _ (qN (f:=bB6) hc)))
end Go.Proofs
end

section
namespace Go.Gm
open Go.Proofs
theorem cB5 {α:Type}{f:α->α}{l:List α}{i:Nat}{a:α}(h:a∈l.modify i f):a∈l\/∃b∈l,a=f b:=by
 obtain ⟨j,hj⟩:=jh h
 rw [qS] at hj
 cases hl:l[j]? with
 |none=>rw [hl] at hj;simp at hj
 |some b=>
  rw [hl] at hj
  have hb:=qz hl
  simp only [Option.map_eq_map,qV,qK] at hj
  by_cases hij:i=j
  ·rw [jw hij] at hj
   exact .inr ⟨b,hb,hj.symm⟩
  ·rw [jk hij] at hj
   exact .inl (hj▸hb)
def DueK (K:Int)(D:List (List Int)):Prop:=∀l∈D,∀v∈l, -K<=v/\v<=K
theorem DueK.add {K:Int}{t:Nat}{D:List (List Int)}{s:Syn}(h:DueK K D)(hs: -32768<=s.wt/\s.wt<=32768)(hK:0<=K/\K<=4611686018427387904):DueK (K+32768) (fJ1 t D s):=by
 intro l hl v hv
 rcases cB5 hl with h1|⟨m,h1,rfl⟩
 ·have:=h l h1 v hv
  omega
 ·rcases cB5 hv with h2|⟨a,h2,rfl⟩
  ·have:=h m h1 v h2
   omega
  ·have:=h m h1 a h2
   unfold wadd
   omega
theorem DueK.adds {t:Nat}:∀(L:List Syn) {K:Int} {D:List (List Int)},DueK K D->(∀s∈L, -32768<=s.wt/\s.wt<=32768)->0<=K->K+32768*(L.length:Int)<=4611686018427387904->DueK (K+32768*(L.length:Int)) (L.foldl (fJ1 t) D)
 |[],K,D,h,_,_,_=>by
  intro l hl v hv
  have:=h l hl v hv
  simp only [List.length_nil];omega
 |s::L,K,D,h,h1,h2,h3=>by
  have hl:((s::L).length:Int)=(L.length:Int)+1:=by simp
  rw [hl] at h3 ⊢
  have h4:=DueK.adds (t:=t) L (h.add (t:=t) (h1 s qg) ⟨h2,by omega⟩) (fun x hx=>h1 x (qu _ hx)) qZ qZ
  intro l hl v hv
  have:=h4 l hl v hv
  omega
theorem hK8 {M:Net}(hM:NetOk M){l:List Evt}{limit:Int}(hev:EvOk M.inputs limit l):∀t:Nat,t<=10000->DueK (32768*(M.syns.length:Int)*(t:Int)) (fG1 M l t).D
 |0,_=>by
  intro r hr v hv
  have h1:=QM hr
  subst h1
  have:=QM hv
  subst this
  simp
 |t+1,ht=>by
  have ih:=hK8 hM hev t qZ
  obtain ⟨h1,h2,_⟩:=hev.ins (t:Int)
  have hS:=hM.fewS
  have hq:0<=32768*(M.syns.length:Int)*(t:Int):=by
   have:=Int.mul_nonneg (Int.natCast_nonneg M.syns.length) (Int.natCast_nonneg t)
   rw [Int.mul_assoc];omega
  have hn:(cM3 M l t++(bV0 l (t:Int)).map fun k=> -1 - k).Nodup:=by
   rw [Qe]
   refine ⟨cS5 (hK9 M l t),List.Pairwise.map _ (fun a b h e=>?_) h1,?_⟩
   ·omega
   ·rintro a ha b hb rfl
    obtain ⟨k,hk,he⟩:=qo.1 hb
    have:=(fG0 M l t).2 _ ha
    have:=h2 _ hk
    omega
  have hp:=cH1 M.syns hn
  have hl:(bK5 (cJ7 M.syns) (cM3 M l t++(bV0 l (t:Int)).map fun k=> -1 - k)).length<=M.syns.length:=dM8 M.syns hn
  have hb:((32768*(M.syns.length:Int))*(t:Int))<=(32768*8192)*10000:=by
   have a1:(M.syns.length:Int)*(t:Int)<=8192*10000:=by
    have:=Nat.mul_le_mul hS (by omega:t<=10000)
    omega
   rw [Int.mul_assoc]
   omega
  have hd:DueK (32768*(M.syns.length:Int)*(t:Int)) ((fG1 M l t).D.modify (t%16) fun l=>List.replicate l.length 0):=by
   intro r hr v hv
   rcases cB5 hr with h3|⟨m,h3,rfl⟩
   ·exact ih r h3 v hv
   ·have:=QM hv
    subst this
    omega
  have h5:=hd.adds (t:=t) (bK5 (cJ7 M.syns) (cM3 M l t++(bV0 l (t:Int)).map fun k=> -1 - k)) (fun s hs=>(hM.syns s (qP.1 (hp.mem_iff.1 hs)).1).2.2.1) hq qZ
  intro r hr v hv
  have h6:=h5 r hr v hv
  rw [show ((t+1:Nat):Int)=(t:Int)+1 by omega,Int.mul_add,Int.mul_one]
  omega
theorem lJ8 {M:Net}(hM:NetOk M){l:List Evt}{limit:Int}(hev:EvOk M.inputs limit l)(hS:M.syns.length<=70){t:Nat}(ht:t<=80):∀r∈(fG1 M l t).D,∀v∈r, -268435456<=v/\v<=268435456:=by
 intro r hr v hv
 have h:=hK8 hM hev t qZ r hr v hv
 have h2:=Nat.mul_le_mul hS ht
 have h3:(M.syns.length:Int)*(t:Int)<=70*80:=by omega
 rw [Int.mul_assoc] at h
 omega
end Go.Gm
end
