import Derived.Test.YtlbekjokdlkghaaGreatChipMovesZf
import Derived.Test.YtlbekjokdlkghaaGreatChipMovesRs
import Derived.Test.YtlbekjokdlkghaaGreatChipMovesImg
set_option linter.unusedVariables false
set_option linter.unusedSimpArgs false
set_option maxHeartbeats 4000000
section
namespace Go.Gm
open Go.Proofs
def dH1 (t:Nat)(new:List Int):Nat->List Int->List Int
 |0,l=>l
 |d+1,l=>(dH1 t new d l).set ((t+d)%16) (new[(t+d)%16]?.getD 0)
theorem cN4 (t:Nat)(new:List Int):∀(d:Nat) (l:List Int),(dH1 t new d l).length=l.length
 |0,_=>rfl
 |d+1,l=>by rw [dH1,QH,cN4 t new d l]
theorem fB4 (t:Nat)(new:List Int)(hn:new.length=16):∀(d:Nat) (l:List Int),l.length=16->∀e,e<d->(dH1 t new d l)[(t+e)%16]? =new[(t+e)%16]?
 |0,_,_,e,h=>absurd h qZ
 |d+1,l,hl,e,h=>by
  rw [dH1,qO,cN4,hl]
  by_cases h1:(t+d)%16=(t+e)%16
  ·rw [jw h1,jw qZ,h1,qq qZ];rfl
  ·rw [jk h1]
   refine fB4 t new hn d l hl e ?_
   rcases qy e d with g|g
   ·exact g
   ·exact absurd (by rw [show e=d by omega]) h1
theorem hF9 (t:Nat){new l:List Int}(hn:new.length=16)(hl:l.length=16):dH1 t new 16 l=new:=by
 apply qp
 intro j
 rcases qy j 16 with hj|hj
 ·have:=fB4 t new hn 16 l hl ((j+16 - t%16)%16) qZ
  rw [show (t+(j+16 - t%16)%16)%16=j by omega] at this
  exact this
 ·rw [qf (by rw [cN4];omega),qf qZ]
def fD3 (D:List (List Int))(i:Nat):List Int:=D.map fun r=>r[i]?.getD 0
def ldC (sts:List Sta)(D:List (List Int))(c:CelM):CelM:={c with s:=sts[c.id.toNat]?.getD ⟨0,0⟩,due:=fD3 D c.id.toNat}
def bS1 (m:Mac)(t:Nat)(S:Sm):Mac:=⟨t,m.cs.map (ldC S.sts S.D),m.w⟩
theorem kQ1 {cs:List CelM}(hi:∀(i:Nat) (c:CelM),cs[i]? =some c->c.id=(i:Int)){sts:List Sta}{D:List (List Int)}(h1:sts.length=cs.length)(h2:D.length=16)(h3:∀r∈D,r.length=cs.length):smC (cs.map (ldC sts D))=⟨sts,D⟩:=by
 have e1:(cs.map (ldC sts D)).map (·.s)=sts:=by
  apply qp
  intro i
  rw [qj,qj]
  cases hc:cs[i]? with
  |none=>rw [qf (by rw [h1];exact jz.1 hc)];rfl
  |some c=>
   have hl:=(qx.1 hc).1
   simp only [qV,ldC]
   rw [hi i c hc,jf,qq qZ];rfl
 have e2:(List.range 16).map (cF9 (cs.map (ldC sts D)))=D:=by
  apply qp
  intro j
  rcases qy j 16 with hj|hj
  ·rw [qj,qX hj,qV,qq qZ]
   congr 1
   have hr:=h3 _ (Qu (by omega:j<D.length))
   apply qp
   intro i
   unfold cF9
   rw [qj,qj]
   cases hc:cs[i]? with
   |none=>rw [qf (by rw [hr];exact jz.1 hc)];rfl
   |some c=>
    have hl:=(qx.1 hc).1
    simp only [qV,ldC,fD3]
    rw [hi i c hc,jf,qj,qq (by omega:j<D.length),qV,qY,qq (by omega:i<(D[j]).length),qY]
  ·rw [qf (by simpa using hj),qf qZ]
 unfold smC
 rw [e1,e2]
theorem fT9 {N:Net}{m:Mac}(h:MacOk N m):(smC m.cs).sts.length=N.ps.length/\(smC m.cs).D.length=16/\∀r∈(smC m.cs).D,r.length=N.ps.length:=by
 have hl:=h.len
 refine ⟨by show (m.cs.map _).length=_;rw [qv,hl],by simp [smC],fun r hr=>?_⟩
 obtain ⟨j,_,rfl⟩:=qo.1 hr
 show (m.cs.map _).length=_
 rw [qv,hl]
theorem hJ0 {N:Net}{m:Mac}(h:MacOk N m)(hs:∀c∈m.cs,bD9 c.p c.s):StaAll N (smC m.cs).sts:=by
 intro i p s h1 h2
 rw [<-h.ps,qj] at h1
 have h2':(m.cs.map (·.s))[i]? =some s:=h2
 rw [qj] at h2'
 cases hc:m.cs[i]? with
 |none=>rw [hc] at h1;cases h1
 |some c=>
  rw [hc] at h1 h2'
  cases h1
  cases h2'
  exact hs c (qz hc)
theorem mJ1 {N:Net}{C:Chp}{x:MacX}{m:Mac}(h:MacGo N C x m){t:Nat}(ht:m.t<=t)(ht2:t<=10000){S:Sm}(h1:S.sts.length=N.ps.length)(h2:S.D.length=16)(h4:StaAll N S.sts):MacGo N C x (bS1 m t S):=by
 have hl:=h.ok.len
 have hmm:(m.cs.map (ldC S.sts S.D)).map (·.p)=m.cs.map (·.p):=by rw [List.map_map];rfl
 refine ⟨⟨hmm.trans h.ok.ps,fun c hc=>?_,fun i c hc=>?_⟩,?_,?_,fun c hc=>?_,ht2,?_⟩
 ·obtain ⟨d,_,rfl⟩:=qo.1 hc
  show (fD3 S.D _).length=16
  unfold fD3
  rw [qv,h2]
 ·have hc':(m.cs.map (ldC S.sts S.D))[i]? =some c:=hc
  rw [qj] at hc'
  cases hd:m.cs[i]? with
  |none=>rw [hd] at hc';cases hc'
  |some d=>
   rw [hd] at hc'
   cases hc'
   exact h.ok.ids i d hd
 ·rw [<-h.bs];show (m.cs.map _).map _=_;rw [List.map_map];rfl
 ·rw [<-h.zs];show (m.cs.map _).map _=_;rw [List.map_map];rfl
 ·have hc':c∈m.cs.map (ldC S.sts S.D):=hc
  obtain ⟨i,hi⟩:=jh hc'
  rw [qj] at hi
  cases hd:m.cs[i]? with
  |none=>rw [hd] at hi;cases hi
  |some d=>
   rw [hd] at hi
   cases hi
   have hlt:=(qx.1 hd).1
   show bD9 d.p (S.sts[d.id.toNat]?.getD ⟨0,0⟩)
   rw [h.ok.ids i d hd,jf,qq qZ]
   exact h4 i d.p _ (by rw [<-h.ok.ps,qj,hd];rfl) (qq qZ)
 ·have hf:=h.few
  have hw:(bS1 m t S).w=m.w:=rfl
  have htt:(bS1 m t S).t=t:=rfl
  rw [hw,htt]
  unfold Wrk.few at hf ⊢
  have:(m.t:Int)<=(t:Int):=by omega
  omega
theorem _root_.Go.Proofs.MacUp.load {N:Net}{C:Chp}{x1 x2:MacX}{l:List Evt}{t:Nat}{m1 m2:Mac}(h1:MacUp N C x1 l t m1)(h2:MacGo N C x2 m2)(ht:m2.t<=t):MacUp N C x2 l t (bS1 m2 t (smC m1.cs)):=by
 obtain ⟨a1,a2,a3⟩:=fT9 h1.go.ok
 have hl:=h2.ok.len
 refine ⟨mJ1 h2 ht (by rw [<-h1.tick];exact h1.go.tick) a1 a2 (hJ0 h1.go.ok h1.go.sta),rfl,?_⟩
 show smC (m2.cs.map (ldC (smC m1.cs).sts (smC m1.cs).D))=_
 rw [kQ1 h2.ok.ids qZ a2 (fun r hr=>by rw [a3 r hr,hl]),<-h1.sm]
theorem _root_.Go.Proofs.MacUp.big {N:Net}{C:Chp}{cores:List Int}{x:MacX}{l:List Evt}{t:Nat}{m:Mac}(hA:AsgOk N C cores)(h:MacUp N C x l t m){limit:Int}(hev:EvOk N.inputs limit l)(hS:N.syns.length<=70)(ht:t<=80):ResOk ⟨N.ps,N.inputs,[]⟩ (t:Int) (smC m.cs).sts (rot t (smC m.cs).D):=by
 obtain ⟨a1,a2,a3⟩:=fT9 h.go.ok
 have hq:=hV6 hA
 have hN:=hA.plan.net
 have hrow:∀r∈rot t (smC m.cs).D,r∈(smC m.cs).D:=fun r hr=>by
  unfold rot at hr
  obtain ⟨d,_,rfl⟩:=qo.1 hr
  rw [qq qZ]
  exact Qu _
 have hsl:(cP8 N C).syns.length<=70:=by
  have:(cP8 N C).syns.length=N.syns.length:=qv _
  omega
 have hb:=lJ8 hq hev hsl ht
 rw [<-h.sm] at hb
 exact ⟨⟨hN.some,hN.few,hN.inputs,qB _,hN.ps,fun s hs=>absurd hs jq⟩,by omega,a1,cT9 _ _,fun r hr=>a3 r (hrow r hr),fun i p s g1 g2=>hJ0 h.go.ok h.go.sta i p s g1 g2,fun r hr=>hb r (hrow r hr)⟩
end Go.Gm
end

section
namespace Go.Proofs
open Go Go.Vx Go.Gm
def bP7 (y:ImgM):List (SlD Int):=y.D.map fun d=>⟨some ⟨d.g,0,none⟩,d.cap,d.l⟩
theorem dR0 (D:List DRow):bQ1 fR2 (D.map fun d=>(⟨some ⟨d.g,0,none⟩,d.cap,d.l⟩:SlD Int))=bQ1 bL8 D:=by
 induction D with
 |nil=>rfl
 |cons d D ih=>
  have h1:bQ1 fR2 ((d::D).map fun d=>(⟨some ⟨d.g,0,none⟩,d.cap,d.l⟩:SlD Int))=[bJ9 d]++bQ1 fR2 (D.map fun d=>(⟨some ⟨d.g,0,none⟩,d.cap,d.l⟩:SlD Int)):=by simp [bQ1,fR2,slV,bJ9]
  rw [h1,ih]
  simp [bQ1,bL8]
theorem hZ4 {N:Net}(hN:NetOk N){sts:List Sta}(hl:sts.length=N.ps.length)(hs:StaAll N sts):∀s∈sts,s.wf:=by
 intro s hm
 obtain ⟨i,hi⟩:=jh hm
 have hlt:=(qx.1 hi).1
 have hp:N.ps[i]? =some N.ps[i]:=qq qZ
 have h1:=hs i _ s hp hi
 have h2:=hN.ps _ (qz hp)
 have h3:=h2.fl
 have h4:=h2.rest
 unfold bD9 at h1
 unfold Sta.wf I64
 omega
structure ImgFit8 (y:ImgM):Prop where
 tick:I64 y.tick
 sts:(∀s∈y.sts,s.wf)/\y.sts.length<4611686018427387904
 len:y.D.length<4611686018427387904
 due:∀d∈y.D,(∀k∈d.l,I64 k)/\d.l.length<=1000000
theorem dT9 {w0 w:World}{M:List Nat}{H:HP}(hw:St w0 M H w)(im:ImgM)(hle:HLe (gX0 im) H):(∃b,Sl w cJ6 2 im.sts im.sp im.sts.length b 0)/\(∃b,Sl w fR2 1 (bP7 im) im.dp im.D.length b 0)/\∀d∈bP7 im,∃b off,Sl w bQ6 1 d.l d.p d.l.length b off:=by
 have hs:=hw.le hle
 have hL:(bP7 im).length=im.D.length:=qv _
 obtain ⟨b3,h3⟩:=Sl.own hs (f:=cJ6) (l:=im.sts) (n:=im.sts.length) (k:=2) (p:=im.sp) .here oR rfl
 obtain ⟨b4,h4⟩:=Sl.own hs (f:=fR2) (l:=bP7 im) (n:=im.D.length) (k:=1) (p:=im.dp) (cap:=im.dc) (e:=28) (by unfold bP7;rw [dR0];exact .there .here) oR hL
 refine ⟨⟨b3,h3⟩,⟨b4,h4⟩,fun d hd=>?_⟩
 obtain ⟨d0,h0,rfl⟩:=qo.1 hd
 exact ⟨d0.g,0,bZ1 (cap:=d0.cap) (e:=3) hs (by simp only [gX0,qQ];exact .inr (.inr (qN h0))) oR rfl⟩
theorem dW8 (a b:Int)(ha:I64 a)(hb:I64 b)(s1 s2:List Sta)(hs1:∀s∈s1,s.wf)(hs2:∀s∈s2,s.wf)(L1 L2:List (SlD Int))(hL1:∀d∈L1,(∀k∈d.l,I64 k)/\d.l.length<=1000000)(hL2:∀d∈L2,(∀k∈d.l,I64 k)/\d.l.length<=1000000)
  (hz:s1.length<4611686018427387904/\s2.length<4611686018427387904/\L1.length<4611686018427387904/\L2.length<4611686018427387904)
  (p1:Option Addr) (c1 b1 o1:Nat) (p2:Option Addr) (c2 b2 o2:Nat) (q1:Option Addr) (d1 e1 f1:Nat) (q2:Option Addr) (d2 e2 f2:Nat) (w:World)
  (h1:Sl w cJ6 2 s1 p1 s1.length b1 o1) (h2:Sl w cJ6 2 s2 p2 s2.length b2 o2) (g1:Sl w fR2 1 L1 q1 L1.length e1 f1) (g2:Sl w fR2 1 L2 q2 L2.length e2 f2) (k1:∀d∈L1,∃b off,Sl w bQ6 1 d.l d.p d.l.length b off) (k2:∀d∈L2,∃b off,Sl w bQ6 1 d.l d.p d.l.length b off):
  Calls Tryz.prog 35 #[.agg #[.int .i64 a,.slice p1 s1.length c1,.slice q1 L1.length d1],.agg #[.int .i64 b,.slice p2 s2.length c2,.slice q2 L2.length d2]] w fun e w'=>∃r:Bool,e=.returned (.bool r)/\(r=true<->a=b/\s1=s2/\L1.map (·.l)=L2.map (·.l))/\St w [] [] w':=by
 have hno:∀w' H,St w [] H w'->¬(a=b/\s1=s2/\L1.map (·.l)=L2.map (·.l))->∃r:Bool,Ending.returned (.bool false)=.returned (.bool r)/\(r=true<->a=b/\s1=s2/\L1.map (·.l)=L2.map (·.l))/\St w [] [] w':=by
  intro w' H hw' h
  exact ⟨false,rfl,⟨fun e=>by simp at e,fun e=>absurd e h⟩,hw'.le .nil⟩
 unfold I64 at ha hb
 refine enter (C:=Tryz.cx) (F:=mB0) (args:=[_,_]) Tryz.func35 rfl rfl rfl ok35 (St.start w []) ?_
 refine VSeq.go ?_
 repeat' (conv=>whnf);first|refine oV fun _=>?_
 all_goals (conv=>whnf)
 rename_i x1 x2
 repeat' (conv=>whnf);first|refine VSeq.go ?_|refine oN fun _=>?_|refine oS (fun _=>?_) fun _=>?_|refine oL ?_
 all_goals (conv=>whnf)
 ·exact ⟨fun w' hw'=>hno w' _ hw' (fun h=>by omega)⟩
 ·exact ⟨fun w' hw'=>hno w' _ hw' (fun h=>by have:=congrArg List.length h.2.1;omega)⟩
 ·exact ⟨fun w' hw'=>hno w' _ hw' (fun h=>by have:=congrArg List.length h.2.2;simp only [qv] at this;omega)⟩
 refine bF2 (α:=Nat) [1000000,2,3,4] rfl (fun i=>i<=s1.length/\s1.take i=s2.take i) (fun i K=>(5,.int .i64 (i:Int))::K)
  (fun _=>[.row x2 94 [.int .i64 b,.slice p2 s2.length c2,.slice q2 L2.length d2],.row x1 94 [.int .i64 a,.slice p1 s1.length c1,.slice q1 L1.length d1]]) (fun i=>s1.length - i) 0 ⟨by omega,rfl⟩ aE aH ?_
 rintro i ⟨hi,ht⟩
 rcases qy i s1.length with hlt|hge
 ·obtain ⟨x,hx⟩:=h1.get hlt
  obtain ⟨y,hy⟩:=h2.get (i:=i) qZ
  have hxw:=hs1 x (qz hx)
  have hyw:=hs2 y (qz hy)
  unfold Sta.wf I64 at hxw hyw
  repeat' (conv=>whnf);first|(refine VIx.is ?_;refine VIx.mk (h1.ptr qZ) qZ qZ ?_)|(refine VIx.is ?_;refine VIx.mk (h2.ptr qZ) qZ qZ ?_)|(refine VLd.is ?_;refine oC (h1.rd0 oU oR hx rfl) ?_)|(refine VLd.is ?_;refine oC (h2.rd0 oU oR hy rfl) ?_)|refine VSeq.go ?_|refine oY fun _=>?_|refine oS (fun _=>?_) fun _=>?_|refine oL ?_|refine oA ?_|refine oH ?_
  all_goals (conv=>whnf)
  ·refine ⟨fun w' hw'=>hno w' _ hw' (fun h=>?_)⟩
   have hxy:x=y:=by rw [h.2.1,hy] at hx;cases hx;rfl
   exact ‹¬(x.v=y.v/\x.rest=y.rest/\True)› ⟨by rw [hxy],by rw [hxy],trivial⟩
  ·have he:x=y:=by
    have h1:x.v=y.v/\x.rest=y.rest:=by simp only [and_true] at*;omega
    cases x;cases y;simp only [Sta.mk.injEq];exact h1
   refine VNext.mk (i+1) ⟨by omega,?_⟩ qZ aE aH
   rw [qi,qi,ht,hx,hy,he]
 have hss:s1=s2:=by
  rw [qe hge,qe qZ] at ht
  exact ht
 repeat' (conv=>whnf);first|refine VSeq.go ?_|refine oN fun _=>?_|refine oS (fun _=>?_) fun _=>?_|refine oL ?_
 all_goals (conv=>whnf)
 refine bF2 (α:=Nat) [1000000,2,3,4] rfl (fun i=>i<=L1.length/\(L1.map (·.l)).take i=(L2.map (·.l)).take i) (fun i K=>(6,.int .i64 (i:Int))::K)
  (fun _=>[.row x2 94 [.int .i64 b,.slice p2 s2.length c2,.slice q2 L2.length d2],.row x1 94 [.int .i64 a,.slice p1 s1.length c1,.slice q1 L1.length d1]]) (fun i=>L1.length - i) 0 ⟨by omega,rfl⟩ aE aH ?_
 rintro j ⟨hj,hu⟩
 rcases qy j L1.length with hltj|hgej
 ·obtain ⟨x,hx⟩:=g1.get hltj
  obtain ⟨y,hy⟩:=g2.get (i:=j) qZ
  obtain ⟨m1,n1,hx1⟩:=k1 x (qz hx)
  obtain ⟨m2,n2,hy1⟩:=k2 y (qz hy)
  obtain ⟨hxi,hxl⟩:=hL1 x (qz hx)
  obtain ⟨hyi,hyl⟩:=hL2 y (qz hy)
  by_cases hxy:x.l=y.l
  ·repeat' (conv=>whnf);first|(refine VIx.is ?_;refine VIx.mk (g1.ptr qZ) qZ qZ ?_)|(refine VIx.is ?_;refine VIx.mk (g2.ptr qZ) qZ qZ ?_)|(refine VLd.is ?_;refine oC (g1.rd0 oU oR hx rfl) ?_)|(refine VLd.is ?_;refine oC (g2.rd0 oU oR hy rfl) ?_)|(refine bQ0 26 ?_;(refine bQ2 (v:=fun r=>.bool r) (p:=fun r=>(r=true<->x.l=y.l)) (G:=fun _=>[]) (fun w' hw'=>cS1 x.l y.l hxl _ _ _ _ _ _ _ _ w' hxi hyi (hx1.keep hw' oU) (hy1.keep hw' oU)) ?_;intro r hr;have hr:=hr.2 hxy;subst hr))|refine VSeq.go ?_|refine oY fun _=>?_|refine oL ?_|refine oA ?_|refine oH ?_
   all_goals (conv=>whnf)
   refine VNext.mk (j+1) ⟨by omega,?_⟩ qZ aE aH
   rw [qi,qi,hu,qj,qj,hx,hy,qV,qV,hxy]
  ·repeat' (conv=>whnf);first|(refine VIx.is ?_;refine VIx.mk (g1.ptr qZ) qZ qZ ?_)|(refine VIx.is ?_;refine VIx.mk (g2.ptr qZ) qZ qZ ?_)|(refine VLd.is ?_;refine oC (g1.rd0 oU oR hx rfl) ?_)|(refine VLd.is ?_;refine oC (g2.rd0 oU oR hy rfl) ?_)|(refine bQ0 26 ?_;(refine bQ2 (v:=fun r=>.bool r) (p:=fun r=>(r=true<->x.l=y.l)) (G:=fun _=>[]) (fun w' hw'=>cS1 x.l y.l hxl _ _ _ _ _ _ _ _ w' hxi hyi (hx1.keep hw' oU) (hy1.keep hw' oU)) ?_;intro r hr;obtain rfl:r=false:=Bool.eq_false_iff.2 fun h=>hxy (hr.1 h)))|refine VSeq.go ?_|refine oY fun _=>?_|refine oL ?_|refine oH ?_
   all_goals (conv=>whnf)
   refine ⟨fun w' hw'=>hno w' _ hw' (fun h=>hxy ?_)⟩
   have e1:=congrArg (fun l=>l[j]?) h.2.2
   simp only [qj,hx,hy,qV,qK] at e1
   exact e1
 have hLL:L1.map (·.l)=L2.map (·.l):=by
  rw [qe (by rw [qv];omega),qe (by rw [qv];omega)] at hu
  exact hu
 repeat' (conv=>whnf);first|refine VSeq.go ?_|refine oN fun _=>?_|refine oS (fun _=>?_) fun _=>?_|refine oL ?_
 all_goals (conv=>whnf)
 exact ⟨fun w' hw'=>⟨true,rfl,⟨fun _=>⟨by omega,hss,hLL⟩,fun _=>rfl⟩,hw'.le .nil⟩⟩
theorem bR9 {w0:World}{M:List Nat}{H:HP}{K:Value->HP->Prop}(x y:ImgM)(hx:ImgFit8 x)(hy:ImgFit8 y)(hlx:HLe (gX0 x) H)(hly:HLe (gX0 y) H)
  (heq:x.tick=y.tick/\x.sts=y.sts/\x.D.map (·.l)=y.D.map (·.l)) (hK:K (.bool true) H):
  VCall Tryz.cx.P w0 M H 35 [kP6 x,kP6 y] K:=by
 have hxL:(bP7 x).length=x.D.length:=qv _
 have hyL:(bP7 y).length=y.D.length:=qv _
 have hxR:(bP7 x).map (·.l)=x.D.map (·.l):=by unfold bP7;rw [List.map_map];rfl
 have hyR:(bP7 y).map (·.l)=y.D.map (·.l):=by unfold bP7;rw [List.map_map];rfl
 have fitL:∀z,ImgFit8 z->∀d∈bP7 z,(∀k∈d.l,I64 k)/\d.l.length<=1000000:=by
  intro z hz d hd
  obtain ⟨d0,h0,rfl⟩:=qo.1 hd
  exact hz.due d0 h0
 refine bQ2 (v:=fun r=>.bool r) (p:=fun r=>(r=true<->(x.tick:Int)=y.tick/\x.sts=y.sts/\(bP7 x).map (·.l)=(bP7 y).map (·.l))) (G:=fun _=>[]) (fun w' hw'=>?_) (fun r hr=>?_)
 ·obtain ⟨⟨b1,g1⟩,⟨b2,g2⟩,g3⟩:=dT9 hw' x hlx
  obtain ⟨⟨b3,g4⟩,⟨b4,g5⟩,g6⟩:=dT9 hw' y hly
  have h:=dW8 x.tick y.tick hx.tick hy.tick x.sts y.sts hx.sts.1 hy.sts.1 (bP7 x) (bP7 y) (fitL x hx) (fitL y hy) ⟨hx.sts.2,hy.sts.2,by rw [hxL];exact hx.len,by rw [hyL];exact hy.len⟩ x.sp x.sc b1 0 y.sp y.sc b3 0 x.dp x.dc b2 0 y.dp y.dc b4 0 w' g1 g4 (by rw [hxL];exact g2) (by rw [hyL];exact g5) g3 g6
  rw [hxL,hyL] at h
  exact h
 ·have:r=true:=hr.2 ⟨by rw [heq.1],heq.2.1,by rw [hxR,hyR];exact heq.2.2⟩
  rw [this]
  exact hK
end Go.Proofs
end

section
namespace Go.Proofs
open Go Go.Vx Go.Gm
theorem hG8 (N:Net)(hps:∀p∈N.ps,p.wf)(C:Chp)(cores:List Int)(x:MacX)(np:Option Addr)(nc:Nat)(hn1:x.n1=.slice np N.ps.length nc)(hn2:x.n2=.int .i64 N.inputs)(hn3:x.n3=.slice none 0 0)(m:Mac)(hm:MacGo N C x m)(im:ImgM)(S:Sm)(hS1:im.sts=S.sts)(hS:im.D.map (·.l)=rot im.tick S.D)(hSl:S.D.length=16)(hSr:∀r∈S.D,r.length=N.ps.length)
  (hro:ResOk ⟨N.ps,N.inputs,[]⟩ (im.tick:Int) im.sts (im.D.map (·.l))) (w:World)
  (hs:St w (ids (bJ3 N C cores x m)) (bJ3 N C cores x m) w) (hcp:Sl w cpV 1 x.bs (some ⟨x.cb,0,none⟩) N.ps.length x.cb 0/\x.cb∉ids (bJ3 N C cores x m)) (hnp:∃g,Sl w bH3 8 N.ps np N.ps.length g 0/\g∉ids (bJ3 N C cores x m))
  (hst:∃g,Sl w cJ6 2 im.sts im.sp im.sts.length g 0/\g∉ids (bJ3 N C cores x m)) (hdp:∃g,Sl w fR2 1 (bP7 im) im.dp (bP7 im).length g 0/\g∉ids (bJ3 N C cores x m)) (hrow:∀d∈im.D,∃g,Sl w bQ6 1 d.l (some ⟨d.g,0,none⟩) d.l.length g 0/\g∉ids (bJ3 N C cores x m)):
  Calls Tryz.prog 36 #[.pointer (some ⟨x.b,0,none⟩),kP6 im] w fun e w'=>e=.returned (.int .i64 0)/\St w (ids (bJ3 N C cores x m)) (bJ3 N C cores x (bS1 m im.tick S)) w':=by
 obtain ⟨hcp,hcpM⟩:=hcp
 obtain ⟨gn,hnp,hnpM⟩:=hnp
 obtain ⟨gs,hst,hstM⟩:=hst
 obtain ⟨gd,hdp,hdpM⟩:=hdp
 have hR:bD2 (bP7 im)=im.D.map (·.l):=by unfold bD2 bP7;rw [List.map_map];rfl
 have hL:(bP7 im).length=im.D.length:=qv _
 have hNok:=hro.net
 have hpos:0<N.ps.length:=hNok.some
 have hfew:N.ps.length<=1024:=hNok.few
 have hinp:0<=N.inputs/\N.inputs<=256:=hNok.inputs
 have h16:im.D.length=16:=by have:=hro.sixteen;rwa [qv] at this
 have hstl:im.sts.length=N.ps.length:=hro.stl
 have htick:=hro.tick
 have hrl:∀d∈im.D,d.l.length=N.ps.length:=fun d hd=>hro.row d.l (qN (f:=fun d:DRow=>d.l) hd)
 have hrb:∀d∈im.D,∀k∈d.l, -268435456<=k/\k<=268435456:=fun d hd=>hro.big d.l (qN (f:=fun d:DRow=>d.l) hd)
 have hsw:∀s∈im.sts,s.wf:=hZ4 (N:=⟨N.ps,N.inputs,[]⟩) hNok hstl hro.sta
 have hN0:Net.wf ⟨N.ps,N.inputs,[]⟩:=⟨hps,by show I64 N.inputs;unfold I64;omega,fun s hs=>absurd hs jq⟩
 have hLi:∀d∈bP7 im,(∀k∈d.l,I64 k)/\d.l.length<9223372036854775807:=fun d hd=>by
  obtain ⟨d0,h0,rfl⟩:=qo.1 hd
  exact ⟨fun k hk=>by have:=hrb d0 h0 k hk;unfold I64;omega,by have:=hrl d0 h0;dsimp only;omega⟩
 have hLs:∀(w':World),(∀d∈im.D,∃g,Sl w' bQ6 1 d.l (some ⟨d.g,0,none⟩) d.l.length g 0)->∀d∈bP7 im,∃b off,Sl w' bQ6 1 d.l d.p d.l.length b off:=fun w' h d hd=>by
  obtain ⟨d0,h0,rfl⟩:=qo.1 hd
  obtain ⟨g,hg⟩:=h d0 h0
  exact ⟨g,0,hg⟩
 have hres:=fun (w':World) h1 h3 h4 h5=>gS5 ⟨N.ps,N.inputs,[]⟩ hN0 (im.tick:Int) (by unfold I64;omega) im.sts hsw qZ (bP7 im) qZ hLi np nc gn 0 none 0 gn 0 im.sp im.sc gs 0 im.dp im.dc gd 0 w' h1 (.nil (.inl rfl)) h3 h4 (hLs w' h5)
 rw [hR,dY0.2 hro] at hres
 dsimp only [List.length_nil] at hres
 have hlen:=hm.ok.len
 have hbs:=hm.bs
 have hdue:=hm.ok.due
 have hids:=hm.ok.ids
 unfold kP6
 rw [<-hL]
 obtain ⟨it,isp,isc,ists,idp,idc,iD⟩:=im
 dsimp only at*
 subst hS1
 obtain ⟨t,cs,wk⟩:=m
 dsimp only at hlen hbs hdue hids
 obtain ⟨Mx,hMx⟩:=gX (ids (bJ3 N C cores x ⟨t,cs,wk⟩))
 rw [hMx] at hs hcpM hnpM hstM hdpM hrow ⊢
 have hbk:∀(k:Nat) (c:CelM),cs[k]? =some c->x.bs[k]? =some c.b:=fun k c h=>by rw [<-hbs,qj,h];rfl
 unfold bJ3 at hs ⊢
 dsimp only at hs
 have ht0:sub (bV1 N C cores x t wk) 0 1=some [.int .i64 (t:Int)]:=rfl
 have hu0:upd (bV1 N C cores x t wk) 0 [.int .i64 (it:Int)]=some (bV1 N C cores x it wk):=rfl
 have h2:sub (bV1 N C cores x t wk) 2 1=some [.slice (some ⟨x.cb,0,none⟩) N.ps.length x.cc]:=rfl
 have h4:sub (bV1 N C cores x t wk) 4 3=some [.slice np N.ps.length nc,.int .i64 N.inputs,.slice none 0 0]:=by rw [<-hn1,<-hn2,<-hn3];rfl
 have k0:sub (bV1 N C cores x it wk) 0 1=some [.int .i64 (it:Int)]:=rfl
 have k2:sub (bV1 N C cores x it wk) 2 1=some [.slice (some ⟨x.cb,0,none⟩) N.ps.length x.cc]:=rfl
 obtain ⟨mc,hmc⟩:=gX (bV1 N C cores x t wk)
 obtain ⟨md,hmd⟩:=gX (bV1 N C cores x it wk)
 rw [hmc] at hs ht0 hu0 h2 h4
 rw [hmd] at hu0 k0 k2
 obtain ⟨IL,hIL⟩:=gX (bP7 ⟨it,isp,isc,S.sts,idp,idc,iD⟩)
 rw [hIL] at hdp hres hL ⊢
 refine enter (C:=Tryz.cx) (F:=mH9) (args:=[_,_]) Tryz.func36 rfl rfl rfl ok36 hs ?_
 refine VSeq.go ?_
 repeat' (conv=>whnf);first|refine oV fun _=>?_
 all_goals (conv=>whnf)
 rename_i b3
 repeat' (conv=>whnf);first|(refine VSeq.is ?_;refine bF1 4 rfl ?_;refine VSeq.cut (at_:=4) (α:=Unit) (fun _=>True) (fun _=>[(1000000,.tuple #[]),(0,.pointer (some ⟨x.b,0,none⟩)),(3,.pointer (some ⟨b3,0,none⟩)),(4,.int .i64 0),(6,.int .i64 0)]) (fun _=>.row b3 94 [.int .i64 (it:Int),.slice isp S.sts.length isc,.slice idp IL.length idc]::.row x.b 135 mc::cs.map bB6) ?_ ?_)|(refine bQ0 91 ?_;refine VCall.inl (F:=lC1) Tryz.func91 rfl rfl rfl lT0 ?_)|(refine VLd.is ?_;refine oC (.row aT (h2)) ?_)|(refine VLd.is ?_;refine oC (.row aT (h4)) ?_)|(refine bQ0 94 ?_;(refine bQ2 (fun w' hw'=>hres w' (hnp.keep hw' hnpM) (hst.keep hw' hstM) (hdp.keep hw' hdpM) (fun d hd=>Exists.elim (hrow d hd) fun g hg=>⟨g,hg.1.keep hw' hg.2⟩)) ?_;rintro y hy))|refine VSeq.go ?_|refine oY fun _=>?_|refine oL ?_|refine oH ?_
 all_goals (conv=>whnf)
 ·exact VMid.mk () trivial aE aH
 rintro _ _
 obtain ⟨F,hF⟩:=gX (ldC S.sts S.D)
 repeat' (conv=>whnf);first|(refine VLd.is ?_;refine oC (.row aT (k2)) ?_)|(refine VSt.is ?_;refine VSt.cast (off':=0) oE (VSt.row aT hu0 rfl ?_))|refine VSeq.go ?_|refine oN fun _=>?_|refine oL ?_
 all_goals (conv=>whnf)
 refine VLoop.mk (α:=Nat) (fun i=>i<=N.ps.length) (fun i=>[(1000000,.tuple #[]),(0,.pointer (some ⟨x.b,0,none⟩)),(3,.pointer (some ⟨b3,0,none⟩)),(4,.int .i64 0),(36,.slice (some ⟨x.cb,0,none⟩) N.ps.length x.cc),(37,.int .i64 (N.ps.length:Int)),(38,.int .i64 (i:Int))])
  (fun i=>.row b3 94 [.int .i64 (it:Int),.slice isp S.sts.length isc,.slice idp IL.length idc]::.row x.b 135 md::(dZ1 F cs i).map bB6) (fun i=>N.ps.length - i) 0 (qB _) aE (by rw [fH2];exact aH) ?_
 intro i hi
 rcases qy i N.ps.length with hlt|hge
 ·obtain ⟨c,hck⟩:∃c,cs[i]? =some c:=⟨_,qq qZ⟩
  obtain ⟨s,hsi⟩:∃s,S.sts[i]? =some s:=⟨_,qq qZ⟩
  have hbc:=hbk i c hck
  have hid:=hids i c hck
  have hcd:=hdue c (qz hck)
  have hmi:=gG1 (f:=F) hck
  have hset:=gY9 (f:=F) hck
  have hml:i<(dZ1 F cs i).length:=by rw [gG0];omega
  have hFc:F c=⟨c.b,c.id,c.p,c.z,s,fD3 S.D i⟩:=by
   rw [<-hF]
   unfold ldC
   rw [hid,jf,hsi];rfl
  have hu1:=fJ5 c s
  obtain ⟨new,hnew⟩:=gX (fD3 S.D i)
  rw [hnew] at hFc
  have hnl:new.length=16:=by rw [<-hnew];unfold fD3;rw [qv,hSl]
  obtain ⟨CS,hCS⟩:=gX (dZ1 F cs i)
  rw [hCS] at hmi hset hml ⊢
  repeat' (conv=>whnf);first|(refine VIx.is ?_;refine VIx.mk (hcp.ptr qZ) qZ qZ ?_)|(refine VLd.is ?_;refine oC (hcp.rd0 hcpM oR hbc rfl) ?_)|(refine VIx.is ?_;refine VIx.mk (hst.ptr qZ) qZ qZ ?_)|(refine VLd.is ?_;refine oC (hst.rd0 hstM oR hsi rfl) ?_)|(refine VSt.is ?_;refine VSt.cast (off':=10) oE (VSt.segR (f:=bB6) (l:=CS) (y:=⟨c.b,c.id,c.p,c.z,s,c.due⟩) aS hmi rfl hu1 rfl rfl ?_))|refine VSeq.go ?_|refine oY fun _=>?_|refine oL ?_
  all_goals (conv=>whnf)
  refine VLoop.mk (α:=Nat) (fun d=>d<=16) (fun d=>[(1000000,.tuple #[]),(0,.pointer (some ⟨x.b,0,none⟩)),(3,.pointer (some ⟨b3,0,none⟩)),(4,.int .i64 0),(7,.int .i64 (i:Int)),(8,.pointer (some ⟨c.b,0,none⟩)),(36,.slice (some ⟨x.cb,0,none⟩) N.ps.length x.cc),(37,.int .i64 (N.ps.length:Int)),(38,.int .i64 (i:Int)),(52,.slice idp IL.length idc),(53,.int .i64 (IL.length:Int)),(54,.int .i64 (d:Int))])
   (fun d=>.row b3 94 [.int .i64 (it:Int),.slice isp S.sts.length isc,.slice idp IL.length idc]::.row x.b 135 md::(CS.set i ⟨c.b,c.id,c.p,c.z,s,dH1 it new d c.due⟩).map bB6) (fun d=>16 - d) 0 (qB _) aE aH ?_
  intro d hd
  rcases qy d 16 with hld|hgd
  ·obtain ⟨dr,hdr⟩:∃dr,iD[d]? =some dr:=⟨_,qq qZ⟩
   have hILd:IL[d]? =some ⟨some ⟨dr.g,0,none⟩,dr.cap,dr.l⟩:=by rw [<-hIL];unfold bP7;dsimp only;rw [List.getElem?_map,hdr];rfl
   have hsv:sub (fR2 (⟨some ⟨dr.g,0,none⟩,dr.cap,dr.l⟩:SlD Int)) 0 1=some [.slice (some ⟨dr.g,0,none⟩) dr.l.length dr.cap]:=rfl
   have hdm:=qz hdr
   obtain ⟨gr,hgr,hgrM⟩:=hrow dr hdm
   have hdl:=hrl dr hdm
   obtain ⟨v,hv⟩:∃v,dr.l[i]? =some v:=⟨_,qq qZ⟩
   have hvb:=hrb dr hdm v (qz hv)
   have hrr:dr.l=(S.D[(it+d)%16]?).getD []:=by
    have e:=congrArg (fun l=>l[d]?) hS
    simp only [qj,hdr,fR7,jw hld,qV,qK] at e
    exact e
   obtain ⟨rw8,hrw⟩:∃r,S.D[(it+d)%16]? =some r:=⟨_,qq qZ⟩
   have hnv:new[(it+d)%16]? =some v:=by
    rw [<-hnew]
    unfold fD3
    rw [hrw,qY] at hrr
    rw [qj,hrw,qV,<-hrr,hv];rfl
   have hjj:((it:Int)+(d:Int))%16=(((it+d)%16:Nat):Int):=by omega
   have hlen2:=cN4 it new d c.due
   have hstep:dH1 it new (d+1) c.due=(dH1 it new d c.due).set ((it+d)%16) v:=by rw [dH1,hnv];rfl
   obtain ⟨L,hL2⟩:=gX (dH1 it new d c.due)
   rw [hL2] at hlen2 hstep ⊢
   have hu2:=dK0 (c:=⟨c.b,c.id,c.p,c.z,s,L⟩) (k:=(it+d)%16) (by dsimp only;omega) v
   have hmi2:(CS.set i ⟨c.b,c.id,c.p,c.z,s,L⟩)[i]? =some ⟨c.b,c.id,c.p,c.z,s,L⟩:=QZ hml
   repeat' (conv=>whnf);first|(refine VIx.is ?_;refine VIx.mk (hdp.ptr qZ) qZ qZ ?_)|(refine VLd.is ?_;refine oC (hdp.rd0 hdpM oR hILd hsv) ?_)|(refine VLd.is ?_;refine oC (.row aT (k0)) ?_)|(refine VIx.is ?_;refine VIx.mk (hgr.ptr qZ) qZ qZ ?_)|(refine VLd.is ?_;refine oC (hgr.rd0 hgrM oR hv rfl) ?_)|refine oI ?_|(refine VSt.is ?_;refine VSt.cast (off':=12+(it+d)%16) oE (VSt.segR (f:=bB6) (l:=CS.set i ⟨c.b,c.id,c.p,c.z,s,L⟩) (y:=⟨c.b,c.id,c.p,c.z,s,L.set ((it+d)%16) v⟩) aS hmi2 rfl hu2 rfl rfl ?_);rw [List.set_set])|refine VSeq.go ?_|refine oY fun _=>?_|refine oA ?_|refine oH ?_|refine oM ?_
   all_goals (conv=>whnf)
   refine VNext.mk (d+1) qZ qZ aE ?_
   rw [hstep]
   exact aH
  have hd16:d=16:=by omega
  subst hd16
  rw [hF9 it hnl hcd,<-hFc,hset]
  repeat' (conv=>whnf);first|refine VSeq.go ?_|refine oN fun _=>?_|refine oA ?_
  all_goals (conv=>whnf)
  exact VNext.mk (i+1) qZ qZ aE (by rw [<-hCS] at hset;exact aH)
 have hin:i=N.ps.length:=by omega
 subst hin
 rw [<-hlen,gG2]
 repeat' (conv=>whnf);first|refine VSeq.go ?_|refine oN fun _=>?_|refine oA ?_
 all_goals (conv=>whnf)
 refine ⟨fun w' hw'=>⟨rfl,hw'.le ?_⟩⟩
 unfold bS1
 dsimp only
 rw [hmd,hF]
 exact aH
theorem hY8 {w0:World}{M:List Nat}{H R:HP}{K:Value->HP->Prop}{N:Net}(hps:∀p∈N.ps,p.wf){C:Chp}{cores:List Int}{z:NewZ}(hz:NewIs N C cores z)(m:Mac)(hm:MacGo N C (bC3 N C cores z) m)(tm:Nat)(htm:m.t=tm)(im:ImgM)(ti:Nat)(hti:im.tick=ti)(S:Sm)(hS1:im.sts=S.sts)(hS:im.D.map (·.l)=rot ti S.D)(hSl:S.D.length=16)(hSr:∀r∈S.D,r.length=N.ps.length)
  (hro:ResOk ⟨N.ps,N.inputs,[]⟩ (im.tick:Int) im.sts (im.D.map (·.l))) (htk:Take H (.row z.bm 135 (bV1 N C cores (bC3 N C cores z) tm m.w)::m.cs.map bB6) R) (hle:HLe ((.row z.bm 135 (bV1 N C cores (bC3 N C cores z) tm m.w)::m.cs.map bB6)++cM7 N C cores z) H) (hli:HLe ((.row z.bm 135 (bV1 N C cores (bC3 N C cores z) tm m.w)::m.cs.map bB6)++gX0 im) H)
  (hk:K (.int .i64 0) (.row z.bm 135 (bV1 N C cores (bC3 N C cores z) ti (bS1 m ti S).w)::((bS1 m ti S).cs.map bB6++R))):
  VCall Tryz.cx.P w0 M H 36 [.pointer (some ⟨z.bm,0,none⟩),kP6 im] K:=by
 subst htm hti
 have hown:bJ3 N C cores (bC3 N C cores z) m=.row z.bm 135 (bV1 N C cores (bC3 N C cores z) m.t m.w)::m.cs.map bB6:=rfl
 refine cP6 (α:=Unit) (S:=.row z.bm 135 (bV1 N C cores (bC3 N C cores z) m.t m.w)::m.cs.map bB6) (fun _=>.int .i64 0) (fun _=>True) (fun _=>bJ3 N C cores (bC3 N C cores z) (bS1 m im.tick S)) htk (fun w hw hs=>?_) (fun _ _=>?_)
 ·have h1:=hw.le hle
  have h2:=hw.le hli
  rw [<-hown] at hs h1 h2 ⊢
  have m1:Ent.vec z.np N.ps.length z.nc 140 8 (bQ1 bH3 N.ps)∈cM7 N C cores z:=by unfold cM7;simp only [qQ,true_or,or_true]
  have m2:Ent.vec (some ⟨z.cb,0,none⟩) N.ps.length z.cc 212 1 (bQ1 cpV (z.cs.map (·.b)))∈cM7 N C cores z:=by unfold cM7;exact qu _ qg
  have m3:Ent.vec im.sp im.sts.length im.sc 126 2 (bQ1 cJ6 im.sts)∈gX0 im:=by unfold gX0;exact qg
  have m4:Ent.vec im.dp im.D.length im.dc 28 1 (bQ1 bL8 im.D)∈gX0 im:=by unfold gX0;exact qu _ qg
  have m5:∀d∈im.D,bY9 d∈gX0 im:=fun d hd=>by unfold gX0;exact qu _ (qu _ (qN hd))
  have hL:(bP7 im).length=im.D.length:=qv _
  refine (hG8 N hps C cores (bC3 N C cores z) z.np z.nc rfl rfl rfl m hm im S hS1 hS hSl hSr hro w hs ⟨bZ1 h1 (QT _ m2) oR (by show (z.cs.map (·.b)).length=N.ps.length;rw [qv,hz.cl]),h1.outI m2 rfl⟩ (h1.outV m1 oR rfl) (h2.outV m3 oR rfl) ?_ (fun d hd=>h2.outV (m5 d hd) oR rfl)).mono fun e w' ⟨he,hs'⟩=>⟨(),he,trivial,hs'⟩
  rw [hL]
  exact h2.outV (f:=fR2) (l:=bP7 im) (e:=28) (cap:=im.dc) (by unfold bP7;rw [dR0];exact m4) oR hL
 ·exact hk
theorem kV8 {N:Net}{C:Chp}{cores:List Int}{x:MacX}{l:List Evt}{t:Nat}{m:Mac}(hA:AsgOk N C cores)(h:MacUp N C x l t m){limit:Int}(hev:EvOk N.inputs limit l)(hS:N.syns.length<=70)(ht:t<=80)(im:ImgM)(h1:im.tick=t)(h2:im.sts=(smC m.cs).sts)(h3:im.D.map (·.l)=rot t (smC m.cs).D):ImgFit8 im/\ResOk ⟨N.ps,N.inputs,[]⟩ (im.tick:Int) im.sts (im.D.map (·.l)):=by
 have hr:=h.big hA hev hS ht
 rw [<-h2,<-h3,<-h1] at hr
 refine ⟨⟨by unfold I64;omega,⟨hZ4 (N:=⟨N.ps,N.inputs,[]⟩) hr.net hr.stl hr.sta,?_⟩,?_,fun d hd=>⟨fun k hk=>?_,?_⟩⟩,hr⟩
 ·have:=hr.stl
  have h4:N.ps.length<=1024:=hr.net.few
  have h5:(Net.mk N.ps N.inputs []).ps.length=N.ps.length:=rfl
  omega
 ·have:=hr.sixteen
  rw [qv] at this
  omega
 ·have:=hr.big d.l (qN (f:=fun d:DRow=>d.l) hd) k hk
  unfold I64;omega
 ·have h6:=hr.row d.l (qN (f:=fun d:DRow=>d.l) hd)
  have h4:N.ps.length<=1024:=hr.net.few
  have h5:(Net.mk N.ps N.inputs []).ps.length=N.ps.length:=rfl
  omega
end Go.Proofs
end

section
namespace Go.Proofs
open Go Go.Vx Go.Gm
end Go.Proofs
end

section
namespace Go.Gm
open Go.Proofs
theorem kZ8 {M:Net}(h:NetOk M)(hp:∀p∈M.ps,p.wf):M.wf:=by
 refine ⟨hp,by have:=h.inputs;unfold I64;omega,fun s hs=>?_⟩
 obtain ⟨h1,h2,h3,h4⟩:=h.syns s hs
 have:=h.inputs
 have:=h.few
 unfold cT4 at h1
 unfold Syn.wf I64
 omega
end Go.Gm
namespace Go.Proofs
open Go Go.Vx Go.Gm
structure CaseGo (X:PlnX) (cores:List Int) (l:List Evt) (T:Nat):Prop where
 few:T<=80
 psF:X.N.ps.length<=20
 dead:X.C.dead.length<=20
 hA:AsgOk X.N X.C cores
 hm0:bV5 X.N X.C cores=0
 hev:EvOk X.N.inputs 10000 l
 run:fY5 X.N X.C cores l (T:Int)=(kC1 (cP8 X.N X.C) l T,(gM3 X.N X.C cores l T).2,0)
theorem CaseGo.of {Y:CsX}(hF:hT6 Y)(he:bH8 Y.X.N Y.X.C Y.cores Y.l Y.ticks=0):∃T:Nat,Y.ticks=(T:Int)/\CaseGo Y.X Y.cores Y.l T:=by
 have hm0:bV5 Y.X.N Y.X.C Y.cores=0:=jg fun h=>by unfold bH8 at he;rw [jw h] at he;exact h he
 have hp0:bY6 (cJ8 Y.X.N.inputs) Y.l Y.ticks 10000=0:=jg fun h=>by unfold bH8 at he;rw [jk (by rw [hm0];simp),jw h] at he;exact h he
 obtain ⟨_,hT,hev⟩:=cK9.1 hp0
 obtain ⟨hA, -⟩:=bN5 hm0
 refine ⟨Y.ticks.toNat,by omega,by have:=hF.2.2.2.2.2;omega,hF.1,hF.2.2.1,hA,hm0,hev,?_⟩
 rw [Ql hT.1]
 unfold fY5
 rw [jk (by rw [he];simp),gW9]
theorem gM5 (X:PlnX)(w:World)(hX:PlnRd X w)(cores:List Int)(hA:AsgOk X.N X.C cores):
  Calls Tryz.prog 27 #[.agg X.net.toArray,.int .i64 X.C.bits] w fun e w'=>∃y:QP×Nat×Nat,e=.returned (.tuple #[.agg #[.slice y.1.pp X.N.ps.length y.1.cp,.int .i64 X.N.inputs,.slice y.1.ps (bJ6 X.N X.C).length y.1.cs,.slice y.1.pz X.N.ps.length y.1.cz,.slice y.1.pq y.2.1 y.1.cq,.slice y.1.pe y.2.2 y.1.ce,.bool (bQ9 X.N X.C.bits).exact],.int .i64 0])/\True/\
   St w [] [.vec y.1.pp X.N.ps.length y.1.cp 140 8 (bQ1 bH3 X.N.ps),.vec y.1.ps (bJ6 X.N X.C).length y.1.cs 154 4 (bQ1 bP1 (bJ6 X.N X.C))] w':=by
 have hbits:=hA.plan.chip.bits
 have hq0:fN8 X.N X.C.bits=0:=by
  unfold fN8
  rw [bJ4.2 hA.plan.net,jk oU,jk qZ]
 have hqr:bQ9 X.N X.C.bits=⟨X.N.ps,X.N.inputs,bJ6 X.N X.C,bX2 X.N (bW6 X.C.bits),(bQ9 X.N X.C.bits).quots,(bQ9 X.N X.C.bits).errs,(bQ9 X.N X.C.bits).exact⟩:=by
  unfold bQ9
  rw [jk qZ]
  rfl
 have hzl:(bX2 X.N (bW6 X.C.bits)).length=X.N.ps.length:=by unfold bX2;simp
 obtain ⟨bp,op,hps⟩:=hX.ps
 obtain ⟨bs,os,hss⟩:=hX.syns
 have g:=dX7 X.N hX.net X.C.bits (by unfold I64;omega) X.pn X.cn bp op X.qs X.cs bs os w hps hss
 rw [hqr,hq0] at g
 unfold cF6 cM4 at g
 dsimp only at g
 rw [hzl] at g
 exact g.mono fun e w' ⟨y,e1,_,e3⟩=>⟨(y,_,_),e1,trivial,e3.le aH⟩
end Go.Proofs
end
