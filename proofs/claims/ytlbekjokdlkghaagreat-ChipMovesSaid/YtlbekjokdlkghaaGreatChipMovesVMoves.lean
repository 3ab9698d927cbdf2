import Derived.Test.YtlbekjokdlkghaaGreatChipMovesVSame
set_option linter.unusedVariables false
set_option linter.unusedSimpArgs false
set_option maxHeartbeats 4000000
namespace Go.Proofs
open Go Go.Vx Go.Gm
theorem fK6 (Y:CsX)(w:World)(hY:CsRd Y w)(other:List Int)(po:Option Addr)(co:Nat)(st:Nat)(hst:st<256)(hg:¬(hT6 Y/\bH8 Y.X.N Y.X.C Y.cores Y.l Y.ticks=0)\/100<other.length\/Y.ticks<1):
  Calls Tryz.prog 8 #[.agg Y.v.toArray,.slice po other.length co,.int .u8 (st:Int)] w fun e w'=>e=.returned (.bool true)/\St w [] [] w':=by
 have hr:=fun (w':World) h=>fY3 Y w' h
 have hti:=hY.ti
 unfold CsX.v at hr ⊢
 by_cases hf:hT6 Y/\bH8 Y.X.N Y.X.C Y.cores Y.l Y.ticks=0
 ·by_cases h100:100<other.length
  ·refine enter (C:=Tryz.cx) (F:=fx8) (args:=[_,_,_]) Tryz.func8 rfl rfl rfl ok8 (St.start w []) ?_
   repeat' (conv=>whnf);first|(refine VNew.mk fun b1=>?_)|(refine bQ0 19 ?_;(refine bQ2 (fun w' hw'=>hr w' (hY.keep hw')) ?_;rintro r hrr;obtain rfl:r=true:=hrr.2 hf;clear hrr))|(refine bQ0 12 ?_;(refine bQ4 (fun w' _=>bS6 w') ?_))|(refine VSeq.go ?_)|(refine VB.is ?_;refine bX5 (by omega) fun _=>?_)|(refine VB.is ?_;refine bZ2 (by omega) fun _=>?_)|(refine VLd.is ?_;refine VLd.mk (.row aT (by rfl)) ?_)
   all_goals (conv=>whnf)
   exact ⟨fun w' hw'=>⟨rfl,hw'.le .nil⟩⟩
  ·have h1:Y.ticks<1:=by
    rcases hg with hg|hg|hg
    ·exact absurd hf hg
    ·exact absurd hg h100
    ·exact hg
   refine enter (C:=Tryz.cx) (F:=fx8) (args:=[_,_,_]) Tryz.func8 rfl rfl rfl ok8 (St.start w []) ?_
   repeat' (conv=>whnf);first|(refine VNew.mk fun b1=>?_)|(refine bQ0 19 ?_;(refine bQ2 (fun w' hw'=>hr w' (hY.keep hw')) ?_;rintro r hrr;obtain rfl:r=true:=hrr.2 hf;clear hrr))|(refine bQ0 12 ?_;(refine bQ4 (fun w' _=>bS6 w') ?_))|(refine VSeq.go ?_)|(refine VB.is ?_;refine bX5 (by omega) fun _=>?_)|(refine VB.is ?_;refine bZ2 (by omega) fun _=>?_)|(refine VLd.is ?_;refine VLd.mk (.row aT (by rfl)) ?_)
   all_goals (conv=>whnf)
   exact ⟨fun w' hw'=>⟨rfl,hw'.le .nil⟩⟩
 ·refine enter (C:=Tryz.cx) (F:=fx8) (args:=[_,_,_]) Tryz.func8 rfl rfl rfl ok8 (St.start w []) ?_
  repeat' (conv=>whnf);first|(refine VNew.mk fun b1=>?_)|(refine bQ0 19 ?_;(refine bQ2 (fun w' hw'=>hr w' (hY.keep hw')) ?_;rintro r hrr;obtain rfl:r=false:=(by cases r;rfl;exact absurd (hrr.1 rfl) hf)))|(refine bQ0 12 ?_;(refine bQ4 (fun w' _=>bS6 w') ?_))|(refine VSeq.go ?_)|(refine VLd.is ?_;refine VLd.mk (.row aT (by rfl)) ?_)
  all_goals (conv=>whnf)
  exact ⟨fun w' hw'=>⟨rfl,hw'.le .nil⟩⟩
set_option maxHeartbeats 8000000 in
theorem fN5 (Y:CsX)(w:World)(hY:CsRd Y w)(hF:hT6 Y)(he:bH8 Y.X.N Y.X.C Y.cores Y.l Y.ticks=0)(other:List Int)(how:∀k∈other,I64 k)(po:Option Addr)(co bo oo:Nat)(ho:Sl w bQ6 1 other po other.length bo oo)(ho1:other.length<=100)(st:Nat)(hst:st<256)(ht1:1<=Y.ticks):
  Calls Tryz.prog 8 #[.agg Y.v.toArray,.slice po other.length co,.int .u8 (st:Int)] w fun e w'=>e=.returned (.bool true)/\St w [] [] w':=by
 have hr:=fun (w':World) h=>fY3 Y w' h
 have hYd:=hY
 have hrt:=he
 obtain ⟨T,hti,hG⟩:=CaseGo.of hF he
 obtain ⟨X,cores,pc,cc,l,pe,ce,ticks⟩:=Y
 obtain ⟨hX,hcw,⟨bc,oc,h1⟩,hlw,⟨be,oe,h2⟩,hce, -⟩:=hY
 dsimp only at hX hcw h1 hlw h2 hce hti hG he hr hrt ht1
 subst hti
 unfold hT6 at hF
 dsimp only at hF
 obtain ⟨hT80,hps20,hdl,hA,hm0,hev, -⟩:=hG
 have hS70:X.N.syns.length<=70:=hF.2.1
 obtain ⟨-,htabs⟩:=bN5 hm0
 have hok:=hA.plan.net
 have hqok:=hV6 hA
 have hqwf:=kZ8 hqok hX.net.ps
 have hqps:(cP8 X.N X.C).ps.length=X.N.ps.length:=rfl
 have hpsw:=hX.net.ps
 have hq:=fun (w':World) h=>gM5 X w' h cores hA
 have hg1:=fun (w':World) h h'=>dK5 X w' h cores hcw pc cc bc oc h' hm0
 have hnew:=fun (pn:Option Addr) (cn bn on:Nat) (qs:Option Addr) (cs bs os:Nat) (w':World) h h'=>fL0 (cP8 X.N X.C) hqwf hqok pn cn bn on qs cs bs os w' h h'
 have hAB:=fun t=>fG0 (cP8 X.N X.C) l t
 have heq:=fun (A B:List Int) (hAw:A.length<=(cP8 X.N X.C).ps.length/\∀k∈A,0<=k/\k<(cP8 X.N X.C).ps.length) (hBw:B.length<=(cP8 X.N X.C).ps.length/\∀k∈B,0<=k/\k<(cP8 X.N X.C).ps.length) (pa:Option Addr) (ca ba oa:Nat) (pb:Option Addr) (cb bb ob:Nat) (w':World) h h'=>cS1 A B (by omega) pa ca ba oa pb cb bb ob w' (fun k hk=>by have:=hAw.2 k hk;unfold I64;omega) (fun k hk=>by have:=hBw.2 k hk;unfold I64;omega) h h'
 obtain ⟨SY,hSY⟩:=gX (bJ6 X.N X.C)
 rw [hSY] at hq
 have hnew2:∀(pn:Option Addr) (cn bn on:Nat) (qs:Option Addr) (cs bs os:Nat) (w':World),Sl w' bH3 8 X.N.ps pn X.N.ps.length bn on->Sl w' bP1 4 SY qs SY.length bs os->Calls Tryz.prog 29 #[.agg #[.slice pn X.N.ps.length cn,.int .i64 X.N.inputs,.slice qs SY.length cs]] w' fun e w''=>∃y:SimM,e=.returned (.tuple #[.pointer (some ⟨y.b,0,none⟩),.int .i64 0])/\(∀l,SimAt y (cP8 X.N X.C) l 0)/\St w' [] (kB8 y) w'':=by
  rw [<-hSY]
  exact hnew
 clear hnew
 obtain ⟨ex,hex⟩:=gX ((bQ9 X.N X.C.bits).exact)
 rw [hex] at hq
 unfold CsX.v at hr ⊢
 unfold PlnX.net bD5 at hg1
 unfold PlnX.net at hq
 dsimp only at hr ⊢
 by_cases hm1:bV5 X.N X.C other=0
 rotate_left
 ·have hg2:=fun (w':World) h h'=>hC9 X w' h other how (by omega) po co bo oo h' hm1
  unfold PlnX.net bD5 at hg2
  obtain ⟨E,hE⟩:=gX (bV5 X.N X.C other)
  rw [hE] at hg2 hm1
  refine enter (C:=Tryz.cx) (F:=fx8) (args:=[_,_,_]) Tryz.func8 rfl rfl rfl ok8 (St.start w []) ?_
  repeat' (conv=>whnf);first|(refine VNew.mk fun b1=>?_)|(refine bQ0 19 ?_;(refine bQ2 (fun w' hw'=>hr w' (hYd.keep hw')) ?_;rintro r hrr;obtain rfl:r=true:=hrr.2 ⟨hF,hrt⟩;clear hrr))|(refine bQ0 32 ?_;(refine cF0 (.slice pc cores.length cc) ?_;refine bQ2 (fun w' hw'=>hg1 w' (hX.rd hw' (by omega)) (h1.keep hw' (by simp))) ?_;rintro z1 hz1))|(refine bQ0 32 ?_;(refine cF0 (.slice po other.length co) ?_;refine bQ4 (fun w' hw'=>hg2 w' (hX.rd hw' (by omega)) (ho.keep hw' (by simp))) ?_))|(refine bQ0 27 ?_;(refine bQ2 (fun w' hw'=>hq w' (hX.rd hw' (by omega))) ?_;rintro ⟨y,y1,y2⟩ _))|(refine bQ0 29 ?_;(refine bQ2 (fun w' hw'=>Exists.elim (Sl.own (f:=bH3) (l:=X.N.ps) (p:=y.pp) (k:=8) hw' aT (fun _=>rfl) rfl) fun ba ha=>Exists.elim (Sl.own (f:=bP1) (l:=SY) (p:=y.ps) (k:=4) hw' aT (fun _=>rfl) rfl) fun bb hb=>hnew2 y.pp y.cp ba 0 y.ps y.cs bb 0 w' ha hb) ?_;rintro x0 hx0))|(refine bQ0 12 ?_;(refine bQ4 (fun w' _=>bS6 w') ?_))|(refine VSeq.go ?_)|(refine VB.is ?_;refine bX5 (by omega) fun _=>?_)|(refine VB.is ?_;refine bZ2 (by omega) fun _=>?_)|(refine VLd.is ?_;refine VLd.mk (.row aT (by rfl)) ?_)|(refine VSt.is ?_;refine VSt.row aT (by rfl) (by first|rfl|assumption) ?_)
  all_goals (conv=>whnf)
  exact ⟨fun w' hw'=>⟨rfl,hw'.le .nil⟩⟩
 obtain ⟨hA2,htabs2⟩:=bN5 hm1
 have hg2:=fun (w':World) h h'=>dK5 X w' h other how po co bo oo h' hm1
 unfold PlnX.net bD5 at hg2
 refine enter (C:=Tryz.cx) (F:=fx8) (args:=[_,_,_]) Tryz.func8 rfl rfl rfl ok8 (St.start w []) ?_
 refine VSeq.go ?_
 repeat' (conv=>whnf);first|(refine VNew.mk fun b1=>?_)
 all_goals (conv=>whnf)
 repeat' (conv=>whnf);first|(refine VNew.mk fun b9=>?_)|(refine bQ0 19 ?_;(refine bQ2 (fun w' hw'=>hr w' (hYd.keep hw')) ?_;rintro r hrr;obtain rfl:r=true:=hrr.2 ⟨hF,hrt⟩;clear hrr))|(refine bQ0 32 ?_;(refine cF0 (.slice pc cores.length cc) ?_;refine bQ2 (fun w' hw'=>hg1 w' (hX.rd hw' (by omega)) (h1.keep hw' (by simp))) ?_;rintro z1 hz1))|(refine bQ0 32 ?_;(refine cF0 (.slice po other.length co) ?_;refine bQ2 (fun w' hw'=>hg2 w' (hX.rd hw' (by omega)) (ho.keep hw' (by simp))) ?_;rintro z2 hz2))|(refine bQ0 27 ?_;(refine bQ2 (fun w' hw'=>hq w' (hX.rd hw' (by omega))) ?_;rintro ⟨y,y1,y2⟩ _))|(refine bQ0 29 ?_;(refine bQ2 (fun w' hw'=>Exists.elim (Sl.own (f:=bH3) (l:=X.N.ps) (p:=y.pp) (k:=8) hw' aT (fun _=>rfl) rfl) fun ba ha=>Exists.elim (Sl.own (f:=bP1) (l:=SY) (p:=y.ps) (k:=4) hw' aT (fun _=>rfl) rfl) fun bb hb=>hnew2 y.pp y.cp ba 0 y.ps y.cs bb 0 w' ha hb) ?_;rintro x0 hx0))|(refine VSeq.go ?_)|(refine VB.is ?_;refine bZ2 (by omega) fun _=>?_)|(refine VLd.is ?_;refine VLd.mk (.row aT (by rfl)) ?_)|(refine VSt.is ?_;refine VSt.row aT (by rfl) (by first|rfl|assumption) ?_)
 all_goals (conv=>whnf)
 clear hr hq hg1 hg2 hnew2
 obtain ⟨kk,hkk⟩:∃kk:Nat,st%T=kk:=⟨_,rfl⟩
 refine VLoop.mk (α:=Nat×Mac×SimM×Mac) (fun z=>z.1<=T/\MacUp X.N X.C (bC3 X.N X.C cores z1) l z.1 z.2.1/\SimAt z.2.2.1 (cP8 X.N X.C) l z.1/\(kk<z.1->MacUp X.N X.C (bC3 X.N X.C other z2) l z.1 z.2.2.2)/\(z.1<=kk->MacGo X.N X.C (bC3 X.N X.C other z2) z.2.2.2/\z.2.2.2.t=0)) (fun z=>[(1000000,.tuple #[]),(2,.int .u8 (st:Int)),(3,.pointer (some ⟨b1,0,none⟩)),(6,.bool false),(7,.pointer (some ⟨z1.bm,0,none⟩)),(11,.pointer (some ⟨z.2.2.1.b,0,none⟩)),(13,.pointer (some ⟨z2.bm,0,none⟩)),(14,.int .i64 (z.1:Int))]) (fun z=>.row b1 33 [.slice X.pn X.N.ps.length X.cn,.int .i64 X.N.inputs,.slice X.qs X.N.syns.length X.cs,.int .i64 X.C.mesh.wide,.int .i64 X.C.mesh.high,.int .i64 X.C.mesh.room,.int .i64 X.C.nr,.int .i64 X.C.sy,.int .i64 X.C.en,.int .i64 X.C.bits,.slice X.pd X.C.dead.length X.cd,.slice pc cores.length cc,.slice pe l.length ce,.int .i64 (T:Int)]::.row z1.bm 135 (bV1 X.N X.C cores (bC3 X.N X.C cores z1) z.1 z.2.1.w)::.row z2.bm 135 (bV1 X.N X.C other (bC3 X.N X.C other z2) z.2.2.2.t z.2.2.2.w)::(z.2.1.cs.map bB6++(z.2.2.2.cs.map bB6++(cM7 X.N X.C cores z1++(cM7 X.N X.C other z2++(bM7 z.2.2.1++dW4 z.2.2.1)))))) (fun z=>T - z.1)
  (0,⟨0,z1.cs,hR6⟩,x0,⟨0,z2.cs,hR6⟩) ⟨Nat.zero_le _,MacUp.of (hY5 hA hz1 l),hx0 l,fun h=>absurd h (by dsimp only;omega),fun _=>⟨(MacUp.of (hY5 hA2 hz2 l)).go,rfl⟩⟩ aE (by dsimp only;simp only [kB8,bM7,List.append_eq,List.cons_append,List.append_assoc,List.nil_append,List.append_nil];exact aH) ?_
 rintro ⟨t,m1,x,m2⟩ ⟨htT,hm1,hx,hm2,hm3⟩
 dsimp only at htT hm1 hx hm2 hm3 ⊢
 rcases qy t T with htl|htg
 ·have hasc:=hev.ins (t:Int)
  have hsp:=hAB t
  have hev2:=hev.range
  have hi1:=fun (w':World) h=>lX7 l (by have:=hev.few;omega) (t:Int) (by unfold I64;omega) (fun e he=>(hlw e he).1) pe ce be oe w' h
  have hnx:=hx.step (by omega) hev
  have hsv:=fun {w0:World} {M:List Nat} {H:HP} {Z:HP->HP} {K:Value->HP->Prop}=>hL8 (w0:=w0) (M:=M) (H:=H) (Z:=Z) (K:=K) x hx (by omega) hev _ rfl _ rfl
  have hs1:=fun {w0:World} {M:List Nat} {H R:HP} {K:Value->HP->Prop}=>fH1 (w0:=w0) (M:=M) (H:=H) (R:=R) (K:=K) hA htabs hz1 m1 hm1 (by omega) hev _ rfl _ rfl
  have hs2':=fun (m:Mac) (hm:MacUp X.N X.C (bC3 X.N X.C other z2) l t m) {w0:World} {M:List Nat} {H R:HP} {K:Value->HP->Prop}=>fH1 (w0:=w0) (M:=M) (H:=H) (R:=R) (K:=K) hA2 htabs2 hz2 m hm (by omega) hev _ rfl _ rfl
  obtain ⟨I,hI⟩:=gX (bV0 l (t:Int))
  obtain ⟨P,hPe⟩:=gX (cM3 (cP8 X.N X.C) l t)
  rw [hI] at hi1 hsv hasc hnx hs1 hs2'
  rw [hPe] at hsv hsp hs1 hs2'
  have hfit:=fun (im:ImgM)=>kV8 hA hm1 hev hS70 (by omega:t<=80) im
  have hia:=fun (w':World)=>gC1 X.N X.C cores hA (bC3 X.N X.C cores z1) m1 hm1.go w'
  rw [hm1.tick] at hia
  obtain ⟨a1,a2,a3⟩:=fT9 hm1.go.ok
  have hxt:=hx.tick
  have hxm:=hx.sm.trans hm1.sm.symm
  have hxs:x.sts=(smC m1.cs).sts:=congrArg Sm.sts hxm
  have hxD:x.D.map (·.l)=(smC m1.cs).D:=congrArg Sm.D hxm
  have hm1t:=hm1.tick
  obtain ⟨S,hS⟩:=gX (smC m1.cs)
  have hup:=fun h=>MacUp.load hm1 (hm3 h).1 (by rw [(hm3 h).2];exact qB _)
  rw [hS] at hfit hia a1 a2 a3 hxs hxD hup
  have hxb:(bJ1 x I).b=x.b:=rfl
  have hshr:dW4 (bJ1 x I)=dW4 x:=rfl
  by_cases h1k:t<kk
  ·obtain ⟨hg3,ht3⟩:=hm3 (by omega)
   repeat' (conv=>whnf);first|(refine bQ0 31 ?_;(refine bQ2 (fun w' hw'=>hi1 w' (h2.keep hw' (by simp))) ?_;rintro ⟨pi,ci⟩ _;dsimp only))|(refine bQ0 33 ?_;(refine bQ2 (fun w' hw'=>hia w' (MacRd.of hz1 hm1 hw' aH)) ?_;rintro im ⟨hi1',hi2',hi3'⟩;obtain ⟨hf1,hro⟩:=hfit im hi1' hi2' hi3';have hti:=hi1'))|(refine bQ0 34 ?_;(refine bQ2 (fun w' hw'=>dP6 x hx.run w' (SimRd.of hw' aH)) ?_;rintro jm ⟨hj1,hj2,hj3⟩;rw [hxt] at hj1 hj3;rw [hxs] at hj2;rw [hxD] at hj3;obtain ⟨hf2, -⟩:=hfit jm hj1 hj2 hj3))|(refine bQ0 35 ?_;(refine bR9 im jm hf1 hf2 aH aH ⟨hi1'.trans hj1.symm,hi2'.trans hj2.symm,hi3'.trans hj3.symm⟩ ?_))|(refine bQ0 37 ?_;(refine cQ1 (.pointer (some ⟨z1.bm,0,none⟩)) ?_;refine hs1 _ _ _ rfl (by repeat (first|exact Take.nil|(with_reducible apply Take.seg;(focus (exact aS)))|(apply Take.cons;(focus (exact aT)))|(apply Take.last;(focus (exact aS))))) aH (fun w hw=>Exists.elim (bF6 (f:=bQ6) (l:=I) (k:=1) (p:=pi) (n:=I.length) (cap:=ci) (e:=3) hw aH (fun _=>rfl) rfl) fun b hb=>⟨b,0,hb.1,hb.2⟩) ?_;intro n1 hn1 pa ca hpa))|(refine bQ0 30 ?_;(refine hsv _ _ _ rfl aS aH (fun w hw=>Exists.elim (bF6 (f:=bQ6) (l:=I) (k:=1) (p:=pi) (n:=I.length) (cap:=ci) (e:=3) (S:=bM7 x) hw aH (fun _=>rfl) rfl) fun b hb=>⟨b,0,hb.1,hb.2⟩) ?_;intro pb cb hpb))|(refine bQ0 26 ?_;(refine cQ0 (.slice pb P.length cb) ?_;refine bQ2 (fun w' hw'=>Exists.elim (Sl.own (f:=bQ6) (l:=P) (p:=pa) (k:=1) hw' aT (fun _=>rfl) rfl) fun ba ha=>Exists.elim (Sl.own (f:=bQ6) (l:=P) (p:=pb) (k:=1) hw' aT (fun _=>rfl) rfl) fun bb hb=>heq P P hsp hsp pa ca ba 0 pb cb bb 0 w' ha hb) ?_;rintro r hr;obtain rfl:r=true:=hr.2 rfl;clear hr))|(refine VSeq.go ?_)|(refine VB.is ?_;refine bX5 (by omega) fun _=>?_)|(refine VB.is ?_;refine bZ2 (by omega) fun _=>?_)|(refine VLd.is ?_;refine VLd.mk (.row aT (by rfl)) ?_)|(refine VSt.is ?_;refine VSt.row aT (by rfl) (by first|rfl|assumption) ?_)|(refine VNew.mk fun _=>?_)|(refine VAr.is ?_;refine oA ?_)|(refine VM.is ?_;refine oM ?_)
   all_goals (conv=>whnf)
   refine VNext.mk (t+1,n1,bJ1 x I,m2) ⟨by dsimp only;omega,hn1,hnx,fun h=>absurd h (by dsimp only;omega),fun _=>⟨hg3,ht3⟩⟩ (by dsimp only;omega) aE aH
  ·by_cases h2k:t=kk
   ·obtain ⟨hg3,ht3⟩:=hm3 (by omega)
    have hup3:=hup (by omega)
    have hld:=fun {w0:World} {M:List Nat} {H R:HP} {K:Value->HP->Prop} (im:ImgM) (hti:im.tick=t) h1 h2 hro=>hY8 (w0:=w0) (M:=M) (H:=H) (R:=R) (K:=K) hpsw hz2 m2 hg3 0 ht3 im t hti S h1 h2 a2 a3 hro
    obtain ⟨mL,hmL⟩:=gX (bS1 m2 t S)
    rw [hmL] at hup3 hld
    have hs2:=fun {w0:World} {M:List Nat} {H R:HP} {K:Value->HP->Prop}=>hs2' mL hup3 (w0:=w0) (M:=M) (H:=H) (R:=R) (K:=K)
    rw [ht3]
    repeat' (conv=>whnf);first|(refine bQ0 31 ?_;(refine bQ2 (fun w' hw'=>hi1 w' (h2.keep hw' (by simp))) ?_;rintro ⟨pi,ci⟩ _;dsimp only))|(refine bQ0 33 ?_;(refine bQ2 (fun w' hw'=>hia w' (MacRd.of hz1 hm1 hw' aH)) ?_;rintro im ⟨hi1',hi2',hi3'⟩;obtain ⟨hf1,hro⟩:=hfit im hi1' hi2' hi3';have hti:=hi1'))|(refine bQ0 34 ?_;(refine bQ2 (fun w' hw'=>dP6 x hx.run w' (SimRd.of hw' aH)) ?_;rintro jm ⟨hj1,hj2,hj3⟩;rw [hxt] at hj1 hj3;rw [hxs] at hj2;rw [hxD] at hj3;obtain ⟨hf2, -⟩:=hfit jm hj1 hj2 hj3))|(refine bQ0 35 ?_;(refine bR9 im jm hf1 hf2 aH aH ⟨hi1'.trans hj1.symm,hi2'.trans hj2.symm,hi3'.trans hj3.symm⟩ ?_))|(refine bQ0 37 ?_;(refine cQ1 (.pointer (some ⟨z1.bm,0,none⟩)) ?_;refine hs1 _ _ _ rfl (by repeat (first|exact Take.nil|(with_reducible apply Take.seg;(focus (exact aS)))|(apply Take.cons;(focus (exact aT)))|(apply Take.last;(focus (exact aS))))) aH (fun w hw=>Exists.elim (bF6 (f:=bQ6) (l:=I) (k:=1) (p:=pi) (n:=I.length) (cap:=ci) (e:=3) hw aH (fun _=>rfl) rfl) fun b hb=>⟨b,0,hb.1,hb.2⟩) ?_;intro n1 hn1 pa ca hpa))|(refine bQ0 30 ?_;(refine hsv _ _ _ rfl aS aH (fun w hw=>Exists.elim (bF6 (f:=bQ6) (l:=I) (k:=1) (p:=pi) (n:=I.length) (cap:=ci) (e:=3) (S:=bM7 x) hw aH (fun _=>rfl) rfl) fun b hb=>⟨b,0,hb.1,hb.2⟩) ?_;intro pb cb hpb))|(refine bQ0 26 ?_;(refine cQ0 (.slice pb P.length cb) ?_;refine bQ2 (fun w' hw'=>Exists.elim (Sl.own (f:=bQ6) (l:=P) (p:=pa) (k:=1) hw' aT (fun _=>rfl) rfl) fun ba ha=>Exists.elim (Sl.own (f:=bQ6) (l:=P) (p:=pb) (k:=1) hw' aT (fun _=>rfl) rfl) fun bb hb=>heq P P hsp hsp pa ca ba 0 pb cb bb 0 w' ha hb) ?_;rintro r hr;obtain rfl:r=true:=hr.2 rfl;clear hr))|(refine bQ0 36 ?_;(refine hld im hti hi2' hi3' hro (by repeat (first|exact Take.nil|(with_reducible apply Take.seg;(focus (exact aS)))|(apply Take.cons;(focus (exact aT)))|(apply Take.last;(focus (exact aS))))) aH aH ?_))|(refine bQ0 37 ?_;(refine cQ1 (.pointer (some ⟨z2.bm,0,none⟩)) ?_;refine hs2 _ _ _ rfl (by repeat (first|exact Take.nil|(with_reducible apply Take.seg;(focus (exact aS)))|(apply Take.cons;(focus (exact aT)))|(apply Take.last;(focus (exact aS))))) aH (fun w hw=>Exists.elim (bF6 (f:=bQ6) (l:=I) (k:=1) (p:=pi) (n:=I.length) (cap:=ci) (e:=3) hw aH (fun _=>rfl) rfl) fun b hb=>⟨b,0,hb.1,hb.2⟩) ?_;intro n2 hn2 pc2 cc2 hpc2))|(refine bQ0 26 ?_;(refine cQ0 (.slice pc2 P.length cc2) ?_;refine bQ2 (fun w' hw'=>Exists.elim (Sl.own (f:=bQ6) (l:=P) (p:=pa) (k:=1) hw' aT (fun _=>rfl) rfl) fun ba ha=>Exists.elim (Sl.own (f:=bQ6) (l:=P) (p:=pc2) (k:=1) hw' aT (fun _=>rfl) rfl) fun bb hb=>heq P P hsp hsp pa ca ba 0 pc2 cc2 bb 0 w' ha hb) ?_;rintro r hr;obtain rfl:r=true:=hr.2 rfl;clear hr))|(refine VSeq.go ?_)|(refine VB.is ?_;refine bX5 (by omega) fun _=>?_)|(refine VB.is ?_;refine bZ2 (by omega) fun _=>?_)|(refine VLd.is ?_;refine VLd.mk (.row aT (by rfl)) ?_)|(refine VSt.is ?_;refine VSt.row aT (by rfl) (by first|rfl|assumption) ?_)|(refine VNew.mk fun _=>?_)|(refine VAr.is ?_;refine oA ?_)|(refine VM.is ?_;refine oM ?_)
    all_goals (conv=>whnf)
    refine VNext.mk (t+1,n1,bJ1 x I,n2) ⟨by dsimp only;omega,hn1,hnx,fun _=>hn2,fun h=>absurd h (by dsimp only;omega)⟩ (by dsimp only;omega) aE (by dsimp only;rw [hn2.tick];exact aH)
   ·have hm4:=hm2 (by omega)
    have hs2:=fun {w0:World} {M:List Nat} {H R:HP} {K:Value->HP->Prop}=>hs2' m2 hm4 (w0:=w0) (M:=M) (H:=H) (R:=R) (K:=K)
    rw [hm4.tick]
    repeat' (conv=>whnf);first|(refine bQ0 31 ?_;(refine bQ2 (fun w' hw'=>hi1 w' (h2.keep hw' (by simp))) ?_;rintro ⟨pi,ci⟩ _;dsimp only))|(refine bQ0 33 ?_;(refine bQ2 (fun w' hw'=>hia w' (MacRd.of hz1 hm1 hw' aH)) ?_;rintro im ⟨hi1',hi2',hi3'⟩;obtain ⟨hf1,hro⟩:=hfit im hi1' hi2' hi3';have hti:=hi1'))|(refine bQ0 34 ?_;(refine bQ2 (fun w' hw'=>dP6 x hx.run w' (SimRd.of hw' aH)) ?_;rintro jm ⟨hj1,hj2,hj3⟩;rw [hxt] at hj1 hj3;rw [hxs] at hj2;rw [hxD] at hj3;obtain ⟨hf2, -⟩:=hfit jm hj1 hj2 hj3))|(refine bQ0 35 ?_;(refine bR9 im jm hf1 hf2 aH aH ⟨hi1'.trans hj1.symm,hi2'.trans hj2.symm,hi3'.trans hj3.symm⟩ ?_))|(refine bQ0 37 ?_;(refine cQ1 (.pointer (some ⟨z1.bm,0,none⟩)) ?_;refine hs1 _ _ _ rfl (by repeat (first|exact Take.nil|(with_reducible apply Take.seg;(focus (exact aS)))|(apply Take.cons;(focus (exact aT)))|(apply Take.last;(focus (exact aS))))) aH (fun w hw=>Exists.elim (bF6 (f:=bQ6) (l:=I) (k:=1) (p:=pi) (n:=I.length) (cap:=ci) (e:=3) hw aH (fun _=>rfl) rfl) fun b hb=>⟨b,0,hb.1,hb.2⟩) ?_;intro n1 hn1 pa ca hpa))|(refine bQ0 30 ?_;(refine hsv _ _ _ rfl aS aH (fun w hw=>Exists.elim (bF6 (f:=bQ6) (l:=I) (k:=1) (p:=pi) (n:=I.length) (cap:=ci) (e:=3) (S:=bM7 x) hw aH (fun _=>rfl) rfl) fun b hb=>⟨b,0,hb.1,hb.2⟩) ?_;intro pb cb hpb))|(refine bQ0 26 ?_;(refine cQ0 (.slice pb P.length cb) ?_;refine bQ2 (fun w' hw'=>Exists.elim (Sl.own (f:=bQ6) (l:=P) (p:=pa) (k:=1) hw' aT (fun _=>rfl) rfl) fun ba ha=>Exists.elim (Sl.own (f:=bQ6) (l:=P) (p:=pb) (k:=1) hw' aT (fun _=>rfl) rfl) fun bb hb=>heq P P hsp hsp pa ca ba 0 pb cb bb 0 w' ha hb) ?_;rintro r hr;obtain rfl:r=true:=hr.2 rfl;clear hr))|(refine bQ0 37 ?_;(refine cQ1 (.pointer (some ⟨z2.bm,0,none⟩)) ?_;refine hs2 _ _ _ rfl (by repeat (first|exact Take.nil|(with_reducible apply Take.seg;(focus (exact aS)))|(apply Take.cons;(focus (exact aT)))|(apply Take.last;(focus (exact aS))))) aH (fun w hw=>Exists.elim (bF6 (f:=bQ6) (l:=I) (k:=1) (p:=pi) (n:=I.length) (cap:=ci) (e:=3) hw aH (fun _=>rfl) rfl) fun b hb=>⟨b,0,hb.1,hb.2⟩) ?_;intro n2 hn2 pc2 cc2 hpc2))|(refine bQ0 26 ?_;(refine cQ0 (.slice pc2 P.length cc2) ?_;refine bQ2 (fun w' hw'=>Exists.elim (Sl.own (f:=bQ6) (l:=P) (p:=pa) (k:=1) hw' aT (fun _=>rfl) rfl) fun ba ha=>Exists.elim (Sl.own (f:=bQ6) (l:=P) (p:=pc2) (k:=1) hw' aT (fun _=>rfl) rfl) fun bb hb=>heq P P hsp hsp pa ca ba 0 pc2 cc2 bb 0 w' ha hb) ?_;rintro r hr;obtain rfl:r=true:=hr.2 rfl;clear hr))|(refine VSeq.go ?_)|(refine VB.is ?_;refine bX5 (by omega) fun _=>?_)|(refine VB.is ?_;refine bZ2 (by omega) fun _=>?_)|(refine VLd.is ?_;refine VLd.mk (.row aT (by rfl)) ?_)|(refine VSt.is ?_;refine VSt.row aT (by rfl) (by first|rfl|assumption) ?_)|(refine VNew.mk fun _=>?_)|(refine VAr.is ?_;refine oA ?_)|(refine VM.is ?_;refine oM ?_)
    all_goals (conv=>whnf)
    refine VNext.mk (t+1,n1,bJ1 x I,n2) ⟨by dsimp only;omega,hn1,hnx,fun _=>hn2,fun h=>absurd h (by dsimp only;omega)⟩ (by dsimp only;omega) aE (by dsimp only;rw [hn2.tick];exact aH)
 ·repeat' (conv=>whnf);first|(refine bQ0 12 ?_;(refine bQ4 (fun w' _=>bS6 w') ?_))|(refine VSeq.go ?_)|(refine VB.is ?_;refine bZ2 (by omega) fun _=>?_)|(refine VLd.is ?_;refine VLd.mk (.row aT (by rfl)) ?_)
  all_goals (conv=>whnf)
  exact ⟨fun w' hw'=>⟨rfl,hw'.le .nil⟩⟩
theorem fK7 (Y:CsX)(w:World)(hY:CsRd Y w)(other:List Int)(how:∀k∈other,I64 k)(po:Option Addr)(co bo oo:Nat)(ho:Sl w bQ6 1 other po other.length bo oo)(st:Nat)(hst:st<256):
  Calls Tryz.prog 8 #[.agg Y.v.toArray,.slice po other.length co,.int .u8 (st:Int)] w fun e w'=>e=.returned (.bool true)/\St w [] [] w':=by
 by_cases hg:¬(hT6 Y/\bH8 Y.X.N Y.X.C Y.cores Y.l Y.ticks=0)\/100<other.length\/Y.ticks<1
 ·exact fK6 Y w hY other po co st hst hg
 ·have h1:hT6 Y/\bH8 Y.X.N Y.X.C Y.cores Y.l Y.ticks=0:=Classical.not_not.1 fun h=>hg (.inl h)
  exact fN5 Y w hY h1.1 h1.2 other how po co bo oo ho (Nat.le_of_not_lt fun h=>hg (.inr (.inl h))) st hst (by
   have:=fun h=>hg (.inr (.inr h))
   omega)
end Go.Proofs
