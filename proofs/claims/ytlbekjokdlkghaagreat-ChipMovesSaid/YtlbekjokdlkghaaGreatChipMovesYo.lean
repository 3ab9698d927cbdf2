import Derived.Test.YtlbekjokdlkghaaGreatChipMovesYh
import Derived.Test.YtlbekjokdlkghaaGreatChipMovesYk
set_option linter.unusedVariables false
set_option linter.unusedSimpArgs false
set_option maxHeartbeats 4000000
section
namespace Go.Gm
open Go.Proofs
def fK4 (l:List Evt):Prop:=l.Pairwise fun a b=>a.tick<=b.tick
def bV0 (l:List Evt)(t:Int):List Int:=(l.filter fun e=>decide (e.tick=t)).map (·.id)
def gC3 (l:List Evt)(t:Int):Nat:=l.countP fun e=>decide (e.tick<t)
theorem kR9 (l:List Evt)(t:Int):gC3 l t<=l.length:=qT ..
theorem fX3 {t:Int}:∀{l:List Evt} (hs:fK4 l) {i:Nat} {e:Evt},l[i]? =some e->(i<gC3 l t<->e.tick<t)
 |[],_,_,_,h=>by simp at h
 |a::l,hs,i,e,h=>by
  have hs2:=List.pairwise_cons.1 hs
  by_cases ha:a.tick<t
  ·have hlo:gC3 (a::l) t=gC3 l t+1:=by unfold gC3;rw [List.countP_cons_of_pos (by simpa using ha)]
   cases i with
   |zero=>
    simp only [QX,qK] at h
    subst h
    rw [hlo]
    exact ⟨fun _=>ha,fun _=>by omega⟩
   |succ i=>
    simp only [Qv] at h
    rw [hlo,<-fX3 hs2.2 h]
    omega
  ·have hall:∀x∈a::l,¬x.tick<t:=fun x hx=>by
    rcases qQ.1 hx with rfl|hx
    ·exact ha
    ·have:=hs2.1 x hx;omega
   have hlo:gC3 (a::l) t=0:=by
    unfold gC3
    rw [List.countP_eq_zero]
    intro x hx
    simpa using hall x hx
   have:=hall e (qz h)
   rw [hlo]
   omega
theorem kS9 {l:List Evt}{t:Int}(hs:fK4 l){k:Nat}(h1:gC3 l t<=k)(h2:k<=l.length)(hmid:∀(i:Nat) (e:Evt),gC3 l t<=i->i<k->l[i]? =some e->e.tick=t)(hend:∀e,l[k]? =some e->e.tick≠t):
  ((l.drop (gC3 l t)).take (k - gC3 l t)).map (·.id)=bV0 l t:=by
 obtain ⟨lo,hlo⟩:=gX (gC3 l t)
 have hiff:=fun {i:Nat} {e:Evt} h=>fX3 (t:=t) hs (i:=i) (e:=e) h
 rw [hlo] at h1 hmid hiff ⊢
 have hl:l=l.take lo++((l.drop lo).take (k - lo)++l.drop k):=by
  have e1:l.drop k=(l.drop lo).drop (k - lo):=by rw [List.drop_drop];congr 1;omega
  rw [e1,QJ,QJ]
 have f1:(l.take lo).filter (fun e=>decide (e.tick=t))=[]:=by
  rw [List.filter_eq_nil_iff]
  intro e he
  obtain ⟨i,hi⟩:=jh he
  rw [Qt] at hi
  split at hi
  ·rename_i hlt
   have:=(hiff hi).1 hlt
   simp;omega
  ·cases hi
 have f2:((l.drop lo).take (k - lo)).filter (fun e=>decide (e.tick=t))=(l.drop lo).take (k - lo):=by
  rw [List.filter_eq_self]
  intro e he
  obtain ⟨i,hi⟩:=jh he
  rw [Qt] at hi
  split at hi
  ·rename_i hlt
   rw [Qy] at hi
   simpa using hmid (lo+i) e qZ qZ hi
  ·cases hi
 have f3:(l.drop k).filter (fun e=>decide (e.tick=t))=[]:=by
  rw [List.filter_eq_nil_iff]
  intro e he
  obtain ⟨i,hi⟩:=jh he
  rw [Qy] at hi
  have hk:k<l.length:=by have:=(qx.1 hi).1;omega
  obtain ⟨a,ha⟩:∃a,l[k]? =some a:=⟨_,qq hk⟩
  have h3:=hend a ha
  have h4:¬a.tick<t:=fun h=>by have:=(hiff ha).2 h;omega
  have h5:a.tick<=e.tick:=by
   rcases Nat.eq_zero_or_pos i with h0|h0
   ·subst h0
    rw [Nat.add_zero,ha] at hi
    cases hi;omega
   ·obtain ⟨q1,rfl⟩:=qx.1 ha
    obtain ⟨q2,rfl⟩:=qx.1 hi
    exact List.pairwise_iff_getElem.1 hs k (k+i) q1 q2 qZ
  simp;omega
 unfold bV0
 conv=>rhs;rw [hl]
 rw [Qa,Qa,f1,f2,f3,Qc,qC]
theorem EvOk.asc {inputs limit:Int}{l:List Evt}(h:EvOk inputs limit l):fK4 l:=h.sorted.imp fun {a b} hab=>by
 unfold gH1 at hab
 omega
theorem EvOk.ins {inputs limit:Int}{l:List Evt}(h:EvOk inputs limit l)(t:Int):(bV0 l t).Pairwise (· <·)/\(∀k∈bV0 l t,0<=k/\k<inputs)/\(bV0 l t).length<=65536:=by
 refine ⟨?_,fun k hk=>?_,?_⟩
 ·unfold bV0
  rw [List.pairwise_map]
  refine List.Pairwise.imp_of_mem (fun {a b} ha hb hab=>?_) (h.sorted.filter _)
  rw [qP,jy] at ha hb
  unfold gH1 at hab
  omega
 ·unfold bV0 at hk
  obtain ⟨e,he,rfl⟩:=qo.1 hk
  exact (h.range e (qP.1 he).1).2
 ·unfold bV0
  rw [qv]
  exact Qb (qD _ _) h.few
section
variable (N : Net) (C : Chp) (cores : List Int)
def lJ9 (t:Nat)(x:Sm×Wrk)(ins:List Int):Sm×Wrk:=(bP3 (cP8 N C) t x.1 ins,lW0 N C cores x.2 (bD3 (cP8 N C) t x.1).length (bJ8 N (bD3 (cP8 N C) t x.1) ins))
def gM3 (l:List Evt):Nat->Sm×Wrk
 |0=>(sm0 (cP8 N C),hR6)
 |t+1=>lJ9 N C cores t (gM3 l t) (bV0 l (t:Int))
def dL9 (l:List Evt)(t:Nat):List Int:=bD3 (cP8 N C) t (gM3 N C cores l t).1
def bG2 (l:List Evt):Nat->List Evt
 |0=>[]
 |t+1=>bG2 l t++(dL9 N C cores l t).map fun i=>⟨(t:Int),i⟩
end
structure MacAt (N:Net) (C:Chp) (cores:List Int) (x:MacX) (l:List Evt) (t:Nat) (m:Mac):Prop where
 go:MacGo N C x m
 tick:m.t=t
 sm:smC m.cs=(gM3 N C cores l t).1
 wrk:m.w=(gM3 N C cores l t).2
theorem MacAt.spk {N:Net}{C:Chp}{cores:List Int}{x:MacX}{l:List Evt}{t:Nat}{m:Mac}(h:MacAt N C cores x l t m):bZ0 m=dL9 N C cores l t:=by
 rw [fB1 (C:=C) h.go.ok,h.tick,h.sm]
 rfl
theorem MacAt.step {N:Net}{C:Chp}{cores:List Int}{x:MacX}{l:List Evt}{t:Nat}{m:Mac}(hA:AsgOk N C cores)(h:MacAt N C cores x l t m)(ht:t<10000){inputs limit:Int}(hl:EvOk inputs limit l):MacAt N C cores x l (t+1) (bH4 N C cores m (bV0 l (t:Int))):=by
 obtain ⟨h1,h2,_⟩:=hl.ins (t:Int)
 have h3:∀k∈bV0 l (t:Int),0<=k:=fun k hk=>(h2 k hk).1
 refine ⟨h.go.step hA (by rw [h.tick];exact ht) h1 h3,by show m.t+1=t+1;rw [h.tick],?_,?_⟩
 ·rw [gG5 hA h.go.ok h1 h3,h.tick,h.sm]
  rfl
 ·show lW0 N C cores m.w (bZ0 m).length (bJ8 N (bZ0 m) (bV0 l (t:Int)))=_
  rw [h.spk,h.wrk]
  rfl
theorem MacAt.spk_few {N:Net}{C:Chp}{cores:List Int}{x:MacX}{l:List Evt}{t:Nat}{m:Mac}(hA:AsgOk N C cores)(h:MacAt N C cores x l t m):(dL9 N C cores l t).length<=1024/\∀k∈dL9 N C cores l t,0<=k/\k<N.ps.length:=by
 rw [<-h.spk]
 refine ⟨?_,fun k hk=>cV8 h.go.ok hk⟩
 have h10:=bB5 (cF m.t m.cs) (cF m.t m.cs).length
 rw [Qk,fM4,h.go.ok.len] at h10
 have:=hA.plan.net.few
 show (Go.Gm.spk (cF m.t m.cs)).length<=1024
 omega
end Go.Gm
namespace Go.Proofs
open Go Go.Vx Go.Gm
theorem hY5 {N:Net}{C:Chp}{cores:List Int}(hA:AsgOk N C cores){z:NewZ}(h:NewIs N C cores z)(l:List Evt):MacAt N C cores (bC3 N C cores z) l 0 (lC0 z):=by
 have hzl:(bX2 N (bW6 C.bits)).length=N.ps.length:=by unfold bX2;simp
 have hps:z.cs.map (·.p)=N.ps:=by
  apply qp
  intro i
  rw [qj]
  cases hc:z.cs[i]? with
  |none=>rw [qf (by rw [<-h.cl];exact jz.1 hc)];rfl
  |some c=>
   have h1:=h.cell i c hc
   have h2:=(qx.1 hc).1
   rw [h.cl] at h2
   rw [h1,qq h2]
   rfl
 have hzs:z.cs.map (·.z)=bX2 N (bW6 C.bits):=by
  apply qp
  intro i
  rw [qj]
  cases hc:z.cs[i]? with
  |none=>rw [qf (by rw [hzl,<-h.cl];exact jz.1 hc)];rfl
  |some c=>
   have h1:=h.cell i c hc
   have h2:=(qx.1 hc).1
   rw [h.cl,<-hzl] at h2
   rw [h1,qq h2]
   rfl
 have hd:cS8 z.cs:=fun c hc=>by
  obtain ⟨i,hi⟩:=jh hc
  rw [h.cell i c hi]
  exact Qn
 have hsm:smC z.cs=sm0 (cP8 N C):=by
  unfold smC sm0
  have e1:z.cs.map (·.s)=List.replicate N.ps.length ⟨0,0⟩:=by
   apply qp
   intro i
   rw [qj,QB]
   cases hc:z.cs[i]? with
   |none=>rw [jk (by have:=jz.1 hc;rw [h.cl] at this;omega)];rfl
   |some c=>
    have h2:=(qx.1 hc).1
    rw [h.cl] at h2
    rw [jw h2,h.cell i c hc];rfl
  have e2:(List.range 16).map (cF9 z.cs)=List.replicate 16 (List.replicate N.ps.length 0):=by
   apply qp
   intro j
   rw [qj,QB]
   rcases qy j 16 with hj|hj
   ·rw [qX hj,jw hj,qV]
    congr 1
    unfold cF9
    apply qp
    intro i
    rw [qj,QB]
    cases hc:z.cs[i]? with
    |none=>rw [jk (by have:=jz.1 hc;rw [h.cl] at this;omega)];rfl
    |some c=>
     have h2:=(qx.1 hc).1
     rw [h.cl] at h2
     rw [jw h2,h.cell i c hc,qV]
     dsimp only
     rw [QB,jw hj];rfl
   ·rw [qf (by simpa using hj),jk qZ];rfl
  show Sm.mk _ _=Sm.mk _ _
  rw [e1,e2]
  rfl
 refine ⟨⟨⟨hps,hd,fun i c hc=>by rw [h.cell i c hc]⟩,rfl,hzs,fun c hc=>?_,qB _,?_⟩,rfl,hsm,rfl⟩
 ·obtain ⟨i,hi⟩:=jh hc
  have hp:ParOk c.p:=hA.plan.net.ps c.p (by rw [<-hps];exact qN (f:=(·.p)) hc)
  rw [h.cell i c hi] at hp ⊢
  dsimp only at hp ⊢
  have:=hp.fl
  have:=hp.rest
  unfold bD9
  dsimp only
  omega
 ·unfold Wrk.few lC0 hR6
  dsimp only
  omega
theorem kV0 (R:List KRow)(k:Int):(∃r∈R,bZ4 (R.map krM) k=some (krV r)/\kl R k=r.l)\/(bZ4 (R.map krM) k=none/\kl R k=[]):=by
 induction R with
 |nil=>exact .inr ⟨rfl,rfl⟩
 |cons z R ih=>
  by_cases h:z.key=k
  ·exact .inl ⟨z,by simp,by simp [bZ4,krM,h],by simp [kl,h]⟩
  ·rcases ih with ⟨r,h1,h2,h3⟩|⟨h2,h3⟩
   ·exact .inl ⟨r,by simp [h1],by simpa [bZ4,krM,h] using h2,by simpa [kl,h] using h3⟩
   ·exact .inr ⟨by simpa [bZ4,krM,h] using h2,by simpa [kl,h] using h3⟩
theorem hG1 {x:Ent}{S R:HP}(h:x∈R):HLe (x::S) (S++R):=by
 obtain ⟨s,t,rfl⟩:=List.append_of_mem h
 refine bN6 (s++t) ((QN S List.perm_middle).trans ?_)
 rw [Qw]
 exact List.perm_middle
theorem _root_.Go.Vx.St.outV {α:Type}{f:α->List Value}{k:Nat}{l:List α}{w0 w:World}{M:List Nat}{S R:HP}(hs:St w0 M (S++R) w){p:Option Addr}{n cap e:Nat}(hm:Ent.vec p n cap e k (bQ1 f l)∈R)(hk:∀x,(f x).length=k)(hl:l.length=n):∃b,Sl w f k l p n b 0/\b∉ids S:=bF6 hs (hG1 hm) hk hl
theorem _root_.Go.Vx.St.outI {w0 w:World}{M:List Nat}{S R:HP}(hs:St w0 M (S++R) w){x:Ent}(hm:x∈R){b:Nat}(hb:x.id=some b):b∉ids S:=
 hs.apartS (S:=S) (Z:=fun S'=>S'++R) .here (x:=x) (by simpa using hm) hb
theorem kP0 {N:Net}{C:Chp}{cores:List Int}(hA:AsgOk N C cores)(hen:∀t∈bK9 N C cores,(t.length:Int)<=C.en){z:NewZ}(h:NewIs N C cores z){w0 w:World}{M:List Nat}{S:HP}(hs:St w0 M (S++cM7 N C cores z) w):MacIn w (ids S) N C cores (bC3 N C cores z):=by
 have hn:=bX6 hA.plan.chip
 have htl:z.y.tt.length=bX1 C:=by
  have:=congrArg List.length h.map.tabs
  rw [qv] at this
  rw [this]
  unfold bK9
  rw [qv,Qg]
 have hown:=fun (x:Ent) (hx:x∈cM7 N C cores z)=>hs.own x (QT _ hx)
 have m1:Ent.map z.kb (kmF 0 (z.K.map (·.b)))∈cM7 N C cores z:=by unfold cM7;exact qg
 have m2:Ent.vec (some ⟨z.cb,0,none⟩) N.ps.length z.cc 212 1 (bQ1 cpV (z.cs.map (·.b)))∈cM7 N C cores z:=by unfold cM7;exact qu _ qg
 have m3:Ent.vec z.sp (bX0 N).length z.sc 217 3 (bQ1 kB4 (dD3 N C cores))∈cM7 N C cores z:=by unfold cM7;exact qu _ (qu _ qg)
 have mK:∀x,x∈z.K.map fV4\/x∈z.K.map fV3\/x∈z.K.map fV5\/x∈z.K.flatMap fD0\/x∈hyR N C cores z.y->x∈cM7 N C cores z:=fun x hx=>by
  unfold cM7
  simp only [qQ,qH]
  rcases hx with hx|hx|hx|hx|hx<;>simp [hx]
 have hcbM:=hs.outI m2 (b:=z.cb) rfl
 refine ⟨?_,⟨bZ1 hs (QT _ m2) oR (by show (z.cs.map (·.b)).length=N.ps.length;rw [qv,h.cl]),hcbM⟩,hs.outV m3 oR (by unfold dD3;rw [qv]),?_,h.map.tabs,?_,?_,hen,⟨kmF 0 (z.K.map fun k:CorM=>k.b),⟨?_,?_⟩,?_⟩⟩
 ·show (z.cs.map (·.b)).length=N.ps.length
  rw [qv,h.cl]
 ·exact hs.outV (mK (.vec z.y.pw (bV2 N) z.y.cw 3 1 (bQ1 bQ6 (hS0 N C cores))) (.inr (.inr (.inr (.inr (by simp [hyR])))))) oR oU
 ·show∃g,Sl w erV 1 z.y.tt z.y.pt z.y.tt.length g 0/\g∉ids S
  rw [htl]
  exact hs.outV (mK (.vec z.y.pt (bX1 C) z.y.ct 178 1 (bQ1 erV z.y.tt)) (.inr (.inr (.inr (.inr (by simp [hyR])))))) oR htl
 ·intro q hq
  exact hs.outV (mK (erE q) (.inr (.inr (.inr (.inr (by unfold hyR;simp only [qQ];exact .inr (.inr (.inr (.inr (.inr (.inr (.inr (.inr (qN hq)))))))))))))) oR rfl
 ·exact hown _ m1
 ·exact hs.outI m1 rfl
 ·intro r hr
  obtain ⟨k,hk⟩:∃k,z.K[r]? =some k:=⟨_,qq (by rw [h.len];exact hr)⟩
  have hkm:=qz hk
  obtain ⟨e1,e2,e3,e4⟩:=h.core r k hk
  have hg:=gQ3 (z.K.map (·.b)) 0 r k.b (by rw [qj,hk];rfl)
  rw [Qo] at hg
  have mr:fV4 k∈cM7 N C cores z:=mK _ (.inl (qN hkm))
  have mv:fV3 k∈cM7 N C cores z:=mK _ (.inr (.inl (qN hkm)))
  have mm:fV5 k∈cM7 N C cores z:=mK _ (.inr (.inr (.inl (qN hkm))))
  have hkl:k.l.length=(bH5 cores (r:Int)).length:=by rw [e1,qv]
  refine ⟨k.b,hg,hs.outI mr rfl,?_⟩
  obtain ⟨gv,hv1,hv2⟩:=hs.outV (f:=cpV) (l:=k.l) mv oR rfl
  refine ⟨k.p,k.c,k.mb,gv,k.R.map krM,?_,⟨?_,hv2⟩,⟨hown _ mm,hs.outI mm rfl⟩,fun key=>?_⟩
  ·have hc:=Cells.own hs (QT _ mr)
   rw [hkl] at hc
   exact hc
  ·show Sl w cpV 1 ((bH5 cores (r:Int)).map fun i=>((z.cs.map (·.b))[i]?).getD 0) k.p (bH5 cores (r:Int)).length gv 0
   rw [<-e1,<-hkl]
   exact hv1
  ·rcases kV0 k.R key with ⟨q,hq,h1,h2⟩|⟨h1,h2⟩
   ·obtain ⟨g,hg1,hg2⟩:=hs.outV (f:=rwV) (l:=q.l) (mK (krE q) (.inr (.inr (.inr (.inl (QG.2 ⟨k,hkm,qN hq⟩)))))) oR rfl
    refine ⟨q.p,q.cap,g,.inl ?_,?_,hg2⟩
    ·rw [<-e2 key,h2];exact h1
    ·rw [<-e2 key,h2];exact hg1
   ·refine ⟨none,0,z.cb,.inr ⟨h1,?_⟩,?_,hcbM⟩
    ·rw [<-e2 key,h2];rfl
    ·rw [<-e2 key,h2];exact .nil (.inl rfl)
end Go.Proofs
end

section
namespace Go.Proofs
open Go Go.Vx Go.Gm
theorem kV9 (l:List Evt)(hl:∀e∈l,0<=e.tick/\e.tick<=65536)(hlen:l.length<=1000000)(hs:fK4 l)(t:Int)(ht:0<=t/\t<=65536)(p:Option Addr)(c b o:Nat)(w:World)(h1:Sl w cP1 2 l p l.length b o):
  Calls Tryz.prog 72 #[.slice p l.length c,.int .i64 t] w fun e w'=>∃y:Option Addr×Nat,e=.returned (.slice y.1 (bV0 l t).length y.2)/\(0<(bV0 l t).length->∃g,y.1=some ⟨g,0,none⟩)/\St w [] [.vec y.1 (bV0 l t).length y.2 3 1 (bQ1 bQ6 (bV0 l t))] w':=by
 have hlo:=kR9 l t
 have hiff:=fun {i:Nat} {e:Evt} h=>fX3 (t:=t) hs (i:=i) (e:=e) h
 have hcut:=fun {k:Nat} a b c d=>kS9 (t:=t) hs (k:=k) a b c d
 obtain ⟨lo,hloe⟩:=gX (gC3 l t)
 rw [hloe] at hlo hiff hcut
 refine enter (C:=Tryz.cx) (F:=mG9) (args:=[_,_]) Tryz.func72 rfl rfl rfl ok72 (St.start w []) ?_
 repeat' (conv=>whnf);first|(refine bQ0 130 ?_;refine VCall.inl (F:=lP3) Tryz.func130 rfl rfl rfl mX4 ?_)|refine VSeq.go ?_
 all_goals (conv=>whnf)
 refine VLoop.mk (α:=Nat×Nat) (fun z=>z.1<=lo/\lo<=z.2/\z.2<=l.length) (fun z=>[(1000000,.tuple #[]),(0,.slice p l.length c),(1,.int .i64 t),(2,.func (.func 131) #[] #[]),(6,.int .i64 0),(7,.bool false),(8,.int .i64 (l.length:Int)),(9,.int .i64 (z.1:Int)),(10,.int .i64 (z.2:Int))])
  (fun _=>[]) (fun z=>z.2 - z.1) (0,l.length) ⟨qB _,hlo,qA _⟩ aE aH ?_
 rintro ⟨i,j⟩ ⟨h2,h3,h4⟩
 dsimp only at h2 h3 h4 ⊢
 rcases qy i j with hlt|hge
 ·obtain ⟨e,he⟩:=h1.get (by omega:(i+j) / 2<l.length)
  have hee:=hl e (qz he)
  have hife:=hiff he
  repeat' (conv=>whnf);first|(refine VIx.is ?_;refine VIx.mk (h1.ptr qZ) qZ qZ ?_)|(refine VLd.is ?_;refine oC (h1.rd0 oU oR he rfl) ?_)|(refine bQ0 131 ?_;refine VCall.inl (F:=kL5) Tryz.func131 rfl rfl rfl lK9 ?_)|(refine VAr.is ?_;refine cC6 qZ qZ fun c hc=>?_;obtain rfl:c=i+j:=qZ)|(refine VShR.is ?_;refine bM6 1 qZ fun c hc hle=>?_;obtain rfl:c=(i+j) / 2:=qZ)|refine VSeq.go ?_|refine oY fun _=>?_|refine oS (fun _=>?_) fun _=>?_|refine oL ?_|refine oV fun _=>?_|refine oA ?_
  all_goals (conv=>whnf)
  ·exact VNext.mk ((i+j) / 2+1,j) ⟨by dsimp only;omega,by dsimp only;omega,by dsimp only;omega⟩ (by dsimp only;omega) aE aH
  ·exact VNext.mk (i,(i+j) / 2) ⟨by dsimp only;omega,by dsimp only;omega,by dsimp only;omega⟩ (by dsimp only;omega) aE aH
 have hi:lo=i:=by omega
 have hj:lo=j:=by omega
 subst hi
 subst hj
 rcases qy lo l.length with hll|hll
 rotate_left
 ·have hle2:lo=l.length:=by omega
  have hfin:=hcut (qA _) hlo (fun i e h5 h6=>absurd h6 qZ) (fun y hy=>by rw [hle2,qf (qA _)] at hy;cases hy)
  rw [jx,QU,QA] at hfin
  repeat' (conv=>whnf);first|refine VSeq.go ?_|refine oN fun _=>?_
  all_goals (conv=>whnf)
  refine VLoop.mk (α:=Nat) (fun _=>True) (fun _=>[(1000000,.tuple #[]),(0,.slice p l.length c),(1,.int .i64 t),(4,.slice none 0 0),(5,.int .i64 (lo:Int)),(7,.slice none 0 0)]) (fun _=>[]) (fun _=>0) 0 trivial aE aH ?_
  rintro _ _
  repeat' (conv=>whnf);first|refine VSeq.go ?_|refine oN fun _=>?_
  all_goals (conv=>whnf)
  rw [<-hfin]
  exact ⟨fun w' hw'=>⟨(none,0),rfl,fun h=>absurd h oU,hw'.le (HLe.nilv .nil)⟩⟩
 obtain ⟨e,he⟩:=h1.get hll
 have hee:=hl e (qz he)
 repeat' (conv=>whnf);first|(refine VIx.is ?_;refine VIx.mk (h1.ptr qZ) qZ qZ ?_)|(refine VLd.is ?_;refine oC (h1.rd0 oU oR he rfl) ?_)|(refine bQ0 131 ?_;refine VCall.inl (F:=kL5) Tryz.func131 rfl rfl rfl lK9 ?_)|refine VSeq.go ?_|refine oY fun _=>?_|refine oN fun _=>?_|refine oS (fun _=>?_) fun _=>?_|refine oL ?_|refine oV fun _=>?_|refine oA ?_
 all_goals (conv=>whnf)
 all_goals
  refine VLoop.mk (α:=Nat×Option Addr×Nat) (fun z=>lo<=z.1/\z.1<=l.length/\(∀(i:Nat) (e:Evt),lo<=i->i<z.1->l[i]? =some e->e.tick=t)/\(lo<z.1->∃g,z.2.1=some ⟨g,0,none⟩))
   (fun z=>[(1000000,.tuple #[]),(0,.slice p l.length c),(1,.int .i64 t),(4,.slice none 0 0),(5,.int .i64 (z.1:Int)),(7,.slice z.2.1 (z.1 - lo) z.2.2)])
   (fun z=>[.vec z.2.1 (z.1 - lo) z.2.2 3 1 (bQ1 bQ6 (((l.drop lo).take (z.1 - lo)).map (·.id)))]) (fun z=>l.length - z.1) (lo,none,0) ⟨Nat.le_refl _,hlo,fun i e h5 h6=>absurd h6 (by dsimp only;omega),fun h=>absurd h (by simp)⟩ (by dsimp only;rw [Nat.sub_self];exact aE) ?_ ?_
  ·dsimp only
   rw [jx]
   exact HLe.nilv (HLe.nil)
  rintro ⟨k,q,qc⟩ ⟨hk1,hk2,hk3,hk4⟩
  dsimp only at hk1 hk2 hk3 hk4 ⊢
  have hxx:∀(x:Evt),l[k]? =some x->0<=x.tick/\x.tick<=65536:=fun x h=>hl x (qz h)
  rcases qy k l.length with hkl|hkl
  ·obtain ⟨x,hx⟩:=h1.get hkl
   have hxe:=hxx x hx
   have hxv:sub (cP1 x) 0 1=some [.int .i64 x.tick]:=rfl
   have hxi:sub (cP1 x) 1 1=some [.int .i64 x.id]:=rfl
   by_cases hxt:x.tick=t
   ·have hlen2:((l.drop lo).take (k+1 - lo)).map (fun e=>e.id)=((l.drop lo).take (k - lo)).map (fun e=>e.id)++[x.id]:=by
     rw [show k+1 - lo=(k - lo)+1 by omega,qi,Qy,show lo+(k - lo)=k by omega,hx,qW,ql]
     rfl
    have hl3:(((l.drop lo).take (k - lo)).map fun e=>e.id).length=k - lo:=by
     rw [qv,qh,Qs];omega
    repeat' (conv=>whnf);first|(refine VIx.is ?_;refine VIx.mk (h1.ptr qZ) qZ qZ ?_)|(refine VLd.is ?_;refine oC (h1.rd (o:=0) (s:=1) (by simp) (fun _=>rfl) hx hxv) ?_)|(refine VLd.is ?_;refine oC (h1.rd (o:=1) (s:=1) (by simp) (fun _=>rfl) hx hxi) ?_)|(refine VAp.is ?_;refine VAp.own aT (.at_ (.vec aT rfl)) (by simp [Value.oneCell']) (by (try dsimp only);omega) (by simp only [maxLen];omega) fun p1 c1 hp1=>?_)|refine VSeq.go ?_|refine oY fun _=>?_|refine oV fun _=>?_|refine oA ?_
    all_goals (conv=>whnf)
    refine VNext.mk (k+1,p1,c1) ⟨by dsimp only;omega,by dsimp only;omega,fun i y h5 h6 h7=>?_,fun _=>hp1 qZ⟩ (by dsimp only;omega) (by dsimp only;rw [show k+1 - lo=(k - lo)+1 by omega];exact aE) ?_
    ·rcases qy i k with h8|h8
     ·exact hk3 i y h5 h8 h7
     ·have h9:i=k:=by dsimp only at h6;omega
      subst h9
      rw [hx] at h7
      cases h7
      exact hxt
    ·dsimp only
     rw [hlen2,bQ7,show k+1 - lo=(k - lo)+1 by omega]
     exact aH
   ·have hfin:=hcut hk1 hk2 hk3 (fun y hy=>by rw [hx] at hy;cases hy;exact hxt)
    have hl3:(bV0 l t).length=k - lo:=by
     rw [<-hfin,qv,qh,Qs];omega
    repeat' (conv=>whnf);first|(refine VIx.is ?_;refine VIx.mk (h1.ptr qZ) qZ qZ ?_)|(refine VLd.is ?_;refine oC (h1.rd (o:=0) (s:=1) oU oR hx hxv) ?_)|refine VSeq.go ?_|refine oY fun _=>?_|refine oN fun _=>?_
    all_goals (conv=>whnf)
    rw [hl3,hfin]
    exact ⟨fun w' hw'=>⟨(q,qc),rfl,fun h=>hk4 qZ,hw'⟩⟩
  ·have hke:k=l.length:=by omega
   have hfin:=hcut hk1 hk2 hk3 (fun y hy=>by rw [hke,qf (qA _)] at hy;cases hy)
   have hl3:(bV0 l t).length=k - lo:=by
    rw [<-hfin,qv,qh,Qs];omega
   repeat' (conv=>whnf);first|refine VSeq.go ?_|refine oN fun _=>?_
   all_goals (conv=>whnf)
   rw [hl3,hfin]
   exact ⟨fun w' hw'=>⟨(q,qc),rfl,fun h=>hk4 qZ,hw'⟩⟩
end Go.Proofs
end

section
namespace Go.Gm
open Go.Proofs
def kT2:Par:=⟨0,0,0,1,0,0,0,0⟩
def cJ8 (inputs:Int):Net:=⟨[kT2],inputs,[]⟩
theorem hY6 (inputs:Int)(t:Nat)(ins:List Int):bP3 (cJ8 inputs) t (sm0 (cJ8 inputs)) ins=sm0 (cJ8 inputs)/\bD3 (cJ8 inputs) t (sm0 (cJ8 inputs))=[]:=by
 have hD:(List.replicate 16 (List.replicate 1 (0:Int)))[t%16]? =some [0]:=by
  rw [QB,jw (Nat.mod_lt _ qZ)];rfl
 have hF:fire [kT2] [⟨0,0⟩] [0]=[(⟨0,0⟩,false)]:=rfl
 have h1:fire (cJ8 inputs).ps (sm0 (cJ8 inputs)).sts ((sm0 (cJ8 inputs)).D[t%16]?.getD [])=[(⟨0,0⟩,false)]:=by
  show fire [kT2] [⟨0,0⟩] ((List.replicate 16 (List.replicate 1 (0:Int)))[t%16]?.getD [])=_
  rw [hD]
  exact hF
 have hy:∀l:List Int,bK5 (cJ7 []) l=[]:=fun l=>by
  unfold bK5
  rw [List.flatMap_eq_nil_iff]
  intro x _
  rfl
 have hM:(List.replicate 16 (List.replicate 1 (0:Int))).modify (t%16) (fun l=>List.replicate l.length 0)=List.replicate 16 (List.replicate 1 (0:Int)):=by
  apply qp
  intro i
  rw [qS,QB]
  split
  ·by_cases h:t%16=i<;>simp [h]
  ·simp
 constructor
 ·unfold bP3
  rw [h1]
  show Sm.mk _ ((bK5 (cJ7 []) _).foldl _ ((List.replicate 16 (List.replicate 1 (0:Int))).modify (t%16) (fun l=>List.replicate l.length 0)))=_
  rw [hy,hM]
  rfl
 ·unfold bD3
  rw [h1]
  rfl
theorem fF7 (inputs:Int):∀(n t:Nat) (l:List Evt),bS0 (cJ8 inputs) n t (sm0 (cJ8 inputs)) l []=some []
 |0,_,_=>rfl
 |n+1,t,l=>by
  have h1:=hY6 inputs t ((l.take (bV7 t l)).map fun e=>e.id)
  unfold bS0
  rw [h1.1,h1.2]
  exact fF7 inputs n (t+1) _
theorem kZ9 {inputs ticks:Int}{l:List Evt}(h:bY6 (cJ8 inputs) l ticks 10000=0):bT9 (cJ8 inputs) l ticks=([],0):=by
 unfold bT9
 rw [jk qZ,fF7]
theorem kJ0 {inputs ticks:Int}{l:List Evt}(h:bY6 (cJ8 inputs) l ticks 10000≠0):bT9 (cJ8 inputs) l ticks=([],bY6 (cJ8 inputs) l ticks 10000):=by
 unfold bT9
 rw [jw h]
theorem dC2 (N:Net)(C:Chp)(cores:List Int)(l:List Evt):∀(d t:Nat),(bG2 N C cores l t).length<=(bG2 N C cores l (t+d)).length
 |0,_=>qA _
 |d+1,t=>by
  have:=dC2 N C cores l d t
  have hs:bG2 N C cores l (t+(d+1))=bG2 N C cores l (t+d)++(dL9 N C cores l (t+d)).map fun i=>⟨((t+d:Nat):Int),i⟩:=rfl
  rw [hs,qw]
  omega
def dZ0 (N:Net)(C:Chp)(cores:List Int)(l:List Evt)(T:Nat):Prop:=65536<(bG2 N C cores l T).length
end Go.Gm
namespace Go.Proofs
open Go Go.Vx Go.Gm
theorem dG0 (X:PlnX)(w:World)(hX:PlnRd X w)(cores:List Int)(hcw:∀k∈cores,I64 k)(p:Option Addr)(c b o:Nat)(h1:Sl w bQ6 1 cores p cores.length b o)(he:bV5 X.N X.C cores=0)
  (l:List Evt) (hlw:∀x∈l,x.wf) (pe:Option Addr) (ce be oe:Nat) (h3:Sl w cP1 2 l pe l.length be oe) (hce:l.length<=ce) (T:Nat) (hev:bY6 (cJ8 X.N.inputs) l (T:Int) 10000=0):
  Calls Tryz.prog 47 #[.agg X.net.toArray,.agg (bD5 X.C X.pd X.cd).toArray,.slice p cores.length c,.slice pe l.length ce,.int .i64 (T:Int)] w fun e w'=>
   (dZ0 X.N X.C cores l T->e=.returned (.tuple #[.pointer none,.slice none 0 0,.int .i64 8])/\St w [] [] w')/\
   (¬dZ0 X.N X.C cores l T->∃y:MacX×Option Addr×Nat,e=.returned (.tuple #[.pointer (some ⟨y.1.b,0,none⟩),.slice y.2.1 (bG2 X.N X.C cores l T).length y.2.2,.int .i64 0])/\St w [] (.row y.1.b 135 (bV1 X.N X.C cores y.1 T (gM3 X.N X.C cores l T).2)::[.vec y.2.1 (bG2 X.N X.C cores l T).length y.2.2 67 2 (bQ1 cP1 (bG2 X.N X.C cores l T))]) w'):=by
 have hg:=fun (w':World) h h'=>dK5 X w' h cores hcw p c b o h' he
 obtain ⟨hA,htabs⟩:=bN5 he
 obtain ⟨hok1,hT,hEv⟩:=cK9.1 hev
 have hrr:=kZ9 hev
 have hwf1:(cJ8 X.N.inputs).wf:=by
  refine ⟨fun q hq=>?_,hX.net.inputs,by simp [cJ8]⟩
  have:q=kT2:=by simpa [cJ8] using hq
  subst this
  unfold kT2
  constructor<;>(unfold I64;dsimp only;omega)
 have hrun:=fun (w':World) (g:Nat) (ha:Sl w' bH3 8 (cJ8 X.N.inputs).ps (some ⟨g,0,none⟩) (cJ8 X.N.inputs).ps.length g 0) h3'=>hC6 (cJ8 X.N.inputs) hwf1 l hlw (T:Int) (some ⟨g,0,none⟩) 1 g 0 none 0 0 0 pe ce be oe w' ha (.nil (.inl rfl)) h3' hce
 rw [hrr] at hrun
 have hasc:=hEv.asc
 have hTle:T<=10000:=by omega
 have htk:∀e∈l,0<=e.tick/\e.tick<=65536:=fun e he=>by have:=(hEv.range e he).1;omega
 have hfew:=hEv.few
 have hids:=fun (t:Int) (ht:0<=t/\t<=65536) (w':World) h=>kV9 l htk qZ hasc t ht pe ce be oe w' h
 unfold PlnX.net bD5 at hg
 unfold PlnX.net bD5
 refine enter (C:=Tryz.cx) (F:=lC2) (args:=[_,_,_,_,_]) Tryz.func47 rfl rfl rfl lT1 (St.start w []) ?_
 repeat' (conv=>whnf);first|(refine bQ0 32 ?_;(refine bQ2 (fun w' hw'=>hg w' (hX.keep hw') (h1.keep hw' oU)) ?_;rintro z hz))|(refine bQ0 28 ?_;(refine bQ2 (fun w' hw'=>hrun w' _ (bZ1 (cap:=1) (e:=140) hw' (by exact qg) oR rfl) (h3.keep hw' oU)) ?_;rintro ⟨rq,rc⟩ _))|refine VSeq.go ?_|refine oN fun _=>?_|refine oL ?_|refine oV fun _=>?_
 all_goals (conv=>whnf)
 refine VLoop.mk (α:=Nat×Mac×Option Addr×Nat) (fun y=>y.1<=T/\MacAt X.N X.C cores (bC3 X.N X.C cores z) l y.1 y.2.1/\(bG2 X.N X.C cores l y.1).length<=65536/\(0<(bG2 X.N X.C cores l y.1).length->∃g,y.2.2.1=some ⟨g,0,none⟩))
  (fun y=>[(1000000,.tuple #[]),(3,.slice pe l.length ce),(10,.pointer none),(11,.slice none 0 0),(12,.int .i64 0),(13,.pointer (some ⟨z.bm,0,none⟩)),(17,.slice y.2.2.1 (bG2 X.N X.C cores l y.1).length y.2.2.2),(45,.int .i64 (T:Int)),(46,.int .i64 (y.1:Int))])
  (fun y=>.row z.bm 135 (bV1 X.N X.C cores (bC3 X.N X.C cores z) (y.1) (y.2.1.w))::(y.2.1.cs.map bB6++(.vec y.2.2.1 (bG2 X.N X.C cores l y.1).length y.2.2.2 67 2 (bQ1 cP1 (bG2 X.N X.C cores l y.1))::cM7 X.N X.C cores z))) (fun y=>T - y.1) (0,lC0 z,none,0) ⟨qB _,hY5 hA hz l,qB _,fun h=>absurd h (by simp [bG2])⟩ aE ?_ ?_
 ·have e0:bG2 X.N X.C cores l 0=[]:=rfl
  dsimp only
  rw [e0]
  dsimp only [List.length_nil,cN6]
  refine HLe.trans ?_ (HLe.nilv (e:=67) (size:=2) (.refl _))
  unfold lC0
  dsimp only
  change HLe _ (_::_::_::_::((z.cs.map bB6++cM7 X.N X.C cores z)++_))
  rw [qJ]
  exact aH
 rintro ⟨t,m,q,qc⟩ ⟨ht,hm,hlen,hq⟩
 dsimp only at ht hm hlen hq ⊢
 rcases qy t T with hlt|hge
 ·have hspk:=hm.spk
  have hfewS:=hm.spk_few hA
  have hnx:=hm.step hA (by omega:t<10000) hEv
  obtain ⟨ha1,ha2,ha3⟩:=hEv.ins (t:Int)
  have hmt:=hm.tick
  have hstep:=fun (pi:Option Addr) (ci bi oi:Nat) (w1:World) hs1 hin hx1 hb1=>dF5 X.N X.C cores hA (bC3 X.N X.C cores z) m hm.go (by rw [hmt];omega) (bV0 l (t:Int)) ha3 ha1 (fun k hk=>(ha2 k hk).1) pi ci bi oi w1 hs1 hin hx1 hb1
  rw [hspk] at hstep
  unfold bJ3 at hstep
  rw [hmt] at hstep
  have hmt2:(bH4 X.N X.C cores m (bV0 l (t:Int))).t=t+1:=by show m.t+1=t+1;rw [hmt]
  rw [hmt2] at hstep
  obtain ⟨INS,hINS⟩:=gX (bV0 l (t:Int))
  have hids2:=hids (t:Int) qZ
  rw [hINS] at hstep hids2 hnx
  have hro:bG2 X.N X.C cores l (t+1)=bG2 X.N X.C cores l t++(dL9 X.N X.C cores l t).map fun i=>⟨(t:Int),i⟩:=rfl
  obtain ⟨SP,hSP⟩:=gX (dL9 X.N X.C cores l t)
  rw [hSP] at hstep hro hfewS
  obtain ⟨m2,hm2⟩:=gX (bH4 X.N X.C cores m INS)
  rw [hm2] at hstep hnx
  repeat' (conv=>whnf);first|(refine bQ0 72 ?_;(refine bQ2 (fun w' hw'=>hids2 w' (h3.keep hw' (by simp))) ?_;rintro ⟨iq,ic⟩ hiq;dsimp only at hiq))|(refine bQ0 95 ?_;(refine cP6 (α:=Option Addr×Nat) (S:=.row z.bm 135 (bV1 X.N X.C cores (bC3 X.N X.C cores z) (t) (m.w))::m.cs.map bB6) (fun y=>.slice y.1 SP.length y.2) (fun y=>0<SP.length->∃g,y.1=some ⟨g,0,none⟩) (fun y=>.row z.bm 135 (bV1 X.N X.C cores (bC3 X.N X.C cores z) ((t+1)) (m2.w))::(m2.cs.map bB6++[.vec y.1 SP.length y.2 3 1 (bQ1 bQ6 SP)])) (by repeat (first|exact Take.nil|(with_reducible apply Take.seg;(focus (exact aS)))|(apply Take.cons;(focus (exact aT)))|(apply Take.last;(focus (exact aS))))) (fun w1 hw1 hs1=>?_) (fun y hy=>?_)))|refine VSeq.go ?_|refine oY fun _=>?_
  all_goals (conv=>whnf)
  ·have hin2:=kP0 hA htabs hz (S:=.row z.bm 135 (bV1 X.N X.C cores (bC3 X.N X.C cores z) (t) (m.w))::m.cs.map bB6) (hw1.le aH)
   obtain ⟨bi,hsl,hbi⟩:=bF6 (S:=.row z.bm 135 (bV1 X.N X.C cores (bC3 X.N X.C cores z) (t) (m.w))::m.cs.map bB6) (f:=bQ6) (k:=1) (l:=INS) (p:=iq) (n:=INS.length) (cap:=ic) (e:=3) hw1 aH oR rfl
   exact hstep iq ic bi 0 w1 hs1 hin2 hsl hbi
  ·obtain ⟨sq,sc⟩:=y
   dsimp only at hy ⊢
   refine VLoop.mk (α:=Nat×Option Addr×Nat) (fun y=>y.1<=SP.length/\(0<(bG2 X.N X.C cores l t++(SP.take y.1).map fun i=>(⟨(t:Int),i⟩:Evt)).length->∃g,y.2.1=some ⟨g,0,none⟩))
    (fun y=>[(1000000,.tuple #[]),(3,.slice pe l.length ce),(10,.pointer none),(11,.slice none 0 0),(12,.int .i64 0),(13,.pointer (some ⟨z.bm,0,none⟩)),(17,.slice y.2.1 (bG2 X.N X.C cores l t++(SP.take y.1).map fun i=>(⟨(t:Int),i⟩:Evt)).length y.2.2),(18,.int .i64 (t:Int)),(45,.int .i64 (T:Int)),(46,.int .i64 (t:Int)),(53,.slice sq SP.length sc),(54,.int .i64 (SP.length:Int)),(55,.int .i64 (y.1:Int))])
    (fun y=>.row z.bm 135 (bV1 X.N X.C cores (bC3 X.N X.C cores z) ((t+1)) (m2.w))::(m2.cs.map bB6++(.vec sq SP.length sc 3 1 (bQ1 bQ6 SP)::.vec y.2.1 (bG2 X.N X.C cores l t++(SP.take y.1).map fun i=>(⟨(t:Int),i⟩:Evt)).length y.2.2 67 2 (bQ1 cP1 (bG2 X.N X.C cores l t++(SP.take y.1).map fun i=>(⟨(t:Int),i⟩:Evt)))::cM7 X.N X.C cores z))) (fun y=>SP.length - y.1) (0,q,qc) ⟨Nat.zero_le _,by rw [List.take_zero,List.map_nil,List.append_nil];exact hq⟩ (by dsimp only;rw [List.take_zero,List.map_nil,List.append_nil];exact aE) ?_ ?_
   ·dsimp only
    rw [QU,QA,qC]
    change HLe _ (_::((m2.cs.map bB6++[.vec sq SP.length sc 3 1 (bQ1 bQ6 SP)])++_))
    rw [qJ]
    exact aH
   rintro ⟨j,q2,qc2⟩ ⟨hj,hq2⟩
   dsimp only at hj hq2 ⊢
   rcases qy j SP.length with hjl|hjg
   ·obtain ⟨gs,hgs⟩:=hy qZ
    obtain ⟨kk,hkk⟩:∃kk,SP[j]? =some kk:=⟨_,qq hjl⟩
    have hon:(bG2 X.N X.C cores l t++(SP.take (j+1)).map fun i=>(⟨(t:Int),i⟩:Evt))=(bG2 X.N X.C cores l t++(SP.take j).map fun i=>(⟨(t:Int),i⟩:Evt))++[⟨(t:Int),kk⟩]:=by
     rw [qi,hkk,qW,ql,qJ];rfl
    have hol:(bG2 X.N X.C cores l t++(SP.take j).map fun i=>(⟨(t:Int),i⟩:Evt)).length<=65536+1024:=by
     rw [qw,qv,qh];omega
    obtain ⟨OJ,hOJ⟩:∃OJ,(bG2 X.N X.C cores l t++(SP.take j).map fun i=>(⟨(t:Int),i⟩:Evt))=OJ:=⟨_,rfl⟩
    rw [hOJ] at hon hol hq2 ⊢
    repeat' (conv=>whnf);first|(refine VIx.is ?_;refine VIx.mk hgs qZ qZ ?_)|(refine VLd.is ?_;refine oC (hC7 aT hgs (bQ8 (f:=bQ6) (k:=1) (fun _=>rfl) hkk rfl)) ?_)|(refine VAp.is ?_;refine VAp.own aT (.at_ (.vec aT rfl)) (by simp [Value.oneCell']) (by (try dsimp only);omega) (by simp only [maxLen];omega) fun p1 c1 hp1=>?_)|refine VSeq.go ?_|refine oY fun _=>?_|refine oV fun _=>?_|refine oA ?_
    all_goals (conv=>whnf)
    refine VNext.mk (j+1,p1,c1) ⟨by dsimp only;omega,fun _=>hp1 qZ⟩ (by dsimp only;omega) (by dsimp only;rw [hon,List.length_append,List.length_singleton];exact aE) ?_
    dsimp only
    rw [hon,bQ7,qw,qM]
    exact aH
   ·have hje:j=SP.length:=by omega
    subst hje
    rw [Qk,<-hro] at hq2 ⊢
    have hmono:=dC2 X.N X.C cores l (T - (t+1)) (t+1)
    rw [show t+1+(T - (t+1))=T by omega] at hmono
    have hrl:(bG2 X.N X.C cores l (t+1)).length<=65536+1024:=by rw [hro,qw,qv];omega
    obtain ⟨OJ,hOJ⟩:=gX (bG2 X.N X.C cores l (t+1))
    have hOb:65536<OJ.length->dZ0 X.N X.C cores l T:=fun h=>by unfold dZ0;rw [<-hOJ] at h;omega
    rw [hOJ] at hq2 hrl ⊢
    repeat' (conv=>whnf);first|refine VSeq.go ?_|refine oN fun _=>?_|refine oS (fun _=>?_) fun _=>?_|refine oA ?_
    all_goals (conv=>whnf)
    ·exact ⟨fun w' hw'=>⟨fun _=>⟨rfl,hw'.le .nil⟩,fun hno=>absurd (hOb qZ) hno⟩⟩
    ·refine VNext.mk (t+1,m2,q2,qc2) ⟨by dsimp only;omega,hnx,by dsimp only;rw [hOJ];omega,by dsimp only;rw [hOJ];exact hq2⟩ (by dsimp only;omega) (by dsimp only;rw [hOJ];exact aE) ?_
     dsimp only
     rw [hOJ]
     exact aH
 have hte:T=t:=by omega
 subst hte
 have hno:¬dZ0 X.N X.C cores l T:=by unfold dZ0;omega
 have hw2:=hm.wrk
 rw [hw2]
 repeat' (conv=>whnf);first|refine VSeq.go ?_|refine oN fun _=>?_|refine oS (fun _=>?_) fun _=>?_|refine oA ?_
 all_goals (conv=>whnf)
 exact ⟨fun w' hw'=>⟨fun h=>absurd h hno,fun _=>⟨(bC3 X.N X.C cores z,q,qc),rfl,hw'.le aH⟩⟩⟩
end Go.Proofs
end
