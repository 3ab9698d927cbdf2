import Derived.Test.YtlbekjokdlkghaaGreatChipKnownYh
import Derived.Test.YtlbekjokdlkghaaGreatChipKnownYk
set_option linter.unusedVariables false
set_option linter.unusedSimpArgs false
set_option maxHeartbeats 4000000
namespace Go.Gm
open Go.Proofs
def TickAsc (l:List Evt):Prop:=l.Pairwise fun a b=>a.tick<=b.tick
def insOf (l:List Evt)(t:Int):List Int:=(l.filter fun e=>decide (e.tick=t)).map (·.id)
def loOf (l:List Evt)(t:Int):Nat:=l.countP fun e=>decide (e.tick<t)
theorem loOf_le (l:List Evt)(t:Int):loOf l t<=l.length:=qT ..
theorem loOf_iff {t:Int}:∀{l:List Evt} (hs:TickAsc l) {i:Nat} {e:Evt},l[i]? =some e->(i<loOf l t<->e.tick<t)
 |[],_,_,_,h=>by simp at h
 |a::l,hs,i,e,h=>by
  have hs2:=List.pairwise_cons.1 hs
  by_cases ha:a.tick<t
  ·have hlo:loOf (a::l) t=loOf l t+1:=by unfold loOf;rw [List.countP_cons_of_pos (by simpa using ha)]
   cases i with
   |zero=>
    simp only [QX,qK] at h
    subst h
    rw [hlo]
    exact ⟨fun _=>ha,fun _=>by omega⟩
   |succ i=>
    simp only [Qv] at h
    rw [hlo,<-loOf_iff hs2.2 h]
    omega
  ·have hall:∀x∈a::l,¬x.tick<t:=fun x hx=>by
    rcases qQ.1 hx with rfl|hx
    ·exact ha
    ·have:=hs2.1 x hx;omega
   have hlo:loOf (a::l) t=0:=by
    unfold loOf
    rw [List.countP_eq_zero]
    intro x hx
    simpa using hall x hx
   have:=hall e (qz h)
   rw [hlo]
   omega
theorem ins_cut {l:List Evt}{t:Int}(hs:TickAsc l){k:Nat}(h1:loOf l t<=k)(h2:k<=l.length)(hmid:∀(i:Nat) (e:Evt),loOf l t<=i->i<k->l[i]? =some e->e.tick=t)(hend:∀e,l[k]? =some e->e.tick≠t):
  ((l.drop (loOf l t)).take (k - loOf l t)).map (·.id)=insOf l t:=by
 obtain ⟨lo,hlo⟩:=gX (loOf l t)
 have hiff:=fun {i:Nat} {e:Evt} h=>loOf_iff (t:=t) hs (i:=i) (e:=e) h
 rw [hlo] at h1 hmid hiff ⊢
 have hl:l=l.take lo++((l.drop lo).take (k - lo)++l.drop k):=by
  have e1:l.drop k=(l.drop lo).drop (k - lo):=by rw [List.drop_drop];congr 1;omega
  rw [e1,QJ,QJ]
 have f1:(l.take lo).filter (fun e=>decide (e.tick=t))=[]:=by
  rw [List.filter_eq_nil_iff]
  intro e he
  obtain ⟨i,hi⟩:=jy he
  rw [Qt] at hi
  split at hi
  ·rename_i hlt
   have:=(hiff hi).1 hlt
   simp;omega
  ·cases hi
 have f2:((l.drop lo).take (k - lo)).filter (fun e=>decide (e.tick=t))=(l.drop lo).take (k - lo):=by
  rw [List.filter_eq_self]
  intro e he
  obtain ⟨i,hi⟩:=jy he
  rw [Qt] at hi
  split at hi
  ·rename_i hlt
   rw [Qy] at hi
   simpa using hmid (lo+i) e (by omega) (by omega) hi
  ·cases hi
 have f3:(l.drop k).filter (fun e=>decide (e.tick=t))=[]:=by
  rw [List.filter_eq_nil_iff]
  intro e he
  obtain ⟨i,hi⟩:=jy he
  rw [Qy] at hi
  have hk:k<l.length:=by have:=(qx.1 hi).1;omega
  obtain ⟨a,ha⟩:∃a,l[k]? =some a:=⟨_,qq hk⟩
  have h3:=hend a ha
  have h4:¬a.tick<t:=fun h=>by have:=(hiff ha).2 h;omega
  have h5:a.tick<=e.tick:=by
   rcases Nat.eq_zero_or_pos i with h0|h0
   ·subst h0
    rw [Nat.add_zero,ha] at hi
    cases hi;omega
   ·obtain ⟨q1,rfl⟩:=qx.1 ha
    obtain ⟨q2,rfl⟩:=qx.1 hi
    exact List.pairwise_iff_getElem.1 hs k (k+i) q1 q2 (by omega)
  simp;omega
 unfold insOf
 conv=>rhs;rw [hl]
 rw [Qa,Qa,f1,f2,f3,Qc,qC]
theorem EvOk.asc {inputs limit:Int}{l:List Evt}(h:EvOk inputs limit l):TickAsc l:=h.sorted.imp fun {a b} hab=>by
 unfold evLt at hab
 omega
theorem EvOk.ins {inputs limit:Int}{l:List Evt}(h:EvOk inputs limit l)(t:Int):(insOf l t).Pairwise (· <·)/\(∀k∈insOf l t,0<=k/\k<inputs)/\(insOf l t).length<=65536:=by
 refine ⟨?_,fun k hk=>?_,?_⟩
 ·unfold insOf
  rw [List.pairwise_map]
  refine List.Pairwise.imp_of_mem (fun {a b} ha hb hab=>?_) (h.sorted.filter _)
  rw [qP,jv] at ha hb
  unfold evLt at hab
  omega
 ·unfold insOf at hk
  obtain ⟨e,he,rfl⟩:=qo.1 hk
  exact (h.range e (qP.1 he).1).2
 ·unfold insOf
  rw [qv]
  exact Qb (qD _ _) h.few
section
variable (N : Net) (C : Chp) (cores : List Int)
def rkStep (t:Nat)(x:Sm×Wrk)(ins:List Int):Sm×Wrk:=(ringStep (qNet N C) t x.1 ins,macW N C cores x.2 (ringSpk (qNet N C) t x.1).length (sendsM N (ringSpk (qNet N C) t x.1) ins))
def rkAt (l:List Evt):Nat->Sm×Wrk
 |0=>(sm0 (qNet N C),wrk0)
 |t+1=>rkStep N C cores t (rkAt l t) (insOf l (t:Int))
def rkSpk (l:List Evt)(t:Nat):List Int:=ringSpk (qNet N C) t (rkAt N C cores l t).1
def rkOut (l:List Evt):Nat->List Evt
 |0=>[]
 |t+1=>rkOut l t++(rkSpk N C cores l t).map fun i=>⟨(t:Int),i⟩
end
structure MacAt (N:Net) (C:Chp) (cores:List Int) (x:MacX) (l:List Evt) (t:Nat) (m:Mac):Prop where
 go:MacGo N C x m
 tick:m.t=t
 sm:smC m.cs=(rkAt N C cores l t).1
 wrk:m.w=(rkAt N C cores l t).2
theorem MacAt.spk {N:Net}{C:Chp}{cores:List Int}{x:MacX}{l:List Evt}{t:Nat}{m:Mac}(h:MacAt N C cores x l t m):macSpk m=rkSpk N C cores l t:=by
 rw [macSpk_eq (C:=C) h.go.ok,h.tick,h.sm]
 rfl
theorem MacAt.step {N:Net}{C:Chp}{cores:List Int}{x:MacX}{l:List Evt}{t:Nat}{m:Mac}(hA:AsgOk N C cores)(h:MacAt N C cores x l t m)(ht:t<10000){inputs limit:Int}(hl:EvOk inputs limit l):MacAt N C cores x l (t+1) (macStep N C cores m (insOf l (t:Int))):=by
 obtain ⟨h1,h2,_⟩:=hl.ins (t:Int)
 have h3:∀k∈insOf l (t:Int),0<=k:=fun k hk=>(h2 k hk).1
 refine ⟨h.go.step hA (by rw [h.tick];exact ht) h1 h3,by show m.t+1=t+1;rw [h.tick],?_,?_⟩
 ·rw [mac_ring hA h.go.ok h1 h3,h.tick,h.sm]
  rfl
 ·show macW N C cores m.w (macSpk m).length (sendsM N (macSpk m) (insOf l (t:Int)))=_
  rw [h.spk,h.wrk]
  rfl
theorem MacAt.spk_few {N:Net}{C:Chp}{cores:List Int}{x:MacX}{l:List Evt}{t:Nat}{m:Mac}(hA:AsgOk N C cores)(h:MacAt N C cores x l t m):(rkSpk N C cores l t).length<=1024/\∀k∈rkSpk N C cores l t,0<=k/\k<N.ps.length:=by
 rw [<-h.spk]
 refine ⟨?_,fun k hk=>macSpk_range h.go.ok hk⟩
 have h10:=spk_length (cF m.t m.cs) (cF m.t m.cs).length
 rw [Qk,cF_len,h.go.ok.len] at h10
 have:=hA.plan.net.few
 show (Go.Gm.spk (cF m.t m.cs)).length<=1024
 omega
end Go.Gm
namespace Go.Proofs
open Go Go.Vx Go.Gm
theorem new_go {N:Net}{C:Chp}{cores:List Int}(hA:AsgOk N C cores){z:NewZ}(h:NewIs N C cores z)(l:List Evt):MacAt N C cores (newX N C cores z) l 0 (newM z):=by
 have hzl:(scalesM N (halfM C.bits)).length=N.ps.length:=by unfold scalesM;simp
 have hps:z.cs.map (·.p)=N.ps:=by
  apply qp
  intro i
  rw [qj]
  cases hc:z.cs[i]? with
  |none=>rw [qf (by rw [<-h.cl];exact List.getElem?_eq_none_iff.1 hc)];rfl
  |some c=>
   have h1:=h.cell i c hc
   have h2:=(qx.1 hc).1
   rw [h.cl] at h2
   rw [h1,qq h2]
   rfl
 have hzs:z.cs.map (·.z)=scalesM N (halfM C.bits):=by
  apply qp
  intro i
  rw [qj]
  cases hc:z.cs[i]? with
  |none=>rw [qf (by rw [hzl,<-h.cl];exact List.getElem?_eq_none_iff.1 hc)];rfl
  |some c=>
   have h1:=h.cell i c hc
   have h2:=(qx.1 hc).1
   rw [h.cl,<-hzl] at h2
   rw [h1,qq h2]
   rfl
 have hd:Due16 z.cs:=fun c hc=>by
  obtain ⟨i,hi⟩:=jy hc
  rw [h.cell i c hi]
  exact Qn
 have hsm:smC z.cs=sm0 (qNet N C):=by
  unfold smC sm0
  have e1:z.cs.map (·.s)=List.replicate N.ps.length ⟨0,0⟩:=by
   apply qp
   intro i
   rw [qj,QH]
   cases hc:z.cs[i]? with
   |none=>rw [jz (by have:=List.getElem?_eq_none_iff.1 hc;rw [h.cl] at this;omega)];rfl
   |some c=>
    have h2:=(qx.1 hc).1
    rw [h.cl] at h2
    rw [jx h2,h.cell i c hc];rfl
  have e2:(List.range 16).map (colD z.cs)=List.replicate 16 (List.replicate N.ps.length 0):=by
   apply qp
   intro j
   rw [qj,QH]
   rcases qy j 16 with hj|hj
   ·rw [qX hj,jx hj,qV]
    congr 1
    unfold colD
    apply qp
    intro i
    rw [qj,QH]
    cases hc:z.cs[i]? with
    |none=>rw [jz (by have:=List.getElem?_eq_none_iff.1 hc;rw [h.cl] at this;omega)];rfl
    |some c=>
     have h2:=(qx.1 hc).1
     rw [h.cl] at h2
     rw [jx h2,h.cell i c hc,qV]
     dsimp only
     rw [QH,jx hj];rfl
   ·rw [qf (by simpa using hj),jz qZ];rfl
  show Sm.mk _ _=Sm.mk _ _
  rw [e1,e2]
  rfl
 refine ⟨⟨⟨hps,hd,fun i c hc=>by rw [h.cell i c hc]⟩,rfl,hzs,fun c hc=>?_,qB _,?_⟩,rfl,hsm,rfl⟩
 ·obtain ⟨i,hi⟩:=jy hc
  have hp:ParOk c.p:=hA.plan.net.ps c.p (by rw [<-hps];exact qN (f:=(·.p)) hc)
  rw [h.cell i c hi] at hp ⊢
  dsimp only at hp ⊢
  have:=hp.fl
  have:=hp.rest
  unfold staOk
  dsimp only
  omega
 ·unfold Wrk.few newM wrk0
  dsimp only
  omega
theorem kl_cases (R:List KRow)(k:Int):(∃r∈R,mfind (R.map krM) k=some (krV r)/\kl R k=r.l)\/(mfind (R.map krM) k=none/\kl R k=[]):=by
 induction R with
 |nil=>exact .inr ⟨rfl,rfl⟩
 |cons z R ih=>
  by_cases h:z.key=k
  ·exact .inl ⟨z,by simp,by simp [mfind,krM,h],by simp [kl,h]⟩
  ·rcases ih with ⟨r,h1,h2,h3⟩|⟨h2,h3⟩
   ·exact .inl ⟨r,by simp [h1],by simpa [mfind,krM,h] using h2,by simpa [kl,h] using h3⟩
   ·exact .inr ⟨by simpa [mfind,krM,h] using h2,by simpa [kl,h] using h3⟩
theorem mem_front {x:Ent}{S R:HP}(h:x∈R):HLe (x::S) (S++R):=by
 obtain ⟨s,t,rfl⟩:=List.append_of_mem h
 refine HLe.of_sub (s++t) ((QM S List.perm_middle).trans ?_)
 rw [Qw]
 exact List.perm_middle
theorem _root_.Go.Vx.St.outV {α:Type}{f:α->List Value}{k:Nat}{l:List α}{w0 w:World}{M:List Nat}{S R:HP}(hs:St w0 M (S++R) w){p:Option Addr}{n cap e:Nat}(hm:Ent.vec p n cap e k (flat f l)∈R)(hk:∀x,(f x).length=k)(hl:l.length=n):∃b,Sl w f k l p n b 0/\b∉ids S:=Sl.vecOut hs (mem_front hm) hk hl
theorem _root_.Go.Vx.St.outI {w0 w:World}{M:List Nat}{S R:HP}(hs:St w0 M (S++R) w){x:Ent}(hm:x∈R){b:Nat}(hb:x.id=some b):b∉ids S:=
 hs.apartS (S:=S) (Z:=fun S'=>S'++R) .here (x:=x) (by simpa using hm) hb
theorem new_in {N:Net}{C:Chp}{cores:List Int}(hA:AsgOk N C cores)(hen:∀t∈tablesF N C cores,(t.length:Int)<=C.en){z:NewZ}(h:NewIs N C cores z){w0 w:World}{M:List Nat}{S:HP}(hs:St w0 M (S++newR N C cores z) w):MacIn w (ids S) N C cores (newX N C cores z):=by
 have hn:=nCores_ok hA.plan.chip
 have htl:z.y.tt.length=nCores C:=by
  have:=congrArg List.length h.map.tabs
  rw [qv] at this
  rw [this]
  unfold tablesF
  rw [qv,Qg]
 have hown:=fun (x:Ent) (hx:x∈newR N C cores z)=>hs.own x (QC _ hx)
 have m1:Ent.map z.kb (kmF 0 (z.K.map (·.b)))∈newR N C cores z:=by unfold newR;exact qg
 have m2:Ent.vec (some ⟨z.cb,0,none⟩) N.ps.length z.cc 212 1 (flat cpV (z.cs.map (·.b)))∈newR N C cores z:=by unfold newR;exact qu _ qg
 have m3:Ent.vec z.sp (keysM N).length z.sc 217 3 (flat srcV (srcsM N C cores))∈newR N C cores z:=by unfold newR;exact qu _ (qu _ qg)
 have mK:∀x,x∈z.K.map corR\/x∈z.K.map corV\/x∈z.K.map corM\/x∈z.K.flatMap corK\/x∈hyR N C cores z.y->x∈newR N C cores z:=fun x hx=>by
  unfold newR
  simp only [qQ,qH]
  rcases hx with hx|hx|hx|hx|hx<;>simp [hx]
 have hcbM:=hs.outI m2 (b:=z.cb) rfl
 refine ⟨?_,⟨Sl.own' hs (QC _ m2) (fun _=>rfl) (by show (z.cs.map (·.b)).length=N.ps.length;rw [qv,h.cl]),hcbM⟩,hs.outV m3 (fun _=>rfl) (by unfold srcsM;rw [qv]),?_,h.map.tabs,?_,?_,hen,⟨kmF 0 (z.K.map fun k:CorM=>k.b),⟨?_,?_⟩,?_⟩⟩
 ·show (z.cs.map (·.b)).length=N.ps.length
  rw [qv,h.cl]
 ·exact hs.outV (mK (.vec z.y.pw (nSrc N) z.y.cw 3 1 (flat intV (wav8 N C cores))) (.inr (.inr (.inr (.inr (by simp [hyR])))))) (fun _=>rfl) (by simp)
 ·show∃g,Sl w erV 1 z.y.tt z.y.pt z.y.tt.length g 0/\g∉ids S
  rw [htl]
  exact hs.outV (mK (.vec z.y.pt (nCores C) z.y.ct 178 1 (flat erV z.y.tt)) (.inr (.inr (.inr (.inr (by simp [hyR])))))) (fun _=>rfl) htl
 ·intro q hq
  exact hs.outV (mK (erE q) (.inr (.inr (.inr (.inr (by unfold hyR;simp only [qQ];exact .inr (.inr (.inr (.inr (.inr (.inr (.inr (.inr (qN hq)))))))))))))) (fun _=>rfl) rfl
 ·exact hown _ m1
 ·exact hs.outI m1 rfl
 ·intro r hr
  obtain ⟨k,hk⟩:∃k,z.K[r]? =some k:=⟨_,qq (by rw [h.len];exact hr)⟩
  have hkm:=qz hk
  obtain ⟨e1,e2,e3,e4⟩:=h.core r k hk
  have hg:=kmF_get (z.K.map (·.b)) 0 r k.b (by rw [qj,hk];rfl)
  rw [Qo] at hg
  have mr:corR k∈newR N C cores z:=mK _ (.inl (qN hkm))
  have mv:corV k∈newR N C cores z:=mK _ (.inr (.inl (qN hkm)))
  have mm:corM k∈newR N C cores z:=mK _ (.inr (.inr (.inl (qN hkm))))
  have hkl:k.l.length=(cellsAt cores (r:Int)).length:=by rw [e1,qv]
  refine ⟨k.b,hg,hs.outI mr rfl,?_⟩
  obtain ⟨gv,hv1,hv2⟩:=hs.outV (f:=cpV) (l:=k.l) mv (fun _=>rfl) rfl
  refine ⟨k.p,k.c,k.mb,gv,k.R.map krM,?_,⟨?_,hv2⟩,⟨hown _ mm,hs.outI mm rfl⟩,fun key=>?_⟩
  ·have hc:=Cells.own hs (QC _ mr)
   rw [hkl] at hc
   exact hc
  ·show Sl w cpV 1 ((cellsAt cores (r:Int)).map fun i=>((z.cs.map (·.b))[i]?).getD 0) k.p (cellsAt cores (r:Int)).length gv 0
   rw [<-e1,<-hkl]
   exact hv1
  ·rcases kl_cases k.R key with ⟨q,hq,h1,h2⟩|⟨h1,h2⟩
   ·obtain ⟨g,hg1,hg2⟩:=hs.outV (f:=rwV) (l:=q.l) (mK (krE q) (.inr (.inr (.inr (.inl (QY.2 ⟨k,hkm,qN hq⟩)))))) (fun _=>rfl) rfl
    refine ⟨q.p,q.cap,g,.inl ?_,?_,hg2⟩
    ·rw [<-e2 key,h2];exact h1
    ·rw [<-e2 key,h2];exact hg1
   ·refine ⟨none,0,z.cb,.inr ⟨h1,?_⟩,?_,hcbM⟩
    ·rw [<-e2 key,h2];rfl
    ·rw [<-e2 key,h2];exact .nil (.inl rfl)
end Go.Proofs
