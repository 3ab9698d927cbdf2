import Derived.Test.YtlbekjokdlkghaaGreatChipMovesRue
import Derived.Test.YtlbekjokdlkghaaGreatChipMovesKt
set_option linter.unusedVariables false
set_option linter.unusedSimpArgs false
set_option maxHeartbeats 4000000
section
namespace Go.Gm
def hR3 (a b x:Int):Prop:=(a<=x/\x<=b)\/(b<=x/\x<=a)
def dG9 (a b c d x y:Int):Prop:=(y=b/\hR3 a c x)\/(x=c/\hR3 b d y)
theorem hJ9 {W:Int}(hW:0<W){t c d:Int}(ht:At2 W t c d):∀(n:Nat) (r:Int),bG0 W r t=n->∀{a b q x y:Int},At2 W r a b->At2 W q x y->q∈rte W r t->dG9 a b c d x y
 |0,r,hn,a,b,q,x,y,h1,h2,hq=>by
  have:r=t:=(bG6 hW).1 hn
  subst this
  rw [cQ8 W r hW,qt] at hq
  subst hq
  have e1:x=a:=h2.col.symm.trans h1.col
  have e2:y=b:=h2.row.symm.trans h1.row
  have e3:c=a:=ht.col.symm.trans h1.col
  have e4:d=b:=ht.row.symm.trans h1.row
  unfold dG9 hR3
  omega
 |n+1,r,hn,a,b,q,x,y,h1,h2,hq=>by
  have hne:r≠t:=fun h=>by rw [(bG6 hW).2 h] at hn;omega
  rw [cQ7 hW hne] at hq
  have ht2:=cT2 h1 ht
  have hx:=h1.x0;have hx1:=h1.x1;have hc:=ht.x0;have hc1:=ht.x1
  rcases qQ.1 hq with rfl|hq
  ·have e1:x=a:=h2.col.symm.trans h1.col
   have e2:y=b:=h2.row.symm.trans h1.row
   unfold dG9 hR3
   omega
  ·have hd:=bL9 hW hne
   have step:∀a' b':Int,At2 W (bZ8 W r (bY2 W r t)) a' b'->dG9 a' b' c d x y:=fun a' b' h3=>hJ9 hW ht n _ qZ h3 h2 hq
   have key:∀(a' b':Int),0<=a'->a'<W->bZ8 W r (bY2 W r t)=W*b'+a'->dG9 a' b' c d x y:=fun a' b' g1 g2 g3=>step a' b' (g3▸cH0 g1 g2)
   have heq:=h1.eq
   rw [ht2] at key
   unfold bZ8 at key
   by_cases c1:a<c
   ·simp only [jw c1,if_true] at key
    have:=key (a+1) b qZ qZ qZ
    unfold dG9 hR3 at this ⊢
    omega
   ·by_cases c2:c<a
    ·rw [jk c1,jw c2,jk qZ,jk qZ,jw rfl] at key
     have:=key (a - 1) b qZ qZ qZ
     unfold dG9 hR3 at this ⊢
     omega
    ·by_cases c3:b<d
     ·rw [jk c1,jk c2,jw c3,jk qZ,jw rfl] at key
      have hm:W*(b+1)=W*b+W:=by rw [Int.mul_add,Int.mul_one]
      have:=key a (b+1) qZ qZ qZ
      unfold dG9 hR3 at this ⊢
      omega
     ·by_cases c4:d<b
      ·rw [jk c1,jk c2,jk c3,jw c4,jk qZ,jk qZ,jk qZ,jw rfl] at key
       have hm:W*(b - 1)=W*b - W:=by rw [Int.mul_sub,Int.mul_one]
       have:=key a (b - 1) qZ qZ qZ
       unfold dG9 hR3 at this ⊢
       omega
      ·exfalso
       refine hne (h1.inj (y:=b) ?_)
       have e1:c=a:=by omega
       have e2:d=b:=by omega
       rw [<-e1,<-e2];exact ht
theorem gW7 {W:Int}(hW:0<W){t:Int}:∀(n:Nat) (r:Int),bG0 W r t=n->∀{q:Int},q∈rte W r t->q≠t->bZ8 W q (bY2 W q t)∈rte W r t
 |0,r,hn,q,hq,hqt=>by
  have:r=t:=(bG6 hW).1 hn
  subst this
  rw [cQ8 W r hW,qt] at hq
  exact absurd hq hqt
 |n+1,r,hn,q,hq,hqt=>by
  have hne:r≠t:=fun h=>by rw [(bG6 hW).2 h] at hn;omega
  have hd:=bL9 hW hne
  rw [cQ7 hW hne] at hq ⊢
  rcases qQ.1 hq with rfl|hq
  ·obtain ⟨l,hl⟩:=dJ1 (W:=W) (r:=bZ8 W q (bY2 W q t)) (t:=t) hW
   rw [hl]
   exact qu _ qg
  ·exact qu _ (gW7 hW n _ qZ hq hqt)
theorem gW6 {W:Int}(hW:0<W){t:Int}:∀(n:Nat) (r:Int),bG0 W r t=n->∀{q:Int},q∈rte W r t->q≠r->∃z∈rte W r t,z≠t/\bZ8 W z (bY2 W z t)=q
 |0,r,hn,q,hq,hqr=>by
  have:r=t:=(bG6 hW).1 hn
  subst this
  rw [cQ8 W r hW,qt] at hq
  exact absurd hq hqr
 |n+1,r,hn,q,hq,hqr=>by
  have hne:r≠t:=fun h=>by rw [(bG6 hW).2 h] at hn;omega
  have hd:=bL9 hW hne
  rw [cQ7 hW hne] at hq ⊢
  rcases qQ.1 hq with rfl|hq
  ·exact absurd rfl hqr
  ·by_cases h1:q=bZ8 W r (bY2 W r t)
   ·exact ⟨r,qg,hne,h1.symm⟩
   ·obtain ⟨z,h2,h3,h4⟩:=gW6 hW n _ qZ hq h1
    exact ⟨z,qu _ h2,h3,h4⟩
structure WayStep (W src r z:Int) (o:Nat):Prop where
 ex:∃a b x y x' y':Int,At2 W src a b/\At2 W r x y/\At2 W z x' y'/\
  ((o=0/\y=b/\a<=x/\x'=x+1/\y'=y)\/(o=2/\y=b/\x<=a/\x'=x - 1/\y'=y)\/(o=1/\b<=y/\x'=x/\y'=y+1)\/(o=3/\y<=b/\x'=x/\y'=y - 1))
theorem hR8 {W src t r:Int}(hW:0<W)(hr:r∈rte W src t){o:Nat}(ho:o<4)(hturn:bY2 W r t=bK1 o):WayStep W src r (bZ8 W r (bK1 o)) o/\r≠t:=by
 obtain ⟨a,b,h1⟩:=at2 hW src
 obtain ⟨c,d,h2⟩:=at2 hW t
 obtain ⟨x,y,h3⟩:=at2 hW r
 have hon:=hJ9 hW h2 _ src rfl h1 h3 hr
 have ht:=cT2 h3 h2
 rw [hturn] at ht
 have heq:=h3.eq
 have hx0:=h3.x0;have hx1:=h3.x1;have hc0:=h2.x0;have hc1:=h2.x1
 have h16:r≠t:=by
  intro h
  have:=(cY5 hW).2 h
  rw [hturn] at this
  have h4:o=4:=Proofs.pow2_inj (this.trans (rfl:(16:Int)=bK1 4))
  omega
 refine ⟨⟨?_⟩,h16⟩
 unfold dG9 hR3 at hon
 have h4:o=0\/o=1\/o=2\/o=3:=by omega
 rcases h4 with rfl|rfl|rfl|rfl
 ·have e1:bK1 0=1:=rfl
  rw [e1] at ht ⊢
  have hn:bZ8 W r 1=W*y+(x+1):=by unfold bZ8;rw [jw rfl];omega
  have hxc:x<c:=by
   by_cases c1:x<c
   ·exact c1
   ·rw [jk c1] at ht
    split at ht<;>(try split at ht)<;>(try split at ht)<;>omega
  refine ⟨a,b,x,y,x+1,y,h1,h3,by rw [hn];exact cH0 qZ qZ,?_⟩
  omega
 ·have e1:bK1 1=2:=rfl
  rw [e1] at ht ⊢
  have hm:W*(y+1)=W*y+W:=by rw [Int.mul_add,Int.mul_one]
  have hn:bZ8 W r 2=W*(y+1)+x:=by unfold bZ8;rw [jk qZ,jw rfl];omega
  have hxc:x=c/\y<d:=by
   split at ht
   ·omega
   ·split at ht
    ·omega
    ·split at ht
     ·omega
     ·split at ht<;>omega
  refine ⟨a,b,x,y,x,y+1,h1,h3,by rw [hn];exact cH0 qZ qZ,?_⟩
  omega
 ·have e1:bK1 2=4:=rfl
  rw [e1] at ht ⊢
  have hn:bZ8 W r 4=W*y+(x - 1):=by unfold bZ8;rw [jk qZ,jk qZ,jw rfl];omega
  have hxc:c<x:=by
   split at ht
   ·omega
   ·split at ht
    ·omega
    ·split at ht
     ·omega
     ·split at ht<;>omega
  refine ⟨a,b,x,y,x - 1,y,h1,h3,by rw [hn];exact cH0 qZ qZ,?_⟩
  omega
 ·have e1:bK1 3=8:=rfl
  rw [e1] at ht ⊢
  have hm:W*(y - 1)=W*y - W:=by rw [Int.mul_sub,Int.mul_one]
  have hn:bZ8 W r 8=W*(y - 1)+x:=by unfold bZ8;rw [jk qZ,jk qZ,jk qZ,jw rfl];omega
  have hxc:x=c/\d<y:=by
   split at ht
   ·omega
   ·split at ht
    ·omega
    ·split at ht
     ·omega
     ·split at ht<;>omega
  refine ⟨a,b,x,y,x,y - 1,h1,h3,by rw [hn];exact cH0 qZ qZ,?_⟩
  omega
theorem WayStep.dist {W src r z:Int}{o:Nat}(h:WayStep W src r z o):bG0 W src z=bG0 W src r+1/\z≠src:=by
 obtain ⟨a,b,x,y,x',y',h1,h2,h3,h4⟩:=h.ex
 rw [cZ3 h1 h3,cZ3 h1 h2]
 refine ⟨by omega,?_⟩
 rintro rfl
 have e1:x'=a:=h3.col.symm.trans h1.col
 have e2:y'=b:=h3.row.symm.trans h1.row
 omega
theorem WayStep.uniq {W src r1 r2 z:Int}{o1 o2:Nat}(h1:WayStep W src r1 z o1)(h2:WayStep W src r2 z o2):r1=r2/\o1=o2:=by
 obtain ⟨a,b,x,y,x',y',g1,g2,g3,g4⟩:=h1.ex
 obtain ⟨c,d,u,v,u',v',k1,k2,k3,k4⟩:=h2.ex
 have e1:c=a:=k1.col.symm.trans g1.col
 have e2:d=b:=k1.row.symm.trans g1.row
 have e3:u'=x':=k3.col.symm.trans g3.col
 have e4:v'=y':=k3.row.symm.trans g3.row
 have:u=x/\v=y/\o1=o2:=by omega
 refine ⟨?_,this.2.2⟩
 rw [g2.eq,k2.eq,this.1,this.2.1]
end Go.Gm
end

section
namespace Go.Gm
theorem dR4 {c:RCtx}(hc:RCtxOk c){st:RunZ}{ent:Nat->Nat->Prop}{snt:Nat->Nat->Nat->Prop}{dl:Nat->Nat->Nat}{rd:Nat->Prop}{t r:Nat}{l:List Nat}(hdl:∀o,dl r o=t)
  (h:RInv c st ent snt dl t (fun _ _=>True) rd (fun x y=>y=r/\x∈l)) (hn:l.Nodup):∀i,i<=l.length->∃ent',RInv c ((l.take i).foldl (cW6 c.s c.tabs c.pk t r) st) ent' snt dl t (fun _ _=>True) rd fun x y=>y=r/\x∈l.drop i
 |0,_=>⟨ent,h⟩
 |i+1,hi=>by
  obtain ⟨ent',ih⟩:=dR4 hc hdl h hn i qZ
  have hlt:i<l.length:=by omega
  have hd:l.drop i=l[i]::l.drop (i+1):=qG hlt
  rw [hd] at ih
  have hnd:(l[i]::l.drop (i+1)).Nodup:=by rw [<-hd];exact hn.sublist (List.drop_sublist _ _)
  obtain ⟨e2,h2⟩:=dR5 hc ih hnd hdl
  refine ⟨e2,?_⟩
  rw [qi,qq hlt,qW,Qx]
  exact h2
def fX7 (c:RCtx)(k j:Nat):RunZ:=(List.range j).foldl (inR c.s c.tabs c.pk k) (cL6 c.s c.tabs c.pk c.n k)
def hH9 (c:RCtx)(k j:Nat):List Nat:=cF8 (fX7 c k j) j++if k=0 then cL4 c.pk j else []
def dH4 (c:RCtx)(k j i:Nat):RunZ:=((hH9 c k j).take i).foldl (cW6 c.s c.tabs c.pk k j) (dX4 (fX7 c k j) j)
def fQ6 (c:RCtx)(k j:Nat):RunZ:=(List.range j).foldl (kQ5 c.s k) (fX7 c k c.n)
def gS8 (c:RCtx)(k j o:Nat):RunZ:=(List.range o).foldl (dW6 c.s k j) (fQ6 c k j)
theorem hB0 (c:RCtx)(k j:Nat):dH4 c k j 0=dX4 (fX7 c k j) j:=rfl
theorem kV7 (c:RCtx)(k j:Nat):dH4 c k j (hH9 c k j).length=fX7 c k (j+1):=by
 unfold dH4
 rw [Qk]
 unfold fX7
 rw [Qz,Qx]
 rfl
theorem hW7 (c:RCtx)(k j o:Nat):gS8 c k j (o+1)=dW6 c.s k j (gS8 c k j o) o:=by
 unfold gS8
 rw [Qz,Qx]
 rfl
theorem kZ2 (c:RCtx)(k j:Nat):gS8 c k j 5=fQ6 c k (j+1):=by
 unfold fQ6
 rw [Qz,Qx]
 rfl
theorem hW6 (c:RCtx)(k:Nat):fQ6 c k c.n=cL6 c.s c.tabs c.pk c.n (k+1):=by
 unfold cL6
 rw [Qz,Qx]
 rfl
theorem gF2 {c:RCtx}(hc:RCtxOk c)(k j:Nat)(hj:j<=c.n):∃ent snt,RInv c (fX7 c k j) ent snt (fun _ _=>k) k (fun _ _=>True) (fun y=>k≠0\/y<j) fun _ _=>False:=by
 obtain ⟨ent,snt,h⟩:=fR5 hc k
 obtain ⟨e2,h2⟩:=gQ9 hc h j hj
 exact ⟨e2,snt,h2⟩
theorem kV6 {c:RCtx}(hc:RCtxOk c)(k j i:Nat)(hj:j<c.n)(hi:i<=(hH9 c k j).length):∃ent snt rd,RInv c (dH4 c k j i) ent snt (fun _ _=>k) k (fun _ _=>True) rd fun x y=>y=j/\x∈(hH9 c k j).drop i:=by
 obtain ⟨ent,snt,h⟩:=gF2 hc k j qZ
 obtain ⟨h1,h2⟩:=fD9 hc hj h qZ
 obtain ⟨e2,h3⟩:=dR4 hc oR h1 h2 i hi
 exact ⟨e2,snt,_,h3⟩
structure EnterOk (c:RCtx) (st:RunZ) (j p:Nat):Prop where
 lt:p<c.pk.length
 outs:c.outs p j≠0
 find:bH0 ((c.tabs[j]?).getD []) ((c.pk[p]?.map (·.key)).getD 0)=some (c.outs p j)
 good:∀o,o<5->c.has p j o->bS3 c.s.wide c.s.high (j:Int) (bK1 o)/\((st.q j o).length:Int)<c.s.room
theorem kL1 {c:RCtx}(hc:RCtxOk c){k j i p:Nat}(hj:j<c.n)(hp:(hH9 c k j)[i]? =some p):EnterOk c (dH4 c k j i) j p/\dH4 c k j (i+1)=(List.range 5).foldl (cW7 c.s k j p (c.outs p j)) (dH4 c k j i)/\EnO c (dH4 c k j i) (dH4 c k j (i+1)) j p 5:=by
 have hlt:=(qx.1 hp).1
 obtain ⟨ent,snt,rd,h⟩:=kV6 hc k j i hj qZ
 have hd:(hH9 c k j).drop i=p::(hH9 c k j).drop (i+1):=by
  rw [qG hlt]
  congr 1
  rw [qq hlt] at hp
  exact Option.some.inj hp
 obtain ⟨h1,h2,h3,h4,h5,h6,h7⟩:=h.pe p j ⟨rfl,by rw [hd];exact qg⟩
 have hf:=hc.find p j h1 h2 h3
 have hno:∀o,p∉(dH4 c k j i).q j o:=fun o hm=>h4 (h.q j o p hm).2.2.2.2.1
 have hstep:dH4 c k j (i+1)=(List.range 5).foldl (cW7 c.s k j p (c.outs p j)) (dH4 c k j i):=by
  unfold dH4
  rw [qi,hp,qW,Qx]
  show cW6 c.s c.tabs c.pk k j _ p=_
  unfold cW6
  rw [hf]
 refine ⟨⟨h1,h3,hf,fun o ho hh=>?_⟩,hstep,?_⟩
 ·have hfew:=dY4 hc (l:=(dH4 c k j i).q j o) ho (fun y hy=>⟨(h.q j o y hy).1,(h.q j o y hy).2.2.2.1⟩) (h.qn j o) h1 hh (hno o)
  have hroom:=hc.room
  refine ⟨?_,by omega⟩
  by_cases h4:o<4
  ·exact (hc.edge p j o h1 hj h4 hh).1
  ·have:o=4:=by omega
   subst this
   unfold bS3 bK1
   simp
 ·rw [hstep]
  exact cS2 hc (t:=k) h1 hj (fun o x hx=>⟨(h.q j o x hx).1,(h.q j o x hx).2.2.2.1⟩) (fun o=>h.qn j o) hno 5 (qA _)
theorem kL0 {c:RCtx}(hc:RCtxOk c)(k j:Nat):(hH9 c k j).length<=4+c.pk.length:=by
 unfold hH9
 rw [qw]
 have h1:=List.length_filterMap_le (fun o=>(fX7 c k j).co j o) (List.range 4)
 rw [Qg] at h1
 have h2:=qD (fun p=>decide ((c.pk[p]?.map (·.src)).getD 0=j)) (List.range c.pk.length)
 rw [Qg] at h2
 unfold cF8 cL4
 split
 ·omega
 ·have:([]:List Nat).length=0:=rfl
  omega
theorem hW5 {c:RCtx}(hc:RCtxOk c)(k j:Nat)(hj:j<=c.n):∃ent snt rd,RInv c (fQ6 c k j) ent snt (dlO k j 0) (k+1) (bef j 0) rd fun _ _=>False:=by
 obtain ⟨ent,snt,h1⟩:=gF2 hc k c.n (qA _)
 have hno:∀a b p,(fX7 c k c.n).co a b=some p->False:=by
  intro a b p hp
  obtain ⟨a1,a2,_⟩:=h1.co a b p hp
  unfold fX7 at hp
  rw [hH8,jw a2] at hp
  cases hp
 have h2:RInv c (fX7 c k c.n) ent snt (dlO k 0 0) (k+1) (bef 0 0) (fun _=>k+1≠0) fun _ _=>False:=by
  refine ⟨h1.q,h1.qn,?_,fun a b p hp=>(hno a b p hp).elim,h1.all,h1.on,h1.sn,h1.en,h1.pa,fun x y hx=>hx.elim,?_,h1.ar,h1.an,h1.aa,h1.dr⟩
  ·intro a b i p hp
   have:dlO k 0 0 a b=k:=by unfold dlO;rw [jk (by unfold bef;omega)]
   rw [this];exact h1.qd a b i p hp
  ·intro p hp
   refine ⟨fun _=>(h1.rt p hp).1 (.inr (hc.root p hp).1),fun h3=>absurd (by omega:k+1≠0) h3⟩
 obtain ⟨s2,h3⟩:=dW5 hc h2 j hj
 exact ⟨ent,s2,_,h3⟩
theorem kZ1 {c:RCtx}(hc:RCtxOk c)(k j o:Nat)(hj:j<c.n)(ho:o<=5):∃ent snt rd,RInv c (gS8 c k j o) ent snt (dlO k j o) (k+1) (bef j o) rd fun _ _=>False:=by
 obtain ⟨ent,snt,rd,h⟩:=hW5 hc k j qZ
 obtain ⟨s2,h2⟩:=cT8 hc hj h o ho
 exact ⟨ent,s2,rd,h2⟩
theorem RInv.arr_few {c:RCtx}{st ent snt dl cdl proc rd pend}(h:RInv c st ent snt dl cdl proc rd pend):st.arr.length<=c.pk.length*c.n:=by
 have h1:(st.arr.map fun x=>(x.1,x.2.1)).length<=((List.range c.pk.length).flatMap fun p=>(List.range c.n).map fun r=>(p,r)).length:=by
  refine Go.Vx.cV2 h.an fun x hx=>?_
  obtain ⟨⟨a,b,t⟩,hm,rfl⟩:=qo.1 hx
  have h2:=h.en a b (h.sn a b 4 (h.ar a b t hm).1).1
  rw [QG]
  exact ⟨a,qL.2 h2.1,qo.2 ⟨b,qL.2 h2.2.1,rfl⟩⟩
 rw [qv] at h1
 have h2:((List.range c.pk.length).flatMap fun p=>(List.range c.n).map fun r=>(p,r)).length=c.pk.length*c.n:=by
  have:∀m:Nat,((List.range m).flatMap fun p=>(List.range c.n).map fun r=>(p,r)).length=m*c.n:=by
   intro m
   induction m with
   |zero=>simp
   |succ m ih=>rw [Qz,QK,qw,ih,List.flatMap_singleton,qv,Qg,Nat.succ_mul]
  exact this _
 omega
theorem kT5 {c:RCtx}(hc:RCtxOk c){k j o:Nat}(hj:j<c.n)(ho:o<5):(o<4->(gS8 c k j o).q j o≠[]->bS3 c.s.wide c.s.high (j:Int) (bK1 o))/\(gS8 c k j o).arr.length<=c.pk.length*c.n:=by
 obtain ⟨ent,snt,rd,h⟩:=kZ1 hc k j o hj qZ
 refine ⟨fun h4 hne=>?_,h.arr_few⟩
 obtain ⟨p,hp⟩:=List.exists_mem_of_ne_nil _ hne
 obtain ⟨h1,h2,h3,h5,_⟩:=h.q j o p hp
 exact (hc.edge p j o h1 h2 h4 h5).1
end Go.Gm
end
