import Derived.Test.YtlbekjokdlkghaaGreatChipKnownRue
import Derived.Test.YtlbekjokdlkghaaGreatChipKnownPw
set_option linter.unusedVariables false
set_option linter.unusedSimpArgs false
set_option maxHeartbeats 4000000
section
namespace Go.Gm
def betw (a b x:Int):Prop:=(a<=x/\x<=b)\/(b<=x/\x<=a)
def onWay (a b c d x y:Int):Prop:=(y=b/\betw a c x)\/(x=c/\betw b d y)
theorem rte_on {W:Int}(hW:0<W){t c d:Int}(ht:At2 W t c d):∀(n:Nat) (r:Int),distM W r t=n->∀{a b q x y:Int},At2 W r a b->At2 W q x y->q∈rte W r t->onWay a b c d x y
 |0,r,hn,a,b,q,x,y,h1,h2,hq=>by
  have:r=t:=(dist_zero hW).1 hn
  subst this
  rw [rte_self W r hW,qt] at hq
  subst hq
  have e1:x=a:=h2.col.symm.trans h1.col
  have e2:y=b:=h2.row.symm.trans h1.row
  have e3:c=a:=ht.col.symm.trans h1.col
  have e4:d=b:=ht.row.symm.trans h1.row
  unfold onWay betw
  omega
 |n+1,r,hn,a,b,q,x,y,h1,h2,hq=>by
  have hne:r≠t:=fun h=>by rw [(dist_zero hW).2 h] at hn;omega
  rw [rte_step hW hne] at hq
  have ht2:=turn_at h1 ht
  have hx:=h1.x0;have hx1:=h1.x1;have hc:=ht.x0;have hc1:=ht.x1
  rcases qQ.1 hq with rfl|hq
  ·have e1:x=a:=h2.col.symm.trans h1.col
   have e2:y=b:=h2.row.symm.trans h1.row
   unfold onWay betw
   omega
  ·have hd:=dist_step hW hne
   have step:∀a' b':Int,At2 W (nextM W r (turnM W r t)) a' b'->onWay a' b' c d x y:=fun a' b' h3=>rte_on hW ht n _ (by omega) h3 h2 hq
   have key:∀(a' b':Int),0<=a'->a'<W->nextM W r (turnM W r t)=W*b'+a'->onWay a' b' c d x y:=fun a' b' g1 g2 g3=>step a' b' (g3▸at2_of g1 g2)
   have heq:=h1.eq
   rw [ht2] at key
   unfold nextM at key
   by_cases c1:a<c
   ·simp only [jx c1,if_true] at key
    have:=key (a+1) b (by omega) (by omega) (by omega)
    unfold onWay betw at this ⊢
    omega
   ·by_cases c2:c<a
    ·rw [jz c1,jx c2,jz (by omega),jz (by omega),jx rfl] at key
     have:=key (a - 1) b (by omega) (by omega) (by omega)
     unfold onWay betw at this ⊢
     omega
    ·by_cases c3:b<d
     ·rw [jz c1,jz c2,jx c3,jz (by omega),jx rfl] at key
      have hm:W*(b+1)=W*b+W:=by rw [Int.mul_add,Int.mul_one]
      have:=key a (b+1) (by omega) (by omega) (by omega)
      unfold onWay betw at this ⊢
      omega
     ·by_cases c4:d<b
      ·rw [jz c1,jz c2,jz c3,jx c4,jz (by omega),jz (by omega),jz (by omega),jx rfl] at key
       have hm:W*(b - 1)=W*b - W:=by rw [Int.mul_sub,Int.mul_one]
       have:=key a (b - 1) (by omega) (by omega) (by omega)
       unfold onWay betw at this ⊢
       omega
      ·exfalso
       refine hne (h1.inj (y:=b) ?_)
       have e1:c=a:=by omega
       have e2:d=b:=by omega
       rw [<-e1,<-e2];exact ht
theorem rte_next {W:Int}(hW:0<W){t:Int}:∀(n:Nat) (r:Int),distM W r t=n->∀{q:Int},q∈rte W r t->q≠t->nextM W q (turnM W q t)∈rte W r t
 |0,r,hn,q,hq,hqt=>by
  have:r=t:=(dist_zero hW).1 hn
  subst this
  rw [rte_self W r hW,qt] at hq
  exact absurd hq hqt
 |n+1,r,hn,q,hq,hqt=>by
  have hne:r≠t:=fun h=>by rw [(dist_zero hW).2 h] at hn;omega
  have hd:=dist_step hW hne
  rw [rte_step hW hne] at hq ⊢
  rcases qQ.1 hq with rfl|hq
  ·obtain ⟨l,hl⟩:=rte_head (W:=W) (r:=nextM W q (turnM W q t)) (t:=t) hW
   rw [hl]
   exact qu _ qg
  ·exact qu _ (rte_next hW n _ (by omega) hq hqt)
theorem rte_prev {W:Int}(hW:0<W){t:Int}:∀(n:Nat) (r:Int),distM W r t=n->∀{q:Int},q∈rte W r t->q≠r->∃z∈rte W r t,z≠t/\nextM W z (turnM W z t)=q
 |0,r,hn,q,hq,hqr=>by
  have:r=t:=(dist_zero hW).1 hn
  subst this
  rw [rte_self W r hW,qt] at hq
  exact absurd hq hqr
 |n+1,r,hn,q,hq,hqr=>by
  have hne:r≠t:=fun h=>by rw [(dist_zero hW).2 h] at hn;omega
  have hd:=dist_step hW hne
  rw [rte_step hW hne] at hq ⊢
  rcases qQ.1 hq with rfl|hq
  ·exact absurd rfl hqr
  ·by_cases h1:q=nextM W r (turnM W r t)
   ·exact ⟨r,qg,hne,h1.symm⟩
   ·obtain ⟨z,h2,h3,h4⟩:=rte_prev hW n _ (by omega) hq h1
    exact ⟨z,qu _ h2,h3,h4⟩
structure WayStep (W src r z:Int) (o:Nat):Prop where
 ex:∃a b x y x' y':Int,At2 W src a b/\At2 W r x y/\At2 W z x' y'/\
  ((o=0/\y=b/\a<=x/\x'=x+1/\y'=y)\/(o=2/\y=b/\x<=a/\x'=x - 1/\y'=y)\/(o=1/\b<=y/\x'=x/\y'=y+1)\/(o=3/\y<=b/\x'=x/\y'=y - 1))
theorem way_step {W src t r:Int}(hW:0<W)(hr:r∈rte W src t){o:Nat}(ho:o<4)(hturn:turnM W r t=pow2 o):WayStep W src r (nextM W r (pow2 o)) o/\r≠t:=by
 obtain ⟨a,b,h1⟩:=at2 hW src
 obtain ⟨c,d,h2⟩:=at2 hW t
 obtain ⟨x,y,h3⟩:=at2 hW r
 have hon:=rte_on hW h2 _ src rfl h1 h3 hr
 have ht:=turn_at h3 h2
 rw [hturn] at ht
 have heq:=h3.eq
 have hx0:=h3.x0;have hx1:=h3.x1;have hc0:=h2.x0;have hc1:=h2.x1
 have h16:r≠t:=by
  intro h
  have:=(turn_local hW).2 h
  rw [hturn] at this
  have h4:o=4:=Proofs.pow2_inj (this.trans (rfl:(16:Int)=pow2 4))
  omega
 refine ⟨⟨?_⟩,h16⟩
 unfold onWay betw at hon
 have h4:o=0\/o=1\/o=2\/o=3:=by omega
 rcases h4 with rfl|rfl|rfl|rfl
 ·have e1:pow2 0=1:=rfl
  rw [e1] at ht ⊢
  have hn:nextM W r 1=W*y+(x+1):=by unfold nextM;rw [jx rfl];omega
  have hxc:x<c:=by
   by_cases c1:x<c
   ·exact c1
   ·rw [jz c1] at ht
    split at ht<;>(try split at ht)<;>(try split at ht)<;>omega
  refine ⟨a,b,x,y,x+1,y,h1,h3,by rw [hn];exact at2_of (by omega) (by omega),?_⟩
  omega
 ·have e1:pow2 1=2:=rfl
  rw [e1] at ht ⊢
  have hm:W*(y+1)=W*y+W:=by rw [Int.mul_add,Int.mul_one]
  have hn:nextM W r 2=W*(y+1)+x:=by unfold nextM;rw [jz (by omega),jx rfl];omega
  have hxc:x=c/\y<d:=by
   split at ht
   ·omega
   ·split at ht
    ·omega
    ·split at ht
     ·omega
     ·split at ht<;>omega
  refine ⟨a,b,x,y,x,y+1,h1,h3,by rw [hn];exact at2_of (by omega) (by omega),?_⟩
  omega
 ·have e1:pow2 2=4:=rfl
  rw [e1] at ht ⊢
  have hn:nextM W r 4=W*y+(x - 1):=by unfold nextM;rw [jz (by omega),jz (by omega),jx rfl];omega
  have hxc:c<x:=by
   split at ht
   ·omega
   ·split at ht
    ·omega
    ·split at ht
     ·omega
     ·split at ht<;>omega
  refine ⟨a,b,x,y,x - 1,y,h1,h3,by rw [hn];exact at2_of (by omega) (by omega),?_⟩
  omega
 ·have e1:pow2 3=8:=rfl
  rw [e1] at ht ⊢
  have hm:W*(y - 1)=W*y - W:=by rw [Int.mul_sub,Int.mul_one]
  have hn:nextM W r 8=W*(y - 1)+x:=by unfold nextM;rw [jz (by omega),jz (by omega),jz (by omega),jx rfl];omega
  have hxc:x=c/\d<y:=by
   split at ht
   ·omega
   ·split at ht
    ·omega
    ·split at ht
     ·omega
     ·split at ht<;>omega
  refine ⟨a,b,x,y,x,y - 1,h1,h3,by rw [hn];exact at2_of (by omega) (by omega),?_⟩
  omega
theorem WayStep.dist {W src r z:Int}{o:Nat}(h:WayStep W src r z o):distM W src z=distM W src r+1/\z≠src:=by
 obtain ⟨a,b,x,y,x',y',h1,h2,h3,h4⟩:=h.ex
 rw [dist_at h1 h3,dist_at h1 h2]
 refine ⟨by omega,?_⟩
 rintro rfl
 have e1:x'=a:=h3.col.symm.trans h1.col
 have e2:y'=b:=h3.row.symm.trans h1.row
 omega
theorem WayStep.uniq {W src r1 r2 z:Int}{o1 o2:Nat}(h1:WayStep W src r1 z o1)(h2:WayStep W src r2 z o2):r1=r2/\o1=o2:=by
 obtain ⟨a,b,x,y,x',y',g1,g2,g3,g4⟩:=h1.ex
 obtain ⟨c,d,u,v,u',v',k1,k2,k3,k4⟩:=h2.ex
 have e1:c=a:=k1.col.symm.trans g1.col
 have e2:d=b:=k1.row.symm.trans g1.row
 have e3:u'=x':=k3.col.symm.trans g3.col
 have e4:v'=y':=k3.row.symm.trans g3.row
 have:u=x/\v=y/\o1=o2:=by omega
 refine ⟨?_,this.2.2⟩
 rw [g2.eq,k2.eq,this.1,this.2.1]
end Go.Gm
end

section
namespace Go.Gm
theorem enterT_inv {c:RCtx}(hc:RCtxOk c){st:RunZ}{ent:Nat->Nat->Prop}{snt:Nat->Nat->Nat->Prop}{dl:Nat->Nat->Nat}{rd:Nat->Prop}{t r:Nat}{l:List Nat}(hdl:∀o,dl r o=t)
  (h:RInv c st ent snt dl t (fun _ _=>True) rd (fun x y=>y=r/\x∈l)) (hn:l.Nodup):∀i,i<=l.length->∃ent',RInv c ((l.take i).foldl (enterP c.s c.tabs c.pk t r) st) ent' snt dl t (fun _ _=>True) rd fun x y=>y=r/\x∈l.drop i
 |0,_=>⟨ent,h⟩
 |i+1,hi=>by
  obtain ⟨ent',ih⟩:=enterT_inv hc hdl h hn i (by omega)
  have hlt:i<l.length:=by omega
  have hd:l.drop i=l[i]::l.drop (i+1):=qG hlt
  rw [hd] at ih
  have hnd:(l[i]::l.drop (i+1)).Nodup:=by rw [<-hd];exact hn.sublist (List.drop_sublist _ _)
  obtain ⟨e2,h2⟩:=enterP_inv hc ih hnd hdl
  refine ⟨e2,?_⟩
  rw [qi,qq hlt,qW,Qx]
  exact h2
def inSt (c:RCtx)(k j:Nat):RunZ:=(List.range j).foldl (inR c.s c.tabs c.pk k) (runM c.s c.tabs c.pk c.n k)
def inLs (c:RCtx)(k j:Nat):List Nat:=cominR (inSt c k j) j++if k=0 then sentsR c.pk j else []
def inEn (c:RCtx)(k j i:Nat):RunZ:=((inLs c k j).take i).foldl (enterP c.s c.tabs c.pk k j) (clearR (inSt c k j) j)
def outSt (c:RCtx)(k j:Nat):RunZ:=(List.range j).foldl (sendR c.s k) (inSt c k c.n)
def outO (c:RCtx)(k j o:Nat):RunZ:=(List.range o).foldl (sendO c.s k j) (outSt c k j)
theorem inEn_zero (c:RCtx)(k j:Nat):inEn c k j 0=clearR (inSt c k j) j:=rfl
theorem inEn_all (c:RCtx)(k j:Nat):inEn c k j (inLs c k j).length=inSt c k (j+1):=by
 unfold inEn
 rw [Qk]
 unfold inSt
 rw [Qz,Qx]
 rfl
theorem outO_next (c:RCtx)(k j o:Nat):outO c k j (o+1)=sendO c.s k j (outO c k j o) o:=by
 unfold outO
 rw [Qz,Qx]
 rfl
theorem outO_all (c:RCtx)(k j:Nat):outO c k j 5=outSt c k (j+1):=by
 unfold outSt
 rw [Qz,Qx]
 rfl
theorem outSt_all (c:RCtx)(k:Nat):outSt c k c.n=runM c.s c.tabs c.pk c.n (k+1):=by
 unfold runM
 rw [Qz,Qx]
 rfl
theorem inSt_inv {c:RCtx}(hc:RCtxOk c)(k j:Nat)(hj:j<=c.n):∃ent snt,RInv c (inSt c k j) ent snt (fun _ _=>k) k (fun _ _=>True) (fun y=>k≠0\/y<j) fun _ _=>False:=by
 obtain ⟨ent,snt,h⟩:=run_inv hc k
 obtain ⟨e2,h2⟩:=ins_inv hc h j hj
 exact ⟨e2,snt,h2⟩
theorem inEn_inv {c:RCtx}(hc:RCtxOk c)(k j i:Nat)(hj:j<c.n)(hi:i<=(inLs c k j).length):∃ent snt rd,RInv c (inEn c k j i) ent snt (fun _ _=>k) k (fun _ _=>True) rd fun x y=>y=j/\x∈(inLs c k j).drop i:=by
 obtain ⟨ent,snt,h⟩:=inSt_inv hc k j (by omega)
 obtain ⟨h1,h2⟩:=clear_inv hc hj h (by omega)
 obtain ⟨e2,h3⟩:=enterT_inv hc (fun _=>rfl) h1 h2 i hi
 exact ⟨e2,snt,_,h3⟩
structure EnterOk (c:RCtx) (st:RunZ) (j p:Nat):Prop where
 lt:p<c.pk.length
 outs:c.outs p j≠0
 find:findE ((c.tabs[j]?).getD []) ((c.pk[p]?.map (·.key)).getD 0)=some (c.outs p j)
 good:∀o,o<5->c.has p j o->leadM c.s.wide c.s.high (j:Int) (pow2 o)/\((st.q j o).length:Int)<c.s.room
theorem inEn_ok {c:RCtx}(hc:RCtxOk c){k j i p:Nat}(hj:j<c.n)(hp:(inLs c k j)[i]? =some p):EnterOk c (inEn c k j i) j p/\inEn c k j (i+1)=(List.range 5).foldl (enterO c.s k j p (c.outs p j)) (inEn c k j i)/\EnO c (inEn c k j i) (inEn c k j (i+1)) j p 5:=by
 have hlt:=(qx.1 hp).1
 obtain ⟨ent,snt,rd,h⟩:=inEn_inv hc k j i hj (by omega)
 have hd:(inLs c k j).drop i=p::(inLs c k j).drop (i+1):=by
  rw [qG hlt]
  congr 1
  rw [qq hlt] at hp
  exact Option.some.inj hp
 obtain ⟨h1,h2,h3,h4,h5,h6,h7⟩:=h.pe p j ⟨rfl,by rw [hd];exact qg⟩
 have hf:=hc.find p j h1 h2 h3
 have hno:∀o,p∉(inEn c k j i).q j o:=fun o hm=>h4 (h.q j o p hm).2.2.2.2.1
 have hstep:inEn c k j (i+1)=(List.range 5).foldl (enterO c.s k j p (c.outs p j)) (inEn c k j i):=by
  unfold inEn
  rw [qi,hp,qW,Qx]
  show enterP c.s c.tabs c.pk k j _ p=_
  unfold enterP
  rw [hf]
 refine ⟨⟨h1,h3,hf,fun o ho hh=>?_⟩,hstep,?_⟩
 ·have hfew:=queue_few hc (l:=(inEn c k j i).q j o) ho (fun y hy=>⟨(h.q j o y hy).1,(h.q j o y hy).2.2.2.1⟩) (h.qn j o) h1 hh (hno o)
  have hroom:=hc.room
  refine ⟨?_,by omega⟩
  by_cases h4:o<4
  ·exact (hc.edge p j o h1 hj h4 hh).1
  ·have:o=4:=by omega
   subst this
   unfold leadM pow2
   simp
 ·rw [hstep]
  exact enterO_all hc (t:=k) h1 hj (fun o x hx=>⟨(h.q j o x hx).1,(h.q j o x hx).2.2.2.1⟩) (fun o=>h.qn j o) hno 5 (qA _)
theorem inLs_le {c:RCtx}(hc:RCtxOk c)(k j:Nat):(inLs c k j).length<=4+c.pk.length:=by
 unfold inLs
 rw [qw]
 have h1:=List.length_filterMap_le (fun o=>(inSt c k j).co j o) (List.range 4)
 rw [Qg] at h1
 have h2:=qD (fun p=>decide ((c.pk[p]?.map (·.src)).getD 0=j)) (List.range c.pk.length)
 rw [Qg] at h2
 unfold cominR sentsR
 split
 ·omega
 ·have:([]:List Nat).length=0:=rfl
  omega
theorem outSt_inv {c:RCtx}(hc:RCtxOk c)(k j:Nat)(hj:j<=c.n):∃ent snt rd,RInv c (outSt c k j) ent snt (dlO k j 0) (k+1) (bef j 0) rd fun _ _=>False:=by
 obtain ⟨ent,snt,h1⟩:=inSt_inv hc k c.n (qA _)
 have hno:∀a b p,(inSt c k c.n).co a b=some p->False:=by
  intro a b p hp
  obtain ⟨a1,a2,_⟩:=h1.co a b p hp
  unfold inSt at hp
  rw [ins_co,jx a2] at hp
  cases hp
 have h2:RInv c (inSt c k c.n) ent snt (dlO k 0 0) (k+1) (bef 0 0) (fun _=>k+1≠0) fun _ _=>False:=by
  refine ⟨h1.q,h1.qn,?_,fun a b p hp=>(hno a b p hp).elim,h1.all,h1.on,h1.sn,h1.en,h1.pa,fun x y hx=>hx.elim,?_,h1.ar,h1.an,h1.aa,h1.dr⟩
  ·intro a b i p hp
   have:dlO k 0 0 a b=k:=by unfold dlO;rw [jz (by unfold bef;omega)]
   rw [this];exact h1.qd a b i p hp
  ·intro p hp
   refine ⟨fun _=>(h1.rt p hp).1 (.inr (hc.root p hp).1),fun h3=>absurd (by omega:k+1≠0) h3⟩
 obtain ⟨s2,h3⟩:=sends_inv hc h2 j hj
 exact ⟨ent,s2,_,h3⟩
theorem outO_inv {c:RCtx}(hc:RCtxOk c)(k j o:Nat)(hj:j<c.n)(ho:o<=5):∃ent snt rd,RInv c (outO c k j o) ent snt (dlO k j o) (k+1) (bef j o) rd fun _ _=>False:=by
 obtain ⟨ent,snt,rd,h⟩:=outSt_inv hc k j (by omega)
 obtain ⟨s2,h2⟩:=sendOs_inv hc hj h o ho
 exact ⟨ent,s2,rd,h2⟩
theorem RInv.arr_few {c:RCtx}{st ent snt dl cdl proc rd pend}(h:RInv c st ent snt dl cdl proc rd pend):st.arr.length<=c.pk.length*c.n:=by
 have h1:(st.arr.map fun x=>(x.1,x.2.1)).length<=((List.range c.pk.length).flatMap fun p=>(List.range c.n).map fun r=>(p,r)).length:=by
  refine Go.Vx.nodup_len h.an fun x hx=>?_
  obtain ⟨⟨a,b,t⟩,hm,rfl⟩:=qo.1 hx
  have h2:=h.en a b (h.sn a b 4 (h.ar a b t hm).1).1
  rw [QY]
  exact ⟨a,qL.2 h2.1,qo.2 ⟨b,qL.2 h2.2.1,rfl⟩⟩
 rw [qv] at h1
 have h2:((List.range c.pk.length).flatMap fun p=>(List.range c.n).map fun r=>(p,r)).length=c.pk.length*c.n:=by
  have:∀m:Nat,((List.range m).flatMap fun p=>(List.range c.n).map fun r=>(p,r)).length=m*c.n:=by
   intro m
   induction m with
   |zero=>simp
   |succ m ih=>rw [Qz,QK,qw,ih,List.flatMap_singleton,qv,Qg,Nat.succ_mul]
  exact this _
 omega
theorem outO_ok {c:RCtx}(hc:RCtxOk c){k j o:Nat}(hj:j<c.n)(ho:o<5):(o<4->(outO c k j o).q j o≠[]->leadM c.s.wide c.s.high (j:Int) (pow2 o))/\(outO c k j o).arr.length<=c.pk.length*c.n:=by
 obtain ⟨ent,snt,rd,h⟩:=outO_inv hc k j o hj (by omega)
 refine ⟨fun h4 hne=>?_,h.arr_few⟩
 obtain ⟨p,hp⟩:=List.exists_mem_of_ne_nil _ hne
 obtain ⟨h1,h2,h3,h5,_⟩:=h.q j o p hp
 exact (hc.edge p j o h1 h2 h4 h5).1
end Go.Gm
end
