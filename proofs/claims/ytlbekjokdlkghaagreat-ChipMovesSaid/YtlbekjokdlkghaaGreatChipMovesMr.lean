import Derived.Test.YtlbekjokdlkghaaGreatChipMovesMf
import Derived.Test.YtlbekjokdlkghaaGreatChipMovesMq
set_option linter.unusedVariables false
set_option linter.unusedSimpArgs false
set_option maxHeartbeats 4000000
section
namespace Go.Proofs
open Go Go.Vx Go.Gm
def ddJ:Int->List Int->List Int
 |_,[]=>[]
 |x,y::r=>if y=x then ddJ x r else y::ddJ y r
def ddI:List Int->List Int
 |[]=>[]
 |x::r=>x::ddJ x r
theorem fJ3:∀(l:List Int) (x y z:Int),(x::l).getLast? =some z->ddJ x (l++[y])=ddJ x l++if y=z then [] else [y]
 |[],x,y,z,h=>by
  have hz:x=z:=by simpa using h
  subst hz
  by_cases e:y=x<;>simp [ddJ,e]
 |u::r,x,y,z,h=>by
  have h':(u::r).getLast? =some z:=by rw [List.getLast?_cons_cons] at h;exact h
  show ddJ x (u::(r++[y]))=_
  by_cases e:u=x
  ·subst e
   simp only [ddJ,if_true]
   exact fJ3 r u y z h'
  ·simp only [ddJ,jk e,fJ3 r u y z h',Qw]
theorem gH6 {X:List Int}{i:Nat}{y z:Int}(hz:X[i]? =some z)(hy:X[i+1]? =some y):ddI (X.take (i+2))=ddI (X.take (i+1))++if y=z then [] else [y]:=by
 have e1:X.take (i+2)=X.take (i+1)++[y]:=by rw [qi,hy];rfl
 have e2:X.take (i+1)=X.take i++[z]:=by rw [qi,hz];rfl
 rw [e1]
 cases hc:X.take (i+1) with
 |nil=>rw [hc] at e2;simp at e2
 |cons x l=>
  show x::ddJ x (l++[y])=x::ddJ x l++_
  rw [fJ3 l x y z (by rw [<-hc,e2];simp)]
  rfl
theorem hM0 {X:List Int}(h:X.length<2):ddI X=X:=by
 match X,h with
 |[],_=>rfl
 |[x],_=>rfl
theorem gK7 {α:Type}{f:α->List Value}{k:Nat}(hk:∀x,(f x).length=k){l:List α}{i n:Nat}(y:α)(hn:l.length=i+n):upd (bQ1 f l) (i*k) (bB1 (f y) n)=some (bQ1 f (l.take i++List.replicate n y)):=by
 have e1:(bQ1 f l).length=(i+n)*k:=by rw [bX9 hk,hn]
 have e2:(bB1 (f y) n).length=n*k:=by rw [bV3,bX9 hk,Qn]
 have e3:(i+n)*k=i*k+n*k:=QD ..
 rw [cL0 _ _ _ qZ,bQ7,<-bV3]
 congr 1
 rw [List.drop_of_length_le qZ,qC]
 congr 1
 have e4:bQ1 f l=bQ1 f (l.take i)++bQ1 f (l.drop i):=by rw [<-bQ7,QJ]
 have e5:(bQ1 f (l.take i)).length=i*k:=by rw [bX9 hk,qh];congr 1;omega
 rw [e4,<-e5,List.take_left]
theorem cL9:∀n:Nat,bK6 (bB1 (bQ6 0) n)=true
 |0=>rfl
 |n+1=>by
  have:=cL9 n
  simpa [bB1,bK6,bQ6,Value.oneCell'] using this
set_option maxHeartbeats 2000000 in
theorem fD1 {w0:World}{H:HP}{K:Value->HP->Prop}(gq cq:Nat)(X:List Int)(hnb:X.length<=65536)(hK0:K (.slice (some ⟨gq,0,none⟩) (ddI X).length cq) (.vec (some ⟨gq,0,none⟩) (ddI X).length cq 3 1 (bQ1 bQ6 (ddI X))::H)):
  VCall Tryz.cx.P w0 [] (.vec (some ⟨gq,0,none⟩) X.length cq 3 1 (bQ1 bQ6 X)::H) 177 [.slice (some ⟨gq,0,none⟩) X.length cq] K:=by
 refine VCall.hle ?_
 refine VCall.inl (F:=lH2) Tryz.func177 rfl rfl rfl lL3 ?_
 rcases qy X.length 2 with hfew|hge2
 ·repeat' (conv=>whnf);first|refine VSeq.go ?_|refine oY fun _=>?_
  all_goals (conv=>whnf)
  exact ⟨_,HLe.refl _,by rw [hM0 hfew] at hK0;exact hK0⟩
 repeat' (conv=>whnf);first|refine VSeq.go ?_|refine oN fun _=>?_
 all_goals (conv=>whnf)
 have hn:2<=X.length:=by omega
 refine VLoop.mk (α:=Nat) (fun k=>1<=k/\k<=X.length/\ddI (X.take k)=X.take k)
  (fun k=>[(1000000,.tuple #[]),(0,.slice (some ⟨gq,0,none⟩) X.length cq),(2,.slice none 0 0),(3,.int .i64 (k:Int))])
  (fun _=>.vec (some ⟨gq,0,none⟩) X.length cq 3 1 (bQ1 bQ6 X)::H) (fun k=>X.length - k) 1 ⟨qA _,by omega,hM0 (by rw [qh];omega)⟩ aE aH ?_
 rintro k ⟨hk1,hk,hdd⟩
 rcases qy k X.length with hlt|hge
 ·obtain ⟨m,rfl⟩:∃m,k=m+1:=⟨k - 1,by omega⟩
  obtain ⟨y,hy⟩:∃y,X[m+1]? =some y:=⟨X[m+1],qq _⟩
  obtain ⟨z,hz⟩:∃z,X[m]? =some z:=⟨X[m],qq _⟩
  have hst:=gH6 hz hy
  have hyv:sub (bQ6 y) 0 1=some [.int .i64 y]:=rfl
  have hzv:sub (bQ6 z) 0 1=some [.int .i64 z]:=rfl
  repeat' (conv=>whnf);first|(refine VSeq.is ?_;refine bF1 8 rfl ?_;refine VSeq.learn (at_:=8) (fun w hw=>bB9 (hw (.vec (some ⟨gq,0,none⟩) X.length cq 3 1 (bQ1 bQ6 X)) oU)) (fun hfc=>?_))|refine oI ?_|(refine VLd.is ?_;refine oC (.vec aT (bQ8 (f:=bQ6) (k:=1) oR hy hyv)) ?_)|(refine VLd.is ?_;refine oC (.vec aT (bQ8 (f:=bQ6) (k:=1) oR hz hzv)) ?_)|(refine VSl.is ?_;refine VSl.mk qZ qZ (by have:=hfc.1;omega) fun q2 hq2 hq3=>?_;have hqe:=hq2 (by have:=hfc.1;omega);clear hq2 hq3;subst hqe)|refine VSeq.go ?_|refine oY fun _=>?_|refine oS (fun _=>?_) fun _=>?_|refine oA ?_|refine oH ?_
  all_goals (conv=>whnf)
  rotate_left
  ·rename_i hne
   rw [jk qZ] at hst
   refine VNext.mk (m+2) ⟨by omega,by omega,?_⟩ qZ aE aH
   rw [hst,hdd]
   rw [qi (l:=X) (i:=m+1),hy];rfl
  rename_i heq
  have hyz:y=z:=by omega
  rw [jw hyz,qC,hdd] at hst
  have hXc:=hfc.1
  have hml:(X.take (m+1)).length=m+1:=by rw [qh];omega
  clear hfc hdd hyz heq hyv hzv
  refine VLoop.mk (α:=Nat×Nat×List Int) (fun s=>(1<=s.1/\1<=s.2.1/\s.1<m+1+s.2.1/\m+1+s.2.1<=X.length/\s.1=(ddI (X.take (m+1+s.2.1))).length)/\s.2.2.length=X.length/\s.2.2.take s.1=ddI (X.take (m+1+s.2.1))/\s.2.2.drop (m+s.2.1)=X.drop (m+s.2.1))
   (fun s=>[(1000000,.tuple #[]),(0,.slice (some ⟨gq,0,none⟩) X.length cq),(2,.slice none 0 0),(3,.int .i64 (s.1:Int)),(4,.slice (some ⟨gq,0+(m+1)*1,none⟩) (X.length - (m+1)) (cq - (m+1))),(5,.int .i64 (s.2.1:Int))])
   (fun s=>.vec (some ⟨gq,0,none⟩) X.length cq 3 1 (bQ1 bQ6 s.2.2)::H) (fun s=>X.length - s.2.1) (m+1,1,X) ⟨⟨by dsimp only;omega,by dsimp only;omega,by dsimp only;omega,by dsimp only;omega,?_⟩,rfl,?_,rfl⟩ ?_ aH ?_
  ·dsimp only;rw [hst,hml]
  ·dsimp only;rw [hst]
  ·exact aE
  clear hst hy hz hk1 hk hlt
  rintro ⟨k,j,Y⟩ ⟨⟨hk1,hj1,hkj,hj,hkl⟩,hYl,hYt,hYd⟩
  dsimp only at hk1 hj1 hkj hj hkl hYl hYt hYd ⊢
  rcases qy (m+1+j) X.length with hlt|hge
  ·obtain ⟨y,hy⟩:∃y,X[m+j+1]? =some y:=⟨X[m+j+1],qq _⟩
   obtain ⟨z,hz⟩:∃z,X[m+j]? =some z:=⟨X[m+j],qq _⟩
   have hst:=gH6 hz hy
   rw [show m+j+2=m+1+(j+1) by omega,show m+j+1=m+1+j by omega] at hst
   have hYz:Y[m+j]? =some z:=by
    have h1:=congrArg (fun L=>L[0]?) hYd
    simp only [Qy,Nat.add_zero] at h1
    rw [h1,hz]
   have hYy:Y[m+j+1]? =some y:=by
    have h1:=congrArg (fun L=>L[1]?) hYd
    simp only [Qy] at h1
    rw [h1,hy]
   obtain ⟨u,hu⟩:∃u,Y[k]? =some u:=⟨Y[k]'qZ,qq _⟩
   have hyv:sub (bQ6 y) 0 1=some [.int .i64 y]:=rfl
   have hzv:sub (bQ6 z) 0 1=some [.int .i64 z]:=rfl
   have hups:upd (bQ1 bQ6 Y) (k*1) [.int .i64 y]=some (bQ1 bQ6 (Y.set k y)):=bZ9 (f:=bQ6) (k:=1) (y:=y) oR hu rfl
   repeat' (conv=>whnf);first|refine oI ?_|(refine VLd.is ?_;refine oC (.vec aT (bQ8 (f:=bQ6) (k:=1) oR hYy hyv)) ?_)|(refine VLd.is ?_;refine oC (.vec aT (bQ8 (f:=bQ6) (k:=1) oR hYz hzv)) ?_)|(refine VSt.is ?_;refine VSt.cast (off':=k*1) oE (VSt.vec aT hups rfl ?_))|refine VSeq.go ?_|refine oY fun _=>?_|refine oS (fun _=>?_) fun _=>?_|refine oA ?_|refine oH ?_
   all_goals (conv=>whnf)
   ·rename_i hne
    rw [jk qZ] at hst
    refine VNext.mk (k+1,j+1,Y.set k y) ⟨⟨by dsimp only;omega,by dsimp only;omega,by dsimp only;omega,by dsimp only;omega,by dsimp only;rw [hst,List.length_append,List.length_singleton];omega⟩,by dsimp only;rw [List.length_set];exact hYl,?_,?_⟩ (by dsimp only;omega) aE aH
    ·dsimp only
     rw [hst,<-hYt]
     apply qp
     intro t
     rw [Qt,qO,List.getElem?_append,qh,Qt]
     have m1:min k Y.length=k:=by omega
     rw [m1]
     rcases Nat.lt_trichotomy t k with h|h|h
     ·rw [jw qZ,jk qZ,jw h,jw h]
     ·subst h
      rw [jw qZ,jw rfl,jw qZ,jk qZ,jx];rfl
     ·rw [jk qZ,jk qZ,qf (by simp;omega)]
    ·dsimp only
     apply qp
     intro t
     have h2:=congrArg (fun L=>L[t+1]?) hYd
     simp only [Qy] at h2
     rw [Qy,Qy,qO,jk qZ,show m+(j+1)+t=m+j+(t+1) by omega]
     exact h2
   ·rename_i heq
    have hyz:y=z:=by omega
    rw [jw hyz,qC] at hst
    refine VNext.mk (k,j+1,Y) ⟨⟨by dsimp only;omega,by dsimp only;omega,by dsimp only;omega,by dsimp only;omega,by dsimp only;rw [hst];exact hkl⟩,hYl,by dsimp only;rw [hst];exact hYt,?_⟩ (by dsimp only;omega) aE aH
    dsimp only
    apply qp
    intro t
    have h2:=congrArg (fun L=>L[t+1]?) hYd
    simp only [Qy] at h2
    rw [Qy,Qy,show m+(j+1)+t=m+j+(t+1) by omega]
    exact h2
  ·have hjx:m+1+j=X.length:=by omega
   rw [hjx,Qk] at hkl hYt
   have hut:=gK7 (f:=bQ6) (k:=1) oR (l:=Y) (i:=k) (n:=X.length - k) 0 qZ
   repeat' (conv=>whnf);first|(refine VSl.is ?_;refine cG9 (m:=k) (cap:=cq) qZ ?_)|(refine VSl.is ?_;refine VSl.mk qZ qZ qZ fun q2 hq2 hq3=>?_;have hqe:=hq2 qZ;clear hq2 hq3;subst hqe)|(refine VCl.is ?_;refine VCl.part (b:=gq) (off:=k*1) (by simp [Addr.add];omega) qZ ?_)|(refine VSt.is ?_;refine VSt.vec aT hut (cL9 _) ?_)|refine VSeq.go ?_|refine oN fun _=>?_
   all_goals (conv=>whnf)
   have hlX:(Y.take k++List.replicate (X.length - k) (0:Int)).length=X.length:=by rw [qw,qh,Qn];omega
   have htX:(Y.take k++List.replicate (X.length - k) (0:Int)).take k=ddI X:=by
    rw [<-hYt,List.take_append_of_le_length (by rw [qh];omega),qe (by rw [qh];omega)]
   rw [<-hkl] at hK0
   refine ⟨_,?_,hK0⟩
   rw [<-htX]
   exact HLe.shr (l:=Y.take k++List.replicate (X.length - k) (0:Int)) aT oR hlX qZ (HLe.refl _)
 ·have hkl:k=X.length:=by omega
  subst hkl
  rw [Qk] at hdd
  repeat' (conv=>whnf);first|refine VSeq.go ?_|refine oN fun _=>?_
  all_goals (conv=>whnf)
  rw [hdd] at hK0
  exact ⟨_,HLe.refl _,hK0⟩
end Go.Proofs
end

section
namespace Go.Gm
open Go.Proofs
theorem fJ2:∀(l:List Int) (x:Int),(x::l).Pairwise (fun a b=>a<=b)->(∀y∈ddJ x l,x<y)/\(ddJ x l).Pairwise (fun a b=>a<b)/\∀y,(y=x\/y∈ddJ x l)<->(y=x\/y∈l)
 |[],x,_=>by simp [ddJ]
 |u::r,x,h=>by
  obtain ⟨h1,h2⟩:=List.pairwise_cons.1 h
  by_cases e:u=x
  ·subst e
   simp only [ddJ,if_true]
   obtain ⟨i1,i2,i3⟩:=fJ2 r u h2
   refine ⟨i1,i2,fun y=>?_⟩
   rw [i3 y,qQ]
   constructor
   ·rintro (h|h)
    ·exact .inl h
    ·exact .inr (.inr h)
   ·rintro (h|h|h)
    ·exact .inl h
    ·exact .inl h
    ·exact .inr h
  ·obtain ⟨i1,i2,i3⟩:=fJ2 r u h2
   simp only [ddJ,jk e]
   have hxu:x<u:=by have:=h1 u qg;omega
   refine ⟨fun y hy=>?_,?_,fun y=>?_⟩
   ·rcases qQ.1 hy with rfl|hy
    ·exact hxu
    ·have:=i1 y hy;omega
   ·exact List.pairwise_cons.2 ⟨i1,i2⟩
   ·rw [qQ,qQ,i3 y]
theorem hN8:∀{l m:List Int},l.Pairwise (fun a b=>a<b)->m.Pairwise (fun a b=>a<b)->(∀x,x∈l<->x∈m)->l=m
 |[],[],_,_,_=>rfl
 |[],y::m,_,_,h=>absurd ((h y).2 qg) oU
 |x::l,[],_,_,h=>absurd ((h x).1 qg) oU
 |x::l,y::m,h1,h2,h=>by
  obtain ⟨a1,a2⟩:=List.pairwise_cons.1 h1
  obtain ⟨b1,b2⟩:=List.pairwise_cons.1 h2
  have e:x=y:=by
   rcases qQ.1 ((h x).1 qg) with e|e
   ·exact e
   ·rcases qQ.1 ((h y).2 qg) with e2|e2
    ·exact e2.symm
    ·have:=b1 x e;have:=a1 y e2;omega
  subst e
  congr 1
  refine hN8 a2 b2 fun z=>?_
  constructor
  ·intro hz
   rcases qQ.1 ((h z).1 (qu _ hz)) with e|e
   ·subst e;have:=a1 z hz;omega
   ·exact e
  ·intro hz
   rcases qQ.1 ((h z).2 (qu _ hz)) with e|e
   ·subst e;have:=b1 z hz;omega
   ·exact e
theorem fP8 (L:List Int):(ddI (sorted L)).Pairwise (fun a b=>a<b)/\∀x,x∈ddI (sorted L)<->x∈L:=by
 have hp:(sorted L).Pairwise (fun a b=>a<=b):=by
  unfold sorted
  have:=List.pairwise_mergeSort (le:=fun x y:Int=>decide (x<=y)) (by simp only [jy];omega) (by intro a b;simp only [Bool.or_eq_true,jy];omega) L
  exact this.imp fun h=>by simpa using h
 have hm:∀x,x∈sorted L<->x∈L:=fun x=>by unfold sorted;rw [List.mem_mergeSort]
 cases hc:sorted L with
 |nil=>
  rw [hc] at hm
  exact ⟨List.Pairwise.nil,hm⟩
 |cons x r=>
  rw [hc] at hp hm
  obtain ⟨i1,i2,i3⟩:=fJ2 r x hp
  refine ⟨List.pairwise_cons.2 ⟨i1,i2⟩,fun y=>?_⟩
  rw [<-hm y,qQ,<-i3 y]
  exact qQ
theorem gR0 (N:Net)(C:Chp)(cores:List Int)(key:Int):(bX7 N C cores key).Pairwise (fun a b=>a<b):=by
 unfold bX7
 refine List.Pairwise.filter _ ?_
 rw [List.pairwise_map]
 exact List.pairwise_lt_range.imp fun h=>by omega
theorem gH5 {N:Net}{C:Chp}{cores:List Int}{key:Int}(h:AsgOk N C cores):ddI (sorted ((cK1 N N.syns key).map fun t=>cores[t.toNat]?.getD 0))=bX7 N C cores key:=by
 obtain ⟨h1,h2⟩:=fP8 ((cK1 N N.syns key).map fun t=>cores[t.toNat]?.getD 0)
 refine hN8 h1 (gR0 N C cores key) fun x=>?_
 rw [h2,qo]
 have hn:=bX6 h.plan.chip
 unfold bX7
 rw [qP,qo]
 simp only [jy,qL]
 constructor
 ·rintro ⟨t,ht,rfl⟩
  obtain ⟨s,hs,hk,rfl⟩:=cG1.1 ht
  have hto:=(h.plan.net.syns s hs).2.1
  have hlt:s.to.toNat<cores.length:=by rw [h.len];omega
  have hg:cores[s.to.toNat]? =some (cores[s.to.toNat]'hlt):=qq hlt
  have hr:=(h.core _ (qz hg)).1
  rw [hg,qY]
  refine ⟨⟨(cores[s.to.toNat]'hlt).toNat,by omega,by omega⟩,s,hs,hk,hg⟩
 ·rintro ⟨_,s,hs,hk,hg⟩
  exact ⟨s.to,cG1.2 ⟨s,hs,hk,rfl⟩,by rw [hg];rfl⟩
theorem dN4 {N:Net}{C:Chp}{cores:List Int}{key:Int}(h:AsgOk N C cores)(hk:0<=key)(hne:cK1 N N.syns key≠[]):dV6 C.mesh (bJ2 N cores key) (bX7 N C cores key)=(bQ5 N C cores key,0):=by
 have hn:=bX6 h.plan.chip
 have hz:bR0 C.mesh (bJ2 N cores key::bX7 N C cores key)=0:=by
  refine bC6.2 ⟨h.plan.chip.mesh,fun x hx=>?_⟩
  rcases qQ.1 hx with rfl|hx
  ·unfold bJ2
   split
   ·rename_i hlt
    have hl:key.toNat<cores.length:=by rw [h.len];omega
    rw [qq hl,qY]
    exact (h.core _ (Qu hl)).1
   ·omega
  ·unfold bX7 at hx
   rw [qP,qo] at hx
   obtain ⟨⟨a,ha,rfl⟩,_⟩:=hx
   rw [qL] at ha
   omega
 have hcn:bX7 N C cores key≠[]:=by
  rw [<-gH5 h]
  intro he
  obtain ⟨t,ht⟩:=List.exists_mem_of_ne_nil _ hne
  have:=((fP8 ((cK1 N N.syns key).map fun t=>cores[t.toNat]?.getD 0)).2 (cores[t.toNat]?.getD 0)).2 (qN (f:=fun t=>cores[t.toNat]?.getD 0) ht)
  rw [he] at this
  cases this
 unfold dV6
 rw [hz,jk (by decide),jk hcn]
 rfl
end Go.Gm
namespace Go.Proofs
open Go Go.Vx Go.Gm
structure TreM where
 gc:Nat
 cc:Nat
 go:Nat
 co:Nat
def lN5 (N:Net)(C:Chp)(cores:List Int)(key:Int)(z:TreM):List Value:=
 [.int .i64 key,.int .i64 (bJ2 N cores key),.slice (some ⟨z.gc,0,none⟩) (bX7 N C cores key).length z.cc,.slice (some ⟨z.go,0,none⟩) (bQ5 N C cores key).length z.co]
def lN4 (N:Net)(C:Chp)(cores:List Int)(key:Int)(z:TreM):HP:=
 [.vec (some ⟨z.go,0,none⟩) (bQ5 N C cores key).length z.co 3 1 (bQ1 bQ6 (bQ5 N C cores key)),.vec (some ⟨z.gc,0,none⟩) (bX7 N C cores key).length z.cc 3 1 (bQ1 bQ6 (bX7 N C cores key))]
theorem hV7 (X:PlnX)(x:PlnM)(cores:List Int)(hA:AsgOk X.N X.C cores)(k:Nat)(hk:k<bV2 X.N)(hne:cK1 X.N X.N.syns (k:Int)≠[])(p:Option Addr)(c b o:Nat)(w:World)(hx:PlnAt X x w)(h1:Sl w bQ6 1 cores p cores.length b o):
  Calls Tryz.prog 112 #[.pointer (some ⟨x.b,0,none⟩),.slice p cores.length c,.int .i64 (k:Int)] w fun e w'=>∃z:TreM,e=.returned (.agg (lN5 X.N X.C cores k z).toArray)/\True/\St w [] (lN4 X.N X.C cores k z) w':=by
 have htk:=dN4 hA (key:=(k:Int)) qZ hne
 have hdd:=gH5 (key:=(k:Int)) hA
 have hrow:=hx.row
 have hTc:=hx.T
 have hns:bV2 X.N<=256:=by
  have:=hA.plan.few
  have:=hA.plan.net.inputs
  unfold bV2;omega
 have hfs:=hA.plan.net.fewS
 have hTl:x.T.length=bV2 X.N:=by
  have:=congrArg List.length hx.up.T
  rw [qv] at this
  rw [this];unfold dL2;simp
 obtain ⟨d,hd⟩:∃d,x.T[k]? =some d:=⟨_,qq qZ⟩
 have hdl:d.l=cK1 X.N X.N.syns (k:Int):=by
  have:=congrArg (fun L=>L[k]?) hx.up.T
  rw [qj,hd] at this
  unfold dL2 at this
  rw [qj,qX hk] at this
  simpa using this
 obtain ⟨bt,ht⟩:=hx.rowT d (qz hd)
 have hdn:d.l.length<=8192:=by
  have:=fT0 (N:=X.N) (key:=(k:Int)) X.N.syns []
  rw [hdl];unfold cK1
  simp only [List.length_nil] at this
  omega
 have hdr:∀t∈d.l,0<=t/\t.toNat<cores.length:=fun t h=>by
  rw [hdl] at h
  obtain ⟨s,hs,_,rfl⟩:=cG1.1 h
  have:=(hA.plan.net.syns s hs).2.1
  rw [hA.len];omega
 rw [<-hdl] at hdd hne
 have hpos:=QI.2 hne
 have k0:sub (fS0 X x) 0 3=some (cK4 X.C.mesh):=rfl
 have k11:sub (fS0 X x) 11 1=some [.slice (some ⟨x.gt,0,none⟩) x.T.length x.T.length]:=rfl
 have hmw:=hx.rd.chip.mesh
 have hlen:=hA.len
 have hfp:=hA.plan.net.few
 obtain ⟨home,hhome⟩:=gX (bJ2 X.N cores (k:Int))
 have hcase:(cores.length<=k/\home=0)\/(k<cores.length/\cores[k]? =some home):=by
  unfold bJ2 at hhome
  rcases qy k cores.length with h|h
  ·right
   rw [jw qZ,jf,qq h,qY] at hhome
   exact ⟨h,by rw [qq h,hhome]⟩
  ·left
   rw [jk qZ] at hhome
   exact ⟨h,hhome.symm⟩
 have hhw:I64 home:=by
  rcases hcase with ⟨_,rfl⟩|⟨_,h⟩
  ·unfold I64;omega
  ·have:=(hA.core _ (qz h)).1
   have:=cZ7 hA.plan.chip.mesh
   unfold I64;omega
 have hcoR:∀q∈bX7 X.N X.C cores (k:Int),I64 q:=fun q hq=>by
  unfold bX7 at hq
  rw [qP,qo] at hq
  obtain ⟨⟨a,ha,rfl⟩,_⟩:=hq
  rw [qL] at ha
  have:=bX6 hA.plan.chip
  unfold I64;omega
 have hcoL:(bX7 X.N X.C cores (k:Int)).length<=64:=by
  have h1:=qD (fun q=>decide (∃s∈X.N.syns,bG1 X.N s.frm=(k:Int)/\cores[s.to.toNat]? =some q)) ((List.range (bX1 X.C)).map fun (k:Nat)=>(k:Int))
  rw [qv,Qg] at h1
  have:=bX6 hA.plan.chip
  unfold bX7
  omega
 have hmt:=fun (w':World) p c b o h=>cV3 X.C.mesh hmw home hhw (bX7 X.N X.C cores (k:Int)) hcoR qZ p c b o w' h
 rw [hhome] at htk
 rw [htk] at hmt
 dsimp only at hmt
 unfold lN5 lN4
 rw [hhome]
 have hcl:(bX7 X.N X.C cores (k:Int)).length=(ddI (sorted (d.l.map fun t=>cores[t.toNat]?.getD 0))).length:=by rw [hdd]
 obtain ⟨ST,hST⟩:=gX (bQ5 X.N X.C cores (k:Int))
 have hSTl:0<ST.length:=by
  rw [<-hST];unfold bQ5
  rw [bW2]
  have:=bX6 hA.plan.chip
  omega
 rw [hST] at hmt ⊢
 obtain ⟨CO,hCO⟩:=gX (bX7 X.N X.C cores (k:Int))
 rw [hCO] at hmt hdd hcoL ⊢
 unfold cK4 at hmt k0
 refine enter (C:=Tryz.cx) (F:=lD5) (args:=[_,_,_]) Tryz.func112 rfl rfl rfl mZ6 (St.start w []) ?_
 clear hhome htk hhw hcoR hns hmw hcl hST hCO
 have hck:k<cores.length->cores[k]? =some home:=fun h=>by rcases hcase with ⟨h2,_⟩|⟨_,h2⟩;omega;exact h2
 have hz0:¬k<cores.length->home=0:=fun h=>by rcases hcase with ⟨_,h2⟩|⟨h2,_⟩;exact h2;omega
 clear hcase
 repeat' (conv=>whnf);first|(refine VNew.mk fun b6=>?_)|(refine VIx.is ?_;refine VIx.mk (h1.ptr qZ) qZ qZ ?_)|(refine VLd.is ?_;refine oC (h1.rd0 oU oR (hck qZ) rfl) ?_)|(refine VSeq.is ?_;refine bF1 4 rfl ?_;rename_i b7;refine VSeq.cut (at_:=4) (α:=Unit) (fun _=>True) (fun _=>[(1000000,.tuple #[]),(0,.pointer (some ⟨x.b,0,none⟩)),(1,.slice p cores.length c),(2,.int .i64 (k:Int)),(6,.pointer (some ⟨b7,0,none⟩)),(7,.pointer (some ⟨b6,0,none⟩))]) (fun _=>[.row b6 169 [.int .i64 (k:Int),.int .i64 home,.slice none 0 0,.slice none 0 0],.row b7 169 [.int .i64 0,.int .i64 0,.slice none 0 0,.slice none 0 0]]) ?_ ?_)|refine VSeq.go ?_|refine oS (fun _=>?_) fun _=>?_|refine oT ?_
 all_goals (conv=>whnf)
 ·exact VMid.mk () trivial aE aH
 ·have e:=hz0 qZ
  subst e
  exact VMid.mk () trivial aE aH
 rintro _ _
 repeat' (conv=>whnf);first|(refine VLd.is ?_;refine oC (.old (hrow.part k11) rfl oU) ?_)|refine oI ?_|(refine VLd.is ?_;refine oC (.old (hTc.part (bQ8 (vs:=[.slice d.p d.l.length d.c]) (s:=1) (f:=srV) (k:=1) oR hd rfl)) rfl oU) ?_)|refine VSeq.go ?_
 all_goals (conv=>whnf)
 refine VLoop.mk (α:=Nat×Option Addr×Nat) (fun z=>z.1<=d.l.length/\(0<z.1->∃g,z.2.1=some ⟨g,0,none⟩)) (fun z=>[(1000000,.tuple #[]),(0,.pointer (some ⟨x.b,0,none⟩)),(1,.slice p cores.length c),(6,.pointer (some ⟨b7,0,none⟩)),(7,.pointer (some ⟨b6,0,none⟩)),(27,.slice d.p d.l.length d.c),(28,.int .i64 (d.l.length:Int)),(29,.int .i64 (z.1:Int))])
  (fun z=>[.row b6 169 [.int .i64 (k:Int),.int .i64 home,.slice z.2.1 z.1 z.2.2,.slice none 0 0],.row b7 169 [.int .i64 0,.int .i64 0,.slice none 0 0,.slice none 0 0],.vec z.2.1 z.1 z.2.2 3 1 (bQ1 bQ6 ((d.l.take z.1).map fun t=>cores[t.toNat]?.getD 0))]) (fun z=>d.l.length - z.1) (0,none,0) ⟨qB _,fun h=>by cases h⟩ aE (HLe.permL (HLe.nilv aH) (List.perm_append_comm (l₁:=[_,_]) (l₂:=[_]))) ?_
 rintro ⟨i,q,cq⟩ ⟨hi,hq⟩
 dsimp only at hi hq ⊢
 rcases qy i d.l.length with hlt|hge
 ·obtain ⟨v,hv⟩:=ht.get hlt
  have hvr:=hdr v (qz hv)
  obtain ⟨u,hu⟩:∃u,cores[v.toNat]? =some u:=⟨_,qq hvr.2⟩
  have htk2:(d.l.take (i+1)).map (fun t=>cores[t.toNat]?.getD 0)=(d.l.take i).map (fun t=>cores[t.toNat]?.getD 0)++[u]:=by
   rw [qi,hv,qW,ql,qU,hu];rfl
  obtain ⟨j,rfl⟩:∃j:Nat,v=(j:Int):=⟨v.toNat,by omega⟩
  rw [jf] at hu hvr
  obtain ⟨L,hL⟩:∃L,(d.l.take i).map (fun t=>cores[t.toNat]?.getD 0)=L:=⟨_,rfl⟩
  rw [hL] at htk2 ⊢
  clear hck hz0 hdd hmt
  repeat' (conv=>whnf);first|(refine VHs.is ?_;refine VHs.mk [.row b6 169 [.int .i64 (k:Int),.int .i64 home,.slice q i cq,.slice none 0 0]] aH ?_)|(refine VIx.is ?_;refine VIx.mk (ht.ptr qZ) qZ qZ ?_)|(refine VIx.is ?_;refine VIx.mk (h1.ptr qZ) qZ qZ ?_)|(refine VLd.is ?_;refine oC (ht.rd0 (by simp) (fun _=>rfl) hv rfl) ?_)|(refine VLd.is ?_;refine oC (h1.rd0 (by simp) (fun _=>rfl) hu rfl) ?_)|(refine VNew.mk fun bn=>?_)|(refine VAp.is ?_;refine VAp.own aT (.at_ (.vec aT rfl)) (by simp [Value.oneCell']) (by (try dsimp only);omega) (by simp only [maxLen];omega) fun p1 c1 hp1=>?_)|refine VSeq.go ?_|refine oY fun _=>?_|refine oL ?_|refine oT ?_|refine oA ?_|refine oK ?_
  all_goals (conv=>whnf)
  refine VNext.mk (i+1,p1,c1) ⟨by dsimp only;omega,fun _=>hp1 qZ⟩ (by dsimp only;omega) aE ?_
  dsimp only
  rw [htk2,bQ7]
  exact aH
 have hil:i=d.l.length:=by omega
 subst hil
 obtain ⟨gq,rfl⟩:=hq hpos
 rw [Qk]
 obtain ⟨L,hL⟩:∃L,d.l.map (fun t=>cores[t.toNat]?.getD 0)=L:=⟨_,rfl⟩
 have hLl:L.length=d.l.length:=by rw [<-hL,qv]
 rw [hL] at hdd ⊢
 rw [<-hLl]
 have hSl:(sorted L).length=L.length:=by unfold sorted;rw [List.length_mergeSort]
 obtain ⟨S,hS⟩:=gX (sorted L)
 rw [hS] at hdd hSl
 clear hck hz0 hq hi hge hdr
 repeat' (conv=>whnf);first|(refine bQ0 176 ?_;(refine hZ8 (some ⟨gq,0,none⟩) L.length cq L rfl aT qZ ?_;rw [hS]))|(refine bQ0 177 ?_;(rw [<-hSl];refine VCall.le (H':=.vec (some ⟨gq,0,none⟩) S.length cq 3 1 (bQ1 bQ6 S)::[.row b6 169 [.int .i64 (k:Int),.int .i64 home,.slice (some ⟨gq,0,none⟩) S.length cq,.slice none 0 0],.row b7 169 [.int .i64 0,.int .i64 0,.slice none 0 0,.slice none 0 0]]) aH (fD1 gq cq S qZ ?_);rw [hdd]))|(refine VLd.is ?_;refine oC (.old (hrow.part k0) rfl (by simp)) ?_)|(refine bQ0 22 ?_;(refine bQ2 (fun w' hw'=>hmt w' _ _ _ _ (bZ1 hw' (l:=CO) (f:=bQ6) (k:=1) (by first|exact List.mem_cons_self|(exact List.mem_cons_of_mem _ List.mem_cons_self)) (fun _=>rfl) rfl)) ?_;rintro ⟨pz,cz⟩ hz;dsimp only at hz ⊢;obtain ⟨go,rfl⟩:=hz hSTl))|refine VSeq.go ?_|refine oN fun _=>?_|refine oL ?_|refine oT ?_|refine oH ?_
 all_goals (conv=>whnf)
 exact ⟨fun w' hw'=>⟨⟨gq,cq,go,cz⟩,rfl,trivial,hw'.le aH⟩⟩
end Go.Proofs
end
