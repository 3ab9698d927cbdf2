import Derived.Test.YtlbekjokdlkghaaGreatChipMovesRm
import Derived.Test.YtlbekjokdlkghaaGreatChipMovesPp
set_option linter.unusedVariables false
set_option linter.unusedSimpArgs false
set_option maxHeartbeats 4000000
section
namespace Go.Gm
inductive QSh where
 |nil (p:Option Go.Addr)
 |at_ (g d cap:Nat) (l:List Nat)
structure QE where
 k:Prt
 b:Nat
 s:QSh
def QSh.cont:QSh->List Nat
 | .nil _=>[]
 | .at_ _ d _ l=>l.drop d
def QSh.ok:QSh->Prop
 | .nil _=>True
 | .at_ _ d cap l=>d<=l.length/\l.length<=cap
def dD9 (qs:List QE)(k:Prt):Option Nat:=(qs.find? fun e=>decide (e.k=k)).map (·.b)
theorem fG4 {qs:List QE}{k:Prt}{b:Nat}(h:dD9 qs k=some b):∃(j:Nat) (e:QE),qs[j]? =some e/\e.k=k/\e.b=b:=by
 unfold dD9 at h
 cases hf:qs.find? fun e=>decide (e.k=k) with
 |none=>rw [hf] at h;cases h
 |some e=>
  rw [hf] at h
  have h1:=List.mem_of_find?_eq_some hf
  have h2:=List.find?_some hf
  obtain ⟨j,hj⟩:=jh h1
  exact ⟨j,e,hj,of_decide_eq_true h2,Option.some.inj h⟩
theorem fG6 {qs:List QE}{k:Prt}(h:dD9 qs k=none):∀e∈qs,e.k≠k:=by
 unfold dD9 at h
 rw [Option.map_eq_none_iff,List.find?_eq_none] at h
 intro e he hk
 have:=h e he
 simp [hk] at this
theorem fG5 {qs:List QE}{e:QE}(h:dD9 qs e.k=none)(k:Prt):dD9 (qs++[e]) k=if k=e.k then some e.b else dD9 qs k:=by
 by_cases hk:k=e.k
 ·subst hk
  rw [jw rfl]
  unfold dD9 at*
  rw [Option.map_eq_none_iff] at h
  rw [List.find?_append,h]
  simp
 ·rw [jk hk]
  unfold dD9
  rw [List.find?_append]
  have:[e].find? (fun e=>decide (e.k=k))=none:=by
   rw [List.find?_eq_none]
   intro x hx
   rw [qt] at hx
   subst hx
   simpa using fun h=>hk h.symm
  rw [this,Option.or_none]
theorem dJ3 {qs:List QE}{j:Nat}{e e':QE}(hj:qs[j]? =some e)(hk:e'.k=e.k)(hb:e'.b=e.b)(k:Prt):dD9 (qs.set j e') k=dD9 qs k:=by
 have h:∀(qs:List QE) (j:Nat),qs[j]? =some e->dD9 (qs.set j e') k=dD9 qs k:=by
  intro qs
  induction qs with
  |nil=>intro j h;cases h
  |cons x l ih=>
   intro j h
   cases j with
   |zero=>
    simp only [QX,qK] at h
    subst h
    unfold dD9
    rw [List.set_cons_zero,List.find?_cons,List.find?_cons,hk]
    cases decide (x.k=k)
    ·rfl
    ·simp [hb]
   |succ j=>
    rw [Qv] at h
    have:=ih j h
    unfold dD9 at*
    rw [List.set_cons_succ,List.find?_cons,List.find?_cons]
    cases decide (x.k=k)
    ·exact this
    ·rfl
 exact h qs j hj
end Go.Gm
namespace Go.Proofs
open Go Go.Vx Go.Gm
def nV (n:Nat):List Value:=[.int .i64 (n:Int)]
def QSh.val:QSh->Value
 | .nil p=>.slice p 0 0
 | .at_ g d cap l=>.slice (some ⟨g,d,none⟩) (l.length - d) (cap - d)
def QSh.mem:QSh->HP
 | .nil _=>[]
 | .at_ g d cap l=>[.vec (some ⟨g,0,none⟩) l.length cap 3 1 (bQ1 nV l)]
def qeH (e:QE):HP:=.row e.b 377 [QSh.val e.s]::QSh.mem e.s
def lC8 (b:Nat):Value:=.pointer (some ⟨b,0,none⟩)
abbrev hC8 (m:List (Value×Value)) (qs:List QE):Prop:=MapF dY7 fV1 lC8 m (dD9 qs)
structure QMore (qs qs':List QE) (k:Prt) (j:Nat) (e:QE):Prop where
 at_:qs'[j]? =some e
 key:e.k=k
 or_:qs'=qs\/(qs'=qs++[e]/\(∀x∈qs,x.k≠k)/\e.s=.nil none)
theorem _root_.Go.Vx.bB3 {P:Program}{w0:World}{M:List Nat}{H S R:HP}{f:Nat}{args:List Value}{K:Value->HP->Prop}(htk:Take H S R)(h:VCall P w0 M (S++R) f args K):VCall P w0 M H f args K:=by
 obtain ⟨h⟩:=h
 exact .mk fun w hw=>h w (hw.perm htk.perm)
theorem _root_.Go.Vx.bF5 {P:Program}{w0:World}{M:List Nat}{H:HP}{f:Nat}{args:List Value}{K:Value->HP->Prop}(h:VCall P w0 M H f args fun v H'=>∃H'',HLe H'' H'/\K v H''):VCall P w0 M H f args K:=by
 obtain ⟨h⟩:=h
 exact .mk fun w hw=>(h w hw).mono fun e w' ⟨v,H',he,hs,H'',hl,hk⟩=>⟨v,H'',he,hs.le hl,hk⟩
theorem kX1 {w0:World}{H R:HP}{K:Value->HP->Prop}(wb qb:Nat)(t1 t2 t3 t4 t5 t6 t8 t9 t10 t11 t12:Value)(hone:bK6 [t1,t2,t3,t4,t5,t6,t8,t9,t10,t11,t12]=true)(m:List (Value×Value))(qs:List QE)(hm:hC8 m qs)(k:Prt)(hk:fV1 k)
  (hT:Take H (.row wb 369 [t1,t2,t3,t4,t5,t6,.map (some qb),t8,t9,t10,t11,t12]::.mapk qb m::qs.flatMap qeH) R)
  (hK:∀m' qs' j e,hC8 m' qs'->QMore qs qs' k j e->K (.pointer (some ⟨e.b,0,none⟩)) (.row wb 369 [t1,t2,t3,t4,t5,t6,.map (some qb),t8,t9,t10,t11,t12]::.mapk qb m'::(qs'.flatMap qeH++R))):
  VCall Tryz.cx.P w0 [] H 241 [.pointer (some ⟨wb,0,none⟩),dY7 k] K:=by
 refine bB3 hT (bF5 ?_)
 have hp:=dY9 hk.2.1
 unfold dY7
 refine VCall.inl (F:=lY5) Tryz.func241 rfl rfl rfl lT5 ?_
 have hkA:(Value.agg #[.int .i64 (k.r:Int),.int .i64 (bK1 k.o),.int .i64 (k.c:Int)])=dY7 k:=rfl
 cases hq:dD9 qs k with
 |some b=>
  obtain ⟨j,e,hj,hek,heb⟩:=fG4 hq
  have hlk:=fun {H:HP} {u:Ent->HP} {r:HP} {kk:Option Value->Prop} (hat:At H (.mapk qb m) u r) (hkk:kk (some (.pointer (some ⟨b,0,none⟩))))=>MapF.get (T:=374) (k:=kk) fB6 hat hm k hk (fun h0=>absurd (h0.symm.trans hq) oU) (fun y hy=>by rw [hq] at hy;cases hy;exact hkk)
  unfold dY7 at hlk
  repeat' (conv=>whnf);first|(refine VNew.mk fun b3=>?_)|(refine VLkK.is ?_;refine hlk aT ?_)|refine VSeq.go ?_|refine oL ?_|refine oH ?_
  all_goals (conv=>whnf)
  rw [<-heb]
  exact ⟨_,by exact aH,hK m qs j e hm ⟨hj,hek,.inl rfl⟩⟩
 |none=>
  have hno:=fG6 hq
  have hlk:=fun {H:HP} {u:Ent->HP} {r:HP} {kk:Option Value->Prop} (hat:At H (.mapk qb m) u r) (hkk:kk none)=>MapF.get (T:=374) (k:=kk) fB6 hat hm k hk (fun _=>hkk) (fun y hy=>absurd (hq.symm.trans hy) oU)
  have hput:=fun {H:HP} {u:Ent->HP} {r:HP} {kk:HP->Prop} (b:Nat) (hat:At H (.mapk qb m) u r) hkk=>MapF.put (T:=374) (k:=kk) fB6 hat hm k hk b hkk
  have hlk2:=fun {H:HP} {u:Ent->HP} {r:HP} {kk:Option Value->Prop} {m2:List (Value×Value)} {b:Nat} (hm2:MapF dY7 fV1 lC8 m2 fun z=>if z=k then some b else dD9 qs z) (hat:At H (.mapk qb m2) u r) (hkk:kk (some (.pointer (some ⟨b,0,none⟩))))=>MapF.get (T:=374) (k:=kk) fB6 hat hm2 k hk (fun h0=>absurd h0 oU) (fun y hy=>by rw [jw rfl] at hy;cases hy;exact hkk)
  unfold dY7 at hlk hlk2 hput
  unfold lC8 at hput
  repeat' (conv=>whnf);first|(refine VNew.mk fun bq=>?_)|(refine VLkK.is ?_;first|refine hlk2 hm2 aT ?_|refine hlk aT ?_)|(refine VUpK.is ?_;refine hput bq aT fun m2 hm2=>?_)|refine VSeq.go ?_|refine oL ?_|refine oK ?_|refine oH ?_
  all_goals (conv=>whnf)
  have hm3:hC8 m2 (qs++[⟨k,bq,.nil none⟩]):=hm2.congr fun q=>fG5 (e:=⟨k,bq,.nil none⟩) hq q
  refine ⟨_,?_,hK m2 (qs++[⟨k,bq,.nil none⟩]) qs.length ⟨k,bq,.nil none⟩ hm3 ⟨by simp,rfl,.inr ⟨rfl,hno,rfl⟩⟩⟩
  rw [QK,List.flatMap_singleton,qJ]
  unfold qeH
  dsimp only [QSh.val,QSh.mem]
  exact aH
end Go.Proofs
end

section
namespace Go.Proofs
open Go Go.Vx Go.Gm
theorem dC3 {α:Type}{f:α->List Value}{k:Nat}(hk:∀x,(f x).length=k):∀(l:List α) (m:Nat),bQ1 f (l.drop m)=(bQ1 f l).drop (m*k)
 |[],m=>by simp [bQ1]
 |x::l,0=>by simp
 |x::l,m+1=>by
  have e:bQ1 f (x::l)=f x++bQ1 f l:=by simp [bQ1]
  rw [List.drop_succ_cons,dC3 hk l m,e,Nat.succ_mul,Nat.add_comm,<-List.drop_drop,List.drop_left' (hk x)]
theorem kN3 {w0:World}{H R:HP}{K:Value->HP->Prop}(e:QE)(he:e.s.ok){p:Nat}{l':List Nat}(hc:e.s.cont=p::l')(hT:Take H (qeH e) R)
  (hK:∀s':QSh,s'.ok->s'.cont=l'->K (.int .i64 (p:Int)) (qeH ⟨e.k,e.b,s'⟩++R)):
  VCall Tryz.cx.P w0 [] H 243 [.pointer (some ⟨e.b,0,none⟩)] K:=by
 obtain ⟨k,b,s⟩:=e
 cases s with
 |nil q=>cases hc
 |at_ g d cap l=>
  dsimp only at hc hK he ⊢
  obtain ⟨h1,h2⟩:=he
  have hc':l.drop d=p::l':=hc
  have hlt:d<l.length:=by
   have:=congrArg List.length hc'
   rw [Qs,qR] at this
   omega
  have hget:l[d]? =some p:=by
   have:=congrArg (fun L=>L[0]?) hc'
   rw [Qy] at this
   simpa using this
  have hdrop:l.drop (d+1)=l':=by
   have:=congrArg (List.drop 1) hc'
   rw [List.drop_drop] at this
   simpa [Nat.add_comm] using this
  refine bB3 hT (bF5 ?_)
  unfold qeH
  dsimp only [QSh.val,QSh.mem]
  refine VCall.inl (F:=lY4) Tryz.func243 rfl rfl rfl lT4 ?_
  repeat' (conv=>whnf);first|refine oI ?_|(refine VLd.is ?_;refine oC (.vec aT (bQ8 (f:=nV) (k:=1) oR hget rfl)) ?_)|(refine VSl.is ?_;refine VSl.mk qZ qZ qZ fun q hq1 hq2=>?_)|refine VSeq.go ?_|refine oL ?_|refine oT ?_
  all_goals (conv=>whnf)
  have e1:(((l.length - d:Nat):Int)).toNat - (1:Int).toNat=l.length - (d+1):=by
   have:(1:Int).toNat=1:=rfl
   omega
  have e2:(((cap - d:Nat):Int)).toNat - (1:Int).toNat=cap - (d+1):=by
   have:(1:Int).toNat=1:=rfl
   omega
  rw [e1,e2]
  by_cases hcp:d+1<cap
  ·have hq:q=some ⟨g,d+1,none⟩:=by rw [hq1 qZ];rfl
   refine ⟨_,?_,hK (.at_ g (d+1) cap l) ⟨by omega,h2⟩ hdrop⟩
   unfold qeH
   dsimp only [QSh.val,QSh.mem]
   rw [hq]
   exact aH
  ·have e3:l.length - (d+1)=0:=by omega
   have e4:cap - (d+1)=0:=by omega
   have hl':l'=[]:=by rw [<-hdrop];exact Qi qZ
   refine ⟨_,?_,hK (.nil q) trivial hl'.symm⟩
   unfold qeH
   dsimp only [QSh.val,QSh.mem]
   rw [e3,e4]
   exact aH
theorem lK1 {w0:World}{H R:HP}{K:Value->HP->Prop}(e:QE)(he:e.s.ok)(hl:e.s.cont.length<=65536)(p:Nat)(hT:Take H (qeH e) R)
  (hK:∀s':QSh,s'.ok->s'.cont=e.s.cont++[p]->K (.tuple #[]) (qeH ⟨e.k,e.b,s'⟩++R)):
  VCall Tryz.cx.P w0 [] H 242 [.pointer (some ⟨e.b,0,none⟩),.int .i64 (p:Int)] K:=by
 obtain ⟨k,b,s⟩:=e
 cases s with
 |nil q=>
  dsimp only at hK he ⊢
  refine bB3 hT (bF5 ?_)
  unfold qeH
  dsimp only [QSh.val,QSh.mem]
  refine VCall.inl (F:=kL3) Tryz.func242 rfl rfl rfl lK7 ?_
  repeat' (conv=>whnf);first|(refine VNew.mk fun bn=>?_)|(refine VAp.is ?_;refine VAp.zero rfl rfl qZ (.at_ (.vec aT rfl)) (by simp [Value.oneCell']) (by (try dsimp only);omega) (by simp only [maxLen];omega) fun b1 c1 hc1=>?_)|refine oL ?_|refine oT ?_
  all_goals (conv=>whnf)
  refine ⟨_,?_,hK (.at_ b1 0 c1 [p]) ⟨qB _,hc1⟩ rfl⟩
  unfold qeH
  dsimp only [QSh.val,QSh.mem]
  exact aH
 |at_ g d cap l=>
  dsimp only at hK he hl ⊢
  obtain ⟨h1,h2⟩:=he
  have hll:(l.drop d).length<=65536:=hl
  rw [Qs] at hll
  refine bB3 hT (bF5 ?_)
  unfold qeH
  dsimp only [QSh.val,QSh.mem]
  refine VCall.inl (F:=kL3) Tryz.func242 rfl rfl rfl lK7 ?_
  repeat' (conv=>whnf);first|(refine VNew.mk fun bn=>?_)|(refine VAp.is ?_;refine VAp.tail (d:=d) (N:=l.length) (capB:=cap) aT (by rw [Nat.mul_one]) rfl qZ (.at_ (.vec aT rfl)) (by simp [Value.oneCell']) (by (try dsimp only);omega) (by simp only [maxLen];omega) (fun hcp=>?_) fun b1 c1 hc1=>?_)|refine oL ?_|refine oT ?_
  all_goals (conv=>whnf)
  ·refine ⟨_,?_,hK (.at_ g d cap (l++[p])) ⟨by rw [qw];omega,by rw [qw];exact hcp⟩ ?_⟩
   ·unfold qeH
    dsimp only [QSh.val,QSh.mem]
    rw [bQ7,qw]
    have e1:l.length - d+1=l.length+[p].length - d:=by rw [qM];omega
    rw [<-e1]
    exact aH
   ·show (l++[p]).drop d=l.drop d++[p]
    rw [List.drop_append_of_le_length h1]
  ·refine ⟨_,?_,hK (.at_ b1 0 c1 (l.drop d++[p])) ⟨qB _,by rw [qw,Qs];exact hc1⟩ rfl⟩
   unfold qeH
   dsimp only [QSh.val,QSh.mem]
   rw [bQ7,qw,Qs]
   have e1:l.length - d+1=l.length - d+[p].length - 0:=rfl
   have e2:(bQ1 nV l).drop (d*1)=bQ1 nV (l.drop d):=(dC3 (f:=nV) (k:=1) oR l d).symm
   rw [<-e1,<-e2]
   exact aH
end Go.Proofs
end

section
namespace Go.Gm
def coF (co:Nat->Nat->Option Nat)(k:Prt):Option Nat:=if k.c=0/\k.o<4 then co k.r k.o else none
def coX (co:Nat->Nat->Option Nat)(r j:Nat):Nat->Nat->Option Nat:=fun a b=>if a=r/\b<j then none else co a b
theorem kG7 (co:Nat->Nat->Option Nat)(r:Nat):coX co r 0=co:=by
 funext a b
 unfold coX
 rw [jk qZ]
theorem kG8 {co:Nat->Nat->Option Nat}{r j:Nat}(hj:j<4)(z:Prt):coF (coX co r (j+1)) z=if z=⟨r,j,0⟩ then none else coF (coX co r j) z:=by
 obtain ⟨a,b,c⟩:=z
 unfold coF coX
 dsimp only
 by_cases h:(⟨a,b,c⟩:Prt)=⟨r,j,0⟩
 ·rw [jw h]
  cases h
  rw [jw ⟨rfl,hj⟩,jw ⟨rfl,by omega⟩]
 ·rw [jk h]
  by_cases hc:c=0/\b<4
  ·rw [jw hc,jw hc]
   by_cases ha:a=r/\b<j+1
   ·have:¬b=j:=fun e=>h (by rw [ha.1,e,hc.1])
    rw [jw ha,jw ⟨ha.1,by omega⟩]
   ·rw [jk ha,jk qZ]
  ·rw [jk hc,jk hc]
theorem lQ7 (co:Nat->Nat->Option Nat)(r:Nat)(z:Prt):coF (fun a b=>if a=r then none else co a b) z=coF (coX co r 4) z:=by
 obtain ⟨a,b,c⟩:=z
 unfold coF coX
 dsimp only
 by_cases hc:c=0/\b<4
 ·rw [jw hc,jw hc]
  by_cases ha:a=r
  ·rw [jw ha,jw ⟨ha,hc.2⟩]
  ·rw [jk ha,jk fun h=>ha h.1]
 ·rw [jk hc,jk hc]
end Go.Gm
namespace Go.Proofs
open Go Go.Vx Go.Gm
def pkV (x:Pkt):List Value:=[.int .i64 0,.int .i64 (x.src:Int),.int .i64 x.key,.int .i64 0]
def cJ4 (co:Nat->Nat->Option Nat)(r j:Nat):List Nat:=(List.range j).filterMap fun o=>co r o
theorem gZ1 (co:Nat->Nat->Option Nat)(r j:Nat):cJ4 co r (j+1)=cJ4 co r j++(co r j).toList:=by
 unfold cJ4
 rw [Qz,List.filterMap_append]
 cases h:co r j<;>simp [h]
theorem fD2 (co:Nat->Nat->Option Nat)(r j:Nat):(cJ4 co r j).length<=j:=by
 unfold cJ4
 have:=List.length_filterMap_le (fun o=>co r o) (List.range j)
 rwa [Qg] at this
def cF5 (pk:List Pkt)(r j:Nat):List Nat:=(List.range j).filter fun p=>decide ((pk[p]?.map (·.src)).getD 0=r)
theorem hJ4 (pk:List Pkt)(r j:Nat):(cF5 pk r j).length<=j:=by
 unfold cF5
 have:=qD (fun p=>decide ((pk[p]?.map (·.src)).getD 0=r)) (List.range j)
 rwa [Qg] at this
theorem fR4 {pk:List Pkt}{r j:Nat}{x:Pkt}(hx:pk[j]? =some x):cF5 pk r (j+1)=cF5 pk r j++if x.src=r then [j] else []:=by
 unfold cF5
 rw [Qz,Qa]
 by_cases h:x.src=r<;>simp [hx,h]
theorem fJ0 {α:Type}{w0:World}{H:HP}{K:Value->HP->Prop}(t1 t2 t3 t4 t7 t9 t10 t11 t12:Value)(hone:bK6 [t1,t2,t3,t4,t7,t9,t10,t11,t12]=true)(pk:List Pkt)(hpk:pk.length<=1024)(pl:Option Addr)(cl bl ol:Nat)(hpl:Sl w0 pkV 4 pk pl pk.length bl ol)
  (wb sb cb gs cs:Nat) (sm:List (Int×Value)) (t r:Nat) (hr:r<64) (ht:t<=10000) (hs0:t=0->0<pk.length->bZ4 sm 0=some (.slice (some ⟨gs,0,none⟩) pk.length cs)) (hs1:t≠0\/pk.length=0->bZ4 sm (t:Int)=none)
  (co:Nat->Nat->Option Nat) (cm:List (Value×Value)) (hcm:MapF dY7 fV1 fL1 cm (coF co)) (l b3 b4 b5:Nat) (I:List Nat->α->Prop) (G:α->HP) (x0:α) (h0:I [] x0)
  (hH:HLe (.row b5 3 [.int .i64 (r:Int)]::.row b3 365 [.pointer (some ⟨wb,0,none⟩)]::.row b4 3 [.int .i64 (t:Int)]::.row wb 369 [t1,t2,t3,t4,.slice pl pk.length cl,.map (some sb),t7,.map (some cb),t9,t10,t11,t12]::.mapk cb cm::.map sb sm::.vec (some ⟨gs,0,none⟩) pk.length cs 3 1 (bQ1 nV (List.range pk.length))::G x0) H)
  (step:∀(F:HP) (A:List Nat) (p:Nat) (x:α),A.length<1100->I A x->VYield Tryz.cx.P w0 [] (F++G x) l [.int .i64 (p:Int)] fun v H'=>v=.bool true/\∃y,I (A++[p]) y/\HLe (F++G y) H')
  (fin:∀x cm',MapF dY7 fV1 fL1 cm' (coF (fun a b=>if a=r then none else co a b))->I (cJ4 co r 4++(if t=0 then cF5 pk r pk.length else ([]:List Nat))) x->K (.tuple #[]) (.row b5 3 [.int .i64 (r:Int)]::.row b3 365 [.pointer (some ⟨wb,0,none⟩)]::.row b4 3 [.int .i64 (t:Int)]::.row wb 369 [t1,t2,t3,t4,.slice pl pk.length cl,.map (some sb),t7,.map (some cb),t9,t10,t11,t12]::.mapk cb cm'::.map sb sm::.vec (some ⟨gs,0,none⟩) pk.length cs 3 1 (bQ1 nV (List.range pk.length))::G x)):
  VCall Tryz.cx.P w0 [] H 240 [.func (.yield l) #[] #[],.pointer (some ⟨b5,0,none⟩),.pointer (some ⟨b3,0,none⟩),.pointer (some ⟨b4,0,none⟩)] K:=by
 refine VCall.le hH (bF5 ?_)
 refine VCall.inl (F:=lY6) Tryz.func240 rfl rfl rfl lT6 ?_
 have hout:∀j:Nat,j<4->sub [.int .i64 1,.int .i64 2,.int .i64 4,.int .i64 8,.int .i64 16] (j*1) 1=some [.int .i64 (bK1 j)]:=fun j hj=>by
  rcases j with _|_|_|_|j
  ·rfl
  ·rfl
  ·rfl
  ·rfl
  ·omega
 repeat' (conv=>whnf);first|(refine bQ0 201 ?_;refine VCall.inl (F:=kW4) Tryz.func201 rfl rfl rfl kT9 ?_)|(refine VNew.mk fun go=>?_)|(refine VSl.is ?_;refine VSl.mk qZ qZ qZ fun q hq1 hq2=>?_;obtain rfl:q=some ⟨go,0,none⟩:=(by rw [hq1 qZ];rfl))|refine VSeq.go ?_
 all_goals (conv=>whnf)
 refine VLoop.mk (α:=Nat×List (Value×Value)×α) (fun z=>z.1<=4/\MapF dY7 fV1 fL1 z.2.1 (coF (coX co r z.1))/\I (cJ4 co r z.1) z.2.2) (fun z=>[(1000000,.tuple #[]),(0,.func (.yield l) #[] #[]),(1,.pointer (some ⟨b5,0,none⟩)),(2,.pointer (some ⟨b3,0,none⟩)),(3,.pointer (some ⟨b4,0,none⟩)),(13,.slice (some ⟨go,0,none⟩) 4 5),(14,.int .i64 4),(15,.int .i64 (z.1:Int))])
  (fun z=>.vec (some ⟨go,0,none⟩) 5 5 3 1 [.int .i64 1,.int .i64 2,.int .i64 4,.int .i64 8,.int .i64 16]::.row b5 3 [.int .i64 (r:Int)]::.row b3 365 [.pointer (some ⟨wb,0,none⟩)]::.row b4 3 [.int .i64 (t:Int)]::.row wb 369 [t1,t2,t3,t4,.slice pl pk.length cl,.map (some sb),t7,.map (some cb),t9,t10,t11,t12]::.mapk cb z.2.1::.map sb sm::.vec (some ⟨gs,0,none⟩) pk.length cs 3 1 (bQ1 nV (List.range pk.length))::G z.2.2) (fun z=>4 - z.1) (0,cm,x0) ⟨qB _,by rw [kG7];exact hcm,h0⟩ aE aH ?_
 rintro ⟨j,m,x⟩ ⟨hj,hm,hI⟩
 dsimp only at hj hm hI ⊢
 rcases qy j 4 with hlt|hge
 ·have hpj:=dY9 (o:=j) qZ
  have hoj:=hout j hlt
  have hkw:fV1 ⟨r,j,0⟩:=⟨by dsimp only;omega,by dsimp only;omega,by dsimp only;omega⟩
  have hcj:coF (coX co r j) ⟨r,j,0⟩=co r j:=by
   unfold coF coX
   dsimp only
   rw [jw ⟨rfl,hlt⟩,jk qZ]
  have hcn:=gZ1 co r j
  have hcx:=kG8 (co:=co) (r:=r) hlt
  have hdl:=fun {H:HP} {u:Ent->HP} {r':HP} {kk:HP->Prop} (hat:At H (.mapk cb m) u r') hkk=>kH8 (T:=374) (k:=kk) fB6 hat hm ⟨r,j,0⟩ hkw hkk
  unfold dY7 at hdl
  dsimp only at hdl
  cases hc:co r j with
  |none=>
   rw [hc] at hcj hcn
   simp only [Option.toList_none,qC] at hcn
   have hlk:=fun {H:HP} {u:Ent->HP} {r':HP} {kk:Option Value->Prop} (hat:At H (.mapk cb m) u r') (hkk:kk none)=>MapF.get (T:=374) (k:=kk) fB6 hat hm ⟨r,j,0⟩ hkw (fun _=>hkk) (fun y hy=>absurd (hcj.symm.trans hy) oU)
   unfold dY7 at hlk
   dsimp only at hlk
   repeat' (conv=>whnf);first|(refine VNew.mk fun bp=>?_)|refine oI ?_|(refine VLd.is ?_;refine oC (.vec aT (hoj)) ?_)|(refine VLkK.is ?_;refine hlk aT ?_)|(refine VDlK.is ?_;refine hdl aT fun m2 hm2=>?_)|refine VSeq.go ?_|refine oY fun _=>?_|refine oL ?_|refine oT ?_|refine oA ?_|refine oH ?_
   all_goals (conv=>whnf)
   exact VNext.mk (j+1,m2,x) ⟨by dsimp only;omega,hm2.congr hcx,by dsimp only;rw [hcn];exact hI⟩ (by dsimp only;omega) aE aH
  |some p=>
   rw [hc] at hcj hcn
   simp only [qW] at hcn
   have hlk:=fun {H:HP} {u:Ent->HP} {r':HP} {kk:Option Value->Prop} (hat:At H (.mapk cb m) u r') (hkk:kk (some (.int .i64 (p:Int))))=>MapF.get (T:=374) (k:=kk) fB6 hat hm ⟨r,j,0⟩ hkw (fun h0=>absurd (h0.symm.trans hcj) oU) (fun y hy=>by rw [hcj] at hy;cases hy;exact hkk)
   unfold dY7 at hlk
   dsimp only at hlk
   have hst:=fun F=>step F (cJ4 co r j) p x (by have:=fD2 co r j;omega) hI
   repeat' (conv=>whnf);first|(refine VNew.mk fun bp=>?_)|refine oI ?_|(refine VLd.is ?_;refine oC (.vec aT (hoj)) ?_)|(refine VLkK.is ?_;refine hlk aT ?_)|(refine VDlK.is ?_;refine hdl aT fun m2 hm2=>?_)|(refine VYield.is ?_;refine VYield.hle (VYield.mono (VYield.weak ?_ (hst (.vec (some ⟨go,0,none⟩) 5 5 3 1 [.int .i64 1,.int .i64 2,.int .i64 4,.int .i64 8,.int .i64 16]::.row b5 3 [.int .i64 (r:Int)]::.row b3 365 [.pointer (some ⟨wb,0,none⟩)]::.row b4 3 [.int .i64 (t:Int)]::.row wb 369 [t1,t2,t3,t4,.slice pl pk.length cl,.map (some sb),t7,.map (some cb),t9,t10,t11,t12]::.mapk cb m2::(.map sb sm::.vec (some ⟨gs,0,none⟩) pk.length cs 3 1 (bQ1 nV (List.range pk.length))::[])))) fun v H' hr=>?_);(focus (exact aH));obtain ⟨rfl,y,hy,hl⟩:=hr;refine ⟨_,hl,?_⟩)|refine VSeq.go ?_|refine oY fun _=>?_|refine oL ?_|refine oT ?_|refine oA ?_|refine oH ?_
   all_goals (conv=>whnf)
   exact VNext.mk (j+1,m2,y) ⟨by dsimp only;omega,hm2.congr hcx,by dsimp only;rw [hcn];exact hy⟩ (by dsimp only;omega) aE aH
 have hj4:j=4:=by omega
 subst hj4
 have hm':MapF dY7 fV1 fL1 m (coF (fun a b=>if a=r then none else co a b)):=hm.congr (lQ7 co r)
 by_cases hz:t=0/\0<pk.length
 ·have hsz:=hs0 hz.1 hz.2
  obtain ⟨ht0,hpos⟩:=hz
  rw [jw ht0] at fin
  have hsz:bZ4 sm (t:Int)=some (.slice (some ⟨gs,0,none⟩) pk.length cs):=by rw [ht0];exact hsz
  have hs00:cF5 pk r 0=[]:=rfl
  repeat' (conv=>whnf);first|(refine VMp.is ?_;refine VMp.mk aT ?_)|(refine VLk.is ?_;refine VLk.has hsz ?_)|refine VSeq.go ?_|refine oN fun _=>?_|refine oL ?_|refine oH ?_
  all_goals (conv=>whnf)
  refine VLoop.mk (α:=Nat×α) (fun z=>z.1<=pk.length/\I (cJ4 co r 4++cF5 pk r z.1) z.2) (fun z=>[(1000000,.tuple #[]),(0,.func (.yield l) #[] #[]),(1,.pointer (some ⟨b5,0,none⟩)),(2,.pointer (some ⟨b3,0,none⟩)),(49,.slice (some ⟨gs,0,none⟩) pk.length cs),(50,.int .i64 (pk.length:Int)),(51,.int .i64 (z.1:Int))])
   (fun z=>.row b5 3 [.int .i64 (r:Int)]::.row b3 365 [.pointer (some ⟨wb,0,none⟩)]::.row b4 3 [.int .i64 (t:Int)]::.row wb 369 [t1,t2,t3,t4,.slice pl pk.length cl,.map (some sb),t7,.map (some cb),t9,t10,t11,t12]::.mapk cb m::.map sb sm::.vec (some ⟨gs,0,none⟩) pk.length cs 3 1 (bQ1 nV (List.range pk.length))::G z.2) (fun z=>pk.length - z.1) (0,x) ⟨Nat.zero_le _,by dsimp only;rw [hs00,List.append_nil];exact hI⟩ aE aH ?_
  clear hI
  rintro ⟨i,x⟩ ⟨hi,hI⟩
  dsimp only at hi hI ⊢
  rcases qy i pk.length with hil|hig
  ·obtain ⟨u,hu⟩:=hpl.get hil
   have hsn:=fR4 (r:=r) hu
   have hri:(List.range pk.length)[i]? =some i:=qX hil
   have v1:sub (pkV u) 1 1=some [.int .i64 (u.src:Int)]:=rfl
   by_cases hsr:u.src=r
   ·rw [jw hsr] at hsn
    have hst:=fun F=>step F (cJ4 co r 4++cF5 pk r i) i x (by have:=fD2 co r 4;have:=hJ4 pk r i;rw [qw];omega) hI
    repeat' (conv=>whnf);first|refine oI ?_|(refine VLd.is ?_;refine oC (.vec aT (bQ8 (f:=nV) (k:=1) oR hri rfl)) ?_)|(refine VIx.is ?_;refine VIx.mk (hpl.ptr qZ) qZ qZ ?_)|(refine VLd.is ?_;refine oC (hpl.rd (o:=1) (s:=1) oU oR hu v1) ?_)|(refine VYield.is ?_;refine VYield.hle (VYield.mono (VYield.weak ?_ (hst (.row b5 3 [.int .i64 (r:Int)]::.row b3 365 [.pointer (some ⟨wb,0,none⟩)]::.row b4 3 [.int .i64 (t:Int)]::.row wb 369 [t1,t2,t3,t4,.slice pl pk.length cl,.map (some sb),t7,.map (some cb),t9,t10,t11,t12]::.mapk cb m::(.map sb sm::.vec (some ⟨gs,0,none⟩) pk.length cs 3 1 (bQ1 nV (List.range pk.length))::[])))) fun v H' hr=>?_);(focus (exact aH));obtain ⟨rfl,y,hy,hl⟩:=hr;refine ⟨_,hl,?_⟩)|refine VSeq.go ?_|refine oY fun _=>?_|refine oL ?_|refine oA ?_|refine oH ?_
    all_goals (conv=>whnf)
    exact VNext.mk (i+1,y) ⟨by dsimp only;omega,by dsimp only;rw [hsn,<-List.append_assoc];exact hy⟩ (by dsimp only;omega) aE aH
   ·rw [jk hsr,qC] at hsn
    repeat' (conv=>whnf);first|refine oI ?_|(refine VLd.is ?_;refine oC (.vec aT (bQ8 (f:=nV) (k:=1) oR hri rfl)) ?_)|(refine VIx.is ?_;refine VIx.mk (hpl.ptr qZ) qZ qZ ?_)|(refine VLd.is ?_;refine oC (hpl.rd (o:=1) (s:=1) oU oR hu v1) ?_)|refine VSeq.go ?_|refine oY fun _=>?_|refine oN fun _=>?_|refine oL ?_|refine oA ?_|refine oH ?_
    all_goals (conv=>whnf)
    exact VNext.mk (i+1,x) ⟨by dsimp only;omega,by dsimp only;rw [hsn];exact hI⟩ (by dsimp only;omega) aE aH
  have hie:i=pk.length:=by omega
  subst hie
  repeat' (conv=>whnf);first|refine VSeq.go ?_|refine oN fun _=>?_
  all_goals (conv=>whnf)
  exact ⟨_,by exact aH,fin x m hm' hI⟩
 ·have hsz:=hs1 qZ
  have hfin:=fin x m hm' (by
   by_cases h0:t=0
   ·have:pk.length=0:=by omega
    rw [jw h0,this]
    show I (cJ4 co r 4++[]) x
    rw [qC];exact hI
   ·rw [jk h0,qC];exact hI)
  repeat' (conv=>whnf);first|(refine VMp.is ?_;refine VMp.mk aT ?_)|(refine VLk.is ?_;refine VLk.lacks hsz ?_)|refine VSeq.go ?_|refine oN fun _=>?_|refine oL ?_|refine oH ?_
  all_goals (conv=>whnf)
  refine VLoop.mk (α:=Unit) (fun _=>True) (fun z=>[(1000000,.tuple #[]),(0,.func (.yield l) #[] #[]),(1,.pointer (some ⟨b5,0,none⟩)),(2,.pointer (some ⟨b3,0,none⟩)),(49,.slice none 0 0),(50,.int .i64 0),(51,.int .i64 0)])
   (fun z=>.row b5 3 [.int .i64 (r:Int)]::.row b3 365 [.pointer (some ⟨wb,0,none⟩)]::.row b4 3 [.int .i64 (t:Int)]::.row wb 369 [t1,t2,t3,t4,.slice pl pk.length cl,.map (some sb),t7,.map (some cb),t9,t10,t11,t12]::.mapk cb m::.map sb sm::.vec (some ⟨gs,0,none⟩) pk.length cs 3 1 (bQ1 nV (List.range pk.length))::G x) (fun _=>0) () trivial aE aH ?_
  rintro _ _
  repeat' (conv=>whnf);first|refine VSeq.go ?_|refine oN fun _=>?_
  all_goals (conv=>whnf)
  exact ⟨_,by exact aH,hfin⟩
end Go.Proofs
end
