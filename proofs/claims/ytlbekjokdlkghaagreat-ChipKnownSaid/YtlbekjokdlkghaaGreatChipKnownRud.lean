import Derived.Test.YtlbekjokdlkghaaGreatChipKnownRm
import Derived.Test.YtlbekjokdlkghaaGreatChipKnownPm
set_option linter.unusedVariables false
set_option linter.unusedSimpArgs false
set_option maxHeartbeats 4000000
section
namespace Go.Gm
inductive QSh where
 |nil (p:Option Go.Addr)
 |at_ (g d cap:Nat) (l:List Nat)
structure QE where
 k:Prt
 b:Nat
 s:QSh
def QSh.cont:QSh->List Nat
 | .nil _=>[]
 | .at_ _ d _ l=>l.drop d
def QSh.ok:QSh->Prop
 | .nil _=>True
 | .at_ _ d cap l=>d<=l.length/\l.length<=cap
def qPtr (qs:List QE)(k:Prt):Option Nat:=(qs.find? fun e=>decide (e.k=k)).map (·.b)
theorem qPtr_some {qs:List QE}{k:Prt}{b:Nat}(h:qPtr qs k=some b):∃(j:Nat) (e:QE),qs[j]? =some e/\e.k=k/\e.b=b:=by
 unfold qPtr at h
 cases hf:qs.find? fun e=>decide (e.k=k) with
 |none=>rw [hf] at h;cases h
 |some e=>
  rw [hf] at h
  have h1:=List.mem_of_find?_eq_some hf
  have h2:=List.find?_some hf
  obtain ⟨j,hj⟩:=jy h1
  exact ⟨j,e,hj,of_decide_eq_true h2,Option.some.inj h⟩
theorem qPtr_none {qs:List QE}{k:Prt}(h:qPtr qs k=none):∀e∈qs,e.k≠k:=by
 unfold qPtr at h
 rw [Option.map_eq_none_iff,List.find?_eq_none] at h
 intro e he hk
 have:=h e he
 simp [hk] at this
theorem qPtr_snoc {qs:List QE}{e:QE}(h:qPtr qs e.k=none)(k:Prt):qPtr (qs++[e]) k=if k=e.k then some e.b else qPtr qs k:=by
 by_cases hk:k=e.k
 ·subst hk
  rw [jx rfl]
  unfold qPtr at*
  rw [Option.map_eq_none_iff] at h
  rw [List.find?_append,h]
  simp
 ·rw [jz hk]
  unfold qPtr
  rw [List.find?_append]
  have:[e].find? (fun e=>decide (e.k=k))=none:=by
   rw [List.find?_eq_none]
   intro x hx
   rw [qt] at hx
   subst hx
   simpa using fun h=>hk h.symm
  rw [this,Option.or_none]
theorem qPtr_set {qs:List QE}{j:Nat}{e e':QE}(hj:qs[j]? =some e)(hk:e'.k=e.k)(hb:e'.b=e.b)(k:Prt):qPtr (qs.set j e') k=qPtr qs k:=by
 have h:∀(qs:List QE) (j:Nat),qs[j]? =some e->qPtr (qs.set j e') k=qPtr qs k:=by
  intro qs
  induction qs with
  |nil=>intro j h;cases h
  |cons x l ih=>
   intro j h
   cases j with
   |zero=>
    simp only [QX,qK] at h
    subst h
    unfold qPtr
    rw [List.set_cons_zero,List.find?_cons,List.find?_cons,hk]
    cases decide (x.k=k)
    ·rfl
    ·simp [hb]
   |succ j=>
    rw [Qv] at h
    have:=ih j h
    unfold qPtr at*
    rw [List.set_cons_succ,List.find?_cons,List.find?_cons]
    cases decide (x.k=k)
    ·exact this
    ·rfl
 exact h qs j hj
end Go.Gm
namespace Go.Proofs
open Go Go.Vx Go.Gm
def nV (n:Nat):List Value:=[.int .i64 (n:Int)]
def QSh.val:QSh->Value
 | .nil p=>.slice p 0 0
 | .at_ g d cap l=>.slice (some ⟨g,d,none⟩) (l.length - d) (cap - d)
def QSh.mem:QSh->HP
 | .nil _=>[]
 | .at_ g d cap l=>[.vec (some ⟨g,0,none⟩) l.length cap 3 1 (flat nV l)]
def qeH (e:QE):HP:=.row e.b 377 [QSh.val e.s]::QSh.mem e.s
def ptrV (b:Nat):Value:=.pointer (some ⟨b,0,none⟩)
abbrev QMap (m:List (Value×Value)) (qs:List QE):Prop:=MapF prtA prtW ptrV m (qPtr qs)
structure QMore (qs qs':List QE) (k:Prt) (j:Nat) (e:QE):Prop where
 at_:qs'[j]? =some e
 key:e.k=k
 or_:qs'=qs\/(qs'=qs++[e]/\(∀x∈qs,x.k≠k)/\e.s=.nil none)
theorem _root_.Go.Vx.VCall.takeQ {P:Program}{w0:World}{M:List Nat}{H S R:HP}{f:Nat}{args:List Value}{K:Value->HP->Prop}(htk:Take H S R)(h:VCall P w0 M (S++R) f args K):VCall P w0 M H f args K:=by
 obtain ⟨h⟩:=h
 exact .mk fun w hw=>h w (hw.perm htk.perm)
theorem _root_.Go.Vx.VCall.leK {P:Program}{w0:World}{M:List Nat}{H:HP}{f:Nat}{args:List Value}{K:Value->HP->Prop}(h:VCall P w0 M H f args fun v H'=>∃H'',HLe H'' H'/\K v H''):VCall P w0 M H f args K:=by
 obtain ⟨h⟩:=h
 exact .mk fun w hw=>(h w hw).mono fun e w' ⟨v,H',he,hs,H'',hl,hk⟩=>⟨v,H'',he,hs.le hl,hk⟩
theorem queue_vc {w0:World}{H R:HP}{K:Value->HP->Prop}(wb qb:Nat)(t1 t2 t3 t4 t5 t6 t8 t9 t10 t11 t12:Value)(hone:oneAll [t1,t2,t3,t4,t5,t6,t8,t9,t10,t11,t12]=true)(m:List (Value×Value))(qs:List QE)(hm:QMap m qs)(k:Prt)(hk:prtW k)
  (hT:Take H (.row wb 369 [t1,t2,t3,t4,t5,t6,.map (some qb),t8,t9,t10,t11,t12]::.mapk qb m::qs.flatMap qeH) R)
  (hK:∀m' qs' j e,QMap m' qs'->QMore qs qs' k j e->K (.pointer (some ⟨e.b,0,none⟩)) (.row wb 369 [t1,t2,t3,t4,t5,t6,.map (some qb),t8,t9,t10,t11,t12]::.mapk qb m'::(qs'.flatMap qeH++R))):
  VCall Tryz.cx.P w0 [] H 241 [.pointer (some ⟨wb,0,none⟩),prtA k] K:=by
 refine VCall.takeQ hT (VCall.leK ?_)
 have hp:=pow2_lt hk.2.1
 unfold prtA
 refine VCall.inl (F:=Tryz.fx241) Tryz.func241 rfl rfl rfl Tryz.ok241 ?_
 have hkA:(Value.agg #[.int .i64 (k.r:Int),.int .i64 (pow2 k.o),.int .i64 (k.c:Int)])=prtA k:=rfl
 cases hq:qPtr qs k with
 |some b=>
  obtain ⟨j,e,hj,hek,heb⟩:=qPtr_some hq
  have hlk:=fun {H:HP} {u:Ent->HP} {r:HP} {kk:Option Value->Prop} (hat:At H (.mapk qb m) u r) (hkk:kk (some (.pointer (some ⟨b,0,none⟩))))=>MapF.get (T:=374) (k:=kk) keyPt hat hm k hk (fun h0=>absurd (h0.symm.trans hq) (by simp)) (fun y hy=>by rw [hq] at hy;cases hy;exact hkk)
  unfold prtA at hlk
  repeat' (conv=>whnf);first|(refine VNew.mk fun b3=>?_)|(refine VLkK.is ?_;refine hlk aT ?_)|refine VSeq.go ?_|refine oL ?_|refine oH ?_
  all_goals (conv=>whnf)
  rw [<-heb]
  exact ⟨_,by exact aH,hK m qs j e hm ⟨hj,hek,.inl rfl⟩⟩
 |none=>
  have hno:=qPtr_none hq
  have hlk:=fun {H:HP} {u:Ent->HP} {r:HP} {kk:Option Value->Prop} (hat:At H (.mapk qb m) u r) (hkk:kk none)=>MapF.get (T:=374) (k:=kk) keyPt hat hm k hk (fun _=>hkk) (fun y hy=>absurd (hq.symm.trans hy) (by simp))
  have hput:=fun {H:HP} {u:Ent->HP} {r:HP} {kk:HP->Prop} (b:Nat) (hat:At H (.mapk qb m) u r) hkk=>MapF.put (T:=374) (k:=kk) keyPt hat hm k hk b hkk
  have hlk2:=fun {H:HP} {u:Ent->HP} {r:HP} {kk:Option Value->Prop} {m2:List (Value×Value)} {b:Nat} (hm2:MapF prtA prtW ptrV m2 fun z=>if z=k then some b else qPtr qs z) (hat:At H (.mapk qb m2) u r) (hkk:kk (some (.pointer (some ⟨b,0,none⟩))))=>MapF.get (T:=374) (k:=kk) keyPt hat hm2 k hk (fun h0=>absurd h0 (by simp)) (fun y hy=>by rw [jx rfl] at hy;cases hy;exact hkk)
  unfold prtA at hlk hlk2 hput
  unfold ptrV at hput
  repeat' (conv=>whnf);first|(refine VNew.mk fun bq=>?_)|(refine VLkK.is ?_;first|refine hlk2 hm2 aT ?_|refine hlk aT ?_)|(refine VUpK.is ?_;refine hput bq aT fun m2 hm2=>?_)|refine VSeq.go ?_|refine oL ?_|refine oK ?_|refine oH ?_
  all_goals (conv=>whnf)
  have hm3:QMap m2 (qs++[⟨k,bq,.nil none⟩]):=hm2.congr fun q=>qPtr_snoc (e:=⟨k,bq,.nil none⟩) hq q
  refine ⟨_,?_,hK m2 (qs++[⟨k,bq,.nil none⟩]) qs.length ⟨k,bq,.nil none⟩ hm3 ⟨by simp,rfl,.inr ⟨rfl,hno,rfl⟩⟩⟩
  rw [QK,List.flatMap_singleton,qJ]
  unfold qeH
  dsimp only [QSh.val,QSh.mem]
  exact aH
end Go.Proofs
end

section
namespace Go.Proofs
open Go Go.Vx Go.Gm
theorem qflat_drop {α:Type}{f:α->List Value}{k:Nat}(hk:∀x,(f x).length=k):∀(l:List α) (m:Nat),flat f (l.drop m)=(flat f l).drop (m*k)
 |[],m=>by simp [flat]
 |x::l,0=>by simp
 |x::l,m+1=>by
  have e:flat f (x::l)=f x++flat f l:=by simp [flat]
  rw [List.drop_succ_cons,qflat_drop hk l m,e,Nat.succ_mul,Nat.add_comm,<-List.drop_drop,List.drop_left' (hk x)]
theorem take_vc {w0:World}{H R:HP}{K:Value->HP->Prop}(e:QE)(he:e.s.ok){p:Nat}{l':List Nat}(hc:e.s.cont=p::l')(hT:Take H (qeH e) R)
  (hK:∀s':QSh,s'.ok->s'.cont=l'->K (.int .i64 (p:Int)) (qeH ⟨e.k,e.b,s'⟩++R)):
  VCall Tryz.cx.P w0 [] H 243 [.pointer (some ⟨e.b,0,none⟩)] K:=by
 obtain ⟨k,b,s⟩:=e
 cases s with
 |nil q=>cases hc
 |at_ g d cap l=>
  dsimp only at hc hK he ⊢
  obtain ⟨h1,h2⟩:=he
  have hc':l.drop d=p::l':=hc
  have hlt:d<l.length:=by
   have:=congrArg List.length hc'
   rw [Qs,qR] at this
   omega
  have hget:l[d]? =some p:=by
   have:=congrArg (fun L=>L[0]?) hc'
   rw [Qy] at this
   simpa using this
  have hdrop:l.drop (d+1)=l':=by
   have:=congrArg (List.drop 1) hc'
   rw [List.drop_drop] at this
   simpa [Nat.add_comm] using this
  refine VCall.takeQ hT (VCall.leK ?_)
  unfold qeH
  dsimp only [QSh.val,QSh.mem]
  refine VCall.inl (F:=Tryz.fx243) Tryz.func243 rfl rfl rfl Tryz.ok243 ?_
  repeat' (conv=>whnf);first|refine oI ?_|(refine VLd.is ?_;refine VLd.mk (Rd.cast (.vec aT (sub_flat0 (f:=nV) (k:=1) (fun _=>rfl) hget rfl)) oE) ?_)|(refine VSl.is ?_;refine VSl.mk qZ qZ qZ fun q hq1 hq2=>?_)|refine VSeq.go ?_|refine oL ?_|refine oT ?_
  all_goals (conv=>whnf)
  have e1:(((l.length - d:Nat):Int)).toNat - (1:Int).toNat=l.length - (d+1):=by
   have:(1:Int).toNat=1:=rfl
   omega
  have e2:(((cap - d:Nat):Int)).toNat - (1:Int).toNat=cap - (d+1):=by
   have:(1:Int).toNat=1:=rfl
   omega
  rw [e1,e2]
  by_cases hcp:d+1<cap
  ·have hq:q=some ⟨g,d+1,none⟩:=by rw [hq1 qZ];rfl
   refine ⟨_,?_,hK (.at_ g (d+1) cap l) ⟨by omega,h2⟩ hdrop⟩
   unfold qeH
   dsimp only [QSh.val,QSh.mem]
   rw [hq]
   exact aH
  ·have e3:l.length - (d+1)=0:=by omega
   have e4:cap - (d+1)=0:=by omega
   have hl':l'=[]:=by rw [<-hdrop];exact Qi qZ
   refine ⟨_,?_,hK (.nil q) trivial hl'.symm⟩
   unfold qeH
   dsimp only [QSh.val,QSh.mem]
   rw [e3,e4]
   exact aH
theorem put_vc {w0:World}{H R:HP}{K:Value->HP->Prop}(e:QE)(he:e.s.ok)(hl:e.s.cont.length<=65536)(p:Nat)(hT:Take H (qeH e) R)
  (hK:∀s':QSh,s'.ok->s'.cont=e.s.cont++[p]->K (.tuple #[]) (qeH ⟨e.k,e.b,s'⟩++R)):
  VCall Tryz.cx.P w0 [] H 242 [.pointer (some ⟨e.b,0,none⟩),.int .i64 (p:Int)] K:=by
 obtain ⟨k,b,s⟩:=e
 cases s with
 |nil q=>
  dsimp only at hK he ⊢
  refine VCall.takeQ hT (VCall.leK ?_)
  unfold qeH
  dsimp only [QSh.val,QSh.mem]
  refine VCall.inl (F:=Tryz.fx242) Tryz.func242 rfl rfl rfl Tryz.ok242 ?_
  repeat' (conv=>whnf);first|(refine VNew.mk fun bn=>?_)|(refine VAp.is ?_;refine VAp.zero rfl rfl qZ (.at_ (.vec aT rfl)) (by simp [Value.oneCell']) (by (try dsimp only);omega) (by simp only [maxLen];omega) fun b1 c1 hc1=>?_)|refine oL ?_|refine oT ?_
  all_goals (conv=>whnf)
  refine ⟨_,?_,hK (.at_ b1 0 c1 [p]) ⟨qB _,hc1⟩ rfl⟩
  unfold qeH
  dsimp only [QSh.val,QSh.mem]
  exact aH
 |at_ g d cap l=>
  dsimp only at hK he hl ⊢
  obtain ⟨h1,h2⟩:=he
  have hll:(l.drop d).length<=65536:=hl
  rw [Qs] at hll
  refine VCall.takeQ hT (VCall.leK ?_)
  unfold qeH
  dsimp only [QSh.val,QSh.mem]
  refine VCall.inl (F:=Tryz.fx242) Tryz.func242 rfl rfl rfl Tryz.ok242 ?_
  repeat' (conv=>whnf);first|(refine VNew.mk fun bn=>?_)|(refine VAp.is ?_;refine VAp.tail (d:=d) (N:=l.length) (capB:=cap) aT (by rw [Nat.mul_one]) rfl qZ (.at_ (.vec aT rfl)) (by simp [Value.oneCell']) (by (try dsimp only);omega) (by simp only [maxLen];omega) (fun hcp=>?_) fun b1 c1 hc1=>?_)|refine oL ?_|refine oT ?_
  all_goals (conv=>whnf)
  ·refine ⟨_,?_,hK (.at_ g d cap (l++[p])) ⟨by rw [qw];omega,by rw [qw];exact hcp⟩ ?_⟩
   ·unfold qeH
    dsimp only [QSh.val,QSh.mem]
    rw [flat_append,qw]
    have e1:l.length - d+1=l.length+[p].length - d:=by rw [qM];omega
    rw [<-e1]
    exact aH
   ·show (l++[p]).drop d=l.drop d++[p]
    rw [List.drop_append_of_le_length h1]
  ·refine ⟨_,?_,hK (.at_ b1 0 c1 (l.drop d++[p])) ⟨qB _,by rw [qw,Qs];exact hc1⟩ rfl⟩
   unfold qeH
   dsimp only [QSh.val,QSh.mem]
   rw [flat_append,qw,Qs]
   have e1:l.length - d+1=l.length - d+[p].length - 0:=rfl
   have e2:(flat nV l).drop (d*1)=flat nV (l.drop d):=(qflat_drop (f:=nV) (k:=1) (fun _=>rfl) l d).symm
   rw [<-e1,<-e2]
   exact aH
end Go.Proofs
end

section
namespace Go.Gm
def coF (co:Nat->Nat->Option Nat)(k:Prt):Option Nat:=if k.c=0/\k.o<4 then co k.r k.o else none
def coX (co:Nat->Nat->Option Nat)(r j:Nat):Nat->Nat->Option Nat:=fun a b=>if a=r/\b<j then none else co a b
theorem coX_zero (co:Nat->Nat->Option Nat)(r:Nat):coX co r 0=co:=by
 funext a b
 unfold coX
 rw [jz (by omega)]
theorem coX_next {co:Nat->Nat->Option Nat}{r j:Nat}(hj:j<4)(z:Prt):coF (coX co r (j+1)) z=if z=⟨r,j,0⟩ then none else coF (coX co r j) z:=by
 obtain ⟨a,b,c⟩:=z
 unfold coF coX
 dsimp only
 by_cases h:(⟨a,b,c⟩:Prt)=⟨r,j,0⟩
 ·rw [jx h]
  cases h
  rw [jx ⟨rfl,hj⟩,jx ⟨rfl,by omega⟩]
 ·rw [jz h]
  by_cases hc:c=0/\b<4
  ·rw [jx hc,jx hc]
   by_cases ha:a=r/\b<j+1
   ·have:¬b=j:=fun e=>h (by rw [ha.1,e,hc.1])
    rw [jx ha,jx ⟨ha.1,by omega⟩]
   ·rw [jz ha,jz (by omega)]
  ·rw [jz hc,jz hc]
theorem coX_all (co:Nat->Nat->Option Nat)(r:Nat)(z:Prt):coF (fun a b=>if a=r then none else co a b) z=coF (coX co r 4) z:=by
 obtain ⟨a,b,c⟩:=z
 unfold coF coX
 dsimp only
 by_cases hc:c=0/\b<4
 ·rw [jx hc,jx hc]
  by_cases ha:a=r
  ·rw [jx ha,jx ⟨ha,hc.2⟩]
  ·rw [jz ha,jz fun h=>ha h.1]
 ·rw [jz hc,jz hc]
end Go.Gm
namespace Go.Proofs
open Go Go.Vx Go.Gm
def pkV (x:Pkt):List Value:=[.int .i64 0,.int .i64 (x.src:Int),.int .i64 x.key,.int .i64 0]
def comesL (co:Nat->Nat->Option Nat)(r j:Nat):List Nat:=(List.range j).filterMap fun o=>co r o
theorem comesL_next (co:Nat->Nat->Option Nat)(r j:Nat):comesL co r (j+1)=comesL co r j++(co r j).toList:=by
 unfold comesL
 rw [Qz,List.filterMap_append]
 cases h:co r j<;>simp [h]
theorem comesL_le (co:Nat->Nat->Option Nat)(r j:Nat):(comesL co r j).length<=j:=by
 unfold comesL
 have:=List.length_filterMap_le (fun o=>co r o) (List.range j)
 rwa [Qg] at this
def sentsL (pk:List Pkt)(r j:Nat):List Nat:=(List.range j).filter fun p=>decide ((pk[p]?.map (·.src)).getD 0=r)
theorem sentsL_le (pk:List Pkt)(r j:Nat):(sentsL pk r j).length<=j:=by
 unfold sentsL
 have:=qD (fun p=>decide ((pk[p]?.map (·.src)).getD 0=r)) (List.range j)
 rwa [Qg] at this
theorem sentsL_next {pk:List Pkt}{r j:Nat}{x:Pkt}(hx:pk[j]? =some x):sentsL pk r (j+1)=sentsL pk r j++if x.src=r then [j] else []:=by
 unfold sentsL
 rw [Qz,Qa]
 by_cases h:x.src=r<;>simp [hx,h]
theorem entering_iter {α:Type}{w0:World}{H:HP}{K:Value->HP->Prop}(t1 t2 t3 t4 t7 t9 t10 t11 t12:Value)(hone:oneAll [t1,t2,t3,t4,t7,t9,t10,t11,t12]=true)(pk:List Pkt)(hpk:pk.length<=1024)(pl:Option Addr)(cl bl ol:Nat)(hpl:Sl w0 pkV 4 pk pl pk.length bl ol)
  (wb sb cb gs cs:Nat) (sm:List (Int×Value)) (t r:Nat) (hr:r<64) (ht:t<=10000) (hs0:t=0->0<pk.length->mfind sm 0=some (.slice (some ⟨gs,0,none⟩) pk.length cs)) (hs1:t≠0\/pk.length=0->mfind sm (t:Int)=none)
  (co:Nat->Nat->Option Nat) (cm:List (Value×Value)) (hcm:MapF prtA prtW natV cm (coF co)) (l b3 b4 b5:Nat) (I:List Nat->α->Prop) (G:α->HP) (x0:α) (h0:I [] x0)
  (hH:HLe (.row b5 3 [.int .i64 (r:Int)]::.row b3 365 [.pointer (some ⟨wb,0,none⟩)]::.row b4 3 [.int .i64 (t:Int)]::.row wb 369 [t1,t2,t3,t4,.slice pl pk.length cl,.map (some sb),t7,.map (some cb),t9,t10,t11,t12]::.mapk cb cm::.map sb sm::.vec (some ⟨gs,0,none⟩) pk.length cs 3 1 (flat nV (List.range pk.length))::G x0) H)
  (step:∀(F:HP) (A:List Nat) (p:Nat) (x:α),A.length<1100->I A x->VYield Tryz.cx.P w0 [] (F++G x) l [.int .i64 (p:Int)] fun v H'=>v=.bool true/\∃y,I (A++[p]) y/\HLe (F++G y) H')
  (fin:∀x cm',MapF prtA prtW natV cm' (coF (fun a b=>if a=r then none else co a b))->I (comesL co r 4++(if t=0 then sentsL pk r pk.length else ([]:List Nat))) x->K (.tuple #[]) (.row b5 3 [.int .i64 (r:Int)]::.row b3 365 [.pointer (some ⟨wb,0,none⟩)]::.row b4 3 [.int .i64 (t:Int)]::.row wb 369 [t1,t2,t3,t4,.slice pl pk.length cl,.map (some sb),t7,.map (some cb),t9,t10,t11,t12]::.mapk cb cm'::.map sb sm::.vec (some ⟨gs,0,none⟩) pk.length cs 3 1 (flat nV (List.range pk.length))::G x)):
  VCall Tryz.cx.P w0 [] H 240 [.func (.yield l) #[] #[],.pointer (some ⟨b5,0,none⟩),.pointer (some ⟨b3,0,none⟩),.pointer (some ⟨b4,0,none⟩)] K:=by
 refine VCall.le hH (VCall.leK ?_)
 refine VCall.inl (F:=Tryz.fx240) Tryz.func240 rfl rfl rfl Tryz.ok240 ?_
 have hout:∀j:Nat,j<4->sub [.int .i64 1,.int .i64 2,.int .i64 4,.int .i64 8,.int .i64 16] (j*1) 1=some [.int .i64 (pow2 j)]:=fun j hj=>by
  rcases j with _|_|_|_|j
  ·rfl
  ·rfl
  ·rfl
  ·rfl
  ·omega
 repeat' (conv=>whnf);first|(refine VCall.isF 201 ?_;refine VCall.inl (F:=Tryz.fx201) Tryz.func201 rfl rfl rfl Tryz.ok201 ?_)|(refine VNew.mk fun go=>?_)|(refine VSl.is ?_;refine VSl.mk qZ qZ qZ fun q hq1 hq2=>?_;obtain rfl:q=some ⟨go,0,none⟩:=(by rw [hq1 qZ];rfl))|refine VSeq.go ?_
 all_goals (conv=>whnf)
 refine VLoop.mk (α:=Nat×List (Value×Value)×α) (fun z=>z.1<=4/\MapF prtA prtW natV z.2.1 (coF (coX co r z.1))/\I (comesL co r z.1) z.2.2) (fun z=>[(1000000,.tuple #[]),(0,.func (.yield l) #[] #[]),(1,.pointer (some ⟨b5,0,none⟩)),(2,.pointer (some ⟨b3,0,none⟩)),(3,.pointer (some ⟨b4,0,none⟩)),(13,.slice (some ⟨go,0,none⟩) 4 5),(14,.int .i64 4),(15,.int .i64 (z.1:Int))])
  (fun z=>.vec (some ⟨go,0,none⟩) 5 5 3 1 [.int .i64 1,.int .i64 2,.int .i64 4,.int .i64 8,.int .i64 16]::.row b5 3 [.int .i64 (r:Int)]::.row b3 365 [.pointer (some ⟨wb,0,none⟩)]::.row b4 3 [.int .i64 (t:Int)]::.row wb 369 [t1,t2,t3,t4,.slice pl pk.length cl,.map (some sb),t7,.map (some cb),t9,t10,t11,t12]::.mapk cb z.2.1::.map sb sm::.vec (some ⟨gs,0,none⟩) pk.length cs 3 1 (flat nV (List.range pk.length))::G z.2.2) (fun z=>4 - z.1) (0,cm,x0) ⟨qB _,by rw [coX_zero];exact hcm,h0⟩ aE aH ?_
 rintro ⟨j,m,x⟩ ⟨hj,hm,hI⟩
 dsimp only at hj hm hI ⊢
 rcases qy j 4 with hlt|hge
 ·have hpj:=pow2_lt (o:=j) qZ
  have hoj:=hout j hlt
  have hkw:prtW ⟨r,j,0⟩:=⟨by dsimp only;omega,by dsimp only;omega,by dsimp only;omega⟩
  have hcj:coF (coX co r j) ⟨r,j,0⟩=co r j:=by
   unfold coF coX
   dsimp only
   rw [jx ⟨rfl,hlt⟩,jz qZ]
  have hcn:=comesL_next co r j
  have hcx:=coX_next (co:=co) (r:=r) hlt
  have hdl:=fun {H:HP} {u:Ent->HP} {r':HP} {kk:HP->Prop} (hat:At H (.mapk cb m) u r') hkk=>MapF.del (T:=374) (k:=kk) keyPt hat hm ⟨r,j,0⟩ hkw hkk
  unfold prtA at hdl
  dsimp only at hdl
  cases hc:co r j with
  |none=>
   rw [hc] at hcj hcn
   simp only [Option.toList_none,qC] at hcn
   have hlk:=fun {H:HP} {u:Ent->HP} {r':HP} {kk:Option Value->Prop} (hat:At H (.mapk cb m) u r') (hkk:kk none)=>MapF.get (T:=374) (k:=kk) keyPt hat hm ⟨r,j,0⟩ hkw (fun _=>hkk) (fun y hy=>absurd (hcj.symm.trans hy) (by simp))
   unfold prtA at hlk
   dsimp only at hlk
   repeat' (conv=>whnf);first|(refine VNew.mk fun bp=>?_)|refine oI ?_|(refine VLd.is ?_;refine VLd.mk (Rd.cast (.vec aT (hoj)) oE) ?_)|(refine VLkK.is ?_;refine hlk aT ?_)|(refine VDlK.is ?_;refine hdl aT fun m2 hm2=>?_)|refine VSeq.go ?_|refine oY fun _=>?_|refine oL ?_|refine oT ?_|refine oA ?_|refine oH ?_
   all_goals (conv=>whnf)
   exact VNext.mk (j+1,m2,x) ⟨by dsimp only;omega,hm2.congr hcx,by dsimp only;rw [hcn];exact hI⟩ (by dsimp only;omega) aE aH
  |some p=>
   rw [hc] at hcj hcn
   simp only [qW] at hcn
   have hlk:=fun {H:HP} {u:Ent->HP} {r':HP} {kk:Option Value->Prop} (hat:At H (.mapk cb m) u r') (hkk:kk (some (.int .i64 (p:Int))))=>MapF.get (T:=374) (k:=kk) keyPt hat hm ⟨r,j,0⟩ hkw (fun h0=>absurd (h0.symm.trans hcj) (by simp)) (fun y hy=>by rw [hcj] at hy;cases hy;exact hkk)
   unfold prtA at hlk
   dsimp only at hlk
   have hst:=fun F=>step F (comesL co r j) p x (by have:=comesL_le co r j;omega) hI
   repeat' (conv=>whnf);first|(refine VNew.mk fun bp=>?_)|refine oI ?_|(refine VLd.is ?_;refine VLd.mk (Rd.cast (.vec aT (hoj)) oE) ?_)|(refine VLkK.is ?_;refine hlk aT ?_)|(refine VDlK.is ?_;refine hdl aT fun m2 hm2=>?_)|(refine VYield.is ?_;refine VYield.hle (VYield.mono (VYield.weak ?_ (hst (.vec (some ⟨go,0,none⟩) 5 5 3 1 [.int .i64 1,.int .i64 2,.int .i64 4,.int .i64 8,.int .i64 16]::.row b5 3 [.int .i64 (r:Int)]::.row b3 365 [.pointer (some ⟨wb,0,none⟩)]::.row b4 3 [.int .i64 (t:Int)]::.row wb 369 [t1,t2,t3,t4,.slice pl pk.length cl,.map (some sb),t7,.map (some cb),t9,t10,t11,t12]::.mapk cb m2::(.map sb sm::.vec (some ⟨gs,0,none⟩) pk.length cs 3 1 (flat nV (List.range pk.length))::[])))) fun v H' hr=>?_);(focus (exact aH));obtain ⟨rfl,y,hy,hl⟩:=hr;refine ⟨_,hl,?_⟩)|refine VSeq.go ?_|refine oY fun _=>?_|refine oL ?_|refine oT ?_|refine oA ?_|refine oH ?_
   all_goals (conv=>whnf)
   exact VNext.mk (j+1,m2,y) ⟨by dsimp only;omega,hm2.congr hcx,by dsimp only;rw [hcn];exact hy⟩ (by dsimp only;omega) aE aH
 have hj4:j=4:=by omega
 subst hj4
 have hm':MapF prtA prtW natV m (coF (fun a b=>if a=r then none else co a b)):=hm.congr (coX_all co r)
 by_cases hz:t=0/\0<pk.length
 ·have hsz:=hs0 hz.1 hz.2
  obtain ⟨ht0,hpos⟩:=hz
  rw [jx ht0] at fin
  have hsz:mfind sm (t:Int)=some (.slice (some ⟨gs,0,none⟩) pk.length cs):=by rw [ht0];exact hsz
  have hs00:sentsL pk r 0=[]:=rfl
  repeat' (conv=>whnf);first|(refine VMp.is ?_;refine VMp.mk aT ?_)|(refine VLk.is ?_;refine VLk.has hsz ?_)|refine VSeq.go ?_|refine oN fun _=>?_|refine oL ?_|refine oH ?_
  all_goals (conv=>whnf)
  refine VLoop.mk (α:=Nat×α) (fun z=>z.1<=pk.length/\I (comesL co r 4++sentsL pk r z.1) z.2) (fun z=>[(1000000,.tuple #[]),(0,.func (.yield l) #[] #[]),(1,.pointer (some ⟨b5,0,none⟩)),(2,.pointer (some ⟨b3,0,none⟩)),(49,.slice (some ⟨gs,0,none⟩) pk.length cs),(50,.int .i64 (pk.length:Int)),(51,.int .i64 (z.1:Int))])
   (fun z=>.row b5 3 [.int .i64 (r:Int)]::.row b3 365 [.pointer (some ⟨wb,0,none⟩)]::.row b4 3 [.int .i64 (t:Int)]::.row wb 369 [t1,t2,t3,t4,.slice pl pk.length cl,.map (some sb),t7,.map (some cb),t9,t10,t11,t12]::.mapk cb m::.map sb sm::.vec (some ⟨gs,0,none⟩) pk.length cs 3 1 (flat nV (List.range pk.length))::G z.2) (fun z=>pk.length - z.1) (0,x) ⟨Nat.zero_le _,by dsimp only;rw [hs00,List.append_nil];exact hI⟩ aE aH ?_
  clear hI
  rintro ⟨i,x⟩ ⟨hi,hI⟩
  dsimp only at hi hI ⊢
  rcases qy i pk.length with hil|hig
  ·obtain ⟨u,hu⟩:=hpl.get hil
   have hsn:=sentsL_next (r:=r) hu
   have hri:(List.range pk.length)[i]? =some i:=qX hil
   have v1:sub (pkV u) 1 1=some [.int .i64 (u.src:Int)]:=rfl
   by_cases hsr:u.src=r
   ·rw [jx hsr] at hsn
    have hst:=fun F=>step F (comesL co r 4++sentsL pk r i) i x (by have:=comesL_le co r 4;have:=sentsL_le pk r i;rw [qw];omega) hI
    repeat' (conv=>whnf);first|refine oI ?_|(refine VLd.is ?_;refine VLd.mk (Rd.cast (.vec aT (sub_flat0 (f:=nV) (k:=1) (fun _=>rfl) hri rfl)) oE) ?_)|(refine VIx.is ?_;refine VIx.mk (hpl.ptr qZ) qZ qZ ?_)|(refine VLd.is ?_;refine VLd.mk (Rd.cast (hpl.rd (o:=1) (s:=1) (by simp) (fun _=>rfl) hu v1) oE) ?_)|(refine VYield.is ?_;refine VYield.hle (VYield.mono (VYield.weak ?_ (hst (.row b5 3 [.int .i64 (r:Int)]::.row b3 365 [.pointer (some ⟨wb,0,none⟩)]::.row b4 3 [.int .i64 (t:Int)]::.row wb 369 [t1,t2,t3,t4,.slice pl pk.length cl,.map (some sb),t7,.map (some cb),t9,t10,t11,t12]::.mapk cb m::(.map sb sm::.vec (some ⟨gs,0,none⟩) pk.length cs 3 1 (flat nV (List.range pk.length))::[])))) fun v H' hr=>?_);(focus (exact aH));obtain ⟨rfl,y,hy,hl⟩:=hr;refine ⟨_,hl,?_⟩)|refine VSeq.go ?_|refine oY fun _=>?_|refine oL ?_|refine oA ?_|refine oH ?_
    all_goals (conv=>whnf)
    exact VNext.mk (i+1,y) ⟨by dsimp only;omega,by dsimp only;rw [hsn,<-List.append_assoc];exact hy⟩ (by dsimp only;omega) aE aH
   ·rw [jz hsr,qC] at hsn
    repeat' (conv=>whnf);first|refine oI ?_|(refine VLd.is ?_;refine VLd.mk (Rd.cast (.vec aT (sub_flat0 (f:=nV) (k:=1) (fun _=>rfl) hri rfl)) oE) ?_)|(refine VIx.is ?_;refine VIx.mk (hpl.ptr qZ) qZ qZ ?_)|(refine VLd.is ?_;refine VLd.mk (Rd.cast (hpl.rd (o:=1) (s:=1) (by simp) (fun _=>rfl) hu v1) oE) ?_)|refine VSeq.go ?_|refine oY fun _=>?_|refine oN fun _=>?_|refine oL ?_|refine oA ?_|refine oH ?_
    all_goals (conv=>whnf)
    exact VNext.mk (i+1,x) ⟨by dsimp only;omega,by dsimp only;rw [hsn];exact hI⟩ (by dsimp only;omega) aE aH
  have hie:i=pk.length:=by omega
  subst hie
  repeat' (conv=>whnf);first|refine VSeq.go ?_|refine oN fun _=>?_
  all_goals (conv=>whnf)
  exact ⟨_,by exact aH,fin x m hm' hI⟩
 ·have hsz:=hs1 qZ
  have hfin:=fin x m hm' (by
   by_cases h0:t=0
   ·have:pk.length=0:=by omega
    rw [jx h0,this]
    show I (comesL co r 4++[]) x
    rw [qC];exact hI
   ·rw [jz h0,qC];exact hI)
  repeat' (conv=>whnf);first|(refine VMp.is ?_;refine VMp.mk aT ?_)|(refine VLk.is ?_;refine VLk.lacks hsz ?_)|refine VSeq.go ?_|refine oN fun _=>?_|refine oL ?_|refine oH ?_
  all_goals (conv=>whnf)
  refine VLoop.mk (α:=Unit) (fun _=>True) (fun z=>[(1000000,.tuple #[]),(0,.func (.yield l) #[] #[]),(1,.pointer (some ⟨b5,0,none⟩)),(2,.pointer (some ⟨b3,0,none⟩)),(49,.slice none 0 0),(50,.int .i64 0),(51,.int .i64 0)])
   (fun z=>.row b5 3 [.int .i64 (r:Int)]::.row b3 365 [.pointer (some ⟨wb,0,none⟩)]::.row b4 3 [.int .i64 (t:Int)]::.row wb 369 [t1,t2,t3,t4,.slice pl pk.length cl,.map (some sb),t7,.map (some cb),t9,t10,t11,t12]::.mapk cb m::.map sb sm::.vec (some ⟨gs,0,none⟩) pk.length cs 3 1 (flat nV (List.range pk.length))::G x) (fun _=>0) () trivial aE aH ?_
  rintro _ _
  repeat' (conv=>whnf);first|refine VSeq.go ?_|refine oN fun _=>?_
  all_goals (conv=>whnf)
  exact ⟨_,by exact aH,hfin⟩
end Go.Proofs
end
