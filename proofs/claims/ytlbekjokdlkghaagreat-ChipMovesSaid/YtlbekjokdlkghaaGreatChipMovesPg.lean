import Derived.Test.YtlbekjokdlkghaaGreatChipMovesKt
set_option linter.unusedVariables false
set_option linter.unusedSimpArgs false
set_option maxHeartbeats 4000000
section
namespace Go.Gm
structure IsMax (c:Out->Nat) (m:Nat):Prop where
 le:∀o,bG5 o->c o<=m
 ex:m=0\/∃o,bG5 o/\c o=m
theorem IsMax.bump {c:Out->Nat}{m:Nat}(h:IsMax c m){o:Out}(ho:bG5 o):IsMax (fun q=>if q=o then c o+1 else c q) (max m (c o+1)):=by
 refine ⟨fun q hq=>?_,.inr ?_⟩
 ·have:=h.le q hq
  show (if q=o then c o+1 else c q)<=_
  split<;>omega
 ·by_cases hm:m<=c o+1
  ·exact ⟨o,ho,by rw [jw rfl];omega⟩
  ·rcases h.ex with h0|⟨q,hq,he⟩
   ·omega
   ·have:¬q=o:=fun e=>by subst e;omega
    exact ⟨q,hq,by rw [jk this];omega⟩
theorem IsMax.same {c d:Out->Nat}{m:Nat}(h:IsMax c m)(e:∀o,bG5 o->d o=c o):IsMax d m:=by
 refine ⟨fun q hq=>by rw [e q hq];exact h.le q hq,?_⟩
 rcases h.ex with h0|⟨q,hq,he⟩
 ·exact .inl h0
 ·exact .inr ⟨q,hq,by rw [e q hq];exact he⟩
theorem IsMax.most {ts:List (List Int)}{m:Nat}(h:IsMax (bS5 ts) m):bJ7 ts=m:=(bP4 ts).uniq ⟨h.le,h.ex⟩
theorem IsMax.of (ts:List (List Int)):IsMax (bS5 ts) (bJ7 ts):=⟨(bP4 ts).le,(bP4 ts).ex⟩
def bfr (i k:Nat)(o:Out):Prop:=o.1<(i:Int)\/(o.1=(i:Int)/\o.2<((2 ^ k:Nat):Int))
instance (i k:Nat) (o:Out):Decidable (bfr i k o):=by unfold bfr;infer_instance
def dD0 (ts:List (List Int))(t:List Int)(i k:Nat)(o:Out):Nat:=bS5 ts o+if bfr i k o/\bH9 (t[o.1.toNat]?.getD 0) o.2 then 1 else 0
theorem lN6 {k:Nat}(hk:k<5):k=0/\(2 ^ k:Nat)=1\/k=1/\(2 ^ k:Nat)=2\/k=2/\(2 ^ k:Nat)=4\/k=3/\(2 ^ k:Nat)=8\/k=4/\(2 ^ k:Nat)=16:=by
 have:k=0\/k=1\/k=2\/k=3\/k=4:=by omega
 rcases this with rfl|rfl|rfl|rfl|rfl<;>simp
theorem gB4 {o:Out}(h:bG5 o):¬bfr 0 0 o:=by
 unfold bG5 bC8 at h
 unfold bfr
 simp only [Nat.pow_zero]
 omega
theorem dK2 {i k:Nat}(hk:k<5){o:Out}(h:bG5 o):bfr i (k+1) o<->bfr i k o\/o=((i:Int),((2 ^ k:Nat):Int)):=by
 unfold bG5 bC8 at h
 unfold bfr
 obtain ⟨a,b⟩:=o
 dsimp only at h ⊢
 rw [Prod.mk.injEq,Nat.pow_succ]
 have:=lN6 hk
 omega
theorem hN4 {i:Nat}{o:Out}(h:bG5 o):bfr i 5 o<->bfr (i+1) 0 o:=by
 unfold bG5 bC8 at h
 unfold bfr
 simp only [Nat.pow_zero]
 have:(2 ^ 5:Nat)=32:=rfl
 rw [this]
 omega
theorem fD4 (ts:List (List Int))(t:List Int){o:Out}(h:bG5 o):dD0 ts t 0 0 o=bS5 ts o:=by
 unfold dD0
 rw [jk (fun x=>gB4 h x.1)];rfl
theorem gH8 (ts:List (List Int))(t:List Int)(i:Nat){o:Out}(h:bG5 o):dD0 ts t (i+1) 0 o=dD0 ts t i 5 o:=by
 unfold dD0
 have:=hN4 (i:=i) h
 by_cases hb:bfr i 5 o/\bH9 (t[o.1.toNat]?.getD 0) o.2
 ·rw [jw hb,jw ⟨this.1 hb.1,hb.2⟩]
 ·rw [jk hb,jk (fun x=>hb ⟨this.2 x.1,x.2⟩)]
theorem kH1 (i k:Nat):¬bfr i k ((i:Int),((2 ^ k:Nat):Int)):=by
 unfold bfr;dsimp only;omega
theorem fD5 (ts:List (List Int)){t:List Int}{i k:Nat}{v:Int}(hv:t[i]? =some v)(hk:k<5)(hb:¬bH9 v ((2 ^ k:Nat):Int)){o:Out}(h:bG5 o):dD0 ts t i (k+1) o=dD0 ts t i k o:=by
 unfold dD0
 have:=dK2 (i:=i) hk h
 congr 1
 by_cases h1:bfr i k o/\bH9 (t[o.1.toNat]?.getD 0) o.2
 ·rw [jw h1,jw ⟨this.2 (.inl h1.1),h1.2⟩]
 ·rw [jk h1,jk ?_]
  rintro ⟨h2,h3⟩
  rcases this.1 h2 with h4|rfl
  ·exact h1 ⟨h4,h3⟩
  ·dsimp only at h3
   rw [jf,hv] at h3
   exact hb h3
theorem hM7 (ts:List (List Int))(t:List Int)(i k:Nat):dD0 ts t i k ((i:Int),((2 ^ k:Nat):Int))=bS5 ts ((i:Int),((2 ^ k:Nat):Int)):=by
 unfold dD0
 rw [jk (fun x=>kH1 i k x.1)];rfl
theorem hM6 (ts:List (List Int)){t:List Int}{i k:Nat}{v:Int}(hv:t[i]? =some v)(hk:k<5)(hb:bH9 v ((2 ^ k:Nat):Int)){o:Out}(h:bG5 o):
  dD0 ts t i (k+1) o=if o=((i:Int),((2 ^ k:Nat):Int)) then dD0 ts t i k ((i:Int),((2 ^ k:Nat):Int))+1 else dD0 ts t i k o:=by
 have:=dK2 (i:=i) hk h
 by_cases he:o=((i:Int),((2 ^ k:Nat):Int))
 ·rw [jw he,hM7,he]
  unfold dD0
  rw [if_pos ⟨by rw [he] at this;exact this.2 (.inr rfl),by dsimp only;rw [Int.toNat_natCast,hv];exact hb⟩]
 ·rw [jk he]
  unfold dD0
  congr 1
  by_cases h1:bfr i k o/\bH9 (t[o.1.toNat]?.getD 0) o.2
  ·rw [jw h1,jw ⟨this.2 (.inl h1.1),h1.2⟩]
  ·rw [jk h1,jk ?_]
   rintro ⟨h2,h3⟩
   rcases this.1 h2 with h4|h4
   ·exact h1 ⟨h4,h3⟩
   ·exact he h4
theorem gH9 (ts:List (List Int))(t:List Int){o:Out}(h:bG5 o):dD0 ts t t.length 0 o=bS5 (ts++[t]) o:=by
 rw [dB3]
 unfold dD0
 congr 1
 by_cases hb:bH9 (t[o.1.toNat]?.getD 0) o.2
 ·have hlt:o.1.toNat<t.length:=by
   refine jg fun hn=>?_
   rw [qf qZ] at hb
   exact bM5 _ hb
  have h0:=h.1
  rw [jw ⟨.inl qZ,hb⟩,jw hb]
 ·rw [jk (fun x=>hb x.2),jk hb]
def cD4 (room:Int)(ts:List (List Int))(t:List Int)(i k:Nat):Prop:=∀o,bG5 o->bfr i k o->bH9 (t[o.1.toNat]?.getD 0) o.2->(bS5 ts o:Int)<room
theorem fT3 (room:Int)(ts:List (List Int))(t:List Int):cD4 room ts t 0 0:=fun o ho hb _=>absurd hb (gB4 ho)
theorem gP9 {room:Int}{ts:List (List Int)}{t:List Int}{i:Nat}(h:cD4 room ts t i 5):cD4 room ts t (i+1) 0:=fun o ho hb hh=>h o ho ((hN4 ho).2 hb) hh
theorem fT4 {room:Int}{ts:List (List Int)}{t:List Int}{i k:Nat}{v:Int}(hv:t[i]? =some v)(hk:k<5)(hb:¬bH9 v ((2 ^ k:Nat):Int))(h:cD4 room ts t i k):cD4 room ts t i (k+1):=fun o ho hf hh=>by
 rcases (dK2 hk ho).1 hf with hf|rfl
 ·exact h o ho hf hh
 ·dsimp only at hh
  rw [jf,hv] at hh
  exact absurd hh hb
theorem fT5 {room:Int}{ts:List (List Int)}{t:List Int}{i k:Nat}(hk:k<5)(hc:(bS5 ts ((i:Int),((2 ^ k:Nat):Int)):Int)<room)(h:cD4 room ts t i k):cD4 room ts t i (k+1):=fun o ho hf hh=>by
 rcases (dK2 hk ho).1 hf with hf|rfl
 ·exact h o ho hf hh
 ·exact hc
theorem gD0 {room:Int}{ts:List (List Int)}{t:List Int}(h:cD4 room ts t t.length 0):bP0 room ts t=true:=by
 unfold bP0
 rw [List.all_eq_true]
 intro o ho
 obtain ⟨h1,h2⟩:=bL3.1 ho
 rw [jy]
 have hlt:o.1.toNat<t.length:=by
  refine jg fun hn=>?_
  rw [qf qZ] at h2
  exact bM5 _ h2
 have h0:=h1.1
 exact h o h1 (.inl qZ) h2
theorem hX2 {room:Int}{ts:List (List Int)}{t:List Int}{i k:Nat}{v:Int}(hv:t[i]? =some v)(hk:k<5)(hb:bH9 v ((2 ^ k:Nat):Int))(hc:¬(bS5 ts ((i:Int),((2 ^ k:Nat):Int)):Int)<room):bP0 room ts t=false:=by
 cases hm:bP0 room ts t with
 |false=>rfl
 |true=>
  unfold bP0 at hm
  rw [List.all_eq_true] at hm
  refine absurd (of_decide_eq_true (hm ((i:Int),((2 ^ k:Nat):Int)) (bL3.2 ⟨⟨by dsimp only;omega,?_⟩,?_⟩))) hc
  ·have:=lN6 hk
   unfold bC8
   dsimp only
   omega
  ·dsimp only
   rw [jf,hv]
   exact hb
theorem fR9 (W:Int)(home:Int->Int)(tg:Int->List Int)(ks:List Int)(key:Int):bW9 W home tg (ks++[key])=((tg key).map fun t=>bG0 W (home key) t).foldl max (bW9 W home tg ks):=by
 unfold bW9
 rw [QK,Qx]
 simp
def bH7 (T:Int->List Int)(room:Int)(ws:List (List Int))(key:Int):Nat:=(ws.findIdx? fun w=>bP0 room (w.map T) (T key)).getD ws.length
theorem cY4 (T:Int->List Int)(room:Int)(ws:List (List Int))(key:Int):
  bB8 T room ws key=if bH7 T room ws key<ws.length then ws.set (bH7 T room ws key) (ws[bH7 T room ws key]?.getD []++[key]) else ws++[[key]]:=by
 unfold bB8 bH7
 cases h:ws.findIdx? fun w=>bP0 room (w.map T) (T key) with
 |none=>simp
 |some k=>
  have hlt:k<ws.length:=by
   rw [List.findIdx?_eq_some_iff_getElem] at h
   exact h.1
  simp only [qY]
  rw [jw hlt]
  apply qp
  intro j
  rw [qS,qO]
  by_cases hj:k=j
  ·subst hj
   rw [jw rfl,jw hlt,qq hlt]
   simp
  ·simp [hj]
theorem cD1 (T:Int->List Int)(room:Int)(ws:List (List Int))(key:Int):bH7 T room ws key<=ws.length:=by
 unfold bH7
 cases h:ws.findIdx? fun w=>bP0 room (w.map T) (T key) with
 |none=>exact qA _
 |some k=>
  rw [List.findIdx?_eq_some_iff_getElem] at h
  exact Nat.le_of_lt h.1
theorem dV1 {T:Int->List Int}{room:Int}{ws:List (List Int)}{key:Int}{k:Nat}(hk:k<=ws.length)(h1:∀j,j<k->bP0 room ((ws[j]?.getD []).map T) (T key)=false)
  (h2:k<ws.length->bP0 room ((ws[k]?.getD []).map T) (T key)=true):bH7 T room ws key=k:=by
 unfold bH7
 rcases qy k ws.length with hlt|hge
 ·have:ws.findIdx? (fun w=>bP0 room (w.map T) (T key))=some k:=by
   rw [List.findIdx?_eq_some_iff_getElem]
   refine ⟨hlt,?_,fun j hj=>?_⟩
   ·have:=h2 hlt
    rw [qq hlt] at this
    exact this
   ·have:=h1 j hj
    rw [qq qZ,qY] at this
    rw [this]
    exact Bool.false_ne_true
  rw [this];rfl
 ·have hkl:k=ws.length:=by omega
  have:ws.findIdx? (fun w=>bP0 room (w.map T) (T key))=none:=by
   rw [List.findIdx?_eq_none_iff]
   intro w hw
   obtain ⟨j,hj⟩:=jh hw
   have hjl:=(qx.1 hj).1
   have:=h1 j qZ
   rw [hj] at this
   exact this
  rw [this];exact hkl.symm
theorem dN3 {T:Int->List Int}{room:Int}{ws:List (List Int)}{key:Int}(hn:∀w∈ws,key∉w)(x:Int):bW0 (bB8 T room ws key) x=if x=key then (bH7 T room ws key:Int) else bW0 ws x:=by
 rw [cY4]
 have hle:=cD1 T room ws key
 generalize bH7 T room ws key=k at hle ⊢
 unfold bW0
 by_cases hlt:k<ws.length
 ·rw [jw hlt]
  have hget:ws[k]? =some ws[k]:=qq hlt
  by_cases hx:x=key
  ·subst hx
   rw [jw rfl]
   have:(ws.set k (ws[k]?.getD []++[x])).findIdx? (fun w=>decide (x∈w))=some k:=by
    rw [List.findIdx?_eq_some_iff_getElem]
    refine ⟨by simpa using hlt,by simp,fun j hj=>?_⟩
    rw [List.getElem_set,jk qZ]
    simpa using hn _ (Qu qZ)
   rw [this]
  ·rw [jk hx]
   have:(ws.set k (ws[k]?.getD []++[key])).findIdx? (fun w=>decide (x∈w))=ws.findIdx? (fun w=>decide (x∈w)):=by
    have hm:(ws.set k (ws[k]?.getD []++[key])).map (fun w=>decide (x∈w))=ws.map (fun w=>decide (x∈w)):=by
     rw [List.map_set,hget,qY]
     have:decide (x∈ws[k]++[key])=decide (x∈ws[k]):=by
      congr 1
      rw [qH,qt]
      exact propext ⟨fun h=>h.elim id fun h=>absurd h hx,.inl⟩
     rw [this]
     apply qp
     intro i
     rw [qO]
     by_cases hi:k=i
     ·subst hi
      rw [jw rfl,jw (by simpa using hlt),qj,hget];rfl
     ·rw [jk hi]
    have key2:∀{l m:List (List Int)} (p:List Int->Bool),l.map p=m.map p->l.findIdx? p=m.findIdx? p:=by
     intro l m p h
     have e:∀l:List (List Int),l.findIdx? p=(l.map p).findIdx? id:=fun l=>by rw [List.findIdx?_map];rfl
     rw [e l,e m,h]
    exact key2 _ hm
   rw [this]
 ·rw [jk hlt]
  have hk:k=ws.length:=by omega
  by_cases hx:x=key
  ·subst hx
   rw [jw rfl]
   have:(ws++[[x]]).findIdx? (fun w=>decide (x∈w))=some k:=by
    rw [List.findIdx?_append]
    have h0:ws.findIdx? (fun w=>decide (x∈w))=none:=by
     rw [List.findIdx?_eq_none_iff]
     intro w hw
     simpa using hn w hw
    rw [h0]
    simp [hk]
   rw [this]
  ·rw [jk hx]
   have:(ws++[[key]]).findIdx? (fun w=>decide (x∈w))=ws.findIdx? (fun w=>decide (x∈w)):=by
    rw [List.findIdx?_append]
    have h1:[[key]].findIdx? (fun w=>decide (x∈w))=none:=by simp [hx]
    rw [h1]
    cases ws.findIdx? (fun w=>decide (x∈w))<;>rfl
   rw [this]
theorem dK9 (T:Int->List Int)(room:Int)(keys:List Int)(key:Int):bT6 T room (keys++[key])=bB8 T room (bT6 T room keys) key:=by
 unfold bT6
 rw [Qx];rfl
theorem fL5 {T:Int->List Int}{room:Int}{ws:List (List Int)}{key x:Int}:(∃w∈bB8 T room ws key,x∈w)<->(∃w∈ws,x∈w)\/x=key:=by
 rw [cY4]
 have hle:=cD1 T room ws key
 generalize bH7 T room ws key=k at hle ⊢
 split
 ·rename_i hlt
  have hget:ws[k]? =some ws[k]:=qq hlt
  rw [hget,qY]
  constructor
  ·rintro ⟨w,hw,hx⟩
   rcases Qq hw with hw|rfl
   ·exact .inl ⟨w,hw,hx⟩
   ·rcases qH.1 hx with hx|hx
    ·exact .inl ⟨_,Qu hlt,hx⟩
    ·exact .inr (by simpa using hx)
  ·rintro (⟨w,hw,hx⟩|rfl)
   ·obtain ⟨j,hj⟩:=jh hw
    by_cases hjk:k=j
    ·subst hjk
     rw [hget] at hj
     cases hj
     exact ⟨_,qz (i:=k) (by rw [qO,jw rfl,jw hlt]),QW _ hx⟩
    ·exact ⟨w,qz (i:=j) (by rw [qO,jk hjk,hj]),hx⟩
   ·exact ⟨_,qz (i:=k) (by rw [qO,jw rfl,jw hlt]),by simp⟩
 ·constructor
  ·rintro ⟨w,hw,hx⟩
   rcases qH.1 hw with hw|hw
   ·exact .inl ⟨w,hw,hx⟩
   ·rw [qt] at hw
    subst hw
    exact .inr (by simpa using hx)
  ·rintro (⟨w,hw,hx⟩|rfl)
   ·exact ⟨w,QW _ hw,hx⟩
   ·exact ⟨[x],by simp,by simp⟩
theorem cG0 {T:Int->List Int}{room:Int}(keys:List Int){x:Int}:(∃w∈bT6 T room keys,x∈w)<->x∈keys:=by
 refine kQ0 (P:=fun keys=>(∃w∈bT6 T room keys,x∈w)<->x∈keys) (by simp [bT6]) (fun l y ih=>?_) keys
 rw [dK9,fL5,ih,qH,qt]
end Go.Gm
end

section
namespace Go.Gm
structure EtyOk (x:Ety):Prop where
 key:0<=x.key/\x.key<=65535
 mask:0<=x.mask/\x.mask<=65535
 fits:fM7 x.key x.mask=x.key
 outs:1<=x.outs/\x.outs<=31
theorem lX5 (a b:Int):0<=fM7 a b/\fM7 a b<=a.toNat/\fM7 a b<=b.toNat:=by
 unfold fM7
 have h1:a.toNat&&&b.toNat<=a.toNat:=Nat.and_le_left
 have h2:a.toNat&&&b.toNat<=b.toNat:=Nat.and_le_right
 omega
theorem dK1 (a b:Int):0<=bT1 a b/\bT1 a b<=a.toNat:=by
 unfold bT1
 omega
theorem lX3 {a b:Int}(ha:0<=a/\a<=65535)(hb:0<=b/\b<=65535):0<=gZ3 a b/\gZ3 a b<=65535:=by
 unfold gZ3
 have:a.toNat ^^^ b.toNat<2 ^ 16:=Nat.xor_lt_two_pow qZ qZ
 omega
theorem lK4 {a b:Nat}(h:a&&&b=0):a ||| b=a+b:=by
 have hw:a+b<2 ^ (a+b):=Nat.lt_two_pow_self
 have ha:a%2 ^ (a+b)=a:=jv qZ
 have hb:b%2 ^ (a+b)=b:=jv qZ
 have h1:=BitVec.add_eq_or_of_and_eq_zero (BitVec.ofNat (a+b) a) (BitVec.ofNat (a+b) b) (by
  apply BitVec.eq_of_toNat_eq
  rw [BitVec.toNat_and,BitVec.toNat_ofNat,BitVec.toNat_ofNat,ha,hb,h];simp)
 have h2:=congrArg BitVec.toNat h1
 rw [BitVec.toNat_add,BitVec.toNat_or,BitVec.toNat_ofNat,BitVec.toNat_ofNat,ha,hb,jv hw] at h2
 exact h2.symm
theorem gG8 (a b i:Nat):(a - (a&&&b)).testBit i=(a.testBit i&& !b.testBit i):=by
 have h:a - (a&&&b)=a ^^^ (a&&&b):=by
  have h1:(a ^^^ (a&&&b))&&&(a&&&b)=0:=by
   apply Nat.eq_of_testBit_eq
   intro j
   simp only [Nat.testBit_and,Nat.testBit_xor,Nat.zero_testBit]
   cases a.testBit j<;>cases b.testBit j<;>rfl
  have h2:(a ^^^ (a&&&b)) ||| (a&&&b)=a:=by
   apply Nat.eq_of_testBit_eq
   intro j
   simp only [Nat.testBit_and,Nat.testBit_xor,Nat.testBit_or]
   cases a.testBit j<;>cases b.testBit j<;>rfl
  have h3:=lK4 h1
  omega
 rw [h,Nat.testBit_xor,Nat.testBit_and]
 cases a.testBit i<;>cases b.testBit i<;>rfl
theorem hF4 {k m d:Nat}(h:k&&&m=k):(k - (k&&&d))&&&(m - (m&&&d))=k - (k&&&d):=by
 apply Nat.eq_of_testBit_eq
 intro i
 have hi:=congrArg (fun x=>x.testBit i) h
 simp only [Nat.testBit_and] at hi
 rw [Nat.testBit_and,gG8,gG8]
 revert hi
 cases k.testBit i<;>cases m.testBit i<;>cases d.testBit i<;>simp
theorem hH6 {x y z:Ety}(hx:EtyOk x)(h:fX6 x y=some z):EtyOk z:=by
 unfold fX6 at h
 split at h
 ·cases h
 ·cases h
  have h1:=dK1 x.key (gZ3 x.key y.key)
  have h2:=dK1 x.mask (gZ3 x.key y.key)
  have hk:=hx.key
  have hm:=hx.mask
  refine ⟨by dsimp only;omega,by dsimp only;omega,?_,hx.outs⟩
  have hf:=hx.fits
  unfold fM7 bT1 at*
  dsimp only at*
  have e:x.key.toNat&&&x.mask.toNat=x.key.toNat:=by omega
  have:=hF4 (d:=(gZ3 x.key y.key).toNat) e
  rw [jf,jf,this]
def hB4 (key:Int)(x:Ety):Bool:=decide (fM7 key x.mask=x.key)
theorem kW9 {l:List Ety}{key:Int}{j:Nat}{x:Ety}(hj:l[j]? =some x)(h:hB4 key x=true)(hb:∀y∈l.take j,hB4 key y=false):bH0 l key=some x.outs:=by
 unfold bH0
 have:l.find? (fun x=>decide (fM7 key x.mask=x.key))=some x:=by
  have hlt:=(qx.1 hj).1
  rw [List.find?_eq_some_iff_append]
  refine ⟨h,l.take j,l.drop (j+1),?_,fun a ha=>?_⟩
  ·have e:l=l.take j++l.drop j:=(QJ j l).symm
   have e2:l.drop j=x::l.drop (j+1):=by
    rw [qG hlt,(qx.1 hj).2]
   rw [<-e2];exact e
  ·have:=hb a ha
   unfold hB4 at this
   simp [this]
 rw [this];rfl
theorem gT0 {l:List Ety}{key:Int}(hb:∀y∈l,hB4 key y=false):bH0 l key=none:=by
 unfold bH0
 have:l.find? (fun x=>decide (fM7 key x.mask=x.key))=none:=by
  rw [List.find?_eq_none]
  intro y hy
  have:=hb y hy
  unfold hB4 at this
  simp [this]
 rw [this];rfl
theorem fP3 {l:List Ety}{key o:Int}(h:bH0 l key=some o):∃x∈l,x.outs=o:=by
 unfold bH0 at h
 cases hf:l.find? (fun x=>decide (fM7 key x.mask=x.key)) with
 |none=>rw [hf] at h;cases h
 |some x=>
  rw [hf] at h
  simp only [qV,qK] at h
  exact ⟨x,List.mem_of_find?_eq_some hf,h⟩
theorem fH4 {l:List Ety}(h:∀x∈l,EtyOk x){k j:Nat}{z:Ety}(hz:EtyOk z):∀x∈bY7 l k j z,EtyOk x:=by
 intro x hx
 unfold bY7 at hx
 rcases Qq hx with hx|rfl
 ·exact h x (List.mem_of_mem_eraseIdx hx)
 ·exact hz
theorem dC9 {l:List Ety}{k j:Nat}{z:Ety}(hj:j<l.length):(bY7 l k j z).length=l.length - 1:=by
 unfold bY7
 rw [QH,List.length_eraseIdx_of_lt hj]
def hS8 (want l:List Ety)(keys:List Int)(k j:Nat):Option (List Ety):=hT7 want l keys (k,j)
theorem cX1 (n k j:Nat):∀p:Nat×Nat,p∈dG2 n<->p.1<p.2/\p.2<n:=by
 intro p
 unfold dG2
 rw [QG]
 constructor
 ·rintro ⟨k,hk,hp⟩
  rw [qo] at hp
  obtain ⟨j,hj,rfl⟩:=hp
  rw [qP] at hj
  simp only [qL,jy] at hj hk
  exact ⟨hj.2,hj.1⟩
 ·rintro ⟨h1,h2⟩
  refine ⟨p.1,by simp;omega,?_⟩
  rw [qo]
  refine ⟨p.2,?_,rfl⟩
  rw [qP]
  simp [h1,h2]
def gZ5 (k j:Nat)(p:Nat×Nat):Prop:=p.1<k\/(p.1=k/\p.2<j)
theorem hW2 (n:Nat):(dG2 n).Pairwise fun p q=>gZ5 q.1 q.2 p:=by
 unfold dG2
 rw [List.pairwise_flatMap]
 refine ⟨fun k _=>?_,?_⟩
 ·rw [List.pairwise_map]
  refine (List.Pairwise.filter _ List.pairwise_lt_range).imp fun h=>.inr ⟨rfl,h⟩
 ·refine List.pairwise_lt_range.imp fun h p hp q hq=>?_
  rw [qo] at hp hq
  obtain ⟨_,_,rfl⟩:=hp
  obtain ⟨_,_,rfl⟩:=hq
  exact .inl h
theorem gN3 {n k j:Nat}(hj:k<j)(hjn:j<n):∃A B,dG2 n=A++(k,j)::B/\∀p,p∈A->(p∈dG2 n/\gZ5 k j p):=by
 obtain ⟨A,B,e⟩:=List.append_of_mem ((cX1 n 0 0 (k,j)).2 ⟨hj,hjn⟩)
 refine ⟨A,B,e,fun p hp=>⟨by rw [e];exact QW _ hp,?_⟩⟩
 have:=hW2 n
 rw [e,List.pairwise_append] at this
 exact this.2.2 p hp (k,j) qg
theorem fH5 {want l:List Ety}{keys:List Int}{k j:Nat}{t:List Ety}(hk:k<j)(hj:j<l.length)(h:hS8 want l keys k j=some t)(hb:∀p,p.1<p.2->p.2<l.length->gZ5 k j p->hS8 want l keys p.1 p.2=none):bK2 want l keys=some t:=by
 obtain ⟨A,B,e,hA⟩:=gN3 hk hj
 unfold bK2
 rw [e,List.findSome?_append]
 have:A.findSome? (hT7 want l keys)=none:=by
  rw [List.findSome?_eq_none_iff]
  intro p hp
  obtain ⟨h1,h2⟩:=hA p hp
  obtain ⟨h3,h4⟩:=(cX1 l.length k j p).1 h1
  exact hb p h3 h4 h2
 rw [this,Option.none_or,List.findSome?_cons]
 unfold hS8 at h
 rw [h]
theorem dM4 {want l:List Ety}{keys:List Int}(hb:∀p:Nat×Nat,p.1<p.2->p.2<l.length->hS8 want l keys p.1 p.2=none):bK2 want l keys=none:=by
 unfold bK2
 rw [List.findSome?_eq_none_iff]
 intro p hp
 obtain ⟨h3,h4⟩:=(cX1 l.length 0 0 p).1 hp
 exact hb p h3 h4
theorem fW6 {want l:List Ety}{keys:List Int}{p:Nat×Nat}{t:List Ety}(h:hT7 want l keys p=some t):∃x y z,l[p.1]? =some x/\l[p.2]? =some y/\fX6 x y=some z/\t=bY7 l p.1 p.2 z/\cK6 want t keys=true:=by
 unfold hT7 at h
 split at h
 ·rename_i x y h1 h2
  split at h
  ·rename_i z h3
   split at h
   ·rename_i h4
    cases h
    exact ⟨x,y,z,h1,h2,h3,rfl,h4⟩
   ·cases h
  ·cases h
 ·cases h
theorem cF7 {want l:List Ety}{keys:List Int}{t:List Ety}(h:bK2 want l keys=some t):∃p:Nat×Nat,p.1<p.2/\p.2<l.length/\hT7 want l keys p=some t:=by
 unfold bK2 at h
 obtain ⟨p,hp,h1⟩:=List.exists_of_findSome?_eq_some h
 obtain ⟨h3,h4⟩:=(cX1 l.length 0 0 p).1 hp
 exact ⟨p,h3,h4,h1⟩
theorem cM8 {want l:List Ety}{keys:List Int}{t:List Ety}(h:bK2 want l keys=some t):t.length+1=l.length:=by
 obtain ⟨p,h1,h2,h3⟩:=cF7 h
 obtain ⟨x,y,z,_,_,_,rfl,_⟩:=fW6 h3
 have:=dC9 (l:=l) (k:=p.1) (z:=z) h2
 omega
theorem dQ2 {want l:List Ety}{keys:List Int}{t:List Ety}(hl:∀x∈l,EtyOk x)(h:bK2 want l keys=some t):(∀x∈t,EtyOk x)/\cK6 want t keys=true:=by
 obtain ⟨p,h1,h2,h3⟩:=cF7 h
 obtain ⟨x,y,z,hx,_,hj,rfl,hs⟩:=fW6 h3
 exact ⟨fH4 hl (hH6 (hl x (qz hx)) hj),hs⟩
def dT0 (want:List Ety)(keys:List Int)(l:List Ety):List Ety:=dQ4 want keys l.length l
theorem fL4 {want l:List Ety}{keys:List Int}{t:List Ety}(h:bK2 want l keys=some t):dT0 want keys l=dT0 want keys t:=by
 have hlen:=cM8 h
 unfold dT0
 rw [<-hlen]
 simp only [dQ4,h]
theorem fL3 {want l:List Ety}{keys:List Int}(h:bK2 want l keys=none):dT0 want keys l=l:=by
 unfold dT0
 cases hl:l.length with
 |zero=>rfl
 |succ m=>simp [dQ4,h]
theorem dC0 (l:List Ety)(keys:List Int):cK6 l l keys=true:=by
 unfold cK6
 rw [List.all_eq_true]
 intro k _
 simp
theorem hP4 {l:List Ety}(hl:∀x∈l,EtyOk x){m:List Ety}(hm:∀x∈m,EtyOk x)(key:Int):(bH0 l key).getD 0=(bH0 m key).getD 0<->bH0 l key=bH0 m key:=by
 constructor
 ·intro h
  cases h1:bH0 l key with
  |none=>
   cases h2:bH0 m key with
   |none=>rfl
   |some o=>
    obtain ⟨x,hx,rfl⟩:=fP3 h2
    rw [h1,h2] at h
    have:=(hm x hx).outs
    simp only [Option.getD_none,qY] at h
    omega
  |some a=>
   obtain ⟨x,hx,rfl⟩:=fP3 h1
   have h3:=(hl x hx).outs
   cases h2:bH0 m key with
   |none=>
    rw [h1,h2] at h
    simp only [Option.getD_none,qY] at h
    omega
   |some b=>
    rw [h1,h2] at h
    simp only [qY] at h
    rw [h]
 ·intro h;rw [h]
theorem cS0 {T:Int->List Int}{r:Nat}{key:Int}{x:Ety}(h:cC0 T r key=some x):x=⟨key,65535,(T key)[r]?.getD 0⟩/\(T key)[r]?.getD 0≠0:=by
 unfold cC0 at h
 dsimp only at h
 split at h
 ·cases h
 ·rename_i h1
  cases h
  exact ⟨rfl,h1⟩
theorem gV1 {T:Int->List Int}(hT:∀k,bF7 (T k)){keys:List Int}(hk:∀k∈keys,0<=k/\k<=65535)(r:Nat):∀x∈bW3 T keys r,EtyOk x:=by
 intro x hx
 unfold bW3 at hx
 rw [List.mem_filterMap] at hx
 obtain ⟨k,hkm,h⟩:=hx
 obtain ⟨rfl,h1⟩:=cS0 h
 have hr:=hk k hkm
 refine ⟨hr,⟨by dsimp only;omega,by dsimp only;omega⟩,?_,?_⟩
 ·unfold fM7
  dsimp only
  have:(65535:Int).toNat=2 ^ 16 - 1:=rfl
  rw [this,Nat.and_two_pow_sub_one_eq_mod,jv qZ]
  omega
 ·dsimp only
  cases hg:(T k)[r]? with
  |none=>rw [hg] at h1;exact absurd rfl h1
  |some v=>
   rw [hg] at h1
   have:=hT k v (qz hg)
   simp only [qY] at h1 ⊢
   omega
theorem dN5 (T:Int->List Int)(keys:List Int)(r:Nat):(bW3 T keys r).map (·.key)=keys.filter fun k=>decide ((T k)[r]?.getD 0≠0):=by
 unfold bW3
 induction keys with
 |nil=>rfl
 |cons k l ih=>
  rw [List.filterMap_cons,List.filter_cons]
  cases h:cC0 T r k with
  |none=>
   have:(T k)[r]?.getD 0=0:=by
    unfold cC0 at h
    dsimp only at h
    split at h
    ·assumption
    ·cases h
   rw [jk (by simp [this])]
   exact ih
  |some x=>
   obtain ⟨rfl,h1⟩:=cS0 h
   rw [jw (by simpa using h1),qI,ih]
theorem hX5 (T:Int->List Int)(keys:List Int)(r:Nat):(bW3 T keys r).length<=keys.length:=by
 have:=congrArg List.length (dN5 T keys r)
 rw [qv] at this
 rw [this]
 exact qD ..
end Go.Gm
end
