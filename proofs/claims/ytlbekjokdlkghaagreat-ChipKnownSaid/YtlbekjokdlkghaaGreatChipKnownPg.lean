import Derived.Test.YtlbekjokdlkghaaGreatChipKnownPw
set_option linter.unusedVariables false
set_option linter.unusedSimpArgs false
set_option maxHeartbeats 4000000
section
namespace Go.Gm
structure IsMax (c:Out->Nat) (m:Nat):Prop where
 le:∀o,isOutO o->c o<=m
 ex:m=0\/∃o,isOutO o/\c o=m
theorem IsMax.bump {c:Out->Nat}{m:Nat}(h:IsMax c m){o:Out}(ho:isOutO o):IsMax (fun q=>if q=o then c o+1 else c q) (max m (c o+1)):=by
 refine ⟨fun q hq=>?_,.inr ?_⟩
 ·have:=h.le q hq
  show (if q=o then c o+1 else c q)<=_
  split<;>omega
 ·by_cases hm:m<=c o+1
  ·exact ⟨o,ho,by rw [jx rfl];omega⟩
  ·rcases h.ex with h0|⟨q,hq,he⟩
   ·omega
   ·have:¬q=o:=fun e=>by subst e;omega
    exact ⟨q,hq,by rw [jz this];omega⟩
theorem IsMax.same {c d:Out->Nat}{m:Nat}(h:IsMax c m)(e:∀o,isOutO o->d o=c o):IsMax d m:=by
 refine ⟨fun q hq=>by rw [e q hq];exact h.le q hq,?_⟩
 rcases h.ex with h0|⟨q,hq,he⟩
 ·exact .inl h0
 ·exact .inr ⟨q,hq,by rw [e q hq];exact he⟩
theorem IsMax.most {ts:List (List Int)}{m:Nat}(h:IsMax (cntM ts) m):mostM ts=m:=(mostM_is ts).uniq ⟨h.le,h.ex⟩
theorem IsMax.of (ts:List (List Int)):IsMax (cntM ts) (mostM ts):=⟨(mostM_is ts).le,(mostM_is ts).ex⟩
def bfr (i k:Nat)(o:Out):Prop:=o.1<(i:Int)\/(o.1=(i:Int)/\o.2<((2 ^ k:Nat):Int))
instance (i k:Nat) (o:Out):Decidable (bfr i k o):=by unfold bfr;infer_instance
def cntP (ts:List (List Int))(t:List Int)(i k:Nat)(o:Out):Nat:=cntM ts o+if bfr i k o/\hasB (t[o.1.toNat]?.getD 0) o.2 then 1 else 0
theorem pow5 {k:Nat}(hk:k<5):k=0/\(2 ^ k:Nat)=1\/k=1/\(2 ^ k:Nat)=2\/k=2/\(2 ^ k:Nat)=4\/k=3/\(2 ^ k:Nat)=8\/k=4/\(2 ^ k:Nat)=16:=by
 have:k=0\/k=1\/k=2\/k=3\/k=4:=by omega
 rcases this with rfl|rfl|rfl|rfl|rfl<;>simp
theorem bfr_zero {o:Out}(h:isOutO o):¬bfr 0 0 o:=by
 unfold isOutO isOut at h
 unfold bfr
 simp only [Nat.pow_zero]
 omega
theorem bfr_next {i k:Nat}(hk:k<5){o:Out}(h:isOutO o):bfr i (k+1) o<->bfr i k o\/o=((i:Int),((2 ^ k:Nat):Int)):=by
 unfold isOutO isOut at h
 unfold bfr
 obtain ⟨a,b⟩:=o
 dsimp only at h ⊢
 rw [Prod.mk.injEq,Nat.pow_succ]
 have:=pow5 hk
 omega
theorem bfr_row {i:Nat}{o:Out}(h:isOutO o):bfr i 5 o<->bfr (i+1) 0 o:=by
 unfold isOutO isOut at h
 unfold bfr
 simp only [Nat.pow_zero]
 have:(2 ^ 5:Nat)=32:=rfl
 rw [this]
 omega
theorem cntP_zero (ts:List (List Int))(t:List Int){o:Out}(h:isOutO o):cntP ts t 0 0 o=cntM ts o:=by
 unfold cntP
 rw [jz (fun x=>bfr_zero h x.1)];rfl
theorem cntP_row (ts:List (List Int))(t:List Int)(i:Nat){o:Out}(h:isOutO o):cntP ts t (i+1) 0 o=cntP ts t i 5 o:=by
 unfold cntP
 have:=bfr_row (i:=i) h
 by_cases hb:bfr i 5 o/\hasB (t[o.1.toNat]?.getD 0) o.2
 ·rw [jx hb,jx ⟨this.1 hb.1,hb.2⟩]
 ·rw [jz hb,jz (fun x=>hb ⟨this.2 x.1,x.2⟩)]
theorem bfr_self (i k:Nat):¬bfr i k ((i:Int),((2 ^ k:Nat):Int)):=by
 unfold bfr;dsimp only;omega
theorem cntP_skip (ts:List (List Int)){t:List Int}{i k:Nat}{v:Int}(hv:t[i]? =some v)(hk:k<5)(hb:¬hasB v ((2 ^ k:Nat):Int)){o:Out}(h:isOutO o):cntP ts t i (k+1) o=cntP ts t i k o:=by
 unfold cntP
 have:=bfr_next (i:=i) hk h
 congr 1
 by_cases h1:bfr i k o/\hasB (t[o.1.toNat]?.getD 0) o.2
 ·rw [jx h1,jx ⟨this.2 (.inl h1.1),h1.2⟩]
 ·rw [jz h1,jz ?_]
  rintro ⟨h2,h3⟩
  rcases this.1 h2 with h4|rfl
  ·exact h1 ⟨h4,h3⟩
  ·dsimp only at h3
   rw [jw,hv] at h3
   exact hb h3
theorem cntP_at (ts:List (List Int))(t:List Int)(i k:Nat):cntP ts t i k ((i:Int),((2 ^ k:Nat):Int))=cntM ts ((i:Int),((2 ^ k:Nat):Int)):=by
 unfold cntP
 rw [jz (fun x=>bfr_self i k x.1)];rfl
theorem cntP_next (ts:List (List Int)){t:List Int}{i k:Nat}{v:Int}(hv:t[i]? =some v)(hk:k<5)(hb:hasB v ((2 ^ k:Nat):Int)){o:Out}(h:isOutO o):
  cntP ts t i (k+1) o=if o=((i:Int),((2 ^ k:Nat):Int)) then cntP ts t i k ((i:Int),((2 ^ k:Nat):Int))+1 else cntP ts t i k o:=by
 have:=bfr_next (i:=i) hk h
 by_cases he:o=((i:Int),((2 ^ k:Nat):Int))
 ·rw [jx he,cntP_at,he]
  unfold cntP
  rw [if_pos ⟨by rw [he] at this;exact this.2 (.inr rfl),by dsimp only;rw [Int.toNat_natCast,hv];exact hb⟩]
 ·rw [jz he]
  unfold cntP
  congr 1
  by_cases h1:bfr i k o/\hasB (t[o.1.toNat]?.getD 0) o.2
  ·rw [jx h1,jx ⟨this.2 (.inl h1.1),h1.2⟩]
  ·rw [jz h1,jz ?_]
   rintro ⟨h2,h3⟩
   rcases this.1 h2 with h4|h4
   ·exact h1 ⟨h4,h3⟩
   ·exact he h4
theorem cntP_end (ts:List (List Int))(t:List Int){o:Out}(h:isOutO o):cntP ts t t.length 0 o=cntM (ts++[t]) o:=by
 rw [cntM_snoc]
 unfold cntP
 congr 1
 by_cases hb:hasB (t[o.1.toNat]?.getD 0) o.2
 ·have hlt:o.1.toNat<t.length:=by
   refine jk fun hn=>?_
   rw [qf (by omega)] at hb
   exact hasB_zero _ hb
  have h0:=h.1
  rw [jx ⟨.inl (by omega),hb⟩,jx hb]
 ·rw [jz (fun x=>hb x.2),jz hb]
def takesK (room:Int)(ts:List (List Int))(t:List Int)(i k:Nat):Prop:=∀o,isOutO o->bfr i k o->hasB (t[o.1.toNat]?.getD 0) o.2->(cntM ts o:Int)<room
theorem takesK_zero (room:Int)(ts:List (List Int))(t:List Int):takesK room ts t 0 0:=fun o ho hb _=>absurd hb (bfr_zero ho)
theorem takesK_row {room:Int}{ts:List (List Int)}{t:List Int}{i:Nat}(h:takesK room ts t i 5):takesK room ts t (i+1) 0:=fun o ho hb hh=>h o ho ((bfr_row ho).2 hb) hh
theorem takesK_skip {room:Int}{ts:List (List Int)}{t:List Int}{i k:Nat}{v:Int}(hv:t[i]? =some v)(hk:k<5)(hb:¬hasB v ((2 ^ k:Nat):Int))(h:takesK room ts t i k):takesK room ts t i (k+1):=fun o ho hf hh=>by
 rcases (bfr_next hk ho).1 hf with hf|rfl
 ·exact h o ho hf hh
 ·dsimp only at hh
  rw [jw,hv] at hh
  exact absurd hh hb
theorem takesK_next {room:Int}{ts:List (List Int)}{t:List Int}{i k:Nat}(hk:k<5)(hc:(cntM ts ((i:Int),((2 ^ k:Nat):Int)):Int)<room)(h:takesK room ts t i k):takesK room ts t i (k+1):=fun o ho hf hh=>by
 rcases (bfr_next hk ho).1 hf with hf|rfl
 ·exact h o ho hf hh
 ·exact hc
theorem takesK_end {room:Int}{ts:List (List Int)}{t:List Int}(h:takesK room ts t t.length 0):takesM room ts t=true:=by
 unfold takesM
 rw [List.all_eq_true]
 intro o ho
 obtain ⟨h1,h2⟩:=mem_outsM.1 ho
 rw [jv]
 have hlt:o.1.toNat<t.length:=by
  refine jk fun hn=>?_
  rw [qf (by omega)] at h2
  exact hasB_zero _ h2
 have h0:=h1.1
 exact h o h1 (.inl (by omega)) h2
theorem takes_not {room:Int}{ts:List (List Int)}{t:List Int}{i k:Nat}{v:Int}(hv:t[i]? =some v)(hk:k<5)(hb:hasB v ((2 ^ k:Nat):Int))(hc:¬(cntM ts ((i:Int),((2 ^ k:Nat):Int)):Int)<room):takesM room ts t=false:=by
 cases hm:takesM room ts t with
 |false=>rfl
 |true=>
  unfold takesM at hm
  rw [List.all_eq_true] at hm
  refine absurd (of_decide_eq_true (hm ((i:Int),((2 ^ k:Nat):Int)) (mem_outsM.2 ⟨⟨by dsimp only;omega,?_⟩,?_⟩))) hc
  ·have:=pow5 hk
   unfold isOut
   dsimp only
   omega
  ·dsimp only
   rw [jw,hv]
   exact hb
theorem reachM_snoc (W:Int)(home:Int->Int)(tg:Int->List Int)(ks:List Int)(key:Int):reachM W home tg (ks++[key])=((tg key).map fun t=>distM W (home key) t).foldl max (reachM W home tg ks):=by
 unfold reachM
 rw [QK,Qx]
 simp
def waveIx (T:Int->List Int)(room:Int)(ws:List (List Int))(key:Int):Nat:=(ws.findIdx? fun w=>takesM room (w.map T) (T key)).getD ws.length
theorem waveAdd_eq (T:Int->List Int)(room:Int)(ws:List (List Int))(key:Int):
  waveAdd T room ws key=if waveIx T room ws key<ws.length then ws.set (waveIx T room ws key) (ws[waveIx T room ws key]?.getD []++[key]) else ws++[[key]]:=by
 unfold waveAdd waveIx
 cases h:ws.findIdx? fun w=>takesM room (w.map T) (T key) with
 |none=>simp
 |some k=>
  have hlt:k<ws.length:=by
   rw [List.findIdx?_eq_some_iff_getElem] at h
   exact h.1
  simp only [qY]
  rw [jx hlt]
  apply qp
  intro j
  rw [qS,qO]
  by_cases hj:k=j
  ·subst hj
   rw [jx rfl,jx hlt,qq hlt]
   simp
  ·simp [hj]
theorem waveIx_le (T:Int->List Int)(room:Int)(ws:List (List Int))(key:Int):waveIx T room ws key<=ws.length:=by
 unfold waveIx
 cases h:ws.findIdx? fun w=>takesM room (w.map T) (T key) with
 |none=>exact qA _
 |some k=>
  rw [List.findIdx?_eq_some_iff_getElem] at h
  exact Nat.le_of_lt h.1
theorem waveIx_spec {T:Int->List Int}{room:Int}{ws:List (List Int)}{key:Int}{k:Nat}(hk:k<=ws.length)(h1:∀j,j<k->takesM room ((ws[j]?.getD []).map T) (T key)=false)
  (h2:k<ws.length->takesM room ((ws[k]?.getD []).map T) (T key)=true):waveIx T room ws key=k:=by
 unfold waveIx
 rcases qy k ws.length with hlt|hge
 ·have:ws.findIdx? (fun w=>takesM room (w.map T) (T key))=some k:=by
   rw [List.findIdx?_eq_some_iff_getElem]
   refine ⟨hlt,?_,fun j hj=>?_⟩
   ·have:=h2 hlt
    rw [qq hlt] at this
    exact this
   ·have:=h1 j hj
    rw [qq (by omega),qY] at this
    rw [this]
    exact Bool.false_ne_true
  rw [this];rfl
 ·have hkl:k=ws.length:=by omega
  have:ws.findIdx? (fun w=>takesM room (w.map T) (T key))=none:=by
   rw [List.findIdx?_eq_none_iff]
   intro w hw
   obtain ⟨j,hj⟩:=jy hw
   have hjl:=(qx.1 hj).1
   have:=h1 j (by omega)
   rw [hj] at this
   exact this
  rw [this];exact hkl.symm
theorem waveOf_add {T:Int->List Int}{room:Int}{ws:List (List Int)}{key:Int}(hn:∀w∈ws,key∉w)(x:Int):waveOf (waveAdd T room ws key) x=if x=key then (waveIx T room ws key:Int) else waveOf ws x:=by
 rw [waveAdd_eq]
 have hle:=waveIx_le T room ws key
 generalize waveIx T room ws key=k at hle ⊢
 unfold waveOf
 by_cases hlt:k<ws.length
 ·rw [jx hlt]
  have hget:ws[k]? =some ws[k]:=qq hlt
  by_cases hx:x=key
  ·subst hx
   rw [jx rfl]
   have:(ws.set k (ws[k]?.getD []++[x])).findIdx? (fun w=>decide (x∈w))=some k:=by
    rw [List.findIdx?_eq_some_iff_getElem]
    refine ⟨by simpa using hlt,by simp,fun j hj=>?_⟩
    rw [List.getElem_set,jz (by omega)]
    simpa using hn _ (Qu (by omega))
   rw [this]
  ·rw [jz hx]
   have:(ws.set k (ws[k]?.getD []++[key])).findIdx? (fun w=>decide (x∈w))=ws.findIdx? (fun w=>decide (x∈w)):=by
    have hm:(ws.set k (ws[k]?.getD []++[key])).map (fun w=>decide (x∈w))=ws.map (fun w=>decide (x∈w)):=by
     rw [List.map_set,hget,qY]
     have:decide (x∈ws[k]++[key])=decide (x∈ws[k]):=by
      congr 1
      rw [qH,qt]
      exact propext ⟨fun h=>h.elim id fun h=>absurd h hx,.inl⟩
     rw [this]
     apply qp
     intro i
     rw [qO]
     by_cases hi:k=i
     ·subst hi
      rw [jx rfl,jx (by simpa using hlt),qj,hget];rfl
     ·rw [jz hi]
    have key2:∀{l m:List (List Int)} (p:List Int->Bool),l.map p=m.map p->l.findIdx? p=m.findIdx? p:=by
     intro l m p h
     have e:∀l:List (List Int),l.findIdx? p=(l.map p).findIdx? id:=fun l=>by rw [List.findIdx?_map];rfl
     rw [e l,e m,h]
    exact key2 _ hm
   rw [this]
 ·rw [jz hlt]
  have hk:k=ws.length:=by omega
  by_cases hx:x=key
  ·subst hx
   rw [jx rfl]
   have:(ws++[[x]]).findIdx? (fun w=>decide (x∈w))=some k:=by
    rw [List.findIdx?_append]
    have h0:ws.findIdx? (fun w=>decide (x∈w))=none:=by
     rw [List.findIdx?_eq_none_iff]
     intro w hw
     simpa using hn w hw
    rw [h0]
    simp [hk]
   rw [this]
  ·rw [jz hx]
   have:(ws++[[key]]).findIdx? (fun w=>decide (x∈w))=ws.findIdx? (fun w=>decide (x∈w)):=by
    rw [List.findIdx?_append]
    have h1:[[key]].findIdx? (fun w=>decide (x∈w))=none:=by simp [hx]
    rw [h1]
    cases ws.findIdx? (fun w=>decide (x∈w))<;>rfl
   rw [this]
theorem wavesM_snoc (T:Int->List Int)(room:Int)(keys:List Int)(key:Int):wavesM T room (keys++[key])=waveAdd T room (wavesM T room keys) key:=by
 unfold wavesM
 rw [Qx];rfl
theorem mem_waveAdd {T:Int->List Int}{room:Int}{ws:List (List Int)}{key x:Int}:(∃w∈waveAdd T room ws key,x∈w)<->(∃w∈ws,x∈w)\/x=key:=by
 rw [waveAdd_eq]
 have hle:=waveIx_le T room ws key
 generalize waveIx T room ws key=k at hle ⊢
 split
 ·rename_i hlt
  have hget:ws[k]? =some ws[k]:=qq hlt
  rw [hget,qY]
  constructor
  ·rintro ⟨w,hw,hx⟩
   rcases Qq hw with hw|rfl
   ·exact .inl ⟨w,hw,hx⟩
   ·rcases qH.1 hx with hx|hx
    ·exact .inl ⟨_,Qu hlt,hx⟩
    ·exact .inr (by simpa using hx)
  ·rintro (⟨w,hw,hx⟩|rfl)
   ·obtain ⟨j,hj⟩:=jy hw
    by_cases hjk:k=j
    ·subst hjk
     rw [hget] at hj
     cases hj
     exact ⟨_,qz (i:=k) (by rw [qO,jx rfl,jx hlt]),QW _ hx⟩
    ·exact ⟨w,qz (i:=j) (by rw [qO,jz hjk,hj]),hx⟩
   ·exact ⟨_,qz (i:=k) (by rw [qO,jx rfl,jx hlt]),by simp⟩
 ·constructor
  ·rintro ⟨w,hw,hx⟩
   rcases qH.1 hw with hw|hw
   ·exact .inl ⟨w,hw,hx⟩
   ·rw [qt] at hw
    subst hw
    exact .inr (by simpa using hx)
  ·rintro (⟨w,hw,hx⟩|rfl)
   ·exact ⟨w,QW _ hw,hx⟩
   ·exact ⟨[x],by simp,by simp⟩
theorem mem_wavesM {T:Int->List Int}{room:Int}(keys:List Int){x:Int}:(∃w∈wavesM T room keys,x∈w)<->x∈keys:=by
 refine snoc_ind (P:=fun keys=>(∃w∈wavesM T room keys,x∈w)<->x∈keys) (by simp [wavesM]) (fun l y ih=>?_) keys
 rw [wavesM_snoc,mem_waveAdd,ih,qH,qt]
end Go.Gm
end

section
namespace Go.Gm
structure EtyOk (x:Ety):Prop where
 key:0<=x.key/\x.key<=65535
 mask:0<=x.mask/\x.mask<=65535
 fits:band x.key x.mask=x.key
 outs:1<=x.outs/\x.outs<=31
theorem band_le (a b:Int):0<=band a b/\band a b<=a.toNat/\band a b<=b.toNat:=by
 unfold band
 have h1:a.toNat&&&b.toNat<=a.toNat:=Nat.and_le_left
 have h2:a.toNat&&&b.toNat<=b.toNat:=Nat.and_le_right
 omega
theorem bless_le (a b:Int):0<=bless a b/\bless a b<=a.toNat:=by
 unfold bless
 omega
theorem bxor_lt {a b:Int}(ha:0<=a/\a<=65535)(hb:0<=b/\b<=65535):0<=bxor a b/\bxor a b<=65535:=by
 unfold bxor
 have:a.toNat ^^^ b.toNat<2 ^ 16:=Nat.xor_lt_two_pow (by omega) (by omega)
 omega
theorem or_add {a b:Nat}(h:a&&&b=0):a ||| b=a+b:=by
 have hw:a+b<2 ^ (a+b):=Nat.lt_two_pow_self
 have ha:a%2 ^ (a+b)=a:=Nat.mod_eq_of_lt (by omega)
 have hb:b%2 ^ (a+b)=b:=Nat.mod_eq_of_lt (by omega)
 have h1:=BitVec.add_eq_or_of_and_eq_zero (BitVec.ofNat (a+b) a) (BitVec.ofNat (a+b) b) (by
  apply BitVec.eq_of_toNat_eq
  rw [BitVec.toNat_and,BitVec.toNat_ofNat,BitVec.toNat_ofNat,ha,hb,h];simp)
 have h2:=congrArg BitVec.toNat h1
 rw [BitVec.toNat_add,BitVec.toNat_or,BitVec.toNat_ofNat,BitVec.toNat_ofNat,ha,hb,Nat.mod_eq_of_lt hw] at h2
 exact h2.symm
theorem less_bit (a b i:Nat):(a - (a&&&b)).testBit i=(a.testBit i&& !b.testBit i):=by
 have h:a - (a&&&b)=a ^^^ (a&&&b):=by
  have h1:(a ^^^ (a&&&b))&&&(a&&&b)=0:=by
   apply Nat.eq_of_testBit_eq
   intro j
   simp only [Nat.testBit_and,Nat.testBit_xor,Nat.zero_testBit]
   cases a.testBit j<;>cases b.testBit j<;>rfl
  have h2:(a ^^^ (a&&&b)) ||| (a&&&b)=a:=by
   apply Nat.eq_of_testBit_eq
   intro j
   simp only [Nat.testBit_and,Nat.testBit_xor,Nat.testBit_or]
   cases a.testBit j<;>cases b.testBit j<;>rfl
  have h3:=or_add h1
  omega
 rw [h,Nat.testBit_xor,Nat.testBit_and]
 cases a.testBit i<;>cases b.testBit i<;>rfl
theorem less_fits {k m d:Nat}(h:k&&&m=k):(k - (k&&&d))&&&(m - (m&&&d))=k - (k&&&d):=by
 apply Nat.eq_of_testBit_eq
 intro i
 have hi:=congrArg (fun x=>x.testBit i) h
 simp only [Nat.testBit_and] at hi
 rw [Nat.testBit_and,less_bit,less_bit]
 revert hi
 cases k.testBit i<;>cases m.testBit i<;>cases d.testBit i<;>simp
theorem join_ok {x y z:Ety}(hx:EtyOk x)(h:joinE x y=some z):EtyOk z:=by
 unfold joinE at h
 split at h
 ·cases h
 ·cases h
  have h1:=bless_le x.key (bxor x.key y.key)
  have h2:=bless_le x.mask (bxor x.key y.key)
  have hk:=hx.key
  have hm:=hx.mask
  refine ⟨by dsimp only;omega,by dsimp only;omega,?_,hx.outs⟩
  have hf:=hx.fits
  unfold band bless at*
  dsimp only at*
  have e:x.key.toNat&&&x.mask.toNat=x.key.toNat:=by omega
  have:=less_fits (d:=(bxor x.key y.key).toNat) e
  rw [jw,jw,this]
def hits (key:Int)(x:Ety):Bool:=decide (band key x.mask=x.key)
theorem findE_at {l:List Ety}{key:Int}{j:Nat}{x:Ety}(hj:l[j]? =some x)(h:hits key x=true)(hb:∀y∈l.take j,hits key y=false):findE l key=some x.outs:=by
 unfold findE
 have:l.find? (fun x=>decide (band key x.mask=x.key))=some x:=by
  have hlt:=(qx.1 hj).1
  rw [List.find?_eq_some_iff_append]
  refine ⟨h,l.take j,l.drop (j+1),?_,fun a ha=>?_⟩
  ·have e:l=l.take j++l.drop j:=(QJ j l).symm
   have e2:l.drop j=x::l.drop (j+1):=by
    rw [qG hlt,(qx.1 hj).2]
   rw [<-e2];exact e
  ·have:=hb a ha
   unfold hits at this
   simp [this]
 rw [this];rfl
theorem findE_none {l:List Ety}{key:Int}(hb:∀y∈l,hits key y=false):findE l key=none:=by
 unfold findE
 have:l.find? (fun x=>decide (band key x.mask=x.key))=none:=by
  rw [List.find?_eq_none]
  intro y hy
  have:=hb y hy
  unfold hits at this
  simp [this]
 rw [this];rfl
theorem findE_mem {l:List Ety}{key o:Int}(h:findE l key=some o):∃x∈l,x.outs=o:=by
 unfold findE at h
 cases hf:l.find? (fun x=>decide (band key x.mask=x.key)) with
 |none=>rw [hf] at h;cases h
 |some x=>
  rw [hf] at h
  simp only [qV,qK] at h
  exact ⟨x,List.mem_of_find?_eq_some hf,h⟩
theorem merged_ok {l:List Ety}(h:∀x∈l,EtyOk x){k j:Nat}{z:Ety}(hz:EtyOk z):∀x∈mergedAt l k j z,EtyOk x:=by
 intro x hx
 unfold mergedAt at hx
 rcases Qq hx with hx|rfl
 ·exact h x (List.mem_of_mem_eraseIdx hx)
 ·exact hz
theorem merged_len {l:List Ety}{k j:Nat}{z:Ety}(hj:j<l.length):(mergedAt l k j z).length=l.length - 1:=by
 unfold mergedAt
 rw [QF,List.length_eraseIdx_of_lt hj]
def tried (want l:List Ety)(keys:List Int)(k j:Nat):Option (List Ety):=tryE want l keys (k,j)
theorem pairs_split (n k j:Nat):∀p:Nat×Nat,p∈pairsM n<->p.1<p.2/\p.2<n:=by
 intro p
 unfold pairsM
 rw [QY]
 constructor
 ·rintro ⟨k,hk,hp⟩
  rw [qo] at hp
  obtain ⟨j,hj,rfl⟩:=hp
  rw [qP] at hj
  simp only [qL,jv] at hj hk
  exact ⟨hj.2,hj.1⟩
 ·rintro ⟨h1,h2⟩
  refine ⟨p.1,by simp;omega,?_⟩
  rw [qo]
  refine ⟨p.2,?_,rfl⟩
  rw [qP]
  simp [h1,h2]
def bfrP (k j:Nat)(p:Nat×Nat):Prop:=p.1<k\/(p.1=k/\p.2<j)
theorem pairs_asc (n:Nat):(pairsM n).Pairwise fun p q=>bfrP q.1 q.2 p:=by
 unfold pairsM
 rw [List.pairwise_flatMap]
 refine ⟨fun k _=>?_,?_⟩
 ·rw [List.pairwise_map]
  refine (List.Pairwise.filter _ List.pairwise_lt_range).imp fun h=>.inr ⟨rfl,h⟩
 ·refine List.pairwise_lt_range.imp fun h p hp q hq=>?_
  rw [qo] at hp hq
  obtain ⟨_,_,rfl⟩:=hp
  obtain ⟨_,_,rfl⟩:=hq
  exact .inl h
theorem pairs_take {n k j:Nat}(hj:k<j)(hjn:j<n):∃A B,pairsM n=A++(k,j)::B/\∀p,p∈A->(p∈pairsM n/\bfrP k j p):=by
 obtain ⟨A,B,e⟩:=List.append_of_mem ((pairs_split n 0 0 (k,j)).2 ⟨hj,hjn⟩)
 refine ⟨A,B,e,fun p hp=>⟨by rw [e];exact QW _ hp,?_⟩⟩
 have:=pairs_asc n
 rw [e,List.pairwise_append] at this
 exact this.2.2 p hp (k,j) qg
theorem mergeStep_at {want l:List Ety}{keys:List Int}{k j:Nat}{t:List Ety}(hk:k<j)(hj:j<l.length)(h:tried want l keys k j=some t)(hb:∀p,p.1<p.2->p.2<l.length->bfrP k j p->tried want l keys p.1 p.2=none):mergeStep want l keys=some t:=by
 obtain ⟨A,B,e,hA⟩:=pairs_take hk hj
 unfold mergeStep
 rw [e,List.findSome?_append]
 have:A.findSome? (tryE want l keys)=none:=by
  rw [List.findSome?_eq_none_iff]
  intro p hp
  obtain ⟨h1,h2⟩:=hA p hp
  obtain ⟨h3,h4⟩:=(pairs_split l.length k j p).1 h1
  exact hb p h3 h4 h2
 rw [this,Option.none_or,List.findSome?_cons]
 unfold tried at h
 rw [h]
theorem mergeStep_none {want l:List Ety}{keys:List Int}(hb:∀p:Nat×Nat,p.1<p.2->p.2<l.length->tried want l keys p.1 p.2=none):mergeStep want l keys=none:=by
 unfold mergeStep
 rw [List.findSome?_eq_none_iff]
 intro p hp
 obtain ⟨h3,h4⟩:=(pairs_split l.length 0 0 p).1 hp
 exact hb p h3 h4
theorem tryE_some {want l:List Ety}{keys:List Int}{p:Nat×Nat}{t:List Ety}(h:tryE want l keys p=some t):∃x y z,l[p.1]? =some x/\l[p.2]? =some y/\joinE x y=some z/\t=mergedAt l p.1 p.2 z/\sameE want t keys=true:=by
 unfold tryE at h
 split at h
 ·rename_i x y h1 h2
  split at h
  ·rename_i z h3
   split at h
   ·rename_i h4
    cases h
    exact ⟨x,y,z,h1,h2,h3,rfl,h4⟩
   ·cases h
  ·cases h
 ·cases h
theorem mergeStep_some {want l:List Ety}{keys:List Int}{t:List Ety}(h:mergeStep want l keys=some t):∃p:Nat×Nat,p.1<p.2/\p.2<l.length/\tryE want l keys p=some t:=by
 unfold mergeStep at h
 obtain ⟨p,hp,h1⟩:=List.exists_of_findSome?_eq_some h
 obtain ⟨h3,h4⟩:=(pairs_split l.length 0 0 p).1 hp
 exact ⟨p,h3,h4,h1⟩
theorem mergeStep_len {want l:List Ety}{keys:List Int}{t:List Ety}(h:mergeStep want l keys=some t):t.length+1=l.length:=by
 obtain ⟨p,h1,h2,h3⟩:=mergeStep_some h
 obtain ⟨x,y,z,_,_,_,rfl,_⟩:=tryE_some h3
 have:=merged_len (l:=l) (k:=p.1) (z:=z) h2
 omega
theorem mergeStep_ok {want l:List Ety}{keys:List Int}{t:List Ety}(hl:∀x∈l,EtyOk x)(h:mergeStep want l keys=some t):(∀x∈t,EtyOk x)/\sameE want t keys=true:=by
 obtain ⟨p,h1,h2,h3⟩:=mergeStep_some h
 obtain ⟨x,y,z,hx,_,hj,rfl,hs⟩:=tryE_some h3
 exact ⟨merged_ok hl (join_ok (hl x (qz hx)) hj),hs⟩
def mergeE (want:List Ety)(keys:List Int)(l:List Ety):List Ety:=mergeF want keys l.length l
theorem mergeE_step {want l:List Ety}{keys:List Int}{t:List Ety}(h:mergeStep want l keys=some t):mergeE want keys l=mergeE want keys t:=by
 have hlen:=mergeStep_len h
 unfold mergeE
 rw [<-hlen]
 simp only [mergeF,h]
theorem mergeE_stop {want l:List Ety}{keys:List Int}(h:mergeStep want l keys=none):mergeE want keys l=l:=by
 unfold mergeE
 cases hl:l.length with
 |zero=>rfl
 |succ m=>simp [mergeF,h]
theorem sameE_refl (l:List Ety)(keys:List Int):sameE l l keys=true:=by
 unfold sameE
 rw [List.all_eq_true]
 intro k _
 simp
theorem findE_pos {l:List Ety}(hl:∀x∈l,EtyOk x){m:List Ety}(hm:∀x∈m,EtyOk x)(key:Int):(findE l key).getD 0=(findE m key).getD 0<->findE l key=findE m key:=by
 constructor
 ·intro h
  cases h1:findE l key with
  |none=>
   cases h2:findE m key with
   |none=>rfl
   |some o=>
    obtain ⟨x,hx,rfl⟩:=findE_mem h2
    rw [h1,h2] at h
    have:=(hm x hx).outs
    simp only [Option.getD_none,qY] at h
    omega
  |some a=>
   obtain ⟨x,hx,rfl⟩:=findE_mem h1
   have h3:=(hl x hx).outs
   cases h2:findE m key with
   |none=>
    rw [h1,h2] at h
    simp only [Option.getD_none,qY] at h
    omega
   |some b=>
    rw [h1,h2] at h
    simp only [qY] at h
    rw [h]
 ·intro h;rw [h]
theorem etyAt_some {T:Int->List Int}{r:Nat}{key:Int}{x:Ety}(h:etyAt T r key=some x):x=⟨key,65535,(T key)[r]?.getD 0⟩/\(T key)[r]?.getD 0≠0:=by
 unfold etyAt at h
 dsimp only at h
 split at h
 ·cases h
 ·rename_i h1
  cases h
  exact ⟨rfl,h1⟩
theorem table_ok {T:Int->List Int}(hT:∀k,OutsOk (T k)){keys:List Int}(hk:∀k∈keys,0<=k/\k<=65535)(r:Nat):∀x∈tableM T keys r,EtyOk x:=by
 intro x hx
 unfold tableM at hx
 rw [List.mem_filterMap] at hx
 obtain ⟨k,hkm,h⟩:=hx
 obtain ⟨rfl,h1⟩:=etyAt_some h
 have hr:=hk k hkm
 refine ⟨hr,⟨by dsimp only;omega,by dsimp only;omega⟩,?_,?_⟩
 ·unfold band
  dsimp only
  have:(65535:Int).toNat=2 ^ 16 - 1:=rfl
  rw [this,Nat.and_two_pow_sub_one_eq_mod,Nat.mod_eq_of_lt (by omega)]
  omega
 ·dsimp only
  cases hg:(T k)[r]? with
  |none=>rw [hg] at h1;exact absurd rfl h1
  |some v=>
   rw [hg] at h1
   have:=hT k v (qz hg)
   simp only [qY] at h1 ⊢
   omega
theorem table_keys (T:Int->List Int)(keys:List Int)(r:Nat):(tableM T keys r).map (·.key)=keys.filter fun k=>decide ((T k)[r]?.getD 0≠0):=by
 unfold tableM
 induction keys with
 |nil=>rfl
 |cons k l ih=>
  rw [List.filterMap_cons,List.filter_cons]
  cases h:etyAt T r k with
  |none=>
   have:(T k)[r]?.getD 0=0:=by
    unfold etyAt at h
    dsimp only at h
    split at h
    ·assumption
    ·cases h
   rw [jz (by simp [this])]
   exact ih
  |some x=>
   obtain ⟨rfl,h1⟩:=etyAt_some h
   rw [jx (by simpa using h1),qI,ih]
theorem table_len (T:Int->List Int)(keys:List Int)(r:Nat):(tableM T keys r).length<=keys.length:=by
 have:=congrArg List.length (table_keys T keys r)
 rw [qv] at this
 rw [this]
 exact qD ..
end Go.Gm
end
