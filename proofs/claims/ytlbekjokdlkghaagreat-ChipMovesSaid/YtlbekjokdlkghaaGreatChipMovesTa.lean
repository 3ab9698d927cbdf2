import Derived.Test.YtlbekjokdlkghaaGreatChipMovesMz
import Derived.Test.YtlbekjokdlkghaaGreatChipMovesPg
import Derived.Test.YtlbekjokdlkghaaGreatChipMovesKt
import Derived.Test.YtlbekjokdlkghaaGreatChipMovesMc
import Derived.Test.YtlbekjokdlkghaaGreatChipMovesNa
import Derived.Shelf.SlSortCmp.NoneTotal
import Derived.KernelRfl
import Derived.WalkKit
import Derived.Sort.Grow
import Derived.RegionTactic
set_option linter.unusedVariables false
set_option linter.unusedSimpArgs false
set_option maxHeartbeats 4000000
section
namespace Go.Proofs
open Go Go.Vx Go.Gm
theorem kG9 {p:Prop}[Decidable p]{n:Nat}(h:(if p then some n else none)=none):¬p:=fun hp=>by rw [jw hp] at h;cases h
theorem CntOf.look {H:HP}{b:Nat}{m:List (Value×Value)}{c:Out->Nat}{u:Ent->HP}{r:HP}{T:TypeId}(K:KeyTy T fN9 outW)(hat:At H (.mapk b m) u r)(h:CntOf m c)(x:Out)(hx:outW x){z:Value}(hz:z=.int .i64 0){k:Value->Prop}
  (hk:k (.int .i64 (c x:Int))):VLkK Tryz.prog T H b (fN9 x) fun r=>fX9 false z r k:=by
 refine MapF.get K hat h x hx (fun h0=>?_) (fun y hy=>?_)
 ·show k z
  have:c x=0:=jg fun hc=>kG9 h0 ⟨hx,hc⟩
  rw [hz]
  rw [this] at hk
  exact hk
 ·show k (fL1 y)
  split at hy
  ·cases hy;exact hk
  ·cases hy
theorem gK2 {H:HP}{b:Nat}{m:List (Value×Value)}{c:Out->Nat}{u:Ent->HP}{r:HP}{T:TypeId}(K:KeyTy T fN9 outW)(hat:At H (.mapk b m) u r)(h:CntOf m c)(x:Out)(hx:outW x){z:Value}(hz:z=.int .i64 0){k:Value->HP->Prop}
  (hk:∀es clock st,Bare fN9 outW fL1 x 0 es clock st (fun o=>if outW o/\c o≠0 then some (c o) else none)->k (.tuple #[.int .i64 (c x:Int),.int .i64 (st:Int)]) (u (.obj b (.map es clock)))):VMpE Tryz.prog T z H b (fN9 x) k:=by
 rw [hz]
 refine MapF.entry K hat h x hx (0:Nat) fun es clock st hB=>?_
 have:=hk es clock st hB
 rw [CntOf.val hx]
 exact this
theorem gK1 {H:HP}{b:Nat}{c:Out->Nat}{u:Ent->HP}{r:HP}{T:TypeId}(K:KeyTy T fN9 outW){x:Out}{es:Array MapEntry}{clock st:Nat}(hat:At H (.obj b (.map es clock)) u r)(h:Bare fN9 outW fL1 x 0 es clock st (fun o=>if outW o/\c o≠0 then some (c o) else none))(hx:outW x){z:Value}{k:Value->Prop}
  (hk:k (.int .i64 (c x:Int))):VLkK Tryz.prog T H b (fN9 x) fun r=>fX9 false z r k:=by
 refine Bare.get K hat h hx ?_
 show k (fL1 _)
 rw [CntOf.val hx]
 exact hk
theorem fN3 {H:HP}{b:Nat}{c:Out->Nat}{u:Ent->HP}{r:HP}{T:TypeId}(K:KeyTy T fN9 outW){x:Out}{es:Array MapEntry}{clock st:Nat}(hat:At H (.obj b (.map es clock)) u r)(h:Bare fN9 outW fL1 x 0 es clock st (fun o=>if outW o/\c o≠0 then some (c o) else none))(hx:outW x){v:Value}(hv:v=.int .i64 (c x+1:Int)){k:HP->Prop}
  (hk:∀m',(CntOf m' fun q=>if q=x then c x+1 else c q)->k (u (.mapk b m'))):VEnS H b (st:Int) v k:=by
 rw [hv]
 exact Bare.store K hat h hx (c x+1) fun m' hm'=>hk m' (fN4 hx hm')
theorem dC4 {α:Type}{w0:World}{H:HP}{K:Value->HP->Prop}(o:List Int)(ho:bF7 o)(hol:o.length<=65536)(t1 t2 t3:Value)(go co:Nat)(l b1:Nat)(I:Nat->Nat->α->Prop)(G:α->HP)(x0:α)(h0:I 0 0 x0)
  (hH:HLe (.row b1 169 [t1,t2,t3,.slice (some ⟨go,0,none⟩) o.length co]::.vec (some ⟨go,0,none⟩) o.length co 3 1 (bQ1 bQ6 o)::G x0) H)
  (step:∀i k v x,o[i]? =some v->k<5->bH9 v ((2 ^ k:Nat):Int)->I i k x->
   VYield Tryz.cx.P w0 [] (.row b1 169 [t1,t2,t3,.slice (some ⟨go,0,none⟩) o.length co]::.vec (some ⟨go,0,none⟩) o.length co 3 1 (bQ1 bQ6 o)::G x) l [.agg #[.int .i64 (i:Int),.int .i64 ((2 ^ k:Nat):Int)]] fun r H'=>(r=.bool true/\∃y,I i (k+1) y/\HLe (.row b1 169 [t1,t2,t3,.slice (some ⟨go,0,none⟩) o.length co]::.vec (some ⟨go,0,none⟩) o.length co 3 1 (bQ1 bQ6 o)::G y) H')\/(r=.bool false/\K (.tuple #[]) H'))
  (skip:∀i k v x,o[i]? =some v->k<5->¬bH9 v ((2 ^ k:Nat):Int)->I i k x->I i (k+1) x)
  (next:∀i v x,o[i]? =some v->I i 5 x->I (i+1) 0 x)
  (fin:∀x,I o.length 0 x->K (.tuple #[]) (.row b1 169 [t1,t2,t3,.slice (some ⟨go,0,none⟩) o.length co]::.vec (some ⟨go,0,none⟩) o.length co 3 1 (bQ1 bQ6 o)::G x)):
  VCall Tryz.cx.P w0 [] H 178 [.func (.yield l) #[] #[],.pointer (some ⟨b1,0,none⟩)] K:=by
 refine VCall.le hH ?_
 refine VCall.inl (F:=kL4) Tryz.func178 rfl rfl rfl lK8 ?_
 repeat' (conv=>whnf);first|refine VSeq.go ?_|refine oN fun _=>?_|refine oL ?_|refine oA ?_
 all_goals (conv=>whnf)
 refine VLoop.mk (α:=Nat×α) (fun z=>z.1<=o.length/\I z.1 0 z.2) (fun z=>[(1000000,.tuple #[]),(0,.func (.yield l) #[] #[]),(7,.slice (some ⟨go,0,none⟩) o.length co),(8,.int .i64 (o.length:Int)),(9,.int .i64 (z.1:Int))])
  (fun z=>.row b1 169 [t1,t2,t3,.slice (some ⟨go,0,none⟩) o.length co]::.vec (some ⟨go,0,none⟩) o.length co 3 1 (bQ1 bQ6 o)::G z.2) (fun z=>o.length - z.1) (0,x0) ⟨qB _,h0⟩ aE aH ?_
 rintro ⟨i,x⟩ ⟨hi,hI⟩
 dsimp only at hi hI ⊢
 rcases qy i o.length with hlt|hge
 ·obtain ⟨v,hv⟩:∃v,o[i]? =some v:=⟨_,qq hlt⟩
  have hvr:=ho v (qz hv)
  repeat' (conv=>whnf);first|refine oI ?_|(refine VLd.is ?_;refine oC (.vec aT (bQ8 (f:=bQ6) (k:=1) oR hv rfl)) ?_)|refine VSeq.go ?_|refine oY fun _=>?_
  all_goals (conv=>whnf)
  refine VLoop.mk (α:=Nat×α) (fun z=>z.1<=5/\I i z.1 z.2) (fun z=>[(1000000,.tuple #[]),(0,.func (.yield l) #[] #[]),(3,.int .i64 (i:Int)),(4,.int .i64 v),(5,.int .i64 ((2 ^ z.1:Nat):Int)),(7,.slice (some ⟨go,0,none⟩) o.length co),(8,.int .i64 (o.length:Int)),(9,.int .i64 (i:Int))])
   (fun z=>.row b1 169 [t1,t2,t3,.slice (some ⟨go,0,none⟩) o.length co]::.vec (some ⟨go,0,none⟩) o.length co 3 1 (bQ1 bQ6 o)::G z.2) (fun z=>5 - z.1) (0,x) ⟨by dsimp only;omega,hI⟩ aE aH ?_
  rintro ⟨k,x⟩ ⟨hk,hI⟩
  dsimp only at hk hI ⊢
  rcases qy k 5 with hk5|hk5
  ·have hst:=step i k v x hv hk5
   have hsk:=skip i k v x hv hk5
   have hp1:2 ^ (k+1)=2*2 ^ k:=by rw [Nat.pow_succ];omega
   have hp2:2 ^ k<=16:=by
    have:(2:Nat) ^ k<=2 ^ 4:=Nat.pow_le_pow_right qZ qZ
    omega
   obtain ⟨pw,hpw⟩:=gX (2 ^ k)
   have hhas:bH9 v (pw:Int)<->((v.toNat&&&(pw:Int).toNat:Nat):Int)≠0:=by
    unfold bH9
    omega
   rw [hpw] at hst hsk hp1 hp2 ⊢
   have hsl:(pw:Int)*2=((2 ^ (k+1):Nat):Int):=by rw [hp1];omega
   repeat' (conv=>whnf);first|(refine VShL.is ?_;refine gP0 qZ ?_;rw [hsl])|(refine VBit.is ?_;refine VBit.and qZ qZ ?_)|(refine VYield.is ?_;refine VYield.hle (VYield.mono (VYield.weak ?_ (hst (hhas.2 qZ) hI)) fun r H' hr=>?_);(focus (exact aH));rcases hr with ⟨rfl,y,hy,hl⟩|⟨rfl,hK⟩<;>first|refine ⟨_,hl,?_⟩|refine ⟨_,HLe.refl _,?_⟩)|refine VSeq.go ?_|refine oY fun _=>?_|refine oS (fun _=>?_) fun _=>?_
   all_goals (conv=>whnf)
   ·exact VNext.mk (k+1,y) ⟨by dsimp only;omega,hy⟩ (by dsimp only;omega) aE aH
   ·exact hK
   ·exact VNext.mk (k+1,x) ⟨by dsimp only;omega,hsk (fun h=>absurd (hhas.1 h) qZ) hI⟩ (by dsimp only;omega) aE aH
  have hk5':k=5:=by omega
  subst hk5'
  repeat' (conv=>whnf);first|refine VSeq.go ?_|refine oN fun _=>?_|refine oL ?_|refine oA ?_
  all_goals (conv=>whnf)
  exact VNext.mk (i+1,x) ⟨by dsimp only;omega,next i v x hv hI⟩ (by dsimp only;omega) aE aH
 have hil:i=o.length:=by omega
 subst hil
 repeat' (conv=>whnf);first|refine VSeq.go ?_|refine oN fun _=>?_|refine oL ?_|refine oA ?_
 all_goals (conv=>whnf)
 exact fin x hI
theorem hL4 {w0:World}{H:HP}{K:Value->HP->Prop}(ts:List (List Int))(hts:ts.length<=65536)(o:List Int)(ho:bF7 o)(hol:o.length<=64)(t1 t2 t3:Value)(hone:bK6 [t1,t2,t3]=true)(go co bw bm:Nat)(most reach:Int)(m:List (Value×Value))(hm:CntOf m (bS5 ts))(room:Int)(hroom:0<=room/\room<=65536)(S:HP)
  (hH:HLe (.row bw 164 [.map (some bm),.int .i64 most,.int .i64 reach]::.mapk bm m::.vec (some ⟨go,0,none⟩) o.length co 3 1 (bQ1 bQ6 o)::S) H)
  (hK:K (.bool (bP0 room ts o)) (.row bw 164 [.map (some bm),.int .i64 most,.int .i64 reach]::.mapk bm m::.vec (some ⟨go,0,none⟩) o.length co 3 1 (bQ1 bQ6 o)::S)):
  VCall Tryz.cx.P w0 [] H 65 [.pointer (some ⟨bw,0,none⟩),.agg #[t1,t2,t3,.slice (some ⟨go,0,none⟩) o.length co],.int .i64 room] K:=by
 refine VCall.le hH ?_
 refine VCall.hle ?_
 refine VCall.inl (F:=mF5) Tryz.func65 rfl rfl rfl ok65 ?_
 have hkO:=kS4
 repeat' (conv=>whnf);first|(refine VNew.mk fun b3=>?_)|(refine bQ0 113 ?_;refine VCall.inl (F:=kW7) Tryz.func113 rfl rfl rfl kR2 ?_)|(refine VRange.go (ms:=[]) rfl fun hokx hoky l d L hL=>?_)|refine VSeq.go ?_|refine oL ?_
 all_goals (conv=>whnf)
 rename_i c4 c5 c6 c7
 refine dC4 o ho qZ t1 t2 t3 go co l b3 (α:=Unit) (fun i k _=>cD4 room ts o i k) (fun _=>L .ready none::.obj d (.deferred (some []))::.row c4 161 [.pointer (some ⟨bw,0,none⟩)]::.row c6 3 [.int .i64 room]::.row c7 4 [.bool false]::.row bw 164 [.map (some bm),.int .i64 most,.int .i64 reach]::.mapk bm m::S) () (fT3 room ts o) aH ?_ ?_ ?_ ?_
 ·rintro i k v _ hv hk hb hI
  have hnx:=fun h=>fT5 (room:=room) (ts:=ts) (t:=o) (i:=i) hk h hI
  have hno:=fun h=>hX2 (room:=room) (ts:=ts) hv hk hb h
  have hi:i<o.length:=(qx.1 hv).1
  have hp2:=lN6 hk
  have hcl:bS5 ts ((i:Int),((2 ^ k:Nat):Int))<=ts.length:=qT ..
  have hw:outW ((i:Int),((2 ^ k:Nat):Int)):=⟨⟨by dsimp only;omega,by unfold bC8;dsimp only;omega⟩,by dsimp only;omega⟩
  obtain ⟨pw,hpw⟩:=gX (2 ^ k)
  rw [hpw] at hnx hno hcl hw ⊢
  have hlk:=fun {H:HP} {u:Ent->HP} {r:HP} {z:Value} {kk:Value->Prop} (hat:At H (.mapk bm m) u r) hz hkk=>CntOf.look (T:=243) (z:=z) (k:=kk) kS4 hat hm _ hw hz hkk
  obtain ⟨cn,hcn⟩:=gX (bS5 ts ((i:Int),(pw:Int)))
  rw [hcn] at hlk hnx hno hcl
  refine VYield.go hL hokx hoky aT rfl ?_
  repeat' (conv=>whnf);first|(refine VBegin.is ?_;refine VBegin.mk aT ?_)|(refine VNew.mk fun b4=>?_)|(refine VLkK.is ?_;refine hlk aT rfl ?_)|refine VSeq.go ?_|refine oS (fun _=>?_) fun _=>?_|refine oL ?_|refine oT ?_|refine oH ?_
  all_goals (conv=>whnf)
  ·refine VRound.mk aT ?_
   refine .inr ⟨rfl,?_⟩
   rw [hno qZ] at hK
   repeat' (conv=>whnf);first|(refine VEnd.is ?_;refine VEnd.mk aT oU ?_)|(refine VUn.is ?_;refine VUn.mk aT ?_)|refine VSeq.go ?_|refine oL ?_|refine oT ?_
   all_goals (conv=>whnf)
   exact ⟨_,by exact aH,hK⟩
  ·refine VRound.mk aT ?_
   exact .inl ⟨rfl,(),hnx qZ,by exact aH⟩
 ·rintro i k v _ hv hk hb hI
  exact fT4 hv hk hb hI
 ·rintro i v _ hv hI
  exact gP9 hI
 ·rintro _ hI
  rw [gD0 hI] at hK
  repeat' (conv=>whnf);first|(refine VEnd.is ?_;refine VEnd.mk aT oU ?_)|(refine VUn.is ?_;refine VUn.mk aT ?_)|refine VSeq.go ?_|refine oL ?_|refine oT ?_
  all_goals (conv=>whnf)
  exact ⟨_,by exact aH,hK⟩
theorem lN2 {w0:World}{H:HP}{K:Value->HP->Prop}(s:Spc)(hs:s.wf)(ts:List (List Int))(hts:ts.length<=65536)(o:List Int)(ho:bF7 o)(hol:o.length<=64)(t1:Value)(hone:bK6 [t1]=true)(home:Int)(hhome:I64 home)(tg:List Int)(htg:∀t∈tg,I64 t/\(gX8 s home t)=((bG0 s.wide home t:Int),0)/\bG0 s.wide home t<=1000)(htl:tg.length<=65536)
  (gc cc go co bw bm:Nat) (reach:Nat) (hre:reach<=1000) (m:List (Value×Value)) (hm:CntOf m (bS5 ts)) (S:HP)
  (hH:HLe (.row bw 164 [.map (some bm),.int .i64 (bJ7 ts:Int),.int .i64 (reach:Int)]::.mapk bm m::.vec (some ⟨go,0,none⟩) o.length co 3 1 (bQ1 bQ6 o)::.vec (some ⟨gc,0,none⟩) tg.length cc 3 1 (bQ1 bQ6 tg)::S) H)
  (hK:∀m',CntOf m' (bS5 (ts++[o]))->K (.tuple #[]) (.row bw 164 [.map (some bm),.int .i64 (bJ7 (ts++[o]):Int),.int .i64 ((tg.map fun t=>bG0 s.wide home t).foldl max reach:Nat)]::.mapk bm m'::.vec (some ⟨go,0,none⟩) o.length co 3 1 (bQ1 bQ6 o)::.vec (some ⟨gc,0,none⟩) tg.length cc 3 1 (bQ1 bQ6 tg)::S)):
  VCall Tryz.cx.P w0 [] H 62 [.pointer (some ⟨bw,0,none⟩),.agg (cK4 s).toArray,.agg #[t1,.int .i64 home,.slice (some ⟨gc,0,none⟩) tg.length cc,.slice (some ⟨go,0,none⟩) o.length co]] K:=by
 refine VCall.le hH ?_
 refine VCall.hle ?_
 have hdist:=fun t=>dZ2 s hs home t hhome
 unfold cK4 at hdist ⊢
 refine VCall.inl (F:=mF8) Tryz.func62 rfl rfl rfl ok62 ?_
 repeat' (conv=>whnf);first|(refine VNew.mk fun b3=>?_)|(refine bQ0 113 ?_;refine VCall.inl (F:=kW7) Tryz.func113 rfl rfl rfl kR2 ?_)|(refine VRange.go (ms:=[]) rfl fun hokx hoky l d L hL=>?_)|refine VSeq.go ?_|refine oL ?_
 all_goals (conv=>whnf)
 rename_i c3 c4 c5
 have hml:bJ7 ts<=ts.length:=by
  rcases (bP4 ts).ex with h|⟨q,_,h⟩
  ·omega
  ·rw [<-h];exact qT
 refine dC4 o ho qZ t1 (.int .i64 home) (.slice (some ⟨gc,0,none⟩) tg.length cc) go co l b3 (α:=List (Value×Value)×Nat) (fun i k z=>CntOf z.1 (dD0 ts o i k)/\IsMax (dD0 ts o i k) z.2/\z.2<=ts.length+1) (fun z=>L .ready none::.obj d (.deferred (some []))::.row c5 169 [t1,.int .i64 home,.slice (some ⟨gc,0,none⟩) tg.length cc,.slice (some ⟨go,0,none⟩) o.length co]::.row c4 27 [.int .i64 s.wide,.int .i64 s.high,.int .i64 s.room]::.row c3 161 [.pointer (some ⟨bw,0,none⟩)]::.row bw 164 [.map (some bm),.int .i64 (z.2:Int),.int .i64 (reach:Int)]::.mapk bm z.1::.vec (some ⟨gc,0,none⟩) tg.length cc 3 1 (bQ1 bQ6 tg)::S) (m,bJ7 ts) ⟨hm.same fun q hq=>fD4 ts o hq.1,(IsMax.of ts).same fun q hq=>fD4 ts o hq,by omega⟩ aH ?_ ?_ ?_ ?_
 ·rintro i k v ⟨m,mo⟩ hv hk hb ⟨hm,hmo,hmo2⟩
  dsimp only at hm hmo hmo2
  have hi:i<o.length:=(qx.1 hv).1
  have hnx:=fun (q:Out) (hq:bG5 q)=>hM6 ts hv hk hb hq
  have hp2:=lN6 hk
  have hio:bG5 ((i:Int),((2 ^ k:Nat):Int)):=⟨by dsimp only;omega,by unfold bC8;dsimp only;omega⟩
  have hw:outW ((i:Int),((2 ^ k:Nat):Int)):=⟨hio,by dsimp only;omega⟩
  have hmx:=hmo.bump hio
  have hcl:dD0 ts o i k ((i:Int),((2 ^ k:Nat):Int))<=ts.length:=by rw [hM7];exact qT
  obtain ⟨c1,hc1⟩:=gX (dD0 ts o i (k+1))
  obtain ⟨c,hc⟩:=gX (dD0 ts o i k)
  rw [hc,hc1] at hnx
  rw [hc] at hm hmo hmx hcl
  rw [hc1]
  obtain ⟨pw,hpw⟩:=gX (2 ^ k)
  rw [hpw] at hnx hw hmx hcl ⊢
  obtain ⟨cn,hcn⟩:=gX (c ((i:Int),(pw:Int)))
  have hlk:=fun {H:HP} {u:Ent->HP} {r:HP} {z:Value} {kk:Value->Prop} (hat:At H (.mapk bm m) u r) hz hkk=>CntOf.look (T:=243) (z:=z) (k:=kk) kS4 hat hm _ hw hz hkk
  have hbg:=fun {H:HP} {u:Ent->HP} {r:HP} {z:Value} {kk:Value->HP->Prop} (hat:At H (.mapk bm m) u r) hz hkk=>gK2 (T:=243) (z:=z) (k:=kk) kS4 hat hm _ hw hz hkk
  rw [hcn] at hlk hbg hnx hmx hcl
  have hlk2:=fun {H:HP} {es:Array MapEntry} {clock st:Nat} {u:Ent->HP} {r:HP} {z:Value} {kk:Value->Prop} (hB) (hat:At H (.obj bm (.map es clock)) u r) hkk=>gK1 (T:=243) (z:=z) (k:=kk) (st:=st) (c:=c) kS4 hat hB hw hkk
  have hfi:=fun {H:HP} {es:Array MapEntry} {clock st:Nat} {u:Ent->HP} {r:HP} {v:Value} {kk:HP->Prop} (hB) (hat:At H (.obj bm (.map es clock)) u r) hv hkk=>fN3 (T:=243) (v:=v) (k:=kk) (st:=st) (c:=c) kS4 hat hB hw hv hkk
  rw [hcn] at hlk2 hfi
  refine VYield.go hL hokx hoky aT rfl ?_
  repeat' (conv=>whnf);first|(refine VBegin.is ?_;refine VBegin.mk aT ?_)|(refine VNew.mk fun b4=>?_)|(refine VSeq.is ?_;refine bF1 4 rfl ?_;refine VSeq.cut (at_:=4) (α:=List (Value×Value)) (fun m2=>CntOf m2 fun q=>if q=((i:Int),(pw:Int)) then cn+1 else c q) (fun _=>[(1000000,.tuple #[]),(3,.pointer (some ⟨c3,0,none⟩)),(6,.pointer (some ⟨b4,0,none⟩))]) (fun m2=>.row b4 243 [.int .i64 (i:Int),.int .i64 (pw:Int)]::.row b3 169 [t1,.int .i64 home,.slice (some ⟨gc,0,none⟩) tg.length cc,.slice (some ⟨go,0,none⟩) o.length co]::.vec (some ⟨go,0,none⟩) o.length co 3 1 (bQ1 bQ6 o)::L .busy none::.obj d (.deferred (some []))::.row c5 169 [t1,.int .i64 home,.slice (some ⟨gc,0,none⟩) tg.length cc,.slice (some ⟨go,0,none⟩) o.length co]::.row c4 27 [.int .i64 s.wide,.int .i64 s.high,.int .i64 s.room]::.row c3 161 [.pointer (some ⟨bw,0,none⟩)]::.row bw 164 [.map (some bm),.int .i64 (mo:Int),.int .i64 (reach:Int)]::.mapk bm m2::.vec (some ⟨gc,0,none⟩) tg.length cc 3 1 (bQ1 bQ6 tg)::S) ?_ ?_)|(refine VHs.is ?_;refine VHs.mk [.row b4 243 [.int .i64 (i:Int),.int .i64 (pw:Int)],.row c3 161 [.pointer (some ⟨bw,0,none⟩)],.row bw 164 [.map (some bm),.int .i64 (mo:Int),.int .i64 (reach:Int)]] aH ?_)|(refine VLkK.is ?_;first|refine hlk aT rfl ?_|refine hlk2 hB aT ?_)|(refine VMpE.is ?_;refine hbg aT rfl fun es clock st hB=>?_)|(refine VEnS.is ?_;refine hfi hB aT rfl fun m2 hm2=>?_)|refine oL ?_|refine oT ?_|refine oA ?_|refine oK ?_|refine And.intro ?_ ?_
  all_goals (conv=>whnf)
  any_goals exact VMid.mk m2 hm2 aE aH
  rintro m2 hm2
  have hm1:CntOf m2 c1:=hm2.same fun q hq=>hnx q hq.1
  have hv1:=hnx _ hio
  rw [hpw,jw rfl] at hv1
  have hlk3:=fun {H:HP} {u:Ent->HP} {r:HP} {z:Value} {kk:Value->Prop} (hat:At H (.mapk bm m2) u r) hz hkk=>CntOf.look (T:=243) (z:=z) (k:=kk) kS4 hat hm1 _ hw hz hkk
  rw [hv1] at hlk3
  have hmax:max (mo:Int) ((cn+1:Nat):Int)=((max mo (cn+1):Nat):Int):=by omega
  repeat' (conv=>whnf);first|(refine VLkK.is ?_;refine hlk3 aT rfl ?_;(try rw [hmax]))|refine oL ?_|refine oT ?_|refine oH ?_
  all_goals (conv=>whnf)
  refine VRound.mk aT ?_
  rw [hmax]
  exact .inl ⟨rfl,(m2,max mo (cn+1)),⟨hm1,hmx.same fun q hq=>hnx q hq,by dsimp only;omega⟩,by exact aH⟩
 ·rintro i k v ⟨m,mo⟩ hv hk hb ⟨hm,hmo,hmo2⟩
  exact ⟨hm.same fun q hq=>fD5 ts hv hk hb hq.1,hmo.same fun q hq=>fD5 ts hv hk hb hq,hmo2⟩
 ·rintro i v ⟨m,mo⟩ hv ⟨hm,hmo,hmo2⟩
  exact ⟨hm.same fun q hq=>gH8 ts o i hq.1,hmo.same fun q hq=>gH8 ts o i hq,hmo2⟩
 ·rintro ⟨m,mo⟩ ⟨hm,hmo,hmo2⟩
  dsimp only at hm hmo hmo2 ⊢
  have hm:=hm.same (d:=bS5 (ts++[o])) fun q hq=>(gH9 ts o hq.1).symm
  have hmo:=(hmo.same (d:=bS5 (ts++[o])) fun q hq=>(gH9 ts o hq).symm).most
  have hK:=hK m hm
  rw [hmo] at hK
  repeat' (conv=>whnf);first|(refine VEnd.is ?_;refine VEnd.mk aT oU ?_)|(refine VUn.is ?_;refine VUn.mk aT ?_)|refine VSeq.go ?_|refine oL ?_|refine oT ?_
  all_goals (conv=>whnf)
  obtain ⟨rk,hrk⟩:∃rk:Nat->Nat,rk=fun k=>((tg.take k).map fun t=>bG0 s.wide home t).foldl max reach:=⟨_,rfl⟩
  have hr0:rk 0=reach:=by rw [hrk];rfl
  have hrn:rk tg.length=(tg.map fun t=>bG0 s.wide home t).foldl max reach:=by rw [hrk];dsimp only;rw [List.take_length]
  have hrs:∀k t,tg[k]? =some t->rk (k+1)=max (rk k) (bG0 s.wide home t):=fun k t h=>by
   rw [hrk];dsimp only
   rw [qi,h,qW,ql,Qx];rfl
  rw [<-hrn] at hK
  have hd:=htg
  clear htg hrk hml hm hmo hts
  refine VLoop.mk (α:=Nat) (fun k=>k<=tg.length/\rk k<=1000) (fun k=>[(1000000,.tuple #[dZ3 d]),(3,.pointer (some ⟨c3,0,none⟩)),(4,.pointer (some ⟨c4,0,none⟩)),(5,.pointer (some ⟨c5,0,none⟩)),(38,.slice (some ⟨gc,0,none⟩) tg.length cc),(39,.int .i64 (tg.length:Int)),(40,.int .i64 (k:Int))])
   (fun k=>.vec (some ⟨go,0,none⟩) o.length co 3 1 (bQ1 bQ6 o)::.obj d (.deferred (some []))::.row c5 169 [t1,.int .i64 home,.slice (some ⟨gc,0,none⟩) tg.length cc,.slice (some ⟨go,0,none⟩) o.length co]::.row c4 27 [.int .i64 s.wide,.int .i64 s.high,.int .i64 s.room]::.row c3 161 [.pointer (some ⟨bw,0,none⟩)]::.row bw 164 [.map (some bm),.int .i64 (mo:Int),.int .i64 (rk k:Int)]::.mapk bm m::.vec (some ⟨gc,0,none⟩) tg.length cc 3 1 (bQ1 bQ6 tg)::S) (fun k=>tg.length - k) 0 ⟨qB _,by rw [hr0];exact hre⟩ aE (by rw [hr0];exact aH) ?_
  rintro k ⟨hk,hrb⟩
  rcases qy k tg.length with hlt|hge
  ·obtain ⟨t,ht⟩:∃t,tg[k]? =some t:=⟨_,qq hlt⟩
   obtain ⟨h1,h2,h3⟩:=hd t (qz ht)
   have hdt:=fun w=>hdist t h1 w
   rw [h2] at hdt
   have hst:=hrs k t ht
   obtain ⟨dn,hdn⟩:=gX (bG0 s.wide home t)
   rw [hdn] at hdt hst h3
   dsimp only at hdt
   have hmax:max (rk k:Int) (dn:Int)=(rk (k+1):Int):=by rw [hst];omega
   clear hd hrs h2
   repeat' (conv=>whnf);first|refine oI ?_|(refine VLd.is ?_;refine oC (.vec aT (bQ8 (f:=bQ6) (k:=1) oR ht rfl)) ?_)|(refine bQ0 114 ?_;(refine bQ4 (fun w' _=>hdt w') ?_))|refine VSeq.go ?_|refine oY fun _=>?_|refine oL ?_|refine oT ?_|refine oA ?_|refine oH ?_
   all_goals (conv=>whnf)
   rw [hmax]
   exact VNext.mk (k+1) ⟨by omega,by omega⟩ qZ aE aH
  have hkl:k=tg.length:=by omega
  subst hkl
  repeat' (conv=>whnf);first|(refine VUn.is ?_;refine VUn.mk aT ?_)|refine VSeq.go ?_|refine oN fun _=>?_
  all_goals (conv=>whnf)
  exact ⟨_,by exact aH,hK⟩
end Go.Proofs
end

section
namespace Go.Proofs
open Go Go.Vx Go.Gm
end Go.Proofs
end

section
namespace Go.Gm
end Go.Gm
namespace Go.Proofs
open Go Go.Vx Go.Gm
end Go.Proofs
end

section
namespace Go.Proofs
open Go Go.Vx Go.Gm
end Go.Proofs
end

section
set_option linter.unusedVariables false
namespace Go.Proofs
open Go.Shelf
def Tryz.sortE7_ren:Go.Shelf.Ren:=⟨fun|6=>116|15=>180|14=>179|28=>231|29=>232|20=>223|21=>224|22=>225|23=>226|24=>227|25=>228|26=>229|27=>230|46=>261|47=>262|48=>263|49=>264|50=>265|57=>274|n=>n,fun|22=>178|24=>180|25=>248|3=>3|39=>234|0=>0|53=>334|55=>337|4=>4|46=>408|45=>407|50=>251|5=>5|9=>9|66=>432|70=>420|76=>443|77=>444|n=>n,fun|n=>n⟩
theorem Tryz.sortE7:Go.Proofs.SlLaysF0.n6 Tryz.prog Tryz.sortE7_ren:={
 mixed:=by kernel_rfl
 f6:=⟨Tryz.f116.name,by decide,Tryz.func116.trans (congrArg some (by kernel_rfl))⟩
 f14:=⟨Tryz.f179.name,by decide,Tryz.func179.trans (congrArg some (by kernel_rfl))⟩
 f15:=Tryz.func180.trans (congrArg some (by kernel_rfl))
 f20:=⟨Tryz.f223.name,by decide,Tryz.func223.trans (congrArg some (by kernel_rfl))⟩
 f21:=⟨Tryz.f224.name,by decide,Tryz.func224.trans (congrArg some (by kernel_rfl))⟩
 f22:=⟨Tryz.f225.name,by decide,Tryz.func225.trans (congrArg some (by kernel_rfl))⟩
 f23:=⟨Tryz.f226.name,by decide,Tryz.func226.trans (congrArg some (by kernel_rfl))⟩
 f24:=⟨Tryz.f227.name,by decide,Tryz.func227.trans (congrArg some (by kernel_rfl))⟩
 f25:=⟨Tryz.f228.name,by decide,Tryz.func228.trans (congrArg some (by kernel_rfl))⟩
 f26:=⟨Tryz.f229.name,by decide,Tryz.func229.trans (congrArg some (by kernel_rfl))⟩
 f27:=⟨Tryz.f230.name,by decide,Tryz.func230.trans (congrArg some (by kernel_rfl))⟩
 f28:=Tryz.func231.trans (congrArg some (by kernel_rfl))
 f29:=Tryz.func232.trans (congrArg some (by kernel_rfl))
 f46:=⟨Tryz.f261.name,by decide,Tryz.func261.trans (congrArg some (by kernel_rfl))⟩
 f47:=Tryz.func262.trans (congrArg some (by kernel_rfl))
 f48:=Tryz.func263.trans (congrArg some (by kernel_rfl))
 f49:=⟨Tryz.f264.name,by decide,Tryz.func264.trans (congrArg some (by kernel_rfl))⟩
 f50:=⟨Tryz.f265.name,by decide,Tryz.func265.trans (congrArg some (by kernel_rfl))⟩
 f57:=⟨Tryz.f274.name,by decide,Tryz.func274.trans (congrArg some (by kernel_rfl))⟩
 t0:=Tryz.underlying0
 a0:=Tryz.isAgg0
 z0:=Tryz.sizeOf0
 v0:=Tryz.zeroValue0
 t3:=Tryz.underlying3
 a3:=Tryz.isAgg3
 z3:=Tryz.sizeOf3
 v3:=Tryz.zeroValue3
 t4:=Tryz.underlying4
 a4:=Tryz.isAgg4
 z4:=Tryz.sizeOf4
 v4:=Tryz.zeroValue4
 t5:=Tryz.underlying5
 a5:=Tryz.isAgg5
 z5:=Tryz.sizeOf5
 v5:=Tryz.zeroValue5
 t9:=Tryz.underlying9
 a9:=Tryz.isAgg9
 z9:=Tryz.sizeOf9
 v9:=Tryz.zeroValue9
 t22:=Tryz.underlying178
 a22:=Tryz.isAgg178
 z22:=Tryz.sizeOf178
 v22:=Tryz.zeroValue178
 t25:=Tryz.underlying248
 a25:=Tryz.isAgg248
 z25:=Tryz.sizeOf248
 v25:=Tryz.zeroValue248
 t39:=Tryz.underlying234
 a39:=Tryz.isAgg234
 z39:=Tryz.sizeOf234
 v39:=Tryz.zeroValue234
 t45:=Tryz.underlying407
 a45:=Tryz.isAgg407
 z45:=Tryz.sizeOf407
 v45:=Tryz.zeroValue407
 t46:=Tryz.underlying408
 a46:=Tryz.isAgg408
 z46:=Tryz.sizeOf408
 v46:=Tryz.zeroValue408
 t50:=Tryz.underlying251
 a50:=Tryz.isAgg251
 z50:=Tryz.sizeOf251
 v50:=Tryz.zeroValue251
 t53:=Tryz.underlying334
 a53:=Tryz.isAgg334
 z53:=Tryz.sizeOf334
 v53:=Tryz.zeroValue334
 t55:=Tryz.underlying337
 a55:=Tryz.isAgg337
 z55:=Tryz.sizeOf337
 v55:=Tryz.zeroValue337
 t66:=Tryz.underlying432
 a66:=Tryz.isAgg432
 z66:=Tryz.sizeOf432
 v66:=Tryz.zeroValue432
 t70:=Tryz.underlying420
 a70:=Tryz.isAgg420
 z70:=Tryz.sizeOf420
 v70:=Tryz.zeroValue420
 t76:=Tryz.underlying443
 a76:=Tryz.isAgg443
 z76:=Tryz.sizeOf443
 v76:=Tryz.zeroValue443
 t77:=Tryz.underlying444
 a77:=Tryz.isAgg444
 z77:=Tryz.sizeOf444
 v77:=Tryz.zeroValue444}
end Go.Proofs
end

section
namespace Go.Proofs
open Go Go.RowKit Go.Lib Go.Vx Go.Gm
open Go.Sort (grow alloc_eq_grow grow_grow flatK HoldsK putRowK)
def gR6 (x y:Int):Int:=if x<y then -1 else if y<x then 1 else 0
theorem kV4 (x:Int)(w:World):Calls Tryz.prog 181 #[.int .i64 x] w fun e w'=>e=.returned (.bool false)/\w'=w:=by
 go_enter Tryz.func181,Tryz.ntmps181
 go_wp2
 go_ret
 exact ⟨by simp,rfl⟩
theorem gR3 (x y:Int)(w:World):Calls Tryz.prog 118 #[.int .i64 x,.int .i64 y] w fun e w'=>e=.returned (.int .i64 (gR6 x y))/\w'=w:=by
 go_enter Tryz.func118,Tryz.ntmps118
 go_wp2_with (go_at_call 181;refine (kV4 _ _).mono ?_;rintro e w' ⟨rfl,hw⟩;rw [hw])
 all_goals (go_ret;refine ⟨?_,rfl⟩;unfold gR6;(repeat' split)<;>first|rfl|(exfalso;omega))
def dM5 (g:Int->Int)(x:Int):List Value:=[.int .i64 x,.int .i64 65535,.int .i64 (g x)]
set_option maxRecDepth 100000 in
theorem kF2 (g:Int->Int)(x y:Int)(W:World):Calls Tryz.prog 117 #[.agg (dM5 g x).toArray,.agg (dM5 g y).toArray] W fun e w'=>e=.returned (.int .i64 (gR6 x y))/\∃q os',w'=Go.Sort.grow (W.drewN q) os':=by
 have h1:=fun W'=>gR3 x y W'
 unfold dM5
 generalize gR6 x y=a at h1 ⊢
 go_enter Tryz.func117,Tryz.ntmps117
 go_wp2_with (go_at_call 118;refine (h1 _).mono ?_;rintro e w' ⟨rfl,hw⟩;rw [hw])
 all_goals
  go_ret
  refine ⟨rfl,0,#[Obj.cells #[.int .i64 x,.int .i64 65535,.int .i64 (g x)] 180,Obj.cells #[.int .i64 y,.int .i64 65535,.int .i64 (g y)] 180],?_⟩
  rw [alloc_eq_grow,alloc_eq_grow,grow_grow]
  rfl
def cT7 (xs:List Int):List Int:=xs.mergeSort fun x y=> !(ltOf gR6) y x
theorem lX0 (a b:Int):gR6 a b<0<->a<b:=by
 unfold gR6
 by_cases h1:a<b
 ·simp [h1]
 ·by_cases h2:b<a<;>simp [h1,h2]
theorem ltJ (x y:Int):ltOf gR6 x y=decide (x<y):=by
 unfold ltOf
 exact decide_eq_decide.2 (lX0 x y)
theorem swoJ:Go.Sort.SWO (ltOf gR6) where
 irrefl x:=by rw [ltJ];simp
 trans x y z h1 h2:=by rw [ltJ] at*;simp at*;omega
 ntrans x y z h1 h2:=by
  rw [ltJ] at*
  have h1':=of_decide_eq_false h1
  have h2':=of_decide_eq_false h2
  exact decide_eq_false qZ
theorem totJ (x y:Int)(h1:ltOf gR6 x y=false)(h2:ltOf gR6 y x=false):x=y:=by
 rw [ltJ] at*
 have h1':=of_decide_eq_false h1
 have h2':=of_decide_eq_false h2
 omega
theorem gD5 (xs:List Int):(cT7 xs).Perm xs:=List.mergeSort_perm ..
theorem hZ9 (xs:List Int):(cT7 xs).Pairwise fun a b=>a<=b:=by
 unfold cT7
 have:=List.pairwise_mergeSort (le:=fun x y:Int=> !(ltOf gR6) y x) (by
  intro a b c h1 h2
  rw [ltJ] at*
  simp at*
  omega) (by
  intro a b
  rw [ltJ,ltJ]
  simp
  omega) xs
 refine this.imp fun h=>?_
 rw [ltJ] at h
 simpa using h
theorem hL9 {xs ys:List Int}(hp:xs.Perm ys)(hy:ys.Pairwise fun a b=>a<b):cT7 xs=ys:=by
 have h1:=(gD5 xs).trans hp
 refine List.Perm.eq_of_pairwise (le:=fun a b:Int=>a<=b) (fun a b _ _ h1 h2=>by omega) (hZ9 xs) (hy.imp fun h=>by omega) h1
theorem gF6 {α:Type}[Inhabited α]{f:α->List Value}{k:Nat}(hk:∀x,(f x).length=k)(hk0:0<k):∀(l:List α) (t:Nat),t<l.length*k->(bQ1 f l)[t]? =some ((f l[t / k]!)[t%k]!)
 |[],t,h=>by simp at h
 |x::r,t,h=>by
  have e:bQ1 f (x::r)=f x++bQ1 f r:=rfl
  rw [e]
  by_cases ht:t<k
  ·rw [QY (by rw [hk];exact ht),Nat.div_eq_of_lt ht,jv ht]
   show _=some ((f x)[t]!)
   rw [getElem!_pos _ _ (by rw [hk];exact ht)]
   exact qq _
  ·obtain ⟨s,rfl⟩:∃s,t=s+k:=⟨t - k,by omega⟩
   rw [Qr (by rw [hk];omega),hk,Nat.add_sub_cancel,Nat.add_div_right _ hk0,Nat.add_mod_right]
   rw [gF6 hk hk0 r s (by rw [qR,QD] at h;omega)]
   simp
theorem dH8 {α:Type}[Inhabited α]{f:α->List Value}{k:Nat}(hk:∀x,(f x).length=k)(hk0:0<k)(l:List α):(flatK f k l.toArray).toList=bQ1 f l:=by
 apply qp
 intro t
 by_cases ht:t<l.length*k
 ·rw [gF6 hk hk0 l t ht]
  simp [flatK,ht]
 ·rw [qf (by simp;omega),qf (by rw [bX9 hk];omega)]
theorem gD4 (v:Int->Int)(g off cap:Nat)(xs:List Int)(w:World)(hH:HoldsK (dM5 v) 3 w g off xs.toArray)(hg:g<w.heap.size)(hsz:xs.length<4611686018427387904):
  Calls Tryz.prog 116 #[.slice (some ⟨g,off,none⟩) xs.length cap,.func (.func 117) #[] #[]] w fun e w'=>e=.returned (.tuple #[])/\∃n os,w'=sortWorldK (dM5 v) 3 w g off n (cT7 xs).toArray os:=by
 have eg:∀args w,(callFunc 117 args).run Tryz.prog w=.ok (.enter 117 args) w:=enters_of Tryz.func117 (by kernel_rfl) rfl
 have hS:=AnyQ.slices_SortFunc_total Tryz.sortE7 3 Tryz.isAgg180 Tryz.sizeOf180 (dM5 v) oR (fun x u hv=>by simp [dM5] at hv;rcases hv with rfl|rfl|rfl<;>rfl) gR6 swoJ 117 #[] g off cap xs.toArray w eg (fun _ _ _ _ x y=>kF2 v x y _) hH hg (by simpa using hsz) totJ
 exact hS
theorem gD6 (p:Option Addr)(cap:Nat)(w:World):
  Calls Tryz.prog 116 #[.slice p 0 cap,.func (.func 117) #[] #[]] w fun e w'=>e=.returned (.tuple #[])/\w'=w:=
 AnyF.slices_SortFunc_none (P:=Tryz.prog) (ρ:=Tryz.sortE7_ren) Tryz.sortE7 p cap (.func (.func 117) #[] #[]) w
theorem gD7 (v:Int->Int){w0:World}{M:List Nat}{H r:HP}{u:Ent->HP}{K:Value->HP->Prop}(p:Option Addr)(n cap:Nat)(xs:List Int)(hn:xs.length=n)(hat:At H (.vec p n cap 180 3 (bQ1 (dM5 v) xs)) u r)(hsz:n<4611686018427387904)
  (hk:K (.tuple #[]) (u (.vec p n cap 180 3 (bQ1 (dM5 v) (cT7 xs))))):VCall Tryz.cx.P w0 M H 116 [.slice p n cap,.func (.func 117) #[] #[]] K:=by
 refine .mk fun w hw=>?_
 have hsat:=hw.own _ hat.mem
 have hsl:(cT7 xs).length=n:=by unfold cT7;rw [List.length_mergeSort,hn]
 cases p with
 |none=>
  obtain ⟨h1,h2⟩:=hsat
  rcases h2 with ⟨h3,h4⟩|⟨g,c,cur,hv,_⟩
  ·simp only [Value.slice.injEq] at h3
   have hn0:n=0:=h3.2.1
   subst hn0
   have hx:xs=[]:=qF hn
   subst hx
   refine (gD6 none cap w).mono fun e w' ⟨he,hw'⟩=>?_
   subst hw'
   refine ⟨.tuple #[],_,he,?_,hk⟩
   have:cT7 []=[]:=by simp [cT7]
   rw [this]
   exact hw.turn hat (fun h=>h)
  ·cases hv
 |some a=>
  obtain ⟨g,cur,hg,hh,hnc,hcm,hcs,ht,hlen⟩:=bW7 hsat
  subst hg
  have hH:HoldsK (dM5 v) 3 w g 0 xs.toArray:=by
   intro j hj
   have hj':j<n*3:=by simpa [hn] using hj
   have h1:(cur.toList.take (n*3))[j]? =((flatK (dM5 v) 3 xs.toArray).toList)[j]?:=by rw [ht,dH8 (f:=dM5 v) (k:=3) oR qZ]
   rw [Qt,jw hj'] at h1
   refine ⟨?_,?_⟩
   ·simp only [Qo,World.cell?,hh]
    rw [getElem!_pos _ j hj]
    simpa [hj,hj',hn] using h1
   ·simp [World.frozen?,hh]
  have hglt:g<w.heap.size:=(Qh.1 hh).1
  have hc:=gD4 v g 0 cap xs w hH hglt qZ
  rw [hn] at hc
  refine hc.mono fun e w' ⟨he,q,os,hw'⟩=>⟨.tuple #[],_,he,?_,hk⟩
  subst hw'
  obtain ⟨F,hF⟩:=gX (flatK (dM5 v) 3 (cT7 xs).toArray)
  have hFl:F.toList=bQ1 (dM5 v) (cT7 xs):=by rw [<-hF,dH8 (f:=dM5 v) (k:=3) oR qZ]
  have hFs:F.size=n*3:=by rw [<-Array.length_toList,hFl,bX9 (k:=3) oR,hsl]
  refine hw.turn hat fun hx=>?_
  have hheap:∀b,b<w.heap.size->(Go.Sort.grow (Go.Sort.putRow id (Go.Sort.ahead w q) g 0 F) os).heap[b]? =
    if g=b then (w.heap[b]?).map (Go.Sort.onCells (Go.Sort.putCells id 0 F)) else w.heap[b]?:=by
   intro b hb
   simp only [Go.Sort.grow,Go.Sort.putRow,Go.Sort.mapBlock,Go.Sort.ahead]
   rw [Array.getElem?_append_left (by simpa using hb),Array.getElem?_modify]
  unfold sortWorldK putRowK
  rw [hF]
  refine hx.step rfl rfl rfl (by simp [Go.Sort.grow,Go.Sort.putRow,Go.Sort.mapBlock,Go.Sort.ahead]) (fun b hb hne=>?_) ?_ (fun b hb=>.inl hb)
  ·rw [hheap b hb,jk (fun e=>hne (by rw [<-e];rfl))]
  ·have h2:=hheap g hglt
   rw [jw rfl,hh] at h2
   simp only [qV,Go.Sort.onCells] at h2
   refine bV8 h2 hnc hcm (by simp [Go.Sort.putCells,hcs]) ?_
   rw [<-hFl]
   apply qp
   intro j
   rw [Qt]
   by_cases hj:j<n*3
   ·rw [jw qZ]
    have hjc:j<cur.size:=by have:=Qj 3 hnc;omega
    simp only [Array.getElem?_toList,Go.Sort.putCells,Array.getElem?_mapIdx,hFs,Qo,qB,true_and,hj,if_true,Nat.sub_zero,Array.getElem?_eq_getElem hjc,qV]
    rw [getElem!_pos F j qZ,Array.getElem?_eq_getElem qZ]
    rfl
   ·rw [jk qZ,qf (by rw [Array.length_toList];omega)]
end Go.Proofs
end
