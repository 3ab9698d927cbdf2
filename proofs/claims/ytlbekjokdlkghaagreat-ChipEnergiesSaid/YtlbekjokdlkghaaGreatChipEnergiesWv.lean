import Derived.Test.YtlbekjokdlkghaaGreatChipEnergiesMz
import Derived.Test.YtlbekjokdlkghaaGreatChipEnergiesPg
import Derived.Test.YtlbekjokdlkghaaGreatChipEnergiesKt
set_option linter.unusedVariables false
set_option linter.unusedSimpArgs false
set_option maxHeartbeats 4000000
namespace Go.Proofs
open Go Go.Vx Go.Gm
theorem cnt_none {p:Prop}[Decidable p]{n:Nat}(h:(if p then some n else none)=none):¬p:=fun hp=>by rw [if_pos hp] at h;cases h
theorem CntOf.look {H:HP}{b:Nat}{m:List (Value×Value)}{c:Out→Nat}{u:Ent→HP}{r:HP}{T:TypeId}(K:KeyTy T outA outW)(hat:At H (.mapk b m) u r)(h:CntOf m c)(x:Out)(hx:outW x){z:Value}(hz:z=.int .i64 0){k:Value→Prop}
  (hk:k (.int .i64 (c x:Int))):VLkK Tryz.prog T H b (outA x) fun r=>found false z r k:=by
 refine MapF.get K hat h x hx (fun h0=>?_) (fun y hy=>?_)
 ·show k z
  have:c x=0:=Decidable.byContradiction fun hc=>cnt_none h0 ⟨hx,hc⟩
  rw [hz]
  rw [this] at hk
  exact hk
 ·show k (natV y)
  split at hy
  ·cases hy;exact hk
  ·cases hy
theorem CntOf.begin {H:HP}{b:Nat}{m:List (Value×Value)}{c:Out→Nat}{u:Ent→HP}{r:HP}{T:TypeId}(K:KeyTy T outA outW)(hat:At H (.mapk b m) u r)(h:CntOf m c)(x:Out)(hx:outW x){z:Value}(hz:z=.int .i64 0){k:Value→HP→Prop}
  (hk:∀es clock st,Bare outA outW natV x 0 es clock st (fun o=>if outW o∧c o≠0 then some (c o) else none)→k (.tuple #[.int .i64 (c x:Int),.int .i64 (st:Int)]) (u (.obj b (.map es clock)))):VMpE Tryz.prog T z H b (outA x) k:=by
 rw [hz]
 refine MapF.entry K hat h x hx (0:Nat) fun es clock st hB=>?_
 have:=hk es clock st hB
 rw [CntOf.val hx]
 exact this
theorem CntOf.look2 {H:HP}{b:Nat}{c:Out→Nat}{u:Ent→HP}{r:HP}{T:TypeId}(K:KeyTy T outA outW){x:Out}{es:Array MapEntry}{clock st:Nat}(hat:At H (.obj b (.map es clock)) u r)(h:Bare outA outW natV x 0 es clock st (fun o=>if outW o∧c o≠0 then some (c o) else none))(hx:outW x){z:Value}{k:Value→Prop}
  (hk:k (.int .i64 (c x:Int))):VLkK Tryz.prog T H b (outA x) fun r=>found false z r k:=by
 refine Bare.get K hat h hx ?_
 show k (natV _)
 rw [CntOf.val hx]
 exact hk
theorem CntOf.finish {H:HP}{b:Nat}{c:Out→Nat}{u:Ent→HP}{r:HP}{T:TypeId}(K:KeyTy T outA outW){x:Out}{es:Array MapEntry}{clock st:Nat}(hat:At H (.obj b (.map es clock)) u r)(h:Bare outA outW natV x 0 es clock st (fun o=>if outW o∧c o≠0 then some (c o) else none))(hx:outW x){v:Value}(hv:v=.int .i64 (c x+1:Int)){k:HP→Prop}
  (hk:∀m',(CntOf m' fun q=>if q=x then c x+1 else c q)→k (u (.mapk b m'))):VEnS H b (st:Int) v k:=by
 rw [hv]
 exact Bare.store K hat h hx (c x+1) fun m' hm'=>hk m' (CntOf.bumped hx hm')
theorem outs_iter2 {α:Type}{w0:World}{H:HP}{K:Value→HP→Prop}(o:List Int)(ho:OutsOk o)(hol:o.length≤65536)(t1 t2 t3:Value)(go co:Nat)(l b1:Nat)(I:Nat→Nat→α→Prop)(G:α→HP)(x0:α)(h0:I 0 0 x0)
  (hH:HLe (.row b1 169 [t1,t2,t3,.slice (some ⟨go,0,none⟩) o.length co]::.vec (some ⟨go,0,none⟩) o.length co 3 1 (flat intV o)::G x0) H)
  (step:∀i k v x,o[i]? =some v→k<5→hasB v ((2 ^ k:Nat):Int)→I i k x→
   VYield Tryz.cx.P w0 [] (.row b1 169 [t1,t2,t3,.slice (some ⟨go,0,none⟩) o.length co]::.vec (some ⟨go,0,none⟩) o.length co 3 1 (flat intV o)::G x) l [.agg #[.int .i64 (i:Int),.int .i64 ((2 ^ k:Nat):Int)]] fun r H'=>(r=.bool true∧∃y,I i (k+1) y∧HLe (.row b1 169 [t1,t2,t3,.slice (some ⟨go,0,none⟩) o.length co]::.vec (some ⟨go,0,none⟩) o.length co 3 1 (flat intV o)::G y) H')∨(r=.bool false∧K (.tuple #[]) H'))
  (skip:∀i k v x,o[i]? =some v→k<5→¬hasB v ((2 ^ k:Nat):Int)→I i k x→I i (k+1) x)
  (next:∀i v x,o[i]? =some v→I i 5 x→I (i+1) 0 x)
  (fin:∀x,I o.length 0 x→K (.tuple #[]) (.row b1 169 [t1,t2,t3,.slice (some ⟨go,0,none⟩) o.length co]::.vec (some ⟨go,0,none⟩) o.length co 3 1 (flat intV o)::G x)):
  VCall Tryz.cx.P w0 [] H 178 [.func (.yield l) #[] #[],.pointer (some ⟨b1,0,none⟩)] K:=by
 refine VCall.le hH ?_
 refine VCall.inl (F:=Tryz.fx178) Tryz.func178 rfl rfl rfl Tryz.ok178 ?_
 repeat' (conv=>whnf);first|refine VSeq.go ?_|refine oN fun _=>?_|refine oL ?_|refine oA ?_
 all_goals (conv=>whnf)
 refine VLoop.mk (α:=Nat×α) (fun z=>z.1≤o.length∧I z.1 0 z.2) (fun z=>[(1000000,.tuple #[]),(0,.func (.yield l) #[] #[]),(7,.slice (some ⟨go,0,none⟩) o.length co),(8,.int .i64 (o.length:Int)),(9,.int .i64 (z.1:Int))])
  (fun z=>.row b1 169 [t1,t2,t3,.slice (some ⟨go,0,none⟩) o.length co]::.vec (some ⟨go,0,none⟩) o.length co 3 1 (flat intV o)::G z.2) (fun z=>o.length - z.1) (0,x0) ⟨Nat.zero_le _,h0⟩ aE aH ?_
 rintro ⟨i,x⟩ ⟨hi,hI⟩
 dsimp only at hi hI ⊢
 rcases Nat.lt_or_ge i o.length with hlt|hge
 ·obtain ⟨v,hv⟩:∃v,o[i]? =some v:=⟨_,List.getElem?_eq_getElem hlt⟩
  have hvr:=ho v (List.mem_of_getElem? hv)
  repeat' (conv=>whnf);first|refine oI ?_|(refine VLd.is ?_;refine VLd.mk (Rd.cast (.vec aT (sub_flat0 (f:=intV) (k:=1) (fun _=>rfl) hv rfl)) oE) ?_)|refine VSeq.go ?_|refine oY fun _=>?_
  all_goals (conv=>whnf)
  refine VLoop.mk (α:=Nat×α) (fun z=>z.1≤5∧I i z.1 z.2) (fun z=>[(1000000,.tuple #[]),(0,.func (.yield l) #[] #[]),(3,.int .i64 (i:Int)),(4,.int .i64 v),(5,.int .i64 ((2 ^ z.1:Nat):Int)),(7,.slice (some ⟨go,0,none⟩) o.length co),(8,.int .i64 (o.length:Int)),(9,.int .i64 (i:Int))])
   (fun z=>.row b1 169 [t1,t2,t3,.slice (some ⟨go,0,none⟩) o.length co]::.vec (some ⟨go,0,none⟩) o.length co 3 1 (flat intV o)::G z.2) (fun z=>5 - z.1) (0,x) ⟨by dsimp only;omega,hI⟩ aE aH ?_
  rintro ⟨k,x⟩ ⟨hk,hI⟩
  dsimp only at hk hI ⊢
  rcases Nat.lt_or_ge k 5 with hk5|hk5
  ·have hst:=step i k v x hv hk5
   have hsk:=skip i k v x hv hk5
   have hp1:2 ^ (k+1)=2*2 ^ k:=by rw [Nat.pow_succ];omega
   have hp2:2 ^ k≤16:=by
    have:(2:Nat) ^ k≤2 ^ 4:=Nat.pow_le_pow_right qZ qZ
    omega
   obtain ⟨pw,hpw⟩:∃pw,2 ^ k=pw:=⟨_,rfl⟩
   have hhas:hasB v (pw:Int)↔((v.toNat&&&(pw:Int).toNat:Nat):Int)≠0:=by
    unfold hasB
    omega
   rw [hpw] at hst hsk hp1 hp2 ⊢
   have hsl:(pw:Int)*2=((2 ^ (k+1):Nat):Int):=by rw [hp1];omega
   repeat' (conv=>whnf);first|(refine VShL.is ?_;refine VShL.dbl qZ ?_;rw [hsl])|(refine VBit.is ?_;refine VBit.and qZ qZ ?_)|(refine VYield.is ?_;refine VYield.hle (VYield.mono (VYield.weak ?_ (hst (hhas.2 qZ) hI)) fun r H' hr=>?_);(focus (exact aH));rcases hr with ⟨rfl,y,hy,hl⟩|⟨rfl,hK⟩<;>first|refine ⟨_,hl,?_⟩|refine ⟨_,HLe.refl _,?_⟩)|refine VSeq.go ?_|refine oY fun _=>?_|refine oS (fun _=>?_) fun _=>?_
   all_goals (conv=>whnf)
   ·exact VNext.mk (k+1,y) ⟨by dsimp only;omega,hy⟩ (by dsimp only;omega) aE aH
   ·exact hK
   ·exact VNext.mk (k+1,x) ⟨by dsimp only;omega,hsk (fun h=>absurd (hhas.1 h) qZ) hI⟩ (by dsimp only;omega) aE aH
  have hk5':k=5:=by omega
  subst hk5'
  repeat' (conv=>whnf);first|refine VSeq.go ?_|refine oN fun _=>?_|refine oL ?_|refine oA ?_
  all_goals (conv=>whnf)
  exact VNext.mk (i+1,x) ⟨by dsimp only;omega,next i v x hv hI⟩ (by dsimp only;omega) aE aH
 have hil:i=o.length:=by omega
 subst hil
 repeat' (conv=>whnf);first|refine VSeq.go ?_|refine oN fun _=>?_|refine oL ?_|refine oA ?_
 all_goals (conv=>whnf)
 exact fin x hI
theorem takes_vc {w0:World}{H:HP}{K:Value→HP→Prop}(ts:List (List Int))(hts:ts.length≤65536)(o:List Int)(ho:OutsOk o)(hol:o.length≤64)(t1 t2 t3:Value)(hone:oneAll [t1,t2,t3]=true)(go co bw bm:Nat)(most reach:Int)(m:List (Value×Value))(hm:CntOf m (cntM ts))(room:Int)(hroom:0≤room∧room≤65536)(S:HP)
  (hH:HLe (.row bw 164 [.map (some bm),.int .i64 most,.int .i64 reach]::.mapk bm m::.vec (some ⟨go,0,none⟩) o.length co 3 1 (flat intV o)::S) H)
  (hK:K (.bool (takesM room ts o)) (.row bw 164 [.map (some bm),.int .i64 most,.int .i64 reach]::.mapk bm m::.vec (some ⟨go,0,none⟩) o.length co 3 1 (flat intV o)::S)):
  VCall Tryz.cx.P w0 [] H 65 [.pointer (some ⟨bw,0,none⟩),.agg #[t1,t2,t3,.slice (some ⟨go,0,none⟩) o.length co],.int .i64 room] K:=by
 refine VCall.le hH ?_
 refine VCall.hle ?_
 refine VCall.inl (F:=Tryz.fx65) Tryz.func65 rfl rfl rfl Tryz.ok65 ?_
 have hkO:=keyO
 repeat' (conv=>whnf);first|(refine VNew.mk fun b3=>?_)|(refine VCall.isF 113 ?_;refine VCall.inl (F:=Tryz.fx113) Tryz.func113 rfl rfl rfl Tryz.ok113 ?_)|(refine VRange.go (ms:=[]) rfl fun hokx hoky l d L hL=>?_)|refine VSeq.go ?_|refine oL ?_
 all_goals (conv=>whnf)
 rename_i c4 c5 c6 c7
 refine outs_iter2 o ho qZ t1 t2 t3 go co l b3 (α:=Unit) (fun i k _=>takesK room ts o i k) (fun _=>L .ready none::.obj d (.deferred (some []))::.row c4 161 [.pointer (some ⟨bw,0,none⟩)]::.row c6 3 [.int .i64 room]::.row c7 4 [.bool false]::.row bw 164 [.map (some bm),.int .i64 most,.int .i64 reach]::.mapk bm m::S) () (takesK_zero room ts o) aH ?_ ?_ ?_ ?_
 ·rintro i k v _ hv hk hb hI
  have hnx:=fun h=>takesK_next (room:=room) (ts:=ts) (t:=o) (i:=i) hk h hI
  have hno:=fun h=>takes_not (room:=room) (ts:=ts) hv hk hb h
  have hi:i<o.length:=(List.getElem?_eq_some_iff.1 hv).1
  have hp2:=pow5 hk
  have hcl:cntM ts ((i:Int),((2 ^ k:Nat):Int))≤ts.length:=List.countP_le_length ..
  have hw:outW ((i:Int),((2 ^ k:Nat):Int)):=⟨⟨by dsimp only;omega,by unfold isOut;dsimp only;omega⟩,by dsimp only;omega⟩
  obtain ⟨pw,hpw⟩:∃pw,2 ^ k=pw:=⟨_,rfl⟩
  rw [hpw] at hnx hno hcl hw ⊢
  have hlk:=fun {H:HP} {u:Ent→HP} {r:HP} {z:Value} {kk:Value→Prop} (hat:At H (.mapk bm m) u r) hz hkk=>CntOf.look (T:=243) (z:=z) (k:=kk) keyO hat hm _ hw hz hkk
  obtain ⟨cn,hcn⟩:∃cn,cntM ts ((i:Int),(pw:Int))=cn:=⟨_,rfl⟩
  rw [hcn] at hlk hnx hno hcl
  refine VYield.go hL hokx hoky aT rfl ?_
  repeat' (conv=>whnf);first|(refine VBegin.is ?_;refine VBegin.mk aT ?_)|(refine VNew.mk fun b4=>?_)|(refine VLkK.is ?_;refine hlk aT rfl ?_)|refine VSeq.go ?_|refine oS (fun _=>?_) fun _=>?_|refine oL ?_|refine oT ?_|refine oH ?_
  all_goals (conv=>whnf)
  ·refine VRound.mk aT ?_
   refine .inr ⟨rfl,?_⟩
   rw [hno qZ] at hK
   repeat' (conv=>whnf);first|(refine VEnd.is ?_;refine VEnd.mk aT (by simp) ?_)|(refine VUn.is ?_;refine VUn.mk aT ?_)|refine VSeq.go ?_|refine oL ?_|refine oT ?_
   all_goals (conv=>whnf)
   exact ⟨_,by exact aH,hK⟩
  ·refine VRound.mk aT ?_
   exact .inl ⟨rfl,(),hnx qZ,by exact aH⟩
 ·rintro i k v _ hv hk hb hI
  exact takesK_skip hv hk hb hI
 ·rintro i v _ hv hI
  exact takesK_row hI
 ·rintro _ hI
  rw [takesK_end hI] at hK
  repeat' (conv=>whnf);first|(refine VEnd.is ?_;refine VEnd.mk aT (by simp) ?_)|(refine VUn.is ?_;refine VUn.mk aT ?_)|refine VSeq.go ?_|refine oL ?_|refine oT ?_
  all_goals (conv=>whnf)
  exact ⟨_,by exact aH,hK⟩
theorem add_vc {w0:World}{H:HP}{K:Value→HP→Prop}(s:Spc)(hs:s.wf)(ts:List (List Int))(hts:ts.length≤65536)(o:List Int)(ho:OutsOk o)(hol:o.length≤64)(t1:Value)(hone:oneAll [t1]=true)(home:Int)(hhome:I64 home)(tg:List Int)(htg:∀t∈tg,I64 t∧(distR s home t)=((distM s.wide home t:Int),0)∧distM s.wide home t≤1000)(htl:tg.length≤65536)
  (gc cc go co bw bm:Nat) (reach:Nat) (hre:reach≤1000) (m:List (Value×Value)) (hm:CntOf m (cntM ts)) (S:HP)
  (hH:HLe (.row bw 164 [.map (some bm),.int .i64 (mostM ts:Int),.int .i64 (reach:Int)]::.mapk bm m::.vec (some ⟨go,0,none⟩) o.length co 3 1 (flat intV o)::.vec (some ⟨gc,0,none⟩) tg.length cc 3 1 (flat intV tg)::S) H)
  (hK:∀m',CntOf m' (cntM (ts++[o]))→K (.tuple #[]) (.row bw 164 [.map (some bm),.int .i64 (mostM (ts++[o]):Int),.int .i64 ((tg.map fun t=>distM s.wide home t).foldl max reach:Nat)]::.mapk bm m'::.vec (some ⟨go,0,none⟩) o.length co 3 1 (flat intV o)::.vec (some ⟨gc,0,none⟩) tg.length cc 3 1 (flat intV tg)::S)):
  VCall Tryz.cx.P w0 [] H 62 [.pointer (some ⟨bw,0,none⟩),.agg (spcC s).toArray,.agg #[t1,.int .i64 home,.slice (some ⟨gc,0,none⟩) tg.length cc,.slice (some ⟨go,0,none⟩) o.length co]] K:=by
 refine VCall.le hH ?_
 refine VCall.hle ?_
 have hdist:=fun t=>meshDistance_any s hs home t hhome
 unfold spcC at hdist ⊢
 refine VCall.inl (F:=Tryz.fx62) Tryz.func62 rfl rfl rfl Tryz.ok62 ?_
 repeat' (conv=>whnf);first|(refine VNew.mk fun b3=>?_)|(refine VCall.isF 113 ?_;refine VCall.inl (F:=Tryz.fx113) Tryz.func113 rfl rfl rfl Tryz.ok113 ?_)|(refine VRange.go (ms:=[]) rfl fun hokx hoky l d L hL=>?_)|refine VSeq.go ?_|refine oL ?_
 all_goals (conv=>whnf)
 rename_i c3 c4 c5
 have hml:mostM ts≤ts.length:=by
  rcases (mostM_is ts).ex with h|⟨q,_,h⟩
  ·omega
  ·rw [←h];exact List.countP_le_length
 refine outs_iter2 o ho qZ t1 (.int .i64 home) (.slice (some ⟨gc,0,none⟩) tg.length cc) go co l b3 (α:=List (Value×Value)×Nat) (fun i k z=>CntOf z.1 (cntP ts o i k)∧IsMax (cntP ts o i k) z.2∧z.2≤ts.length+1) (fun z=>L .ready none::.obj d (.deferred (some []))::.row c5 169 [t1,.int .i64 home,.slice (some ⟨gc,0,none⟩) tg.length cc,.slice (some ⟨go,0,none⟩) o.length co]::.row c4 27 [.int .i64 s.wide,.int .i64 s.high,.int .i64 s.room]::.row c3 161 [.pointer (some ⟨bw,0,none⟩)]::.row bw 164 [.map (some bm),.int .i64 (z.2:Int),.int .i64 (reach:Int)]::.mapk bm z.1::.vec (some ⟨gc,0,none⟩) tg.length cc 3 1 (flat intV tg)::S) (m,mostM ts) ⟨hm.same fun q hq=>cntP_zero ts o hq.1,(IsMax.of ts).same fun q hq=>cntP_zero ts o hq,by omega⟩ aH ?_ ?_ ?_ ?_
 ·rintro i k v ⟨m,mo⟩ hv hk hb ⟨hm,hmo,hmo2⟩
  dsimp only at hm hmo hmo2
  have hi:i<o.length:=(List.getElem?_eq_some_iff.1 hv).1
  have hnx:=fun (q:Out) (hq:isOutO q)=>cntP_next ts hv hk hb hq
  have hp2:=pow5 hk
  have hio:isOutO ((i:Int),((2 ^ k:Nat):Int)):=⟨by dsimp only;omega,by unfold isOut;dsimp only;omega⟩
  have hw:outW ((i:Int),((2 ^ k:Nat):Int)):=⟨hio,by dsimp only;omega⟩
  have hmx:=hmo.bump hio
  have hcl:cntP ts o i k ((i:Int),((2 ^ k:Nat):Int))≤ts.length:=by rw [cntP_at];exact List.countP_le_length
  obtain ⟨c1,hc1⟩:∃c1,cntP ts o i (k+1)=c1:=⟨_,rfl⟩
  obtain ⟨c,hc⟩:∃c,cntP ts o i k=c:=⟨_,rfl⟩
  rw [hc,hc1] at hnx
  rw [hc] at hm hmo hmx hcl
  rw [hc1]
  obtain ⟨pw,hpw⟩:∃pw,2 ^ k=pw:=⟨_,rfl⟩
  rw [hpw] at hnx hw hmx hcl ⊢
  obtain ⟨cn,hcn⟩:∃cn,c ((i:Int),(pw:Int))=cn:=⟨_,rfl⟩
  have hlk:=fun {H:HP} {u:Ent→HP} {r:HP} {z:Value} {kk:Value→Prop} (hat:At H (.mapk bm m) u r) hz hkk=>CntOf.look (T:=243) (z:=z) (k:=kk) keyO hat hm _ hw hz hkk
  have hbg:=fun {H:HP} {u:Ent→HP} {r:HP} {z:Value} {kk:Value→HP→Prop} (hat:At H (.mapk bm m) u r) hz hkk=>CntOf.begin (T:=243) (z:=z) (k:=kk) keyO hat hm _ hw hz hkk
  rw [hcn] at hlk hbg hnx hmx hcl
  have hlk2:=fun {H:HP} {es:Array MapEntry} {clock st:Nat} {u:Ent→HP} {r:HP} {z:Value} {kk:Value→Prop} (hB) (hat:At H (.obj bm (.map es clock)) u r) hkk=>CntOf.look2 (T:=243) (z:=z) (k:=kk) (st:=st) (c:=c) keyO hat hB hw hkk
  have hfi:=fun {H:HP} {es:Array MapEntry} {clock st:Nat} {u:Ent→HP} {r:HP} {v:Value} {kk:HP→Prop} (hB) (hat:At H (.obj bm (.map es clock)) u r) hv hkk=>CntOf.finish (T:=243) (v:=v) (k:=kk) (st:=st) (c:=c) keyO hat hB hw hv hkk
  rw [hcn] at hlk2 hfi
  refine VYield.go hL hokx hoky aT rfl ?_
  repeat' (conv=>whnf);first|(refine VBegin.is ?_;refine VBegin.mk aT ?_)|(refine VNew.mk fun b4=>?_)|(refine VSeq.is ?_;refine VSeq.isN 4 rfl ?_;refine VSeq.cut (at_:=4) (α:=List (Value×Value)) (fun m2=>CntOf m2 fun q=>if q=((i:Int),(pw:Int)) then cn+1 else c q) (fun _=>[(1000000,.tuple #[]),(3,.pointer (some ⟨c3,0,none⟩)),(6,.pointer (some ⟨b4,0,none⟩))]) (fun m2=>.row b4 243 [.int .i64 (i:Int),.int .i64 (pw:Int)]::.row b3 169 [t1,.int .i64 home,.slice (some ⟨gc,0,none⟩) tg.length cc,.slice (some ⟨go,0,none⟩) o.length co]::.vec (some ⟨go,0,none⟩) o.length co 3 1 (flat intV o)::L .busy none::.obj d (.deferred (some []))::.row c5 169 [t1,.int .i64 home,.slice (some ⟨gc,0,none⟩) tg.length cc,.slice (some ⟨go,0,none⟩) o.length co]::.row c4 27 [.int .i64 s.wide,.int .i64 s.high,.int .i64 s.room]::.row c3 161 [.pointer (some ⟨bw,0,none⟩)]::.row bw 164 [.map (some bm),.int .i64 (mo:Int),.int .i64 (reach:Int)]::.mapk bm m2::.vec (some ⟨gc,0,none⟩) tg.length cc 3 1 (flat intV tg)::S) ?_ ?_)|(refine VHs.is ?_;refine VHs.mk [.row b4 243 [.int .i64 (i:Int),.int .i64 (pw:Int)],.row c3 161 [.pointer (some ⟨bw,0,none⟩)],.row bw 164 [.map (some bm),.int .i64 (mo:Int),.int .i64 (reach:Int)]] aH ?_)|(refine VLkK.is ?_;first|refine hlk aT rfl ?_|refine hlk2 hB aT ?_)|(refine VMpE.is ?_;refine hbg aT rfl fun es clock st hB=>?_)|(refine VEnS.is ?_;refine hfi hB aT rfl fun m2 hm2=>?_)|refine oL ?_|refine oT ?_|refine oA ?_|refine oK ?_|refine And.intro ?_ ?_
  all_goals (conv=>whnf)
  any_goals exact VMid.mk m2 hm2 aE aH
  rintro m2 hm2
  have hm1:CntOf m2 c1:=hm2.same fun q hq=>hnx q hq.1
  have hv1:=hnx _ hio
  rw [hpw,if_pos rfl] at hv1
  have hlk3:=fun {H:HP} {u:Ent→HP} {r:HP} {z:Value} {kk:Value→Prop} (hat:At H (.mapk bm m2) u r) hz hkk=>CntOf.look (T:=243) (z:=z) (k:=kk) keyO hat hm1 _ hw hz hkk
  rw [hv1] at hlk3
  have hmax:max (mo:Int) ((cn+1:Nat):Int)=((max mo (cn+1):Nat):Int):=by omega
  repeat' (conv=>whnf);first|(refine VLkK.is ?_;refine hlk3 aT rfl ?_;(try rw [hmax]))|refine oL ?_|refine oT ?_|refine oH ?_
  all_goals (conv=>whnf)
  refine VRound.mk aT ?_
  rw [hmax]
  exact .inl ⟨rfl,(m2,max mo (cn+1)),⟨hm1,hmx.same fun q hq=>hnx q hq,by dsimp only;omega⟩,by exact aH⟩
 ·rintro i k v ⟨m,mo⟩ hv hk hb ⟨hm,hmo,hmo2⟩
  exact ⟨hm.same fun q hq=>cntP_skip ts hv hk hb hq.1,hmo.same fun q hq=>cntP_skip ts hv hk hb hq,hmo2⟩
 ·rintro i v ⟨m,mo⟩ hv ⟨hm,hmo,hmo2⟩
  exact ⟨hm.same fun q hq=>cntP_row ts o i hq.1,hmo.same fun q hq=>cntP_row ts o i hq,hmo2⟩
 ·rintro ⟨m,mo⟩ ⟨hm,hmo,hmo2⟩
  dsimp only at hm hmo hmo2 ⊢
  have hm:=hm.same (d:=cntM (ts++[o])) fun q hq=>(cntP_end ts o hq.1).symm
  have hmo:=(hmo.same (d:=cntM (ts++[o])) fun q hq=>(cntP_end ts o hq).symm).most
  have hK:=hK m hm
  rw [hmo] at hK
  repeat' (conv=>whnf);first|(refine VEnd.is ?_;refine VEnd.mk aT (by simp) ?_)|(refine VUn.is ?_;refine VUn.mk aT ?_)|refine VSeq.go ?_|refine oL ?_|refine oT ?_
  all_goals (conv=>whnf)
  obtain ⟨rk,hrk⟩:∃rk:Nat→Nat,rk=fun k=>((tg.take k).map fun t=>distM s.wide home t).foldl max reach:=⟨_,rfl⟩
  have hr0:rk 0=reach:=by rw [hrk];rfl
  have hrn:rk tg.length=(tg.map fun t=>distM s.wide home t).foldl max reach:=by rw [hrk];dsimp only;rw [List.take_length]
  have hrs:∀k t,tg[k]? =some t→rk (k+1)=max (rk k) (distM s.wide home t):=fun k t h=>by
   rw [hrk];dsimp only
   rw [List.take_add_one,h,Option.toList_some,List.map_append,List.foldl_append];rfl
  rw [←hrn] at hK
  have hd:=htg
  clear htg hrk hml hm hmo hts
  refine VLoop.mk (α:=Nat) (fun k=>k≤tg.length∧rk k≤1000) (fun k=>[(1000000,.tuple #[markV d]),(3,.pointer (some ⟨c3,0,none⟩)),(4,.pointer (some ⟨c4,0,none⟩)),(5,.pointer (some ⟨c5,0,none⟩)),(38,.slice (some ⟨gc,0,none⟩) tg.length cc),(39,.int .i64 (tg.length:Int)),(40,.int .i64 (k:Int))])
   (fun k=>.vec (some ⟨go,0,none⟩) o.length co 3 1 (flat intV o)::.obj d (.deferred (some []))::.row c5 169 [t1,.int .i64 home,.slice (some ⟨gc,0,none⟩) tg.length cc,.slice (some ⟨go,0,none⟩) o.length co]::.row c4 27 [.int .i64 s.wide,.int .i64 s.high,.int .i64 s.room]::.row c3 161 [.pointer (some ⟨bw,0,none⟩)]::.row bw 164 [.map (some bm),.int .i64 (mo:Int),.int .i64 (rk k:Int)]::.mapk bm m::.vec (some ⟨gc,0,none⟩) tg.length cc 3 1 (flat intV tg)::S) (fun k=>tg.length - k) 0 ⟨Nat.zero_le _,by rw [hr0];exact hre⟩ aE (by rw [hr0];exact aH) ?_
  rintro k ⟨hk,hrb⟩
  rcases Nat.lt_or_ge k tg.length with hlt|hge
  ·obtain ⟨t,ht⟩:∃t,tg[k]? =some t:=⟨_,List.getElem?_eq_getElem hlt⟩
   obtain ⟨h1,h2,h3⟩:=hd t (List.mem_of_getElem? ht)
   have hdt:=fun w=>hdist t h1 w
   rw [h2] at hdt
   have hst:=hrs k t ht
   obtain ⟨dn,hdn⟩:∃dn,distM s.wide home t=dn:=⟨_,rfl⟩
   rw [hdn] at hdt hst h3
   dsimp only at hdt
   have hmax:max (rk k:Int) (dn:Int)=(rk (k+1):Int):=by rw [hst];omega
   clear hd hrs h2
   repeat' (conv=>whnf);first|refine oI ?_|(refine VLd.is ?_;refine VLd.mk (Rd.cast (.vec aT (sub_flat0 (f:=intV) (k:=1) (fun _=>rfl) ht rfl)) oE) ?_)|(refine VCall.isF 114 ?_;(refine VCall.valR (fun w' _=>hdt w') ?_))|refine VSeq.go ?_|refine oY fun _=>?_|refine oL ?_|refine oT ?_|refine oA ?_|refine oH ?_
   all_goals (conv=>whnf)
   rw [hmax]
   exact VNext.mk (k+1) ⟨by omega,by omega⟩ qZ aE aH
  have hkl:k=tg.length:=by omega
  subst hkl
  repeat' (conv=>whnf);first|(refine VUn.is ?_;refine VUn.mk aT ?_)|refine VSeq.go ?_|refine oN fun _=>?_
  all_goals (conv=>whnf)
  exact ⟨_,by exact aH,hK⟩
end Go.Proofs
