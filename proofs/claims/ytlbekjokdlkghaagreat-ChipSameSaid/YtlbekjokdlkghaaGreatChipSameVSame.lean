import Derived.Test.YtlbekjokdlkghaaGreatChipSameZc
set_option linter.unusedVariables false
set_option linter.unusedSimpArgs false
set_option maxHeartbeats 4000000
namespace Go.Gm
open Go.Proofs
theorem first_diff (p:Nat->Prop)[∀t,Decidable (p t)]:∀T:Nat,∃m,m<=T/\(∀t,t<m->p t)/\(m<T->¬p m)
 |0=>⟨0,qA _,fun t h=>absurd h (by omega),fun h=>absurd h (by omega)⟩
 |T+1=>by
  obtain ⟨m,h1,h2,h3⟩:=first_diff p T
  by_cases hm:m<T
  ·exact ⟨m,by omega,h2,fun _=>h3 hm⟩
  ·by_cases hp:p T
   ·exact ⟨T+1,qA _,fun t ht=>by
     by_cases h:t=T
     ·rw [h];exact hp
     ·exact h2 t (by omega),fun h=>absurd h (by omega)⟩
   ·exact ⟨T,by omega,fun t ht=>h2 t (by omega),fun _=>hp⟩
theorem rnOut_same {M M':Net}{l:List Evt}:∀{T:Nat},(∀t,t<T->rnSpk M l t=rnSpk M' l t)->rnOut M l T=rnOut M' l T
 |0,_=>rfl
 |T+1,h=>by rw [rnOut,rnOut,rnOut_same (T:=T) fun t ht=>h t (by omega),h T (by omega)]
theorem netOk_wf {M:Net}(h:NetOk M)(hp:∀p∈M.ps,p.wf):M.wf:=by
 refine ⟨hp,by have:=h.inputs;unfold I64;omega,fun s hs=>?_⟩
 obtain ⟨h1,h2,h3,h4⟩:=h.syns s hs
 have:=h.inputs
 have:=h.few
 unfold srcOk at h1
 unfold Syn.wf I64
 omega
end Go.Gm
namespace Go.Proofs
open Go Go.Vx Go.Gm
theorem ChipSame_bad (Y:CsX)(w:World)(hY:CsRd Y w)(hg:¬(Few8 Y/\plErr Y.X.N Y.X.C Y.cores Y.l Y.ticks=0)):
  Calls Tryz.prog 7 #[.agg Y.v.toArray] w fun e w'=>e=.returned (.bool true)/\St w [] [] w':=by
 have hr:=fun (w':World) h=>runs8_any Y w' h
 unfold CsX.v at hr ⊢
 refine enter (C:=Tryz.cx) (F:=Tryz.fx7) (args:=[_]) Tryz.func7 rfl rfl rfl Tryz.ok7 (St.start w []) ?_
 repeat' (conv=>whnf);first|(refine VNew.mk fun b1=>?_)|(refine VCall.isF 19 ?_;(refine VCall.genR (fun w' hw'=>hr w' (hY.keep hw')) ?_;rintro r hrr;obtain rfl:r=false:=(by cases r;rfl;exact absurd (hrr.1 rfl) hg)))|(refine VCall.isF 12 ?_;(refine VCall.valR (fun w' _=>works8_any w') ?_))|refine VSeq.go ?_|refine oL ?_
 all_goals (conv=>whnf)
 exact ⟨fun w' hw'=>⟨rfl,hw'.le .nil⟩⟩
structure CaseGo (X:PlnX) (cores:List Int) (l:List Evt) (T:Nat):Prop where
 few:T<=80
 psF:X.N.ps.length<=20
 dead:X.C.dead.length<=20
 hA:AsgOk X.N X.C cores
 hm0:mapErr X.N X.C cores=0
 hev:EvOk X.N.inputs 10000 l
 run:run8 X.N X.C cores l (T:Int)=(rnOut (qNet X.N X.C) l T,(rkAt X.N X.C cores l T).2,0)
theorem CaseGo.of {Y:CsX}(hF:Few8 Y)(he:plErr Y.X.N Y.X.C Y.cores Y.l Y.ticks=0):∃T:Nat,Y.ticks=(T:Int)/\CaseGo Y.X Y.cores Y.l T:=by
 have hm0:mapErr Y.X.N Y.X.C Y.cores=0:=jy fun h=>by unfold plErr at he;rw [jk h] at he;exact h he
 have hp0:prepErr (net1 Y.X.N.inputs) Y.l Y.ticks 10000=0:=jy fun h=>by unfold plErr at he;rw [jv (by rw [hm0];simp),jk h] at he;exact h he
 obtain ⟨_,hT,hev⟩:=prep_zero.1 hp0
 obtain ⟨hA, -⟩:=mapErr_asg hm0
 refine ⟨Y.ticks.toNat,by omega,by have:=hF.2.2.2.2.2;omega,hF.1,hF.2.2.1,hA,hm0,hev,?_⟩
 rw [Ql hT.1]
 unfold run8
 rw [jv (by rw [he];simp),rkOut_rn]
theorem CaseGo.runs {X:PlnX}{cores:List Int}{l:List Evt}{T:Nat}(h:CaseGo X cores l T):runRes X.N l (T:Int)=(rnOut X.N l T,0)/\runRes (qNet X.N X.C) l (T:Int)=(rnOut (qNet X.N X.C) l T,0):=by
 have hT:(0:Int)<=(T:Int)/\(T:Int)<=10000:=by have:=h.few;omega
 have hf:T*X.N.ps.length<=65536:=by
  have:=Nat.mul_le_mul h.few h.psF
  omega
 exact ⟨runRes_rn (prep_zero.2 ⟨h.hA.plan.net,hT,h.hev⟩) hf,runRes_rn (M:=qNet X.N X.C) (prep_zero.2 ⟨qNet_ok h.hA,hT,h.hev⟩) hf⟩
theorem quant8_any (X:PlnX)(w:World)(hX:PlnRd X w)(cores:List Int)(hA:AsgOk X.N X.C cores):
  Calls Tryz.prog 27 #[.agg X.net.toArray,.int .i64 X.C.bits] w fun e w'=>∃y:QP×Nat×Nat,e=.returned (.tuple #[.agg #[.slice y.1.pp X.N.ps.length y.1.cp,.int .i64 X.N.inputs,.slice y.1.ps (qSyns X.N X.C).length y.1.cs,.slice y.1.pz X.N.ps.length y.1.cz,.slice y.1.pq y.2.1 y.1.cq,.slice y.1.pe y.2.2 y.1.ce,.bool (quantRes X.N X.C.bits).exact],.int .i64 0])/\True/\
   St w [] [.vec y.1.pp X.N.ps.length y.1.cp 140 8 (flat parV X.N.ps),.vec y.1.ps (qSyns X.N X.C).length y.1.cs 154 4 (flat synV (qSyns X.N X.C))] w':=by
 have hbits:=hA.plan.chip.bits
 have hq0:qErr X.N X.C.bits=0:=by
  unfold qErr
  rw [netchk_zero.2 hA.plan.net,jv (by simp),jv qZ]
 have hqr:quantRes X.N X.C.bits=⟨X.N.ps,X.N.inputs,qSyns X.N X.C,scalesM X.N (halfM X.C.bits),(quantRes X.N X.C.bits).quots,(quantRes X.N X.C.bits).errs,(quantRes X.N X.C.bits).exact⟩:=by
  unfold quantRes
  rw [jv qZ]
  rfl
 have hzl:(scalesM X.N (halfM X.C.bits)).length=X.N.ps.length:=by unfold scalesM;simp
 obtain ⟨bp,op,hps⟩:=hX.ps
 obtain ⟨bs,os,hss⟩:=hX.syns
 have g:=Quantise_any X.N hX.net X.C.bits (by unfold I64;omega) X.pn X.cn bp op X.qs X.cs bs os w hps hss
 rw [hqr,hq0] at g
 unfold quantC quantH at g
 dsimp only at g
 rw [hzl] at g
 exact g.mono fun e w' ⟨y,e1,_,e3⟩=>⟨(y,_,_),e1,trivial,e3.le aH⟩
theorem ChipSame_same (Y:CsX)(w:World)(hY:CsRd Y w)(hF:Few8 Y)(he:plErr Y.X.N Y.X.C Y.cores Y.l Y.ticks=0)(hs:∀t,t<Y.ticks.toNat->rnSpk Y.X.N Y.l t=rnSpk (qNet Y.X.N Y.X.C) Y.l t):
  Calls Tryz.prog 7 #[.agg Y.v.toArray] w fun e w'=>e=.returned (.bool true)/\St w [] [] w':=by
 have hr:=fun (w':World) h=>runs8_any Y w' h
 have hYd:=hY
 have hrt:=he
 obtain ⟨T,hti,hG⟩:=CaseGo.of hF he
 obtain ⟨X,cores,pc,cc,l,pe,ce,ticks⟩:=Y
 obtain ⟨hX,hcw,⟨bc,oc,h1⟩,hlw,⟨be,oe,h2⟩,hce, -⟩:=hY
 dsimp only at hX hcw h1 hlw h2 hce hti hG he hr hrt hs
 subst hti
 rw [jg] at hs
 unfold Few8 at hF
 dsimp only at hF
 obtain ⟨hT80,hps20,hdl,hA,hm0,hev,hrr⟩:=hG
 obtain ⟨hrnN,hrnQ⟩:=CaseGo.runs ⟨hT80,hps20,hdl,hA,hm0,hev,hrr⟩
 have hok:=hA.plan.net
 have hlen:=hA.len
 have hqok:=qNet_ok hA
 have hqwf:=netOk_wf hqok hX.net.ps
 have hrun:=fun (w':World) (hw':PlnRd X w') h h'=>chipRun_any X w' hw' cores hcw (by have:=hF.2.2.2.1;omega) pc cc bc oc h l hlw pe ce be oe h' hce (T:Int) (by unfold I64;omega)
 rw [hrr] at hrun
 dsimp only at hrun
 have hOl:=rnOut_few (qNet X.N X.C) l T
 have hOT:T*(qNet X.N X.C).ps.length<=80*20:=Nat.mul_le_mul hT80 hps20
 have hOt:=rnOut_tick (qNet X.N X.C) l T
 have hqps:(qNet X.N X.C).ps.length=X.N.ps.length:=rfl
 have hOw:∀x∈rnOut (qNet X.N X.C) l T,x.wf:=fun x hx=>by
  have:=hOt x hx
  unfold Evt.wf I64
  omega
 obtain ⟨bp,op,hps⟩:=hX.ps
 obtain ⟨bs,os,hss⟩:=hX.syns
 have hq:=fun (w':World) h=>quant8_any X w' h cores hA
 have hcmp:=fun (w':World) h h' h''=>cmp8_main X w' h cores hcw pc cc bc oc h' l hlw pe ce be oe h'' hce T he T (qA _) hs (fun h=>absurd h qZ)
 have hrq:=fun (pn:Option Addr) (cn bn on:Nat) (qs:Option Addr) (cs bs os:Nat) (w':World) h h' h''=>Run_any (qNet X.N X.C) hqwf l hlw (T:Int) pn cn bn on qs cs bs os pe ce be oe w' h h' h'' hce
 rw [hrnQ] at hrq
 dsimp only at hrq
 have hrN:=fun (w':World) h h' h''=>Run_any X.N hX.net l hlw (T:Int) X.pn X.cn bp op X.qs X.cs bs os pe ce be oe w' h h' h'' hce
 rw [hrnN,rnOut_same hs] at hrN
 dsimp only at hrN
 obtain ⟨W,hW⟩:=gX ((rkAt X.N X.C cores l T).2)
 obtain ⟨O,hO⟩:=gX (rnOut (qNet X.N X.C) l T)
 obtain ⟨SY,hSY⟩:=gX (qSyns X.N X.C)
 obtain ⟨ex,hex⟩:=gX ((quantRes X.N X.C.bits).exact)
 rw [hW,hO] at hrun
 rw [hO] at hrq hrN hOl hOw
 rw [hSY,hex] at hq
 have hrq2:∀(pn:Option Addr) (cn bn on:Nat) (qs:Option Addr) (cs bs os:Nat) (w':World),Sl w' parV 8 X.N.ps pn X.N.ps.length bn on->Sl w' synV 4 SY qs SY.length bs os->Sl w' evtV 2 l pe l.length be oe->Calls Tryz.prog 28 #[.agg #[.slice pn X.N.ps.length cn,.int .i64 X.N.inputs,.slice qs SY.length cs],.slice pe l.length ce,.int .i64 (T:Int)] w' fun e w''=>∃y:Option Addr×Nat,e=.returned (.tuple #[.slice y.1 O.length y.2,.int .i64 0])/\True/\St w' [] [.vec y.1 O.length y.2 67 2 (flat evtV O)] w'':=by
  rw [<-hSY]
  exact hrq
 have hcmp2:=fun (w':World) h h' h''=>(hcmp w' h h' h'').mono fun e w'' g=>g.1 rfl
 clear hcmp hrq hrr hrnN hrnQ
 have hsm:=fun (p:Option Addr) (c b o:Nat) (q:Option Addr) (d b2 o2:Nat) (w':World) h h'=>same8_any O O hOw hOw p c b o q d b2 o2 w' h h' qZ
 unfold CsX.v at hr ⊢
 unfold PlnX.net chpC at hrun hcmp2
 unfold PlnX.net at hq
 unfold wrkV at hrun
 dsimp only at hr ⊢
 refine enter (C:=Tryz.cx) (F:=Tryz.fx7) (args:=[_]) Tryz.func7 rfl rfl rfl Tryz.ok7 (St.start w []) ?_
 repeat' (conv=>whnf);first|(refine VNew.mk fun b1=>?_)|(refine VCall.isF 19 ?_;(refine VCall.genR (fun w' hw'=>hr w' (hYd.keep hw')) ?_;rintro r hrr;obtain rfl:r=true:=hrr.2 ⟨hF,hrt⟩;clear hrr))|(refine VCall.isF 13 ?_;(refine VCall.genR (fun w' hw'=>hrun w' (hX.rd hw' qZ) (h1.keep hw' (by simp)) (h2.keep hw' (by simp))) ?_;rintro ⟨q1,c1⟩ _))|(refine VCall.isF 27 ?_;(refine VCall.genR (fun w' hw'=>hq w' (hX.rd hw' qZ)) ?_;rintro ⟨y,y1,y2⟩ _))|(refine VCall.isF 24 ?_;(refine VCall.valR (fun w' hw'=>hcmp2 w' (hX.rd hw' qZ) (h1.keep hw' (by simp)) (h2.keep hw' (by simp))) ?_))|(refine VCall.isF 12 ?_;(refine VCall.valR (fun w' _=>works8_any w') ?_))|(refine VCall.isF 28 ?_;(refine VCall.fst8 (.agg #[.slice y.pp X.N.ps.length y.cp,.int .i64 X.N.inputs,.slice y.ps SY.length y.cs]) ?_;refine VCall.genR (fun w' hw'=>Exists.elim (Sl.own (f:=parV) (l:=X.N.ps) (p:=y.pp) (k:=8) hw' aT (fun _=>rfl) rfl) fun ba ha=>Exists.elim (Sl.own (f:=synV) (l:=SY) (p:=y.ps) (k:=4) hw' aT (fun _=>rfl) rfl) fun bb hb=>hrq2 y.pp y.cp ba 0 y.ps y.cs bb 0 w' ha hb (h2.keep hw' (by simp))) ?_;rintro ⟨q2,c2⟩ _))|(refine VCall.isF 28 ?_;(refine VCall.fst8 (.agg #[.slice X.pn X.N.ps.length X.cn,.int .i64 X.N.inputs,.slice X.qs X.N.syns.length X.cs]) ?_;refine VCall.genR (fun w' hw'=>hrN w' (hps.keep hw' (by simp)) (hss.keep hw' (by simp)) (h2.keep hw' (by simp))) ?_;rintro ⟨q3,c3⟩ _))|(refine VCall.isF 16 ?_;(refine VCall.fst8 (.slice q1 O.length c1) ?_;refine VCall.genR (fun w' hw'=>Exists.elim (Sl.own (f:=evtV) (l:=O) (p:=q1) (k:=2) hw' aT (fun _=>rfl) rfl) fun ba ha=>Exists.elim (Sl.own (f:=evtV) (l:=O) (p:=q2) (k:=2) hw' aT (fun _=>rfl) rfl) fun bb hb=>hsm q1 c1 ba 0 q2 c2 bb 0 w' ha hb) ?_;rintro r hr;obtain rfl:r=true:=hr.2 rfl;clear hr))|(refine VCall.isF 16 ?_;(refine VCall.fst8 (.slice q3 O.length c3) ?_;refine VCall.genR (fun w' hw'=>Exists.elim (Sl.own (f:=evtV) (l:=O) (p:=q3) (k:=2) hw' aT (fun _=>rfl) rfl) fun ba ha=>Exists.elim (Sl.own (f:=evtV) (l:=O) (p:=q1) (k:=2) hw' aT (fun _=>rfl) rfl) fun bb hb=>hsm q3 c3 ba 0 q1 c1 bb 0 w' ha hb) ?_;rintro r hr;obtain rfl:r=true:=hr.2 rfl;clear hr))|refine VSeq.go ?_|refine oY fun _=>?_|refine oN fun _=>?_|(refine oB (fun h=>?_) (fun h=>?_)<;>subst h)|refine oL ?_|refine oT ?_|refine oA ?_
 all_goals (conv=>whnf)
 all_goals exact ⟨fun w' hw'=>⟨rfl,hw'.le .nil⟩⟩
theorem ChipSame_diff (Y:CsX)(w:World)(hY:CsRd Y w)(hF:Few8 Y)(he:plErr Y.X.N Y.X.C Y.cores Y.l Y.ticks=0)(m:Nat)(hmT:m<Y.ticks.toNat)(hlo:∀t,t<m->rnSpk Y.X.N Y.l t=rnSpk (qNet Y.X.N Y.X.C) Y.l t)(hne:rnSpk Y.X.N Y.l m≠rnSpk (qNet Y.X.N Y.X.C) Y.l m):
  Calls Tryz.prog 7 #[.agg Y.v.toArray] w fun e w'=>e=.returned (.bool true)/\St w [] [] w':=by
 have hr:=fun (w':World) h=>runs8_any Y w' h
 have hYd:=hY
 have hrt:=he
 obtain ⟨T,hti,hG⟩:=CaseGo.of hF he
 obtain ⟨X,cores,pc,cc,l,pe,ce,ticks⟩:=Y
 obtain ⟨hX,hcw,⟨bc,oc,h1⟩,hlw,⟨be,oe,h2⟩,hce, -⟩:=hY
 dsimp only at hX hcw h1 hlw h2 hce hti hG he hr hrt hmT hlo hne
 subst hti
 rw [jg] at hmT
 unfold Few8 at hF
 dsimp only at hF
 obtain ⟨hT80,hps20,hdl,hA,hm0,hev,hrr⟩:=hG
 obtain ⟨hrnN,hrnQ⟩:=CaseGo.runs ⟨hT80,hps20,hdl,hA,hm0,hev,hrr⟩
 have hok:=hA.plan.net
 have hlen:=hA.len
 have hqok:=qNet_ok hA
 have hqwf:=netOk_wf hqok hX.net.ps
 have hrun:=fun (w':World) (hw':PlnRd X w') h h'=>chipRun_any X w' hw' cores hcw (by have:=hF.2.2.2.1;omega) pc cc bc oc h l hlw pe ce be oe h' hce (T:Int) (by unfold I64;omega)
 rw [hrr] at hrun
 dsimp only at hrun
 have hOl:=rnOut_few (qNet X.N X.C) l T
 have hOT:T*(qNet X.N X.C).ps.length<=80*20:=Nat.mul_le_mul hT80 hps20
 have hOt:=rnOut_tick (qNet X.N X.C) l T
 have hqps:(qNet X.N X.C).ps.length=X.N.ps.length:=rfl
 have hOw:∀x∈rnOut (qNet X.N X.C) l T,x.wf:=fun x hx=>by
  have:=hOt x hx
  unfold Evt.wf I64
  omega
 obtain ⟨bp,op,hps⟩:=hX.ps
 obtain ⟨bs,os,hss⟩:=hX.syns
 have hq:=fun (w':World) h=>quant8_any X w' h cores hA
 have hcmp:=fun (w':World) h h' h''=>cmp8_main X w' h cores hcw pc cc bc oc h' l hlw pe ce be oe h'' hce T he m qZ hlo (fun _=>hne)
 have hrq:=fun (pn:Option Addr) (cn bn on:Nat) (qs:Option Addr) (cs bs os:Nat) (w':World) h h' h''=>Run_any (qNet X.N X.C) hqwf l hlw (T:Int) pn cn bn on qs cs bs os pe ce be oe w' h h' h'' hce
 rw [hrnQ] at hrq
 dsimp only at hrq
 have hex:(quantRes X.N X.C.bits).exact=false:=by
  cases h:(quantRes X.N X.C.bits).exact
  ·rfl
  ·exact absurd (by rw [qNet_exact hA h]) hne
 rw [hex] at hq
 have hnew:=fun (w':World) h h'=>netNew8_any X.N hX.net hok X.pn X.cn bp op X.qs X.cs bs os w' h h'
 have hOi:=rnOut_ins (qNet X.N X.C) l T
 have hAB:=fun t=>rnSpk_few X.N l t
 have hBB:=fun t=>rnSpk_few (qNet X.N X.C) l t
 obtain ⟨W,hW⟩:=gX ((rkAt X.N X.C cores l T).2)
 obtain ⟨O,hO⟩:=gX (rnOut (qNet X.N X.C) l T)
 obtain ⟨SY,hSY⟩:=gX (qSyns X.N X.C)
 rw [hW,hO] at hrun
 rw [hO] at hrq hOl hOw hOi hOt
 rw [hSY] at hq
 have hrq2:∀(pn:Option Addr) (cn bn on:Nat) (qs:Option Addr) (cs bs os:Nat) (w':World),Sl w' parV 8 X.N.ps pn X.N.ps.length bn on->Sl w' synV 4 SY qs SY.length bs os->Sl w' evtV 2 l pe l.length be oe->Calls Tryz.prog 28 #[.agg #[.slice pn X.N.ps.length cn,.int .i64 X.N.inputs,.slice qs SY.length cs],.slice pe l.length ce,.int .i64 (T:Int)] w' fun e w''=>∃y:Option Addr×Nat,e=.returned (.tuple #[.slice y.1 O.length y.2,.int .i64 0])/\True/\St w' [] [.vec y.1 O.length y.2 67 2 (flat evtV O)] w'':=by
  rw [<-hSY]
  exact hrq
 have hcmp2:=fun (w':World) h h' h''=>(hcmp w' h h' h'').mono fun e w'' g=>g.2 hmT
 clear hcmp hrq hrr hrnN hrnQ
 have hsm:=fun (p:Option Addr) (c b o:Nat) (q:Option Addr) (d b2 o2:Nat) (w':World) h h'=>same8_any O O hOw hOw p c b o q d b2 o2 w' h h' qZ
 have hA0:=hAB m
 have hB0:=hBB m
 have h20:X.N.ps.length<=20:=hps20
 have heq:=fun (A B:List Int) (hAw:A.length<=X.N.ps.length/\∀k∈A,0<=k/\k<X.N.ps.length) (hBw:B.length<=(qNet X.N X.C).ps.length/\∀k∈B,0<=k/\k<(qNet X.N X.C).ps.length) (pa:Option Addr) (ca ba oa:Nat) (pb:Option Addr) (cb bb ob:Nat) (w':World) h h'=>equal8_any A B qZ pa ca ba oa pb cb bb ob w' (fun k hk=>by have:=hAw.2 k hk;unfold I64;omega) (fun k hk=>by have:=hBw.2 k hk;unfold I64;omega) h h'
 obtain ⟨A,hAe⟩:=gX (rnSpk X.N l m)
 obtain ⟨B,hBe⟩:=gX (rnSpk (qNet X.N X.C) l m)
 rw [hAe,hBe] at hne hcmp2
 rw [hAe] at hA0
 rw [hBe] at hB0
 unfold CsX.v at hr ⊢
 unfold PlnX.net chpC at hrun hcmp2
 unfold PlnX.net at hq
 unfold wrkV at hrun
 dsimp only at hr ⊢
 refine enter (C:=Tryz.cx) (F:=Tryz.fx7) (args:=[_]) Tryz.func7 rfl rfl rfl Tryz.ok7 (St.start w []) ?_
 repeat' (conv=>whnf);first|(refine VNew.mk fun b10=>?_)|(refine VCall.isF 19 ?_;(refine VCall.genR (fun w' hw'=>hr w' (hYd.keep hw')) ?_;rintro r hrr;obtain rfl:r=true:=hrr.2 ⟨hF,hrt⟩;clear hrr))|(refine VCall.isF 13 ?_;(refine VCall.genR (fun w' hw'=>hrun w' (hX.rd hw' qZ) (h1.keep hw' (by simp)) (h2.keep hw' (by simp))) ?_;rintro ⟨q1,c1⟩ _))|(refine VCall.isF 27 ?_;(refine VCall.genR (fun w' hw'=>hq w' (hX.rd hw' qZ)) ?_;rintro ⟨y,y1,y2⟩ _))|(refine VCall.isF 24 ?_;(refine VCall.genR (fun w' hw'=>hcmp2 w' (hX.rd hw' qZ) (h1.keep hw' (by simp)) (h2.keep hw' (by simp))) ?_;rintro ⟨⟨na,nc⟩,nb,nd⟩ _))|(refine VCall.isF 29 ?_;(refine VCall.genR (fun w' hw'=>hnew w' (hps.keep hw' (by simp)) (hss.keep hw' (by simp))) ?_;rintro x0 hx0))|(refine VCall.isF 28 ?_;(refine VCall.fst8 (.agg #[.slice y.pp X.N.ps.length y.cp,.int .i64 X.N.inputs,.slice y.ps SY.length y.cs]) ?_;refine VCall.genR (fun w' hw'=>Exists.elim (Sl.own (f:=parV) (l:=X.N.ps) (p:=y.pp) (k:=8) hw' aT (fun _=>rfl) rfl) fun ba ha=>Exists.elim (Sl.own (f:=synV) (l:=SY) (p:=y.ps) (k:=4) hw' aT (fun _=>rfl) rfl) fun bb hb=>hrq2 y.pp y.cp ba 0 y.ps y.cs bb 0 w' ha hb (h2.keep hw' (by simp))) ?_;rintro ⟨q2,c2⟩ _))|(refine VCall.isF 16 ?_;(refine VCall.fst8 (.slice q1 O.length c1) ?_;refine VCall.genR (fun w' hw'=>Exists.elim (Sl.own (f:=evtV) (l:=O) (p:=q1) (k:=2) hw' aT (fun _=>rfl) rfl) fun ba ha=>Exists.elim (Sl.own (f:=evtV) (l:=O) (p:=q2) (k:=2) hw' aT (fun _=>rfl) rfl) fun bb hb=>hsm q1 c1 ba 0 q2 c2 bb 0 w' ha hb) ?_;rintro r hr;obtain rfl:r=true:=hr.2 rfl;clear hr))|(refine VCall.isF 26 ?_;(refine VCall.genR (fun w' hw'=>Exists.elim (Sl.own (f:=intV) (l:=A) (p:=na) (k:=1) hw' aT (fun _=>rfl) rfl) fun ba ha=>Exists.elim (Sl.own (f:=intV) (l:=B) (p:=nb) (k:=1) hw' aT (fun _=>rfl) rfl) fun bb hb=>heq A B hA0 hB0 na nc ba 0 nb nd bb 0 w' ha hb) ?_;rintro r hr;obtain rfl:r=false:=(by cases r;rfl;exact absurd (hr.1 rfl) hne);clear hr))|refine VSeq.go ?_|refine oN fun _=>?_|refine oL ?_|refine oT ?_
 all_goals (conv=>whnf)
 rename_i b1 _ _ _ _ _ _ _ _ _ _ _ _ _
 clear hr hrun hq hrq2 hcmp2 hsm hnew
 refine VLoop.mk (α:=Nat×SimM) (fun z=>z.1<=m+1/\SimAt z.2 X.N l z.1) (fun z=>[(1000000,.tuple #[]),(1,.pointer (some ⟨b1,0,none⟩)),(2,.bool false),(3,.slice q1 O.length c1),(10,.pointer (some ⟨b10,0,none⟩)),(14,.pointer (some ⟨z.2.b,0,none⟩)),(15,.int .i64 (z.1:Int))]) (fun z=>.row b1 33 [.slice X.pn X.N.ps.length X.cn,.int .i64 X.N.inputs,.slice X.qs X.N.syns.length X.cs,.int .i64 X.C.mesh.wide,.int .i64 X.C.mesh.high,.int .i64 X.C.mesh.room,.int .i64 X.C.nr,.int .i64 X.C.sy,.int .i64 X.C.en,.int .i64 X.C.bits,.slice X.pd X.C.dead.length X.cd,.slice pc cores.length cc,.slice pe l.length ce,.int .i64 (T:Int)]::.row b10 72 [.int .i64 (m:Int),.slice na A.length nc,.slice nb B.length nd]::.vec q1 O.length c1 67 2 (flat evtV O)::.vec na A.length nc 3 1 (flat intV A)::.vec nb B.length nd 3 1 (flat intV B)::(ownH z.2++shrH z.2)) (fun z=>m+1 - z.1) (0,x0) ⟨qB _,hx0 l⟩ aE (by unfold simH;exact aH) ?_
 rintro ⟨t,x⟩ ⟨htm,hx⟩
 dsimp only at htm hx ⊢
 rcases qy t (m+1) with htT|htT
 ·have hasc:=hev.ins (t:Int)
  have hsp:=hAB t
  have hsq:=hBB t
  have hO2:=hOi t
  rw [jk qZ] at hO2
  have hev2:=hev.range
  have hi1:=fun (w':World) h=>at8_any l (by have:=hev.few;omega) (t:Int) (by unfold I64;omega) (fun e he=>(hlw e he).1) pe ce be oe w' h
  have hi2:=fun (q:Option Addr) (c b o:Nat) (w':World) h=>at8_any O qZ (t:Int) (by unfold I64;omega) (fun e he=>(hOw e he).1) q c b o w' h
  rw [hO2] at hi2
  have hnx:=hx.step qZ hev
  have hsv:=fun {w0:World} {M:List Nat} {H:HP} {Z:HP->HP} {K:Value->HP->Prop}=>step8_vc (w0:=w0) (M:=M) (H:=H) (Z:=Z) (K:=K) x hx qZ hev _ rfl _ rfl
  have hlt:=hlo t
  obtain ⟨I,hI⟩:=gX (insOf l (t:Int))
  obtain ⟨P,hPe⟩:=gX (rnSpk X.N l t)
  obtain ⟨Q,hQe⟩:=gX (rnSpk (qNet X.N X.C) l t)
  rw [hI] at hi1 hsv hasc hnx
  rw [hPe] at hsv hsp hlt
  rw [hQe] at hi2 hsq hlt
  have hxb:(simStep x I).b=x.b:=rfl
  by_cases htm2:t<m
  ·have hab:=hlt htm2
   repeat' (conv=>whnf);first|(refine VCall.isF 31 ?_;(refine VCall.fst8 (.slice pe l.length ce) ?_;refine VCall.genR (fun w' hw'=>hi1 w' (h2.keep hw' (by simp))) ?_;rintro ⟨pi,ci⟩ _;dsimp only))|(refine VCall.isF 31 ?_;(refine VCall.fst8 (.slice q1 O.length c1) ?_;refine VCall.genR (fun w' hw'=>Exists.elim (Sl.own (f:=evtV) (l:=O) (k:=2) hw' aT (fun _=>rfl) rfl) fun bq hq=>hi2 q1 c1 bq 0 w' hq) ?_;rintro ⟨pb,cb⟩ _;dsimp only))|(refine VCall.isF 30 ?_;(refine hsv _ _ _ rfl aS aH (fun w hw=>Exists.elim (Sl.vecOut (f:=intV) (l:=I) (k:=1) (p:=pi) (n:=I.length) (cap:=ci) (e:=3) (S:=ownH x) hw aH (fun _=>rfl) rfl) fun b hb=>⟨b,0,hb.1,hb.2⟩) ?_;intro pa ca hpa))|(refine VCall.isF 26 ?_;(refine VCall.genR (fun w' hw'=>Exists.elim (Sl.own (f:=intV) (l:=P) (p:=pa) (k:=1) hw' aT (fun _=>rfl) rfl) fun ba ha=>Exists.elim (Sl.own (f:=intV) (l:=Q) (p:=pb) (k:=1) hw' aT (fun _=>rfl) rfl) fun bb hb=>heq P Q hsp hsq pa ca ba 0 pb cb bb 0 w' ha hb) ?_;rintro r hr;obtain rfl:r=true:=hr.2 hab;clear hr))|refine VSeq.go ?_|refine oY fun _=>?_|refine oN fun _=>?_|refine oL ?_|refine oA ?_
   all_goals (conv=>whnf)
   refine VNext.mk (t+1,simStep x I) ⟨by dsimp only;omega,hnx⟩ (by dsimp only;omega) aE aH
  ·have htm3:t=m:=by omega
   subst htm3
   rw [hAe] at hPe
   rw [hBe] at hQe
   subst hPe hQe
   repeat' (conv=>whnf);first|(refine VCall.isF 31 ?_;(refine VCall.fst8 (.slice pe l.length ce) ?_;refine VCall.genR (fun w' hw'=>hi1 w' (h2.keep hw' (by simp))) ?_;rintro ⟨pi,ci⟩ _;dsimp only))|(refine VCall.isF 31 ?_;(refine VCall.fst8 (.slice q1 O.length c1) ?_;refine VCall.genR (fun w' hw'=>Exists.elim (Sl.own (f:=evtV) (l:=O) (k:=2) hw' aT (fun _=>rfl) rfl) fun bq hq=>hi2 q1 c1 bq 0 w' hq) ?_;rintro ⟨pb,cb⟩ _;dsimp only))|(refine VCall.isF 30 ?_;(refine hsv _ _ _ rfl aS aH (fun w hw=>Exists.elim (Sl.vecOut (f:=intV) (l:=I) (k:=1) (p:=pi) (n:=I.length) (cap:=ci) (e:=3) (S:=ownH x) hw aH (fun _=>rfl) rfl) fun b hb=>⟨b,0,hb.1,hb.2⟩) ?_;intro pa ca hpa))|(refine VCall.isF 26 ?_;(refine VCall.fst8 (.slice pa A.length ca) ?_;refine VCall.genR (fun w' hw'=>Exists.elim (Sl.own (f:=intV) (l:=A) (p:=pa) (k:=1) hw' aT (fun _=>rfl) rfl) fun ba ha=>Exists.elim (Sl.own (f:=intV) (l:=A) (p:=na) (k:=1) hw' aT (fun _=>rfl) rfl) fun bb hb=>heq A A hsp hsp pa ca ba 0 na nc bb 0 w' ha hb) ?_;rintro r hr;obtain rfl:r=true:=hr.2 rfl;clear hr))|(refine VCall.isF 26 ?_;(refine VCall.fst8 (.slice pb B.length cb) ?_;refine VCall.genR (fun w' hw'=>Exists.elim (Sl.own (f:=intV) (l:=B) (p:=pb) (k:=1) hw' aT (fun _=>rfl) rfl) fun ba ha=>Exists.elim (Sl.own (f:=intV) (l:=B) (p:=nb) (k:=1) hw' aT (fun _=>rfl) rfl) fun bb hb=>heq B B hsq hsq pb cb ba 0 nb nd bb 0 w' ha hb) ?_;rintro r hr;obtain rfl:r=true:=hr.2 rfl;clear hr))|refine VSeq.go ?_|refine oY fun _=>?_|refine oN fun _=>?_|refine oL ?_|refine oA ?_
   all_goals (conv=>whnf)
   refine VNext.mk (t+1,simStep x I) ⟨by dsimp only;omega,hnx⟩ (by dsimp only;omega) aE aH
 ·repeat' (conv=>whnf);first|(refine VCall.isF 12 ?_;(refine VCall.valR (fun w' _=>works8_any w') ?_))|refine VSeq.go ?_|refine oN fun _=>?_|refine oL ?_
  all_goals (conv=>whnf)
  exact ⟨fun w' hw'=>⟨rfl,hw'.le .nil⟩⟩
theorem ChipSame_any (Y:CsX)(w:World)(hY:CsRd Y w):
  Calls Tryz.prog 7 #[.agg Y.v.toArray] w fun e w'=>e=.returned (.bool true)/\St w [] [] w':=by
 by_cases hg:Few8 Y/\plErr Y.X.N Y.X.C Y.cores Y.l Y.ticks=0
 ·obtain ⟨m,h1,h2,h3⟩:=first_diff (fun t=>rnSpk Y.X.N Y.l t=rnSpk (qNet Y.X.N Y.X.C) Y.l t) Y.ticks.toNat
  by_cases hm:m<Y.ticks.toNat
  ·exact ChipSame_diff Y w hY hg.1 hg.2 m hm h2 (h3 hm)
  ·exact ChipSame_same Y w hY hg.1 hg.2 fun t ht=>h2 t qZ
 ·exact ChipSame_bad Y w hY hg
end Go.Proofs
