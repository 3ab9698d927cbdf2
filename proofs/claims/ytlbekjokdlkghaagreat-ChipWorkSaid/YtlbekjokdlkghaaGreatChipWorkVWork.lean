import Derived.Test.YtlbekjokdlkghaaGreatChipWorkZx
set_option linter.unusedVariables false
set_option linter.unusedSimpArgs false
set_option maxHeartbeats 4000000
namespace Go.Gm
open Go.Proofs
theorem cnt8_take {α:Type}{p:α->Bool}{L:List α}{i:Nat}{e:α}(h:L[i]? =some e):(L.take (i+1)).countP p=(L.take i).countP p+if p e then 1 else 0:=by
 rw [qi,h,qW,List.countP_append,List.countP_singleton]
theorem cnt8_le {α:Type}(p:α->Bool)(L:List α)(i:Nat):(L.take i).countP p<=i:=by
 refine Qb qT ?_
 rw [qh];omega
theorem sumR_bound {f:Nat->Nat}{B:Nat}(h:∀k,f k<=B):∀(j:Nat),sumR f j<=j*B
 |0=>by simp [sumR]
 |j+1=>by
  have:=sumR_bound h j
  have:=h j
  rw [sumR_next,QD]
  omega
section
variable {N : Net} {C : Chp} {cores : List Int} {l : List Evt}
theorem sum_bound8 {α:Type}{f:α->Nat}{B:Nat}:∀{L:List α},(∀x∈L,f x<=B)->(L.map f).sum<=L.length*B
 |[],_=>by simp
 |a::L,h=>by
  have h1:=sum_bound8 (L:=L) fun x hx=>h x (qu _ hx)
  have h2:=h a qg
  rw [qI,List.sum_cons,qR,QD]
  omega
theorem steps_few (hA:AsgOk N C cores):stepsF N C cores<=nSrc N*960:=by
 have h1:stepsF N C cores<=(wavesF N C cores).length*960:=sum_bound8 fun x hx=>by
  obtain ⟨w,hw⟩:=jh hx
  have hwl:=(qx.1 hw).1
  have:=(snd_last hA (fun _=>true) hwl).2
  have hT:wvT N C cores w=x:=by unfold wvT;rw [hw];rfl
  unfold wvD wvL at this
  rw [hT] at this
  exact this
 exact Qb h1 (Qj _ (wavesN_few N C cores))
theorem sent_few {O:List Evt}{T B:Nat}(h1:O.length<=B)(h2:l.length<=B)(k:Nat):sentK N O l T k<=B:=by
 unfold sentK
 split
 ·exact Qb qT h1
 ·exact Qb qT h2
theorem tg_tree8 (hA:AsgOk N C cores){k:Int}(hk0:0<=k):treeM C.mesh.wide (nCores C) (homeM N cores k) (tgL N cores k N.syns)=srcTree N C cores k/\∀x∈tgL N cores k N.syns,0<=x/\x<C.mesh.wide*C.mesh.high:=by
 have hmem:∀x,x∈tgL N cores k N.syns<->x∈coresM N C cores k:=by
  intro x
  unfold tgL coresM
  rw [qo,qP,jy,qo]
  obtain ⟨hcells,hn1,hn64⟩:=nCores_ok hA.plan.chip
  constructor
  ·rintro ⟨s,hs,rfl⟩
   rw [qP,jy] at hs
   have hto:=(hA.plan.net.syns s hs.1).2.1
   have hl:s.to.toNat<cores.length:=by rw [hA.len];omega
   have hr:=(hA.core _ (Qu hl)).1
   rw [qq hl,qY]
   exact ⟨⟨(cores[s.to.toNat]).toNat,qL.2 (by omega),by omega⟩,s,hs.1,hs.2,qq hl⟩
  ·rintro ⟨_,s,hs,hk,hc⟩
   exact ⟨s,qP.2 ⟨hs,by simpa using hk⟩,by rw [hc];rfl⟩
 have hr:∀x∈tgL N cores k N.syns,0<=x/\x<C.mesh.wide*C.mesh.high:=fun x hx=>core_range hA ((hmem x).1 hx)
 refine ⟨?_,hr⟩
 have hW:=hA.plan.chip.mesh
 obtain ⟨hcells,hn1,hn64⟩:=nCores_ok hA.plan.chip
 unfold srcTree nCores
 exact tree_same (by have:=hW.wide;omega) ⟨(home_range hA k hk0).1,by rw [<-hcells];exact (home_range hA k hk0).2⟩ hr hmem
end
end Go.Gm
namespace Go.Proofs
open Go Go.Vx Go.Gm
theorem ChipWork_bad (Y:CsX)(w:World)(hY:CsRd Y w)(hg:¬(Few8 Y/\plErr Y.X.N Y.X.C Y.cores Y.l Y.ticks=0)):
  Calls Tryz.prog 5 #[.agg Y.v.toArray] w fun e w'=>e=.returned (.bool true)/\St w [] [] w':=by
 have hr:=fun (w':World) h=>runs8_any Y w' h
 unfold CsX.v at hr ⊢
 refine enter (C:=Tryz.cx) (F:=Tryz.fx5) (args:=[_]) Tryz.func5 rfl rfl rfl Tryz.ok5 (St.start w []) ?_
 repeat' (conv=>whnf);first|(refine VNew.mk fun b1=>?_)|(refine VCall.isF 19 ?_;(refine VCall.genR (fun w' hw'=>hr w' (hY.keep hw')) ?_;rintro r hrr;obtain rfl:r=false:=(by cases r;rfl;exact absurd (hrr.1 rfl) hg)))|(refine VCall.isF 12 ?_;(refine VCall.valR (fun w' _=>works8_any w') ?_))|refine VSeq.go ?_|refine oL ?_
 all_goals (conv=>whnf)
 exact ⟨fun w' hw'=>⟨rfl,hw'.le .nil⟩⟩
theorem ChipWork_good (Y:CsX)(w:World)(hY:CsRd Y w)(hF:Few8 Y)(he:plErr Y.X.N Y.X.C Y.cores Y.l Y.ticks=0):
  Calls Tryz.prog 5 #[.agg Y.v.toArray] w fun e w'=>e=.returned (.bool true)/\St w [] [] w':=by
 have hrt:=he
 have hr:=fun (w':World) h=>runs8_any Y w' h
 have htg0:=fun hok hlen (k:Int) hk (w':World) h=>targets8_any Y w' h hok hlen k hk
 have hYd:=hY
 obtain ⟨X,cores,pc,cc,l,pe,ce,ticks⟩:=Y
 obtain ⟨hX,hcw,⟨bc,oc,h1⟩,hlw,⟨be,oe,h2⟩,hce,hti⟩:=hY
 unfold Few8 at hF
 dsimp only at hX hcw h1 hlw h2 hce hti hF he hr htg0 hrt
 have hrun:=fun (w':World) (hw':PlnRd X w') h h'=>chipRun_any X w' hw' cores hcw (by have:=hF.2.2.2.1;omega) pc cc bc oc h l hlw pe ce be oe h' hce ticks hti
 have hm0:mapErr X.N X.C cores=0:=jg fun h=>by unfold plErr at he;rw [jw h] at he;exact h he
 have hp0:prepErr (net1 X.N.inputs) l ticks 10000=0:=jg fun h=>by unfold plErr at he;rw [jk (by rw [hm0];simp),jw h] at he;exact h he
 have ho:¬overB X.N X.C cores l ticks.toNat:=fun h=>by
  unfold plErr at he
  rw [jk (by rw [hm0];simp),jk (by rw [hp0];simp),jw h] at he
  cases he
 obtain ⟨_,hT,hev⟩:=prep_zero.1 hp0
 obtain ⟨T,rfl⟩:∃T:Nat,ticks=(T:Int):=⟨ticks.toNat,by omega⟩
 rw [jf] at ho
 unfold overB at ho
 obtain ⟨hA, -⟩:=mapErr_asg hm0
 have hmp:=fun (w':World) hw' h=>placeMap8 X w' hw' cores hcw pc cc bc oc h hm0
 have hok:=hA.plan.net
 have hlen:=hA.len
 have hdl:=hF.2.2.1
 have hT80:T<=80:=by have:=hF.2.2.2.2.2;omega
 have hrr:run8 X.N X.C cores l (T:Int)=(rkOut X.N X.C cores l T,(rkAt X.N X.C cores l T).2,0):=by
  unfold run8
  rw [jk (by rw [he];simp),jf]
 rw [hrr] at hrun
 dsimp only at hrun
 have hwk:=wk_is hA hev T
 have hin:0<=X.N.inputs/\X.N.inputs<=256:=hok.inputs
 have hns1:=hok.some
 have hns:((nSrc X.N:Nat):Int)=X.N.ps.length+X.N.inputs:=by unfold nSrc;omega
 have hsf:=sent_few (N:=X.N) (O:=rkOut X.N X.C cores l T) (l:=l) (T:=T) (B:=65546) qZ (by have:=hF.2.2.2.2.1;omega)
 have hstep:=steps_few hA
 have hN20:=hF.1
 have hS70:=hF.2.1
 obtain ⟨nS,hnS⟩:=gX (nSrc X.N)
 have hnS2:nS<=276:=by omega
 have hnKf:∀k,nK X.N k<=70:=fun k=>Qb qT hS70
 obtain ⟨hcells,hn1,hn64⟩:=nCores_ok hA.plan.chip
 have hlk:∀k:Int,linksM (srcTree X.N X.C cores k)<=256:=fun k=>by
  have:=linksM_le (srcTree X.N X.C cores k)
  have h3:(srcTree X.N X.C cores k).length=nCores X.C:=by unfold srcTree;exact tree_length _ _ _ _
  omega
 have hPb:∀j,sumR (pkK X.N X.C cores l T) j<=j*65546:=sumR_bound fun k=>by unfold pkK;split;omega;exact hsf k
 have hHb:∀j,sumR (hpK X.N X.C cores l T) j<=j*16779776:=sumR_bound fun k=>by
  unfold hpK;split
  ·omega
  ·have:=Nat.mul_le_mul (hsf k) (hlk k);omega
 have hRb:∀j,sumR (rwK X.N X.C cores l T) j<=j*4588220:=sumR_bound fun k=>by
  unfold rwK;split
  ·omega
  ·have:=Nat.mul_le_mul (hsf k) (hnKf k);omega
 obtain ⟨W,hW⟩:=gX ((rkAt X.N X.C cores l T).2)
 obtain ⟨O,hO⟩:=gX (rkOut X.N X.C cores l T)
 rw [hW] at hwk hrun
 rw [hO] at ho hrun hsf
 have hpk0:∀j,sumR (pkK X.N X.C cores l T) (j+1)=sumR (pkK X.N X.C cores l T) j+if nK X.N (j:Int)=0 then 0 else sentK X.N O l T j:=fun j=>by rw [sumR_next];unfold pkK;rw [hO]
 have hhp0:∀j,sumR (hpK X.N X.C cores l T) (j+1)=sumR (hpK X.N X.C cores l T) j+if nK X.N (j:Int)=0 then 0 else sentK X.N O l T j*linksM (srcTree X.N X.C cores j):=fun j=>by rw [sumR_next];unfold hpK;rw [hO]
 have hrw0:∀j,sumR (rwK X.N X.C cores l T) (j+1)=sumR (rwK X.N X.C cores l T) j+if nK X.N (j:Int)=0 then 0 else sentK X.N O l T j*nK X.N (j:Int):=fun j=>by rw [sumR_next];unfold rwK;rw [hO]
 obtain ⟨wt,wu,ws,wp,wh,wa,wr,wst,wm⟩:=W
 obtain ⟨i1,i2,i3,i4,i5,i6,AA,SS,MM,j1,j2,j3,j4,j5,j6,j7,j8⟩:=hwk
 dsimp only at i1 i2 i3 i4 i5 i6 j1 j2 j3
 rw [hO] at i3
 rw [hnS] at i4 i5 i6 j4 j8 hns hstep
 subst wt wu ws wp wh wa wr wst wm
 have hrun2:∀w':World,PlnRd X w'->Sl w' intV 1 cores pc cores.length bc oc->Sl w' evtV 2 l pe l.length be oe->Calls Tryz.prog 13 #[.agg X.net.toArray,.agg (chpC X.C X.pd X.cd).toArray,.slice pc cores.length cc,.slice pe l.length ce,.int .i64 (T:Int)] w' fun e w''=>∃y:Option Addr×Nat,e=.returned (.tuple #[.slice y.1 O.length y.2,.agg #[.int .i64 (T:Int),.int .i64 ((T:Int)*X.N.ps.length),.int .i64 (O.length:Int),.int .i64 (sumR (pkK X.N X.C cores l T) nS:Int),.int .i64 (sumR (hpK X.N X.C cores l T) nS:Int),.int .i64 (AA:Int),.int .i64 (sumR (rwK X.N X.C cores l T) nS:Int),.int .i64 (SS:Int),.int .i64 (MM:Int)],.int .i64 0])/\(0<O.length->∃g,y.1=some ⟨g,0,none⟩)/\St w' [] [.vec y.1 O.length y.2 67 2 (flat evtV O)] w'':=
  fun w' h h' h''=>(hrun w' h h' h'').mono fun e w'' ⟨y,e1,_,e3⟩=>⟨y,e1,(vec_facts (e3.own _ qg)).2.1,e3⟩
 have hmp2:∃(nc nw:Nat) (ex:Bool) (co lo:Int),∀w':World,PlnRd X w'->Sl w' intV 1 cores pc cores.length bc oc->Calls Tryz.prog 20 #[.agg X.net.toArray,.agg (chpC X.C X.pd X.cd).toArray,.slice pc cores.length cc] w' fun e w''=>∃y:MapP,e=.returned (.tuple #[.agg #[.slice y.pc X.N.ps.length y.cc,.slice y.ps X.N.ps.length y.cs,.slice y.y.pp X.N.ps.length y.y.cp,.int .i64 X.N.inputs,.slice y.y.ps X.N.syns.length y.y.cs,.slice y.y.pz X.N.ps.length y.y.cz,.slice y.y.pq X.N.syns.length y.y.cq,.slice y.y.pe X.N.ps.length y.y.ce,.bool ex,
   .slice y.pr nc y.cr,.slice y.pt nc y.ct,.slice y.pw nw y.cw,.int .i64 co,.int .i64 lo,.int .i64 (stepsF X.N X.C cores:Int)],.int .i64 0])/\True/\St w' [] [] w'':=
  ⟨_,_,_,_,_,fun w' h h'=>(hmp w' h h').mono fun e w'' ⟨y,e1,_,e3⟩=>⟨y,e1,trivial,e3.le .nil⟩⟩
 obtain ⟨nc,nw,ex,co,lo,hmp2⟩:=hmp2
 clear hrun hmp hrr
 have htg:=fun (k:Int) hk (w':World) h=>htg0 hok hlen k hk w' h
 clear htg0
 have htree:=fun (k:Int) hk=>tg_tree8 hA (k:=k) hk
 have hmesh:=hA.plan.chip.mesh
 have hmw:=hX.chip.mesh
 have hcr:∀i x,cores[i]? =some x->0<=x/\x<X.C.mesh.wide*X.C.mesh.high:=fun i x h=>(hA.core x (qz h)).1
 obtain ⟨stp,hstp⟩:=gX (stepsF X.N X.C cores)
 rw [hstp] at hmp2 j5 j6 hstep
 obtain ⟨P,hP⟩:=gX (sumR (pkK X.N X.C cores l T))
 obtain ⟨Q,hQ⟩:=gX (sumR (hpK X.N X.C cores l T))
 obtain ⟨R,hR⟩:=gX (sumR (rwK X.N X.C cores l T))
 rw [hP] at hPb hpk0 j4 j8 hrun2
 rw [hQ] at hHb hhp0 hrun2
 rw [hR] at hRb hrw0 hrun2
 have hP0:P 0=0:=by rw [<-hP];rfl
 have hQ0:Q 0=0:=by rw [<-hQ];rfl
 have hR0:R 0=0:=by rw [<-hR];rfl
 clear hP hQ hR hW hO hp0 hm0 he hnS
 unfold CsX.v at hr htg ⊢
 unfold PlnX.net chpC at hrun2 hmp2
 dsimp only at hr htg ⊢
 refine enter (C:=Tryz.cx) (F:=Tryz.fx5) (args:=[_]) Tryz.func5 rfl rfl rfl Tryz.ok5 (St.start w []) ?_
 repeat' (conv=>whnf);first|(refine VNew.mk fun b6=>?_)|(refine VCall.isF 19 ?_;(refine VCall.genR (fun w' hw'=>hr w' (hYd.keep hw')) ?_;rintro r hrr;obtain rfl:r=true:=hrr.2 ⟨hF,hrt⟩;clear hrr))|(refine VCall.isF 13 ?_;(refine VCall.genR (fun w' hw'=>hrun2 w' (hX.rd hw' qZ) (h1.keep hw' (by simp)) (h2.keep hw' (by simp))) ?_;rintro ⟨q,qc⟩ hq;dsimp only at hq))|(refine VCall.isF 20 ?_;(refine VCall.genR (fun w' hw'=>hmp2 w' (hX.rd hw' qZ) (h1.keep hw' (by simp))) ?_;rintro y hy))|refine VSeq.go ?_|refine oN fun _=>?_|refine oL ?_|refine oT ?_
 all_goals (conv=>whnf)
 rename_i b1 b4 _ _ _
 clear hr hrun2 hmp2
 refine VLoop.mk (α:=Nat) (fun j=>j<=nS) (fun j=>[(1000000,.tuple #[]),(1,.pointer (some ⟨b1,0,none⟩)),(2,.bool false),(3,.slice q O.length qc),(4,.pointer (some ⟨b4,0,none⟩)),(6,.pointer (some ⟨b6,0,none⟩)),(8,.int .i64 (P j:Int)),(9,.int .i64 (Q j:Int)),(10,.int .i64 (R j:Int)),(11,.int .i64 (j:Int))]) (fun j=>.row b1 33 [.slice X.pn X.N.ps.length X.cn,.int .i64 X.N.inputs,.slice X.qs X.N.syns.length X.cs,.int .i64 X.C.mesh.wide,.int .i64 X.C.mesh.high,.int .i64 X.C.mesh.room,.int .i64 X.C.nr,.int .i64 X.C.sy,.int .i64 X.C.en,.int .i64 X.C.bits,.slice X.pd X.C.dead.length X.cd,.slice pc cores.length cc,.slice pe l.length ce,.int .i64 (T:Int)]::.row b4 36 [.int .i64 (T:Int),.int .i64 ((T:Int)*X.N.ps.length),.int .i64 (O.length:Int),.int .i64 (P nS:Int),.int .i64 (Q nS:Int),.int .i64 (AA:Int),.int .i64 (R nS:Int),.int .i64 (SS:Int),.int .i64 (MM:Int)]::.row b6 61 [.slice y.pc X.N.ps.length y.cc,.slice y.ps X.N.ps.length y.cs,.slice y.y.pp X.N.ps.length y.y.cp,.int .i64 X.N.inputs,.slice y.y.ps X.N.syns.length y.y.cs,.slice y.y.pz X.N.ps.length y.y.cz,.slice y.y.pq X.N.syns.length y.y.cq,.slice y.y.pe X.N.ps.length y.y.ce,.bool ex,.slice y.pr nc y.cr,.slice y.pt nc y.ct,.slice y.pw nw y.cw,.int .i64 co,.int .i64 lo,.int .i64 (stp:Int)]::.vec q O.length qc 67 2 (flat evtV O)::[]) (fun j=>nS - j) 0 (qB _) (by rw [hP0,hQ0,hR0];exact aE) aH ?_
 intro j hj
 have hPj:=hPb j
 have hQj:=hHb j
 have hRj:=hRb j
 have hPs:=hPb nS
 have hQs:=hHb nS
 have hRs:=hRb nS
 rcases qy j nS with hlj|hgj
 ·have hpk:=hpk0 j
  have hhp:=hhp0 j
  have hrw:=hrw0 j
  have hsj:=hsf j
  have hnKj:=hnKf (j:Int)
  have hlkj:=hlk (j:Int)
  obtain ⟨htr,htin⟩:=htree (j:Int) qZ
  have htgj:=htg (j:Int) (by unfold I64;omega)
  have hTL:(tgL X.N cores (j:Int) X.N.syns).length=nK X.N (j:Int):=tgL_len _ _ _ _
  obtain ⟨TL,hTLe⟩:=gX (tgL X.N cores (j:Int) X.N.syns)
  obtain ⟨TR,hTRe⟩:=gX (srcTree X.N X.C cores (j:Int))
  have hTRl:TR.length=nCores X.C:=by rw [<-hTRe];unfold srcTree;exact tree_length _ _ _ _
  have hTRo:OutsOk TR:=by rw [<-hTRe];exact tree_ok _ _ _ _
  rw [hTLe] at htr htin htgj hTL
  rw [hTRe] at htr hhp hlkj
  rw [<-hTL] at hpk hhp hrw hnKj
  clear hpk0 hhp0 hrw0 hsf hnKf hlk htree htg hPb hHb hRb
  by_cases hn0:TL.length=0
  ·rw [jw hn0,Nat.add_zero] at hpk hhp hrw
   repeat' (conv=>whnf);first|(refine VCall.isF 21 ?_;(refine VCall.genR (fun w' hw'=>htgj w' (hYd.keep hw')) ?_;rintro ⟨tp,tc⟩ _))|refine VSeq.go ?_|refine oY fun _=>?_|refine oL ?_|refine oA ?_
   all_goals (conv=>whnf)
   refine VNext.mk (j+1) qZ qZ ?_ aH
   dsimp only
   rw [hpk,hhp,hrw]
   exact aE
  ·rw [jk hn0] at hpk hhp hrw
   obtain ⟨hmk,hmE⟩:=gX (homeM X.N cores (j:Int))
   have hmr:=home_range hA (key:=(j:Int)) qZ
   rw [hmE] at htr hmr
   have hTR:treeR X.C.mesh hmk TL=(TR,0):=by
    have hz:knownE X.C.mesh (hmk::TL)=0:=knownE_zero.2 ⟨hmesh,fun x hx=>by
     rcases qQ.1 hx with rfl|hx
     ·exact hmr
     ·exact htin x hx⟩
    unfold treeR
    rw [hz,jk (by simp),jk (fun e=>hn0 (by rw [e];rfl)),<-htr]
    rfl
   have hI64:∀x∈TL,I64 x:=fun x hx=>by
    have:=htin x hx
    unfold I64;omega
   have hcall:=fun (p:Option Addr) (c b o:Nat) (w':World) h=>meshTree_any X.C.mesh hmw hmk (by unfold I64;omega) TL hI64 qZ p c b o w' h
   rw [hTR] at hcall
   unfold spcC at hcall
   dsimp only at hcall
   have hbits:=fun (p:Option Addr) (c b o:Nat) (w':World) h=>bits8_any TR hTRo qZ p c b o w' h
   obtain ⟨SJ,hSJ⟩:=gX (sentK X.N O l T j)
   rw [hSJ] at hpk hhp hrw hsj
   unfold sentK at hSJ
   obtain ⟨LN,hLN⟩:=gX (linksM TR)
   rw [hLN] at hhp hlkj hbits
   obtain ⟨PL,hPL⟩:=gX (SJ*LN)
   obtain ⟨RL,hRL⟩:=gX (SJ*TL.length)
   have hPL2:PL<=65546*256:=by rw [<-hPL];exact Nat.mul_le_mul hsj hlkj
   have hRL2:RL<=65546*70:=by rw [<-hRL];exact Nat.mul_le_mul hsj hnKj
   have hPL3:(SJ:Int)*(LN:Int)=(PL:Int):=by rw [<-hPL];omega
   have hRL3:(SJ:Int)*(TL.length:Int)=(RL:Int):=by rw [<-hRL];omega
   rw [hPL] at hhp
   rw [hRL] at hrw
   have hhome:(j:Int)<cores.length->cores[j]? =some hmk:=fun h=>by
    have h2:=hmE
    unfold homeM at h2
    rw [jw qZ,jf] at h2
    obtain ⟨d,hd⟩:∃d,cores[j]? =some d:=⟨_,qq qZ⟩
    rw [hd,qY] at h2
    rw [hd,h2]
   have hhome2:¬(j:Int)<cores.length->hmk=0:=fun h=>by
    have h2:=hmE
    unfold homeM at h2
    rw [jk qZ] at h2
    omega
   repeat' (conv=>whnf);first|(refine VCall.isF 21 ?_;(refine VCall.genR (fun w' hw'=>htgj w' (hYd.keep hw')) ?_;rintro ⟨tp,tc⟩ _))|(refine VSeq.is ?_;refine VSeq.isN 26 rfl ?_;refine VSeq.cut (at_:=26) (α:=Unit) (fun _=>True) (fun _=>[(1000000,.tuple #[]),(1,.pointer (some ⟨b1,0,none⟩)),(2,.bool false),(3,.slice q O.length qc),(4,.pointer (some ⟨b4,0,none⟩)),(6,.pointer (some ⟨b6,0,none⟩)),(8,.int .i64 (P j:Int)),(9,.int .i64 (Q j:Int)),(10,.int .i64 (R j:Int)),(11,.int .i64 (j:Int)),(12,.slice tp TL.length tc),(13,.int .i64 (TL.length:Int)),(14,.int .i64 hmk),(15,.int .i64 (SJ:Int))]) (fun _=>.vec tp TL.length tc 3 1 (flat intV TL)::.row b1 33 [.slice X.pn X.N.ps.length X.cn,.int .i64 X.N.inputs,.slice X.qs X.N.syns.length X.cs,.int .i64 X.C.mesh.wide,.int .i64 X.C.mesh.high,.int .i64 X.C.mesh.room,.int .i64 X.C.nr,.int .i64 X.C.sy,.int .i64 X.C.en,.int .i64 X.C.bits,.slice X.pd X.C.dead.length X.cd,.slice pc cores.length cc,.slice pe l.length ce,.int .i64 (T:Int)]::.row b4 36 [.int .i64 (T:Int),.int .i64 ((T:Int)*X.N.ps.length),.int .i64 (O.length:Int),.int .i64 (P nS:Int),.int .i64 (Q nS:Int),.int .i64 (AA:Int),.int .i64 (R nS:Int),.int .i64 (SS:Int),.int .i64 (MM:Int)]::.row b6 61 [.slice y.pc X.N.ps.length y.cc,.slice y.ps X.N.ps.length y.cs,.slice y.y.pp X.N.ps.length y.y.cp,.int .i64 X.N.inputs,.slice y.y.ps X.N.syns.length y.y.cs,.slice y.y.pz X.N.ps.length y.y.cz,.slice y.y.pq X.N.syns.length y.y.cq,.slice y.y.pe X.N.ps.length y.y.ce,.bool ex,.slice y.pr nc y.cr,.slice y.pt nc y.ct,.slice y.pw nw y.cw,.int .i64 co,.int .i64 lo,.int .i64 (stp:Int)]::.vec q O.length qc 67 2 (flat evtV O)::[]) ?_ ?_)|(refine VIx.is ?_;refine VIx.mk (h1.ptr qZ) qZ qZ ?_)|(refine VLd.is ?_;refine VLd.mk (Rd.cast (h1.rd0 (by simp) (fun _=>rfl) (hhome qZ) rfl) oE) ?_)|refine VSeq.go ?_|refine oY fun _=>?_|refine oN fun _=>?_|refine oS (fun _=>?_) fun _=>?_|refine oL ?_|refine oA ?_
   all_goals (conv=>whnf)
   ·rw [jw qZ] at hSJ
    refine VLoop.mk (α:=Nat) (fun i=>i<=O.length) (fun i=>[(1000000,.tuple #[]),(1,.pointer (some ⟨b1,0,none⟩)),(2,.bool false),(3,.slice q O.length qc),(4,.pointer (some ⟨b4,0,none⟩)),(6,.pointer (some ⟨b6,0,none⟩)),(8,.int .i64 (P j:Int)),(9,.int .i64 (Q j:Int)),(10,.int .i64 (R j:Int)),(11,.int .i64 (j:Int)),(12,.slice tp TL.length tc),(13,.int .i64 (TL.length:Int)),(14,.int .i64 hmk),(15,.int .i64 ((O.take i).countP (fun e=>decide (e.id=(j:Int))):Int)),(16,.int .i64 (i:Int))]) (fun _=>.vec tp TL.length tc 3 1 (flat intV TL)::.row b1 33 [.slice X.pn X.N.ps.length X.cn,.int .i64 X.N.inputs,.slice X.qs X.N.syns.length X.cs,.int .i64 X.C.mesh.wide,.int .i64 X.C.mesh.high,.int .i64 X.C.mesh.room,.int .i64 X.C.nr,.int .i64 X.C.sy,.int .i64 X.C.en,.int .i64 X.C.bits,.slice X.pd X.C.dead.length X.cd,.slice pc cores.length cc,.slice pe l.length ce,.int .i64 (T:Int)]::.row b4 36 [.int .i64 (T:Int),.int .i64 ((T:Int)*X.N.ps.length),.int .i64 (O.length:Int),.int .i64 (P nS:Int),.int .i64 (Q nS:Int),.int .i64 (AA:Int),.int .i64 (R nS:Int),.int .i64 (SS:Int),.int .i64 (MM:Int)]::.row b6 61 [.slice y.pc X.N.ps.length y.cc,.slice y.ps X.N.ps.length y.cs,.slice y.y.pp X.N.ps.length y.y.cp,.int .i64 X.N.inputs,.slice y.y.ps X.N.syns.length y.y.cs,.slice y.y.pz X.N.ps.length y.y.cz,.slice y.y.pq X.N.syns.length y.y.cq,.slice y.y.pe X.N.ps.length y.y.ce,.bool ex,.slice y.pr nc y.cr,.slice y.pt nc y.ct,.slice y.pw nw y.cw,.int .i64 co,.int .i64 lo,.int .i64 (stp:Int)]::.vec q O.length qc 67 2 (flat evtV O)::[]) (fun i=>O.length - i) 0 (qB _) aE aH ?_
    intro i hi
    rcases qy i O.length with hli|hgi
    ·obtain ⟨g,rfl⟩:=hq qZ
     obtain ⟨e,hOe⟩:∃e,O[i]? =some e:=⟨_,qq hli⟩
     have hnx:=cnt8_take (p:=fun e:Evt=>decide (e.id=(j:Int))) hOe
     have hle:=cnt8_le (fun e:Evt=>decide (e.id=(j:Int))) O i
     obtain ⟨u,hu⟩:∃u,(O.take i).countP (fun e=>decide (e.id=(j:Int)))=u:=⟨_,rfl⟩
     rw [hu] at hnx hle ⊢
     repeat' (conv=>whnf);first|refine oI ?_|(refine VLd.is ?_;refine VLd.mk (Rd.cast (.vec aT (sub_flat (f:=evtV) (k:=2) (o:=1) (s:=1) (fun _=>rfl) hOe rfl)) oE) ?_)|refine VSeq.go ?_|refine oY fun _=>?_|refine oS (fun _=>?_) fun _=>?_|refine oA ?_
     all_goals (conv=>whnf)
     ·rw [jw (by rw [jy];omega)] at hnx
      refine VNext.mk (i+1) (show i+1<=O.length by omega) (show O.length - (i+1)<O.length - i by omega) ?_ aH
      dsimp only
      rw [hnx]
      exact aE
     ·rw [jk (by rw [jy];omega),Nat.add_zero] at hnx
      refine VNext.mk (i+1) (show i+1<=O.length by omega) (show O.length - (i+1)<O.length - i by omega) ?_ aH
      dsimp only
      rw [hnx]
      exact aE
    ·rw [qe hgi,hSJ]
     repeat' (conv=>whnf);first|refine VSeq.go ?_|refine oN fun _=>?_|refine oL ?_
     all_goals (conv=>whnf)
     exact VMid.mk () trivial aE aH
   ·have h0:=hhome2 qZ
    subst h0
    rw [jk qZ] at hSJ
    refine VLoop.mk (α:=Nat) (fun i=>i<=l.length) (fun i=>[(1000000,.tuple #[]),(1,.pointer (some ⟨b1,0,none⟩)),(2,.bool false),(3,.slice q O.length qc),(4,.pointer (some ⟨b4,0,none⟩)),(6,.pointer (some ⟨b6,0,none⟩)),(8,.int .i64 (P j:Int)),(9,.int .i64 (Q j:Int)),(10,.int .i64 (R j:Int)),(11,.int .i64 (j:Int)),(12,.slice tp TL.length tc),(13,.int .i64 (TL.length:Int)),(14,.int .i64 0),(15,.int .i64 ((l.take i).countP (fun e=>decide (e.id=(j:Int) - X.N.ps.length)&&decide (e.tick<(T:Int))):Int)),(17,.int .i64 (i:Int))]) (fun _=>.vec tp TL.length tc 3 1 (flat intV TL)::.row b1 33 [.slice X.pn X.N.ps.length X.cn,.int .i64 X.N.inputs,.slice X.qs X.N.syns.length X.cs,.int .i64 X.C.mesh.wide,.int .i64 X.C.mesh.high,.int .i64 X.C.mesh.room,.int .i64 X.C.nr,.int .i64 X.C.sy,.int .i64 X.C.en,.int .i64 X.C.bits,.slice X.pd X.C.dead.length X.cd,.slice pc cores.length cc,.slice pe l.length ce,.int .i64 (T:Int)]::.row b4 36 [.int .i64 (T:Int),.int .i64 ((T:Int)*X.N.ps.length),.int .i64 (O.length:Int),.int .i64 (P nS:Int),.int .i64 (Q nS:Int),.int .i64 (AA:Int),.int .i64 (R nS:Int),.int .i64 (SS:Int),.int .i64 (MM:Int)]::.row b6 61 [.slice y.pc X.N.ps.length y.cc,.slice y.ps X.N.ps.length y.cs,.slice y.y.pp X.N.ps.length y.y.cp,.int .i64 X.N.inputs,.slice y.y.ps X.N.syns.length y.y.cs,.slice y.y.pz X.N.ps.length y.y.cz,.slice y.y.pq X.N.syns.length y.y.cq,.slice y.y.pe X.N.ps.length y.y.ce,.bool ex,.slice y.pr nc y.cr,.slice y.pt nc y.ct,.slice y.pw nw y.cw,.int .i64 co,.int .i64 lo,.int .i64 (stp:Int)]::.vec q O.length qc 67 2 (flat evtV O)::[]) (fun i=>l.length - i) 0 (qB _) aE aH ?_
    intro i hi
    rcases qy i l.length with hli|hgi
    ·obtain ⟨e,hle⟩:=h2.get hli
     have hnx:=cnt8_take (p:=fun e:Evt=>decide (e.id=(j:Int) - X.N.ps.length)&&decide (e.tick<(T:Int))) hle
     have hle2:=cnt8_le (fun e:Evt=>decide (e.id=(j:Int) - X.N.ps.length)&&decide (e.tick<(T:Int))) l i
     obtain ⟨u,hu⟩:∃u,(l.take i).countP (fun e=>decide (e.id=(j:Int) - X.N.ps.length)&&decide (e.tick<(T:Int)))=u:=⟨_,rfl⟩
     rw [hu] at hnx hle2 ⊢
     repeat' (conv=>whnf);first|(refine VIx.is ?_;refine VIx.mk (h2.ptr qZ) qZ qZ ?_)|(refine VLd.is ?_;refine VLd.mk (Rd.cast (h2.rd (o:=1) (s:=1) (by simp) (fun _=>rfl) hle rfl) oE) ?_)|(refine VLd.is ?_;refine VLd.mk (Rd.cast (h2.rd (o:=0) (s:=1) (by simp) (fun _=>rfl) hle rfl) oE) ?_)|refine VSeq.go ?_|refine oY fun _=>?_|refine oS (fun _=>?_) fun _=>?_|refine oL ?_|refine oA ?_|refine oH ?_
     all_goals (conv=>whnf)
     all_goals first
      |(rw [jw (by rw [Qd,jy,jy];omega)] at hnx
        refine VNext.mk (i+1) (show i+1<=l.length by omega) (show l.length - (i+1)<l.length - i by omega) ?_ aH
        dsimp only
        rw [hnx]
        exact aE)
      |(rw [jk (by rw [Qd,jy,jy];omega),Nat.add_zero] at hnx
        refine VNext.mk (i+1) (show i+1<=l.length by omega) (show l.length - (i+1)<l.length - i by omega) ?_ aH
        dsimp only
        rw [hnx]
        exact aE)
    ·rw [qe hgi,hSJ]
     repeat' (conv=>whnf);first|refine VSeq.go ?_|refine oN fun _=>?_|refine oL ?_
     all_goals (conv=>whnf)
     exact VMid.mk () trivial aE aH
   ·intro _ _
    repeat' (conv=>whnf);first|(refine VCall.isF 22 ?_;(refine VCall.genR (fun w' hw'=>Exists.elim (Sl.own (f:=intV) (l:=TL) (k:=1) hw' aT (fun _=>rfl) rfl) fun bq hq=>hcall tp tc bq 0 w' hq) ?_;rintro ⟨up,uc⟩ hup;dsimp only at hup))|(refine VCall.isF 23 ?_;(refine VCall.valR (fun w' hw'=>Exists.elim (Sl.own (f:=intV) (l:=TR) (k:=1) hw' aT (fun _=>rfl) rfl) fun bq hq=>hbits up uc bq 0 w' hq) ?_))|(refine VAr.is ?_;refine VAr.mul hPL3 qZ qZ ?_)|(refine VAr.is ?_;refine VAr.mul hRL3 qZ qZ ?_)|refine VSeq.go ?_|refine oN fun _=>?_|refine oL ?_|refine oA ?_
    all_goals (conv=>whnf)
    refine VNext.mk (j+1) qZ qZ ?_ aH
    dsimp only
    rw [hpk,hhp,hrw]
    exact aE
 ·have e:j=nS:=by omega
  subst e
  obtain ⟨TS,hTS⟩:=gX (T*stp)
  have hTS2:TS<=80*(276*960):=by rw [<-hTS];exact Nat.mul_le_mul hT80 (Qb hstep (Qj _ hnS2))
  have hTS3:(T:Int)*(stp:Int)=(TS:Int):=by rw [<-hTS];omega
  rw [hTS] at j5
  obtain ⟨TN,hTN⟩:∃n:Nat,T*X.N.ps.length=n:=⟨_,rfl⟩
  have hTN2:TN<=80*20:=by rw [<-hTN];exact Nat.mul_le_mul hT80 hN20
  have hTN3:(T:Int)*(X.N.ps.length:Int)=(TN:Int):=by rw [<-hTN];omega
  rw [hTN3]
  repeat' (conv=>whnf);first|(refine VAr.is ?_;refine VAr.mul hTN3 qZ qZ ?_)|(refine VAr.is ?_;refine VAr.mul hTS3 qZ qZ ?_)|(refine VCall.isF 12 ?_;(refine VCall.valR (fun w' _=>works8_any w') ?_))|refine VSeq.go ?_|refine oY fun _=>?_|refine oN fun _=>?_|refine oS (fun _=>?_) fun _=>?_|refine oL ?_|refine oA ?_
  all_goals (conv=>whnf)
  all_goals first
   |exact ⟨fun w' hw'=>⟨rfl,hw'.le .nil⟩⟩
   |exact absurd rfl ‹¬true=true›
   |exact absurd rfl ‹¬false=false›
   |(exfalso;omega)
theorem ChipWork_any (Y:CsX)(w:World)(hY:CsRd Y w):
  Calls Tryz.prog 5 #[.agg Y.v.toArray] w fun e w'=>e=.returned (.bool true)/\St w [] [] w':=by
 by_cases hg:Few8 Y/\plErr Y.X.N Y.X.C Y.cores Y.l Y.ticks=0
 ·exact ChipWork_good Y w hY hg.1 hg.2
 ·exact ChipWork_bad Y w hY hg
end Go.Proofs
