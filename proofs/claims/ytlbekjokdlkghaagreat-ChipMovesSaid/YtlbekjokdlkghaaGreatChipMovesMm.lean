import Derived.Test.YtlbekjokdlkghaaGreatChipMovesMl
set_option linter.unusedVariables false
set_option linter.unusedSimpArgs false
set_option maxHeartbeats 4000000
namespace Go.Proofs
open Go Go.Vx Go.Gm
theorem fQ4 (X:PlnX)(w:World)(hX:PlnRd X w)(cores:List Int)(hcw:∀k∈cores,I64 k)(p:Option Addr)(c b o:Nat)(h1:Sl w bQ6 1 cores p cores.length b o)(hA:AsgOk X.N X.C cores)(hasg:gS1 X.N X.C cores=0):
  Calls Tryz.prog 20 #[.agg X.net.toArray,.agg (bD5 X.C X.pd X.cd).toArray,.slice p cores.length c] w fun e w'=>∃z:MapP,e=.returned (.tuple #[.agg (kR8 z (bC5 X.N X.C cores)).toArray,.int .i64 (bV5 X.N X.C cores)])/\MapIs z (bC5 X.N X.C cores)/\St w [] (lV9 z (bC5 X.N X.C cores)) w':=by
 have hchk:=gB7 X.N X.C cores
 rw [hasg] at hchk
 have hpl:Gm.planE X.N X.C=0:=jg fun h=>by rw [jw h] at hchk;exact h hchk.symm
 rw [jk (by rw [hpl];simp)] at hchk
 have hcl:cores.length<=1024:=by
  have h1:=hA.len
  have h2:=hA.plan.net.few
  omega
 have hg:=fun (w':World) h h1=>dG1 X w' h hpl cores hcw (by omega) p c b o h1
 rw [<-hchk] at hg
 obtain ⟨hcells,hn1,hn64⟩:=bX6 hA.plan.chip
 obtain ⟨n,hn⟩:=gX (bX1 X.C)
 rw [hn] at hcells hn1 hn64
 have hns:bV2 X.N<=256:=by
  have:=hA.plan.few
  have:=hA.plan.net.inputs
  unfold bV2;omega
 have hcd:=fun (w':World) h=>dX2 cores p c b o w' h (by omega)
 unfold PlnX.net bD5 at hg ⊢
 refine enter (C:=Tryz.cx) (F:=lC3) (args:=[_,_,_]) Tryz.func20 rfl rfl rfl lR7 (St.start w []) ?_
 refine VSeq.go ?_
 repeat' (conv=>whnf);first|(refine VNew.mk fun b6=>?_)
 all_goals (conv=>whnf)
 rename_i b3 b4
 repeat' (conv=>whnf);first|(refine bQ0 55 ?_;(refine bQ2 (fun w' hw'=>hg w' (hX.keep hw') (h1.keep hw' (by simp))) ?_;rintro x hup;have hTl:x.T.length=bV2 X.N:=(by have:=congrArg List.length hup.T;rw [List.length_map] at this;rw [this];unfold dL2;simp)))|(refine VSeq.is ?_;refine bF1 5 rfl ?_;refine VSeq.cut (at_:=5) (α:=Nat×Nat×Nat×Option Addr×Nat) (fun _=>True) (fun z=>[(1000000,.tuple #[]),(2,.slice p cores.length c),(3,.pointer (some ⟨b3,0,none⟩)),(4,.pointer (some ⟨b4,0,none⟩)),(6,.pointer (some ⟨b6,0,none⟩)),(7,.int .i64 0),(8,.pointer (some ⟨x.b,0,none⟩)),(9,.int .i64 0),(10,.pointer (some ⟨z.1,0,none⟩))]) (fun z=>.row b3 25 [.slice X.pn X.N.ps.length X.cn,.int .i64 X.N.inputs,.slice X.qs X.N.syns.length X.cs]::.row b4 30 [.int .i64 X.C.mesh.wide,.int .i64 X.C.mesh.high,.int .i64 X.C.mesh.room,.int .i64 X.C.nr,.int .i64 X.C.sy,.int .i64 X.C.en,.int .i64 X.C.bits,.slice X.pd X.C.dead.length X.cd]::.row b6 61 [.slice none 0 0,.slice none 0 0,.slice none 0 0,.int .i64 0,.slice none 0 0,.slice none 0 0,.slice none 0 0,.slice none 0 0,.bool false,.slice none 0 0,.slice none 0 0,.slice none 0 0,.int .i64 0,.int .i64 0,.int .i64 0]::.row z.1 61 [.slice z.2.2.2.1 cores.length z.2.2.2.2,.slice none 0 0,.slice none 0 0,.int .i64 0,.slice none 0 0,.slice none 0 0,.slice none 0 0,.slice none 0 0,.bool false,.slice (some ⟨z.2.1,0,none⟩) n n,.slice none 0 0,.slice (some ⟨z.2.2.1,0,none⟩) x.T.length x.T.length,.int .i64 0,.int .i64 0,.int .i64 0]::.vec z.2.2.2.1 cores.length z.2.2.2.2 3 1 (bQ1 bQ6 cores)::.vec (some ⟨z.2.1,0,none⟩) n n 155 1 (bB1 [.slice none 0 0] n)::.vec (some ⟨z.2.2.1,0,none⟩) x.T.length x.T.length 3 1 (bQ1 bQ6 (List.replicate x.T.length (-1)))::fQ3 X x) ?_ ?_)|(refine VLd.is ?_;refine oC (kM0 aS (k11 X x)) ?_)|(refine bQ0 57 ?_;refine VCall.inl (F:=lY0) Tryz.func57 rfl rfl rfl lN8 ?_)|(refine VAr.is ?_;refine VAr.is ?_;refine VAr.mul hcells.symm (by omega) (by omega) ?_)|(refine bQ0 56 ?_;(refine bQ2 (fun w' hw'=>hcd w' (h1.keep hw' (by simp))) ?_;rintro ⟨pc,cc⟩ hpc;dsimp only at hpc ⊢))|(refine VMk.is ?_;refine VMk.mk (by omega) (by omega) (by (try dsimp only);omega) (by omega) fun gr=>?_)|(refine VNew.mk fun bb=>?_)|(refine bQ0 58 ?_;(refine bQ2 (fun w' hw'=>gM4 (-1) x.T.length (by omega) _ 0 1 w' (gJ9 (l:=[-1]) (f:=bQ6) (k:=1) hw' aT (fun _=>rfl) rfl)) ?_;rintro gw _))|(refine VSeq.go ?_)|(refine VB.is ?_;refine bZ2 (by omega) fun _=>?_)|(refine VLd.is ?_;refine VLd.mk (.row aT (by rfl)) ?_)|(refine VSt.is ?_;refine VSt.row aT (by rfl) (by first|rfl|assumption) ?_)|(refine VKeep.is ?_;refine VKeep.mk aH ?_)|(refine VHs.mk _ (.refl _) ?_)|(refine And.intro ?_ ?_)
 all_goals (conv=>whnf)
 any_goals exact VMid.mk (_,gr,gw,pc,cc) trivial aE aH
 rintro ⟨bm,gr,gw,pc,cc⟩ _
 have hTl:x.T.length=bV2 X.N:=by
  have:=congrArg List.length hup.T
  rw [qv] at this
  rw [this];unfold dL2;simp
 have hrd:=hX
 obtain ⟨hNw,hchipwf,_,_,⟨bp,op,hps⟩,⟨bs,os,hss⟩⟩:=hX
 have hbits:=hA.plan.chip.bits
 have hq0:fN8 X.N X.C.bits=0:=by
  unfold fN8
  rw [bJ4.2 hA.plan.net,jk (by simp),jk (by omega)]
 have hqz:=fun (w':World) h1 h2=>dX7 X.N hNw X.C.bits (by unfold I64;omega) X.pn X.cn bp op X.qs X.cs bs os w' h1 h2
 rw [hq0] at hqz
 obtain ⟨Q,hQ⟩:=gX (bQ9 X.N X.C.bits)
 rw [hQ] at hqz
 have hqz:∀(w':World),Sl w' bH3 8 X.N.ps X.pn X.N.ps.length bp op->Sl w' bP1 4 X.N.syns X.qs X.N.syns.length bs os->Calls Tryz.prog 27 #[.agg #[.slice X.pn X.N.ps.length X.cn,.int .i64 X.N.inputs,.slice X.qs X.N.syns.length X.cs],.int .i64 X.C.bits] w' fun e w''=>∃y:QP,e=.returned (.tuple #[.agg (cF6 y Q).toArray,.int .i64 0])/\(0<Q.quots.length->∃g,y.pq=some ⟨g,0,none⟩)/\St w' [] (cM4 y Q) w'':=fun w' h1 h2=>(hqz w' h1 h2).mono fun e w'' ⟨y,g1,_,g3⟩=>⟨y,g1,(bB9 (g3.own (.vec y.pq Q.quots.length y.cq 3 1 (bQ1 bQ6 Q.quots)) (by simp [cM4]))).2.1,g3⟩
 unfold cF6 at hqz
 clear hg hcd
 dsimp only
 repeat' (conv=>whnf);first|(refine bQ0 27 ?_;(refine bQ2 (fun w' hw'=>hqz w' (hps.keep hw' (by simp)) (hss.keep hw' (by simp))) ?_;rintro y hyq))|(refine VNew.mk fun bmap=>?_)|(refine VSeq.go ?_)|(refine VB.is ?_;refine bZ2 (by omega) fun _=>?_)|(refine VLd.is ?_;refine VLd.mk (.row aT (by rfl)) ?_)|(refine VSt.is ?_;refine VSt.row aT (by rfl) (by first|rfl|assumption) ?_)
 all_goals (conv=>whnf)
 clear hqz
 refine VLoop.mk (α:=Nat×List (Int×Value)×Option Addr×Nat) (fun z=>z.1<=cores.length/\CntIs z.2.1 (cQ4 (cores.take z.1))/\(0<z.1->∃g,z.2.2.1=some ⟨g,0,none⟩)) (fun z=>[(1000000,.tuple #[]),(2,.slice p cores.length c),(3,.pointer (some ⟨b3,0,none⟩)),(4,.pointer (some ⟨b4,0,none⟩)),(6,.pointer (some ⟨b6,0,none⟩)),(7,.int .i64 0),(8,.pointer (some ⟨x.b,0,none⟩)),(10,.pointer (some ⟨bm,0,none⟩)),(11,.map (some bmap)),(66,.slice p cores.length c),(67,.int .i64 (cores.length:Int)),(68,.int .i64 (z.1:Int))])
  (fun z=>.row bm 61 [.slice pc cores.length cc,.slice z.2.2.1 z.1 z.2.2.2,.slice y.pp Q.ps.length y.cp,.int .i64 Q.inp,.slice y.ps Q.syns.length y.cs,.slice y.pz Q.scales.length y.cz,.slice y.pq Q.quots.length y.cq,.slice y.pe Q.errs.length y.ce,.bool Q.exact,.slice (some ⟨gr,0,none⟩) n n,.slice none 0 0,.slice (some ⟨gw,0,none⟩) x.T.length x.T.length,.int .i64 0,.int .i64 0,.int .i64 0]::.map bmap z.2.1::.vec z.2.2.1 z.1 z.2.2.2 3 1 (bQ1 bQ6 ((List.range z.1).map (cD8 cores)))::.vec (some ⟨gr,0,none⟩) n n 155 1 (bB1 [.slice none 0 0] n)::(.row b3 25 [.slice X.pn X.N.ps.length X.cn,.int .i64 X.N.inputs,.slice X.qs X.N.syns.length X.cs]::.row b4 30 [.int .i64 X.C.mesh.wide,.int .i64 X.C.mesh.high,.int .i64 X.C.mesh.room,.int .i64 X.C.nr,.int .i64 X.C.sy,.int .i64 X.C.en,.int .i64 X.C.bits,.slice X.pd X.C.dead.length X.cd]::.row b6 61 [.slice none 0 0,.slice none 0 0,.slice none 0 0,.int .i64 0,.slice none 0 0,.slice none 0 0,.slice none 0 0,.slice none 0 0,.bool false,.slice none 0 0,.slice none 0 0,.slice none 0 0,.int .i64 0,.int .i64 0,.int .i64 0]::.vec pc cores.length cc 3 1 (bQ1 bQ6 cores)::.vec (some ⟨gw,0,none⟩) x.T.length x.T.length 3 1 (bQ1 bQ6 (List.replicate x.T.length (-1)))::.vec y.pp Q.ps.length y.cp 140 8 (bQ1 bH3 Q.ps)::.vec y.ps Q.syns.length y.cs 154 4 (bQ1 bP1 Q.syns)::.vec y.pz Q.scales.length y.cz 3 1 (bQ1 bQ6 Q.scales)::.vec y.pq Q.quots.length y.cq 3 1 (bQ1 bQ6 Q.quots)::.vec y.pe Q.errs.length y.ce 3 1 (bQ1 bQ6 Q.errs)::fQ3 X x)) (fun z=>cores.length - z.1) (0,[],none,0) ⟨Nat.zero_le _,fun k=>rfl,fun h=>absurd h (by dsimp only;omega)⟩ aE ?_ ?_
 ·dsimp only
  refine HLe.permL (HLe.nilv aH) (kT0 _ _ _ _)
 rintro ⟨i,m,ps,cs⟩ ⟨hi,hm,hps0⟩
 dsimp only at hi hm hps0 ⊢
 rcases qy i cores.length with hlt|hge
 ·-- cut<
  obtain ⟨k,hk⟩:=h1.get hlt
  have hul:cQ4 (cores.take i) k<=cores.length:=by
   have:=qT (p:=fun c=>decide (c=k)) (l:=cores.take i)
   rw [qh] at this
   unfold cQ4;omega
  have hadd:=hm.add k (g:=cQ4 (cores.take (i+1))) (fun q=>by rw [qi,hk,qW,dV3])
  have hsl:(List.range (i+1)).map (cD8 cores)=(List.range i).map (cD8 cores)++[(cQ4 (cores.take i) k:Int)]:=by
   rw [Qz,ql,qU]
   unfold cD8
   rw [hk];rfl
  have hlk:=fun {z:Value} {kk:Value->Prop} hz hkk=>CntIs.lk hm k (z:=z) (k:=kk) hz hkk
  obtain ⟨un,hun⟩:=gX (cQ4 (cores.take i) k)
  rw [hun] at hadd hsl hlk hul
  obtain ⟨SL,hSL⟩:=gX ((List.range i).map (cD8 cores))
  rw [hSL] at hsl ⊢
  repeat' (conv=>whnf);first|(refine VIx.is ?_;refine VIx.mk (h1.ptr (by omega)) (by omega) (by omega) ?_)|(refine VLd.is ?_;refine oC (h1.rd0 (by simp) (fun _=>rfl) hk rfl) ?_)|(refine VMp.is ?_;refine VMp.is ?_;refine VMp.mk aT ?_)|(refine VLk.is ?_;refine VLk.is ?_;refine hlk rfl ?_)|(refine VNew.mk fun bn=>?_)|(refine VAp.is ?_;refine VAp.own aT (.at_ (.vec aT rfl)) (by simp [Value.oneCell']) (by (try dsimp only);omega) (by simp only [maxLen];omega) fun p1 c1 hp1=>?_)|(refine VMpU.is ?_;refine VMpU.is ?_;refine VMpU.mk aT ?_)|(refine VSeq.go ?_)|(refine VB.is ?_;refine bX5 (by omega) fun _=>?_)|(refine VLd.is ?_;refine VLd.mk (.row aT (by rfl)) ?_)|(refine VSt.is ?_;refine VSt.row aT (by rfl) (by first|rfl|assumption) ?_)|(refine VAr.is ?_;refine oA ?_)
  all_goals (conv=>whnf)
  refine VNext.mk (i+1,cB4 m k (.int .i64 ((un:Int)+1)),p1,c1) ⟨by dsimp only;omega,hadd,fun _=>hp1 (by omega)⟩ (by dsimp only;omega) aE ?_
  dsimp only
  rw [hsl,bQ7]
  exact aH
  -- >cut
 have hil:i=cores.length:=by omega
 subst hil
 have hslF:(List.range cores.length).map (cD8 cores)=bM0 cores:=rfl
 rw [hslF]
 have hsll:(bM0 cores).length=cores.length:=by unfold bM0;rw [qv,Qg]
 have hslB:∀v∈bM0 cores,0<=v/\v<=1024:=fun v hv=>by
  unfold bM0 at hv
  obtain ⟨j,_,rfl⟩:=qo.1 hv
  have:=qT (p:=fun c=>decide (c=cores[j]?.getD 0)) (l:=cores.take j)
  rw [qh] at this
  unfold cD8 cQ4;omega
 obtain ⟨SL,hSL⟩:=gX (bM0 cores)
 rw [hSL] at hsll hslB ⊢
 clear hm hi hge
 have hQq:Q.quots.length=X.N.syns.length:=by
  rw [<-hQ]
  unfold bQ9
  rw [hq0,jk (by simp)]
  unfold hV4
  simp
 obtain ⟨sq,hsq⟩:=gX (cJ5 X.N Q.quots)
 have hsqg:∀{j s q},X.N.syns[j]? =some s->Q.quots[j]? =some q->sq[j]? =some (s,q):=fun {j s q} h1 h2=>by
  rw [<-hsq];unfold cJ5
  rw [List.getElem?_zip_eq_some]
  exact ⟨h1,h2⟩
 have hrE:bQ1 rrV (List.replicate n (⟨none,0,[]⟩:RRow))=bB1 [.slice none 0 0] n:=(bV3 (f:=rrV) (x:=(⟨none,0,[]⟩:RRow)) n).symm
 have hsE:(List.replicate n (⟨none,0,[]⟩:RRow)).map rrE=List.replicate n (.vec none 0 0 158 4 []):=by rw [List.map_replicate];rfl
 have hsynl:=hA.plan.net.syns
 have hcore:=hA.core
 have hfs:X.N.syns.length<=8192:=hA.plan.net.fewS
 have hkr:∀s∈X.N.syns,0<=bG1 X.N s.frm/\bG1 X.N s.frm<bV2 X.N:=fun s hs=>bL5 hA.plan.net hs
 repeat' (conv=>whnf);first|(refine VSeq.go ?_)|(refine VB.is ?_;refine bZ2 (by omega) fun _=>?_)|(refine VLd.is ?_;refine VLd.mk (.row aT (by rfl)) ?_)
 all_goals (conv=>whnf)
 refine VLoop.mk (α:=Nat×List RRow) (fun z=>z.1<=X.N.syns.length/\z.2.map (·.l)=fR6 X.N cores (sq.take z.1) n/\∀r∈z.2,r.ok) (fun z=>[(1000000,.tuple #[]),(2,.slice p cores.length c),(4,.pointer (some ⟨b4,0,none⟩)),(6,.pointer (some ⟨b6,0,none⟩)),(7,.int .i64 0),(8,.pointer (some ⟨x.b,0,none⟩)),(10,.pointer (some ⟨bm,0,none⟩)),(86,.slice X.qs X.N.syns.length X.cs),(87,.int .i64 (X.N.syns.length:Int)),(88,.int .i64 (z.1:Int))])
  (fun z=>.row bm 61 [.slice pc cores.length cc,.slice ps cores.length cs,.slice y.pp Q.ps.length y.cp,.int .i64 Q.inp,.slice y.ps Q.syns.length y.cs,.slice y.pz Q.scales.length y.cz,.slice y.pq Q.quots.length y.cq,.slice y.pe Q.errs.length y.ce,.bool Q.exact,.slice (some ⟨gr,0,none⟩) n n,.slice none 0 0,.slice (some ⟨gw,0,none⟩) x.T.length x.T.length,.int .i64 0,.int .i64 0,.int .i64 0]::.vec ps cores.length cs 3 1 (bQ1 bQ6 SL)::.vec (some ⟨gr,0,none⟩) n n 155 1 (bQ1 rrV z.2)::(.row b3 25 [.slice X.pn X.N.ps.length X.cn,.int .i64 X.N.inputs,.slice X.qs X.N.syns.length X.cs]::.row b4 30 [.int .i64 X.C.mesh.wide,.int .i64 X.C.mesh.high,.int .i64 X.C.mesh.room,.int .i64 X.C.nr,.int .i64 X.C.sy,.int .i64 X.C.en,.int .i64 X.C.bits,.slice X.pd X.C.dead.length X.cd]::.row b6 61 [.slice none 0 0,.slice none 0 0,.slice none 0 0,.int .i64 0,.slice none 0 0,.slice none 0 0,.slice none 0 0,.slice none 0 0,.bool false,.slice none 0 0,.slice none 0 0,.slice none 0 0,.int .i64 0,.int .i64 0,.int .i64 0]::.vec pc cores.length cc 3 1 (bQ1 bQ6 cores)::.vec (some ⟨gw,0,none⟩) x.T.length x.T.length 3 1 (bQ1 bQ6 (List.replicate x.T.length (-1)))::.vec y.pp Q.ps.length y.cp 140 8 (bQ1 bH3 Q.ps)::.vec y.ps Q.syns.length y.cs 154 4 (bQ1 bP1 Q.syns)::.vec y.pz Q.scales.length y.cz 3 1 (bQ1 bQ6 Q.scales)::.vec y.pq Q.quots.length y.cq 3 1 (bQ1 bQ6 Q.quots)::.vec y.pe Q.errs.length y.ce 3 1 (bQ1 bQ6 Q.errs)::(fQ3 X x++z.2.map rrE))) (fun z=>X.N.syns.length - z.1) (0,List.replicate n ⟨none,0,[]⟩) ⟨qB _,?_,?_⟩ aE ?_ ?_
 ·dsimp only
  rw [List.map_replicate]
  unfold fR6
  rw [cB6];rfl
 ·intro r hr
  rw [QM hr]
  intro h;cases h
 ·dsimp only
  rw [hrE,hsE]
  refine HLe.permL (cQ2 ?_ n) (A':=_) (A:=List.replicate n (.vec none 0 0 158 4 [])++(.row bm 61 [.slice pc cores.length cc,.slice ps cores.length cs,.slice y.pp Q.ps.length y.cp,.int .i64 Q.inp,.slice y.ps Q.syns.length y.cs,.slice y.pz Q.scales.length y.cz,.slice y.pq Q.quots.length y.cq,.slice y.pe Q.errs.length y.ce,.bool Q.exact,.slice (some ⟨gr,0,none⟩) n n,.slice none 0 0,.slice (some ⟨gw,0,none⟩) x.T.length x.T.length,.int .i64 0,.int .i64 0,.int .i64 0]::.vec ps cores.length cs 3 1 (bQ1 bQ6 SL)::.vec (some ⟨gr,0,none⟩) n n 155 1 (bB1 [.slice none 0 0] n)::(.row b3 25 [.slice X.pn X.N.ps.length X.cn,.int .i64 X.N.inputs,.slice X.qs X.N.syns.length X.cs]::.row b4 30 [.int .i64 X.C.mesh.wide,.int .i64 X.C.mesh.high,.int .i64 X.C.mesh.room,.int .i64 X.C.nr,.int .i64 X.C.sy,.int .i64 X.C.en,.int .i64 X.C.bits,.slice X.pd X.C.dead.length X.cd]::.row b6 61 [.slice none 0 0,.slice none 0 0,.slice none 0 0,.int .i64 0,.slice none 0 0,.slice none 0 0,.slice none 0 0,.slice none 0 0,.bool false,.slice none 0 0,.slice none 0 0,.slice none 0 0,.int .i64 0,.int .i64 0,.int .i64 0]::.vec pc cores.length cc 3 1 (bQ1 bQ6 cores)::.vec (some ⟨gw,0,none⟩) x.T.length x.T.length 3 1 (bQ1 bQ6 (List.replicate x.T.length (-1)))::.vec y.pp Q.ps.length y.cp 140 8 (bQ1 bH3 Q.ps)::.vec y.ps Q.syns.length y.cs 154 4 (bQ1 bP1 Q.syns)::.vec y.pz Q.scales.length y.cz 3 1 (bQ1 bQ6 Q.scales)::.vec y.pq Q.quots.length y.cq 3 1 (bQ1 bQ6 Q.quots)::.vec y.pe Q.errs.length y.ce 3 1 (bQ1 bQ6 Q.errs)::fQ3 X x))) ?_
  ·exact aH
  ·exact List.perm_append_comm (l₁:=.row bm 61 [.slice pc cores.length cc,.slice ps cores.length cs,.slice y.pp Q.ps.length y.cp,.int .i64 Q.inp,.slice y.ps Q.syns.length y.cs,.slice y.pz Q.scales.length y.cz,.slice y.pq Q.quots.length y.cq,.slice y.pe Q.errs.length y.ce,.bool Q.exact,.slice (some ⟨gr,0,none⟩) n n,.slice none 0 0,.slice (some ⟨gw,0,none⟩) x.T.length x.T.length,.int .i64 0,.int .i64 0,.int .i64 0]::.vec ps cores.length cs 3 1 (bQ1 bQ6 SL)::.vec (some ⟨gr,0,none⟩) n n 155 1 (bB1 [.slice none 0 0] n)::(.row b3 25 [.slice X.pn X.N.ps.length X.cn,.int .i64 X.N.inputs,.slice X.qs X.N.syns.length X.cs]::.row b4 30 [.int .i64 X.C.mesh.wide,.int .i64 X.C.mesh.high,.int .i64 X.C.mesh.room,.int .i64 X.C.nr,.int .i64 X.C.sy,.int .i64 X.C.en,.int .i64 X.C.bits,.slice X.pd X.C.dead.length X.cd]::.row b6 61 [.slice none 0 0,.slice none 0 0,.slice none 0 0,.int .i64 0,.slice none 0 0,.slice none 0 0,.slice none 0 0,.slice none 0 0,.bool false,.slice none 0 0,.slice none 0 0,.slice none 0 0,.int .i64 0,.int .i64 0,.int .i64 0]::.vec pc cores.length cc 3 1 (bQ1 bQ6 cores)::.vec (some ⟨gw,0,none⟩) x.T.length x.T.length 3 1 (bQ1 bQ6 (List.replicate x.T.length (-1)))::.vec y.pp Q.ps.length y.cp 140 8 (bQ1 bH3 Q.ps)::.vec y.ps Q.syns.length y.cs 154 4 (bQ1 bP1 Q.syns)::.vec y.pz Q.scales.length y.cz 3 1 (bQ1 bQ6 Q.scales)::.vec y.pq Q.quots.length y.cq 3 1 (bQ1 bQ6 Q.quots)::.vec y.pe Q.errs.length y.ce 3 1 (bQ1 bQ6 Q.errs)::fQ3 X x))
 rintro ⟨i,rr⟩ ⟨hi,hrr,hrk⟩
 dsimp only at hi hrr hrk ⊢
 have hrl:rr.length=n:=by
  have:=congrArg List.length hrr
  rw [qv] at this
  rw [this];unfold fR6;simp
 rcases qy i X.N.syns.length with hlt|hge
 ·-- cut<
  obtain ⟨s,hsi⟩:=hss.get hlt
  have hsm:=qz hsi
  have hto:=(hsynl s hsm).2.1
  have hsw:=hNw.syns s hsm
  have hfr:=(hsynl s hsm).1
  unfold cT4 at hfr
  obtain ⟨t,ht⟩:∃t:Nat,s.to=(t:Int):=⟨s.to.toNat,by omega⟩
  have htl:t<cores.length:=by rw [hA.len];omega
  obtain ⟨kc,hkc⟩:=h1.get htl
  have hkc0:=(hcore kc (qz hkc)).1
  obtain ⟨k,hk⟩:∃k:Nat,kc=(k:Int):=⟨kc.toNat,by omega⟩
  subst hk
  have hkn:k<n:=by omega
  obtain ⟨row,hrow⟩:∃row,rr[k]? =some row:=⟨_,qq (by omega)⟩
  obtain ⟨q,hq⟩:∃q,Q.quots[i]? =some q:=⟨_,qq (by omega)⟩
  obtain ⟨sv,hsv⟩:∃sv,SL[t]? =some sv:=⟨_,qq (by omega)⟩
  obtain ⟨gq,hgq⟩:=hyq (by omega)
  obtain ⟨gs,rfl⟩:=hps0 (by omega)
  have hkr2:=hkr s hsm
  have hkc2:=fun (w':World) (cs:List Value) hcel hsub=>fQ5 X.pn X.N.ps.length X.cn x.b cs hsub s.frm hsw.1 (by have:=hA.plan.net.few;omega) (by have:=hA.plan.net.few;have:=hA.plan.net.inputs;have:=hA.plan.few;omega) w' hcel
  have hke:(if s.frm<0 then (X.N.ps.length:Int) - 1 - s.frm else s.frm)=bG1 X.N s.frm:=rfl
  rw [hke] at hkc2
  have hxr:cM1 X.N cores s q=⟨bG1 X.N s.frm,sv,q,s.dl⟩:=by
   unfold cM1
   rw [hSL,ht,jf,hsv];rfl
  have hnx:=gM1 X.N cores (sq.take i) (x:=(s,q)) (n:=n) (k:=k) hkn (by dsimp only;rw [ht,Int.toNat_natCast];exact hkc)
  dsimp only at hnx
  rw [hxr] at hnx
  have htk:sq.take (i+1)=sq.take i++[(s,q)]:=by rw [qi,hsqg hsi hq];rfl
  have hrwl:bM1 X.N cores (sq.take i) (k:Int)=row.l:=by
   have:=congrArg (fun L=>L[k]?) hrr
   rw [qj,hrow] at this
   unfold fR6 at this
   rw [qj,qX hkn] at this
   simpa using this.symm
  rw [hrwl] at hnx
  have hrll:row.l.length<=i:=by
   rw [<-hrwl]
   unfold bM1
   rw [qv]
   have:=qD (fun x:Syn×Int=>decide (cores[x.1.to.toNat]? =some (k:Int))) (sq.take i)
   rw [qh] at this
   omega
  obtain ⟨ky,hky⟩:=gX (bG1 X.N s.frm)
  rw [hky] at hkc2 hnx hkr2
  rw [hgq]
  repeat' (conv=>whnf);first|(refine VHs.is ?_;refine VHs.is ?_;refine VHs.mk [.row _ 154 [.int .i64 s.frm,.int .i64 (t:Int),.int .i64 s.wt,.int .i64 s.dl],.row bm 61 [.slice pc cores.length cc,.slice (some ⟨gs,0,none⟩) cores.length cs,.slice y.pp Q.ps.length y.cp,.int .i64 Q.inp,.slice y.ps Q.syns.length y.cs,.slice y.pz Q.scales.length y.cz,.slice (some ⟨gq,0,none⟩) Q.quots.length y.cq,.slice y.pe Q.errs.length y.ce,.bool Q.exact,.slice (some ⟨gr,0,none⟩) n n,.slice none 0 0,.slice (some ⟨gw,0,none⟩) x.T.length x.T.length,.int .i64 0,.int .i64 0,.int .i64 0],.vec (some ⟨gs,0,none⟩) cores.length cs 3 1 (bQ1 bQ6 SL),.vec (some ⟨gr,0,none⟩) n n 155 1 (bQ1 rrV rr),.vec (some ⟨gq,0,none⟩) Q.quots.length y.cq 3 1 (bQ1 bQ6 Q.quots)] aH ?_)|(refine VNew.mk fun bn=>?_)|(refine VIx.is ?_;refine VIx.mk (hss.ptr (by omega)) (by omega) (by omega) ?_)|(refine VLd.is ?_;refine oC (hss.rd0 (by simp) (fun _=>rfl) hsi (kN4 ht)) ?_)|(refine VIx.is ?_;refine VIx.mk (h1.ptr (by omega)) (by omega) (by omega) ?_)|(refine VLd.is ?_;refine oC (h1.rd0 (by simp) (fun _=>rfl) hkc rfl) ?_)|(refine VIx.is ?_;refine VIx.mk rfl (by omega) (by omega) ?_)|(refine VLd.is ?_;refine oC (.vec aT (bQ8 (f:=rrV) (k:=1) (fun _=>rfl) hrow rfl)) ?_)|(refine VLd.is ?_;refine oC (.vec aT (bQ8 (f:=bQ6) (k:=1) (fun _=>rfl) hsv rfl)) ?_)|(refine VLd.is ?_;refine oC (.vec aT (bQ8 (f:=bQ6) (k:=1) (fun _=>rfl) hq rfl)) ?_)|(refine bQ0 59 ?_;(refine bQ4 (fun w' hw'=>hkc2 w' _ ((kM0 (s:=14) (off:=0) aS rfl).use hw') rfl) ?_))|(refine VAp.is ?_;refine VAp.seg (f:=rrE) (l:=rr) aS hrow rfl (.at_ (.vec aT rfl)) (by simp [Value.oneCell']) (by (try dsimp only);omega) (by simp only [maxLen];omega) fun p1 c1 hp1=>?_)|(refine VSt.is ?_;refine VSt.is ?_;refine VSt.cast (off':=k*1) (by first|omega|(dsimp only;omega)|rfl) (VSt.vec aT (bZ9 (f:=rrV) (k:=1) (y:=⟨p1,c1,row.l++[⟨ky,sv,q,s.dl⟩]⟩) (fun _=>rfl) hrow (kC0 _ _ _ _)) rfl ?_))|(refine VSeq.go ?_)|(refine VB.is ?_;refine bX5 (by omega) fun _=>?_)|(refine VLd.is ?_;refine VLd.mk (.row aT (by rfl)) ?_)|(refine VSt.is ?_;refine VSt.row aT (by rfl) (by first|rfl|assumption) ?_)|(refine VAr.is ?_;refine oA ?_)|(refine VKeep.is ?_;refine VKeep.mk aH ?_)
  all_goals (conv=>whnf)
  refine VNext.mk (i+1,rr.set k ⟨p1,c1,row.l++[⟨ky,sv,q,s.dl⟩]⟩) ⟨by dsimp only;omega,?_,fun r hr=>?_⟩ (by dsimp only;omega) aE ?_
  ·dsimp only
   rw [htk,hnx,<-hrr,List.map_set]
  ·rcases Qq hr with h|rfl
   ·exact hrk r h
   ·exact fun _=>hp1 (by omega)
  ·dsimp only
   refine HLe.permL ?_ (cH8 (f:=rrE) aS (by omega))
   rw [kQ7]
   exact aH
  -- >cut
 have hil:i=X.N.syns.length:=by omega
 subst hil
 have htkA:sq.take X.N.syns.length=sq:=qe (by rw [<-hsq];unfold cJ5;rw [List.length_zip];omega)
 rw [htkA] at hrr
 clear hkr hcore hsynl hrE hsE hsqg hslB hge hi
 repeat' (conv=>whnf);first|(refine VNew.mk fun bn=>?_)|(refine bQ0 60 ?_;refine VCall.inl (F:=mH0) Tryz.func60 rfl rfl rfl ok60 ?_)|(refine VRange.go (ms:=[]) rfl fun hokx hoky l d L hL=>?_)|(refine VSeq.go ?_)|(refine VB.is ?_;refine bZ2 (by omega) fun _=>?_)|(refine VSt.is ?_;refine VSt.row aT (by rfl) (by first|rfl|assumption) ?_)
 all_goals (conv=>whnf)
 rename_i b17 b18 bma bwa b19 bpl
 have hchip:=hA.plan.chip
 have hmw:X.C.mesh.wf:=hchipwf.mesh
 refine fC7 X x cores hA hup hrd p c b o h1 l bpl bn (α:=MpS) (fun k v=>MpOk X cores k v) (fun v=>L .ready none::.obj d (.deferred (some []))::.row bm 61 [.slice pc cores.length cc,.slice ps cores.length cs,.slice y.pp Q.ps.length y.cp,.int .i64 Q.inp,.slice y.ps Q.syns.length y.cs,.slice y.pz Q.scales.length y.cz,.slice y.pq Q.quots.length y.cq,.slice y.pe Q.errs.length y.ce,.bool Q.exact,.slice (some ⟨gr,0,none⟩) n n,.slice none 0 0,.slice (some ⟨gw,0,none⟩) x.T.length x.T.length,.int .i64 (v.n:Int),.int .i64 0,.int .i64 0]::.row b17 159 [.slice v.wp v.ways.length v.wc]::.row b18 160 [.slice v.pw v.ws.length v.cw]::.row b19 161 [.pointer (some ⟨bwa,0,none⟩)]::.vec (some ⟨gw,0,none⟩) x.T.length x.T.length 3 1 (bQ1 bQ6 v.wv)::.vec v.wp v.ways.length v.wc 171 3 (bQ1 kM7 v.ways)::.vec v.pw v.ws.length v.cw 161 1 (bQ1 wvV v.ws)::.row bwa 164 [.map (some bma),.int .i64 (bJ7 (v.aks.map (mpE X cores).T):Int),.int .i64 (bW9 (mpE X cores).W (mpE X cores).home (mpE X cores).tg v.aks:Int)]::.mapk bma v.am::.row b3 25 [.slice X.pn X.N.ps.length X.cn,.int .i64 X.N.inputs,.slice X.qs X.N.syns.length X.cs]::.row b4 30 [.int .i64 X.C.mesh.wide,.int .i64 X.C.mesh.high,.int .i64 X.C.mesh.room,.int .i64 X.C.nr,.int .i64 X.C.sy,.int .i64 X.C.en,.int .i64 X.C.bits,.slice X.pd X.C.dead.length X.cd]::.row b6 61 [.slice none 0 0,.slice none 0 0,.slice none 0 0,.int .i64 0,.slice none 0 0,.slice none 0 0,.slice none 0 0,.slice none 0 0,.bool false,.slice none 0 0,.slice none 0 0,.slice none 0 0,.int .i64 0,.int .i64 0,.int .i64 0]::.vec pc cores.length cc 3 1 (bQ1 bQ6 cores)::.vec ps cores.length cs 3 1 (bQ1 bQ6 SL)::.vec (some ⟨gr,0,none⟩) n n 155 1 (bQ1 rrV rr)::.vec y.pp Q.ps.length y.cp 140 8 (bQ1 bH3 Q.ps)::.vec y.ps Q.syns.length y.cs 154 4 (bQ1 bP1 Q.syns)::.vec y.pz Q.scales.length y.cz 3 1 (bQ1 bQ6 Q.scales)::.vec y.pq Q.quots.length y.cq 3 1 (bQ1 bQ6 Q.quots)::.vec y.pe Q.errs.length y.ce 3 1 (bQ1 bQ6 Q.errs)::(v.ways.map tgE++(v.ws.flatMap (wvE (mpE X cores))++rr.map rrE))) ⟨[],[],[],[],none,0,none,0,List.replicate x.T.length (-1),0⟩ ?_ ?_ ?_ ?_ ?_
 ·exact hT4 X cores hTl
 ·dsimp only
  have e1:bQ1 kM7 []=[]:=rfl
  have e2:bQ1 wvV []=[]:=rfl
  simp only [List.length_nil,QA,List.flatMap_nil,Qc,e1,e2]
  refine HLe.permL (HLe.nilv (e:=171) (size:=3) ?_) (At.perm (u:=_) (r:=_) aT)
  refine HLe.permL (HLe.nilv (e:=161) (size:=1) ?_) (At.perm (u:=_) (r:=_) aT)
  exact aH
 ·rintro k v z hk hne hI
  -- cut<
  have hnk:k<256:=by
   have:=hA.plan.few
   have:=hA.plan.net.inputs
   unfold bV2 at hk;omega
  have hok:bF7 (bQ5 X.N X.C cores (k:Int)):=Gm.tree_ok _ _ _ _
  have hSl:(bQ5 X.N X.C cores (k:Int)).length<=64:=by
   unfold bQ5
   rw [bW2,hn]
   exact hn64
  have hGl:=fP9 (N:=X.N) hchip cores (k:Int)
  have hho:=bC4 hA (key:=(k:Int)) (by omega)
  have har:=cZ7 hchip.mesh
  have hcd:=fun t ht=>dB2 hA (key:=(k:Int)) (t:=t) (by omega) ht
  have hreA:=reach_le hA (ks:=v.aks) (fun q hq=>by rw [hI.aks] at hq;exact (bP6 hq).1)
  have hal:v.aks.length<=k:=by rw [hI.aks];exact bL4 _ _
  have hwl:=hI.wl
  have hwyl:v.ways.length<=k:=by
   have:=congrArg List.length hI.ways
   rw [qv] at this
   rw [this];exact bL4 _ _
  have hnle:v.n<=256*k:=by rw [hI.n];exact gH7 hchip cores k
  have hll:=dW2 (N:=X.N) hchip cores (k:Int)
  have hwvl:v.wv.length=bV2 X.N:=by rw [hI.wv,qv,Qg]
  have hroom:=hchip.mesh.room
  have hpl:=fun (t1 t2 t3:Value) h po co bo oo w'=>gM7 (bQ5 X.N X.C cores (k:Int)) hok (by omega) t1 t2 t3 h po co bo oo w'
  obtain ⟨i,hi⟩:=gX (bH7 (bQ5 X.N X.C cores) X.C.mesh.room (v.ws.map (·.ks)) (k:Int))
  have hile:i<=v.ws.length:=by
   have:=cD1 (bQ5 X.N X.C cores) X.C.mesh.room (v.ws.map (·.ks)) (k:Int)
   rw [hi,qv] at this
   exact this
  have hwsA:∀x∈v.ws,hC2 (mpE X cores) x/\x.ks.length<=65536:=fun x hx=>⟨(hI.wok x hx).1,by have:=(hI.wok x hx).2;omega⟩
  have hwe:bH7 (mpE X cores).T X.C.mesh.room (v.ws.map (·.ks)) (k:Int)=i:=hi
  have haok:hC2 (mpE X cores) ⟨bwa,bma,v.am,v.aks⟩:=hI.aok
  have hkk:I64 (k:Int):=by unfold I64;omega
  have hnA:=fun {x m1 m2 a1}=>hI.next_at (i:=i) (x:=x) (m1:=m1) (m2:=m2) (a1:=a1) hk hne hi
  have hnN:=fun (he:i=v.ws.length) {m1 m2 a1 b bm}=>hI.next_new (m1:=m1) (m2:=m2) (a1:=a1) (b:=b) (bm:=bm) hk hne (by rw [hi,he])
  unfold lN4 lN5
  obtain ⟨TO,hTO⟩:=gX (bQ5 X.N X.C cores (k:Int))
  obtain ⟨TG,hTG⟩:=gX (bX7 X.N X.C cores (k:Int))
  obtain ⟨HM,hHM⟩:=gX (bJ2 X.N cores (k:Int))
  rw [hTO] at hok hSl hll hpl hnA hnN ⊢
  rw [hTG] at hGl hcd hnA hnN ⊢
  rw [hHM] at hho hcd hnA hnN ⊢
  obtain ⟨ws,am,aks,ways,wp,wc,pw,cw,wv,cn⟩:=v
  dsimp only at hreA hal hwl hwyl hnle hwvl hi hile hwsA hwe haok hnA hnN ⊢
  obtain ⟨wv0,hwv0⟩:∃q,wv[k]? =some q:=⟨_,qq (by omega)⟩
  rcases qy i ws.length with hilt|hige
  ·obtain ⟨wx,hwx⟩:∃wx,ws[i]? =some wx:=⟨_,qq hilt⟩
   have hwok:=hI.wok wx (qz hwx)
   obtain ⟨gpw,rfl⟩:=hI.pw (by dsimp only;omega)
   have hreX:=reach_le hA (ks:=wx.ks) (fun q hq=>by
    have h1:=hI.ws
    have h2:wx.ks∈ws.map (·.ks):=qN (qz hwx)
    dsimp only at h1
    rw [h1] at h2
    exact (bP6 ((cG0 (bK3 X.N k)).1 ⟨_,h2,hq⟩)).1)
   refine VYield.go hL hokx hoky aT rfl ?_
   repeat' (conv=>whnf);first|(refine VBegin.is ?_;refine VBegin.mk aT ?_)|(refine VNew.mk fun b6=>?_)|(refine VAp.is ?_;refine VAp.own aT (.at_ (.vec aT rfl)) (by simp [Value.oneCell']) (by (try dsimp only);omega) (by simp only [maxLen];omega) fun p1 c1 hp1=>?_)|(refine bQ0 61 ?_;(refine bQ4 (fun w' hw'=>hpl _ _ _ (by rfl) _ _ _ _ w' (gJ9 (l:=TO) (f:=bQ6) (k:=1) hw' aT (fun _=>rfl) rfl)) ?_))|(refine bQ0 63 ?_;(refine cP7 (S:=.vec (some ⟨gpw,0,none⟩) ws.length cw 161 1 (bQ1 wvV ws)::.row _ 169 [.int .i64 (k:Int),.int .i64 HM,.slice (some ⟨z.gc,0,none⟩) TG.length z.cc,.slice (some ⟨z.go,0,none⟩) TO.length z.co]::.row b4 30 [.int .i64 X.C.mesh.wide,.int .i64 X.C.mesh.high,.int .i64 X.C.mesh.room,.int .i64 X.C.nr,.int .i64 X.C.sy,.int .i64 X.C.en,.int .i64 X.C.bits,.slice X.pd X.C.dead.length X.cd]::.vec (some ⟨z.go,0,none⟩) TO.length z.co 3 1 (bQ1 bQ6 TO)::ws.flatMap (wvE (mpE X cores))) (by repeat (first|exact Take.nil|(with_reducible apply Take.seg;(focus (exact aS)))|(apply Take.cons;(focus (exact aT)))|(apply Take.last;(focus (exact aS))))) ?_;refine fW0 (mpE X cores) X.C hroom X.pd X.cd ws hwsA (by omega) _ (fun _=>⟨_,rfl⟩) cw _ _ _ _ _ _ _ (by rfl) TO (k:Int) hTO hok hSl _ (HLe.refl _) ?_;rw [hwe,if_pos hilt];unfold bD5))|(refine bQ0 62 ?_;(refine fK3 (mpE X cores) X.C.mesh hmw rfl ⟨bwa,bma,am,aks⟩ haok (show aks.length<=65000 by omega) hreA (k:Int) TO hTO hok hSl _ (by rfl) HM hHM (by unfold I64;omega) TG hTG hcd (by omega) _ _ _ _ (by repeat (first|exact Take.nil|(with_reducible apply Take.seg;(focus (exact aS)))|(apply Take.cons;(focus (exact aT)))|(apply Take.last;(focus (exact aS))))) (fun m1 hm1=>?_);dsimp only))|(refine VIx.is ?_;refine VIx.mk rfl (by omega) (by omega) ?_)|(refine VLd.is ?_;refine oC (.vec aT (bQ8 (f:=wvV) (k:=1) (fun _=>rfl) hwx rfl)) ?_)|(refine bQ0 62 ?_;(refine VCall.le (hX4 aS hwx) ?_;refine fK3 (mpE X cores) X.C.mesh hmw rfl wx hwok.1 (by omega) hreX (k:Int) TO hTO hok hSl _ (by rfl) HM hHM (by unfold I64;omega) TG hTG hcd (by omega) _ _ _ _ (by repeat (first|exact Take.nil|(with_reducible apply Take.seg;(focus (exact aS)))|(apply Take.cons;(focus (exact aT)))|(apply Take.last;(focus (exact aS))))) (fun m2 hm2=>?_)))|(refine VSt.is ?_;refine VSt.is ?_;refine VSt.cast (off':=k*1) (by first|omega|(dsimp only;omega)|rfl) (VSt.vec aT (bZ9 (f:=bQ6) (k:=1) (y:=(i:Int)) (fun _=>rfl) hwv0 rfl) rfl ?_))|(refine VSeq.go ?_)|(refine VB.is ?_;refine bZ2 (by omega) fun _=>?_)|(refine VLd.is ?_;refine VLd.mk (.row aT (by rfl)) ?_)|(refine VSt.is ?_;refine VSt.row aT (by rfl) (by first|rfl|assumption) ?_)|(refine VAr.is ?_;refine oA ?_)|(refine VKeep.is ?_;refine VKeep.mk aH ?_)|(refine VHs.mk _ (.refl _) ?_)
   all_goals (conv=>whnf)
   refine VRound.mk aT ?_
   refine .inl ⟨rfl,_,hnA (x:=wx) hwx (m1:=m1) (m2:=m2) (a1:=(bwa,bma)) hm1 hm2 p1 c1 z.gc z.cc,?_⟩
   dsimp only
   refine HLe.permL ?_ (kX4 (E:=mpE X cores) (i:=i) (y:=⟨wx.b,wx.bm,m2,wx.ks++[(k:Int)]⟩) aS hilt)
   rw [lZ7 hwx,qw,QH,bQ7,hX0,Int.natCast_add]
   exact aH
  have hie:i=ws.length:=by omega
  subst hie
  refine VYield.go hL hokx hoky aT rfl ?_
  repeat' (conv=>whnf);first|(refine VBegin.is ?_;refine VBegin.mk aT ?_)|(refine VNew.mk fun b6=>?_)|(refine VAp.is ?_;refine VAp.own aT (.at_ (.vec aT rfl)) (by simp [Value.oneCell']) (by (try dsimp only);omega) (by simp only [maxLen];omega) fun p1 c1 hp1=>?_;obtain ⟨g1,rfl⟩:=hp1 (by omega);clear hp1)|(refine bQ0 61 ?_;(refine bQ4 (fun w' hw'=>hpl _ _ _ (by rfl) _ _ _ _ w' (gJ9 (l:=TO) (f:=bQ6) (k:=1) hw' aT (fun _=>rfl) rfl)) ?_))|(refine bQ0 63 ?_;(refine cP7 (S:=.vec pw ws.length cw 161 1 (bQ1 wvV ws)::.row _ 169 [.int .i64 (k:Int),.int .i64 HM,.slice (some ⟨z.gc,0,none⟩) TG.length z.cc,.slice (some ⟨z.go,0,none⟩) TO.length z.co]::.row b4 30 [.int .i64 X.C.mesh.wide,.int .i64 X.C.mesh.high,.int .i64 X.C.mesh.room,.int .i64 X.C.nr,.int .i64 X.C.sy,.int .i64 X.C.en,.int .i64 X.C.bits,.slice X.pd X.C.dead.length X.cd]::.vec (some ⟨z.go,0,none⟩) TO.length z.co 3 1 (bQ1 bQ6 TO)::ws.flatMap (wvE (mpE X cores))) (by repeat (first|exact Take.nil|(with_reducible apply Take.seg;(focus (exact aS)))|(apply Take.cons;(focus (exact aT)))|(apply Take.last;(focus (exact aS))))) ?_;refine fW0 (mpE X cores) X.C hroom X.pd X.cd ws hwsA (by omega) _ hI.pw cw _ _ _ _ _ _ _ (by rfl) TO (k:Int) hTO hok hSl _ (HLe.refl _) ?_;rw [hwe,if_neg (Nat.lt_irrefl _)];unfold bD5))|(refine bQ0 62 ?_;(refine fK3 (mpE X cores) X.C.mesh hmw rfl ⟨bwa,bma,am,aks⟩ haok (show aks.length<=65000 by omega) hreA (k:Int) TO hTO hok hSl _ (by rfl) HM hHM (by unfold I64;omega) TG hTG hcd (by omega) _ _ _ _ (by repeat (first|exact Take.nil|(with_reducible apply Take.seg;(focus (exact aS)))|(apply Take.cons;(focus (exact aT)))|(apply Take.last;(focus (exact aS))))) (fun m1 hm1=>?_);dsimp only))|(refine VIx.is ?_;refine VIx.mk rfl (by omega) (by omega) ?_)|(refine VLd.is ?_;refine oC (.vec aT ((kM2 ws _))) ?_)|(refine bQ0 62 ?_;(refine fK3 (mpE X cores) X.C.mesh hmw rfl ⟨_,_,[],[]⟩ CntOf.nil (by simp) (by simp [bW9]) (k:Int) TO hTO hok hSl _ (by rfl) HM hHM (by unfold I64;omega) TG hTG hcd (by omega) _ _ _ _ (by repeat (first|exact Take.nil|(with_reducible apply Take.seg;(focus (exact aS)))|(apply Take.cons;(focus (exact aT)))|(apply Take.last;(focus (exact aS))))) (fun m2 hm2=>?_);dsimp only))|(refine VSt.is ?_;refine VSt.is ?_;refine VSt.cast (off':=k*1) (by first|omega|(dsimp only;omega)|rfl) (VSt.vec aT (bZ9 (f:=bQ6) (k:=1) (y:=(ws.length:Int)) (fun _=>rfl) hwv0 rfl) rfl ?_))|(refine VSeq.go ?_)|(refine VB.is ?_;refine bX5 (by omega) fun _=>?_)|(refine VLd.is ?_;refine VLd.mk (.row aT (by rfl)) ?_)|(refine VSt.is ?_;refine VSt.row aT (by rfl) (by first|rfl|assumption) ?_)|(refine VAr.is ?_;refine oA ?_)|(refine VKeep.is ?_;refine VKeep.mk aH ?_)|(refine VHs.mk _ (.refl _) ?_)
  all_goals (conv=>whnf)
  rename_i c2 g2 _ bvm bvw
  refine VRound.mk aT ?_
  refine .inl ⟨rfl,_,hnN rfl (m1:=m1) (m2:=m2) (a1:=(bwa,bma)) (b:=bvw) (bm:=bvm) hm1 hm2 (some ⟨g2,0,none⟩) c2 z.gc z.cc ⟨g1,rfl⟩ c1,?_⟩
  dsimp only
  refine HLe.permL ?_ (fG7 (E:=mpE X cores) (y:=⟨bvw,bvm,m2,[(k:Int)]⟩) aS)
  rw [@qw _ ways,@qw _ ws,bQ7 (f:=kM7),bQ7 (f:=wvV),hX0,Int.natCast_add]
  exact aH
  -- >cut
 ·exact fun k v hk he hI=>hI.skip he
 ·rintro ⟨ws,am,aks,ways,wp,wc,pw,cw,wv,cn⟩ hI
  have hwl:=hI.wl
  have hwy:=hI.waysOk hA hns
  have hwp:∀q∈ways,∃g,q.p=some ⟨g,0,none⟩:=fun q hq=>(hI.way q hq).2.2
  have hwel:∀{i:Nat} {q:WvM},ws[i]? =some q->bW9 (mpE X cores).W (mpE X cores).home (mpE X cores).tg q.ks<=1000/\bJ7 (q.ks.map (mpE X cores).T)<=256:=fun {i q} hq=>by
   have hm:=qz hq
   refine ⟨reach_le hA fun a ha=>?_,?_⟩
   ·have h1:=hI.ws
    have h2:q.ks∈ws.map (·.ks):=qN hm
    dsimp only at h1
    rw [h1] at h2
    exact (bP6 ((cG0 (bK3 X.N (bV2 X.N))).1 ⟨_,h2,ha⟩)).1
   ·have h3:=(hI.wok q hm).2
    have h4:=(IsMax.of (q.ks.map (mpE X cores).T)).ex
    rcases h4 with h4|⟨o',_,h4⟩
    ·omega
    ·have:bS5 (q.ks.map (mpE X cores).T) o'<=(q.ks.map (mpE X cores).T).length:=qT ..
     rw [qv] at this
     omega
  dsimp only at hwl hwy
  have hchl:=hchip.mesh
  have hmost:bJ7 (aks.map (mpE X cores).T)<=256:=by
   have h3:aks.length<=bV2 X.N:=by
    have h5:aks=bK3 X.N (bV2 X.N):=hI.aks
    rw [h5];exact bL4 _ _
   have h4:=(IsMax.of (aks.map (mpE X cores).T)).ex
   rcases h4 with h4|⟨o',_,h4⟩
   ·omega
   ·have:bS5 (aks.map (mpE X cores).T) o'<=(aks.map (mpE X cores).T).length:=qT ..
    rw [qv] at this
    omega
  dsimp only
  repeat' (conv=>whnf);first|(refine VEnd.is ?_;refine VEnd.mk aT (by simp) ?_)|(refine VSeq.go ?_)|(refine VLd.is ?_;refine VLd.mk (.row aT (by rfl)) ?_)|(refine VSt.is ?_;refine VSt.row aT (by rfl) (by first|rfl|assumption) ?_)
  all_goals (conv=>whnf)
  refine VLoop.mk (α:=Nat×Nat) (fun z=>z.1<=ws.length/\z.2=dN7 X.C.mesh.wide (bQ5 X.N X.C cores) (bJ2 X.N cores) (bX7 X.N X.C cores) ((ws.map (·.ks)).take z.1)/\z.2<=300000*z.1) (fun z=>[(1000000,.tuple #[dZ3 d]),(4,.pointer (some ⟨b4,0,none⟩)),(6,.pointer (some ⟨b6,0,none⟩)),(7,.int .i64 0),(10,.pointer (some ⟨bm,0,none⟩)),(17,.pointer (some ⟨b17,0,none⟩)),(189,.slice pw ws.length cw),(190,.int .i64 (ws.length:Int)),(191,.int .i64 (z.1:Int))])
   (fun z=>.row bm 61 [.slice pc cores.length cc,.slice ps cores.length cs,.slice y.pp Q.ps.length y.cp,.int .i64 Q.inp,.slice y.ps Q.syns.length y.cs,.slice y.pz Q.scales.length y.cz,.slice y.pq Q.quots.length y.cq,.slice y.pe Q.errs.length y.ce,.bool Q.exact,.slice (some ⟨gr,0,none⟩) n n,.slice none 0 0,.slice (some ⟨gw,0,none⟩) x.T.length x.T.length,.int .i64 (cn:Int),.int .i64 (bJ7 (aks.map (mpE X cores).T):Int),.int .i64 (z.2:Int)]::.obj d (.deferred (some []))::.row b17 159 [.slice wp ways.length wc]::.vec (some ⟨gw,0,none⟩) x.T.length x.T.length 3 1 (bQ1 bQ6 wv)::.vec wp ways.length wc 171 3 (bQ1 kM7 ways)::.vec pw ws.length cw 161 1 (bQ1 wvV ws)::.row b3 25 [.slice X.pn X.N.ps.length X.cn,.int .i64 X.N.inputs,.slice X.qs X.N.syns.length X.cs]::.row b4 30 [.int .i64 X.C.mesh.wide,.int .i64 X.C.mesh.high,.int .i64 X.C.mesh.room,.int .i64 X.C.nr,.int .i64 X.C.sy,.int .i64 X.C.en,.int .i64 X.C.bits,.slice X.pd X.C.dead.length X.cd]::.row b6 61 [.slice none 0 0,.slice none 0 0,.slice none 0 0,.int .i64 0,.slice none 0 0,.slice none 0 0,.slice none 0 0,.slice none 0 0,.bool false,.slice none 0 0,.slice none 0 0,.slice none 0 0,.int .i64 0,.int .i64 0,.int .i64 0]::.vec pc cores.length cc 3 1 (bQ1 bQ6 cores)::.vec ps cores.length cs 3 1 (bQ1 bQ6 SL)::.vec (some ⟨gr,0,none⟩) n n 155 1 (bQ1 rrV rr)::.vec y.pp Q.ps.length y.cp 140 8 (bQ1 bH3 Q.ps)::.vec y.ps Q.syns.length y.cs 154 4 (bQ1 bP1 Q.syns)::.vec y.pz Q.scales.length y.cz 3 1 (bQ1 bQ6 Q.scales)::.vec y.pq Q.quots.length y.cq 3 1 (bQ1 bQ6 Q.quots)::.vec y.pe Q.errs.length y.ce 3 1 (bQ1 bQ6 Q.errs)::(ways.map tgE++(ws.flatMap (wvE (mpE X cores))++rr.map rrE))) (fun z=>ws.length - z.1) (0,0) ⟨Nat.zero_le _,rfl,Nat.le_refl _⟩ aE (by dsimp only;exact aH) ?_
  rintro ⟨i,sm⟩ ⟨hi,hsm,hsl⟩
  dsimp only at hi hsm hsl ⊢
  rcases qy i ws.length with hlt|hge
  ·obtain ⟨q,hq⟩:∃q,ws[i]? =some q:=⟨_,qq hlt⟩
   obtain ⟨gpw,hgw⟩:=hI.pw (by dsimp only;omega)
   dsimp only at hgw
   subst hgw
   have hqe:=hwel hq
   have hqm:=lJ0 (E:=mpE X cores) hq
   have hstep:dN7 X.C.mesh.wide (bQ5 X.N X.C cores) (bJ2 X.N cores) (bX7 X.N X.C cores) ((ws.map (·.ks)).take (i+1))=sm+(bW9 (mpE X cores).W (mpE X cores).home (mpE X cores).tg q.ks+1)*bJ7 (q.ks.map (mpE X cores).T):=by
    rw [hsm]
    unfold dN7
    rw [qi,qj,hq,ql,List.sum_append]
    simp [mpE]
   obtain ⟨rc,hrc⟩:=gX (bW9 (mpE X cores).W (mpE X cores).home (mpE X cores).tg q.ks)
   obtain ⟨mt,hmt⟩:=gX (bJ7 (q.ks.map (mpE X cores).T))
   rw [hrc,hmt] at hqe hqm hstep
   have hpr:(rc+1)*mt<=1001*256:=Nat.mul_le_mul (by omega) (by omega)
   obtain ⟨pr,hpr2⟩:=gX ((rc+1)*mt)
   rw [hpr2] at hpr hstep
   have hprI:((rc:Int)+1)*(mt:Int)=(pr:Int):=by rw [<-hpr2];simp
   have q2:sub [.map (some q.bm),.int .i64 (mt:Int),.int .i64 (rc:Int)] 2 1=some [.int .i64 (rc:Int)]:=rfl
   have q1:sub [.map (some q.bm),.int .i64 (mt:Int),.int .i64 (rc:Int)] 1 1=some [.int .i64 (mt:Int)]:=rfl
   repeat' (conv=>whnf);first|(refine VIx.is ?_;refine VIx.mk rfl (by omega) (by omega) ?_)|(refine VLd.is ?_;refine oC (.vec aT (bQ8 (f:=wvV) (k:=1) (fun _=>rfl) hq rfl)) ?_)|(refine VLd.is ?_;refine gJ6 q.b ?_;refine oC (bS4 (by (repeat (first|exact hqm|exact List.mem_append_left _ hqm|apply List.mem_cons_of_mem|apply List.mem_append_right));first|done|fail) q2) ?_)|(refine VLd.is ?_;refine gJ6 q.b ?_;refine oC (bS4 (by (repeat (first|exact hqm|exact List.mem_append_left _ hqm|apply List.mem_cons_of_mem|apply List.mem_append_right));first|done|fail) q1) ?_)|(refine VAr.is ?_;refine VAr.is ?_;refine VAr.mul hprI (by omega) (by omega) ?_)|(refine VSeq.go ?_)|(refine VB.is ?_;refine bX5 (by omega) fun _=>?_)|(refine VLd.is ?_;refine VLd.mk (.row aT (by rfl)) ?_)|(refine VSt.is ?_;refine VSt.row aT (by rfl) (by first|rfl|assumption) ?_)|(refine VAr.is ?_;refine oA ?_)|(refine VHs.mk _ (.refl _) ?_)
   all_goals (conv=>whnf)
   refine VNext.mk (i+1,sm+pr) ⟨by dsimp only;omega,hstep.symm,by dsimp only;omega⟩ (by dsimp only;omega) aE ?_
   dsimp only
   rw [Int.natCast_add sm pr]
   exact aH
  have hil:i=ws.length:=by omega
  subst hil
  rw [qe (by rw [qv];exact qA _)] at hsm
  have hwk:ways.map (·.key)=bX0 X.N:=hI.ways
  have hcn:(X.C.mesh.wide*X.C.mesh.high).toNat=n:=hn
  have hTR:=fun (w':World) bq oq=>dM3 X.C.mesh hmw hchl (bQ5 X.N X.C cores) ways hwy wp wc bq oq w'
  unfold cK4 at hTR
  simp only [hwk,hcn] at hTR
  obtain ⟨T,hT⟩:=gX (bQ5 X.N X.C cores)
  have hTok:∀k,bF7 (T k):=fun k=>by rw [<-hT];exact Gm.tree_ok _ _ _ _
  obtain ⟨KM,hKM⟩:=gX (bX0 X.N)
  have hKr:∀k∈KM,0<=k/\k<=65535:=fun k hk=>by
   rw [<-hKM] at hk
   have:=bP6 (k:=bV2 X.N) hk
   omega
  have hKl:KM.length<=256:=by
   rw [<-hKM]
   have:(bK3 X.N (bV2 X.N)).length<=bV2 X.N:=bL4 _ _
   have e:bK3 X.N (bV2 X.N)=bX0 X.N:=hH3 X.N
   rw [e] at this
   omega
  have hen:=hchip.en
  have hE15:=fun {i:Nat} (h:i<n) hb=>gC0 (N:=X.N) (C:=X.C) (cores:=cores) hasg (i:=i) (by rw [hn];exact h) hb
  have hE0:=hG5 (N:=X.N) (C:=X.C) (cores:=cores) hasg
  rw [hT,hKM] at hTR hE15 hE0
  rw [hn] at hE0
  repeat' (conv=>whnf);first|(refine bQ0 66 ?_;(refine bQ2 (fun w' hw'=>Exists.elim (Sl.own (f:=kM7) (l:=ways) (k:=3) hw' aT (fun _=>rfl) rfl) fun bq hbq=>hTR w' bq 0 hbq (kM6 hw' hwp (fun q hq=>(by (repeat (first|exact (List.mem_map_of_mem (f:=tgE) hq)|exact List.mem_append_left _ (List.mem_map_of_mem (f:=tgE) hq)|apply List.mem_cons_of_mem|apply List.mem_append_right));first|done|fail)))) ?_;rintro ⟨gt,tt⟩ ⟨htt,htk⟩;dsimp only at htt htk ⊢;have htl:tt.length=n:=(by have:=congrArg List.length htt;simpa using this);rw [htl]))|(refine VSeq.go ?_)|(refine VB.is ?_;refine bZ2 (by omega) fun _=>?_)|(refine VLd.is ?_;refine VLd.mk (.row aT (by rfl)) ?_)|(refine VSt.is ?_;refine VSt.row aT (by rfl) (by first|rfl|assumption) ?_)
  all_goals (conv=>whnf)
  have htl0:=htl
  refine VLoop.mk (α:=Nat×List ERow) (fun z=>z.1<=n/\z.2.map (·.l)=tabK T KM X.C.en n z.1/\(∀r∈z.2,r.ok)/\∀j,j<z.1->((fV0 T KM X.C.en j).length:Int)<=X.C.en) (fun z=>[(1000000,.tuple #[dZ3 d]),(4,.pointer (some ⟨b4,0,none⟩)),(6,.pointer (some ⟨b6,0,none⟩)),(7,.int .i64 0),(10,.pointer (some ⟨bm,0,none⟩)),(223,.slice (some ⟨gt,0,none⟩) n n),(224,.int .i64 (n:Int)),(225,.int .i64 (z.1:Int))])
   (fun z=>.row bm 61 [.slice pc cores.length cc,.slice ps cores.length cs,.slice y.pp Q.ps.length y.cp,.int .i64 Q.inp,.slice y.ps Q.syns.length y.cs,.slice y.pz Q.scales.length y.cz,.slice y.pq Q.quots.length y.cq,.slice y.pe Q.errs.length y.ce,.bool Q.exact,.slice (some ⟨gr,0,none⟩) n n,.slice (some ⟨gt,0,none⟩) n n,.slice (some ⟨gw,0,none⟩) x.T.length x.T.length,.int .i64 (cn:Int),.int .i64 (bJ7 (aks.map (mpE X cores).T):Int),.int .i64 (sm:Int)]::.obj d (.deferred (some []))::.vec (some ⟨gw,0,none⟩) x.T.length x.T.length 3 1 (bQ1 bQ6 wv)::.vec (some ⟨gt,0,none⟩) n n 178 1 (bQ1 erV z.2)::.row b3 25 [.slice X.pn X.N.ps.length X.cn,.int .i64 X.N.inputs,.slice X.qs X.N.syns.length X.cs]::.row b4 30 [.int .i64 X.C.mesh.wide,.int .i64 X.C.mesh.high,.int .i64 X.C.mesh.room,.int .i64 X.C.nr,.int .i64 X.C.sy,.int .i64 X.C.en,.int .i64 X.C.bits,.slice X.pd X.C.dead.length X.cd]::.row b6 61 [.slice none 0 0,.slice none 0 0,.slice none 0 0,.int .i64 0,.slice none 0 0,.slice none 0 0,.slice none 0 0,.slice none 0 0,.bool false,.slice none 0 0,.slice none 0 0,.slice none 0 0,.int .i64 0,.int .i64 0,.int .i64 0]::.vec pc cores.length cc 3 1 (bQ1 bQ6 cores)::.vec ps cores.length cs 3 1 (bQ1 bQ6 SL)::.vec (some ⟨gr,0,none⟩) n n 155 1 (bQ1 rrV rr)::.vec y.pp Q.ps.length y.cp 140 8 (bQ1 bH3 Q.ps)::.vec y.ps Q.syns.length y.cs 154 4 (bQ1 bP1 Q.syns)::.vec y.pz Q.scales.length y.cz 3 1 (bQ1 bQ6 Q.scales)::.vec y.pq Q.quots.length y.cq 3 1 (bQ1 bQ6 Q.quots)::.vec y.pe Q.errs.length y.ce 3 1 (bQ1 bQ6 Q.errs)::(z.2.map erE++rr.map rrE)) (fun z=>n - z.1) (0,tt) ⟨Nat.zero_le _,by rw [hX6];exact htt,htk,fun j hj=>absurd hj (Nat.not_lt_zero _)⟩ aE (by dsimp only;exact aH) ?_
  clear htt htk htl htl0 tt
  rintro ⟨i,tt⟩ ⟨hi,htt,htk,hfe⟩
  dsimp only at hi htt htk hfe ⊢
  have htl:tt.length=n:=by
   have:=congrArg List.length htt
   rw [qv] at this
   rw [this];unfold tabK;simp
  rcases qy i n with hlt|hge
  ·obtain ⟨⟨rp,rc,rl⟩,hr⟩:∃r,tt[i]? =some r:=⟨_,qq (by omega)⟩
   have hrl:rl=bW3 T KM i:=by
    have h1:(tt.map (·.l))[i]? =(tabK T KM X.C.en n i)[i]?:=by rw [htt]
    rw [qj,hr,gV2 hlt] at h1
    simpa using h1
   have hrll:=hX5 T KM i
   rw [<-hrl] at hrll
   have hrok:=htk _ (qz hr)
   by_cases hfit:(rl.length:Int)<=X.C.en
   ·obtain ⟨hk1,hk2⟩:=hX7 (T:=T) (keys:=KM) (en:=X.C.en) hlt (by rw [<-hrl];exact hfit)
    repeat' (conv=>whnf);first|(refine VIx.is ?_;refine VIx.mk rfl (by omega) (by omega) ?_)|(refine VLd.is ?_;refine oC (.vec aT (bQ8 (f:=erV) (k:=1) (fun _=>rfl) hr rfl)) ?_)|(refine VSeq.go ?_)|(refine VB.is ?_;refine bX5 (by omega) fun _=>?_)|(refine VB.is ?_;refine bZ2 (by omega) fun _=>?_)|(refine VLd.is ?_;refine VLd.mk (.row aT (by rfl)) ?_)|(refine VAr.is ?_;refine oA ?_)
    all_goals (conv=>whnf)
    refine VNext.mk (i+1,tt) ⟨by dsimp only;omega,by dsimp only;rw [hk1];exact htt,htk,fun j hj=>?_⟩ (by dsimp only;omega) aE (HLe.refl _)
    by_cases hji:j<i
    ·exact hfe j hji
    ·have:j=i:=by dsimp only at hj;omega
     subst this
     rw [hk2,<-hrl];exact hfit
   ·obtain ⟨g,rfl⟩:=hrok (by dsimp only;omega)
    have hetok:∀e∈rl,EtyOk e:=by rw [hrl];exact gV1 hTok hKr i
    have hqm:Ent.vec (some ⟨g,0,none⟩) rl.length rc 180 3 (bQ1 bY1 rl)∈tt.map erE:=qN (f:=erE) (qz hr)
    obtain ⟨KS,hKS⟩:=gX (rl.map (·.key))
    have hksl:KS.length=rl.length:=by rw [<-hKS,qv]
    have hKSr:∀k∈KS,0<=k/\k<=65535:=fun k hk=>by
     rw [<-hKS] at hk
     obtain ⟨e,he,rfl⟩:=qo.1 hk
     exact (hetok e he).key
    have hMg:=fun (w':World) p c b o pk ck bk ok=>fQ9 rl hetok (by omega) KS hKSr (by omega) p c b o pk ck bk ok w'
    simp only [hksl] at hMg
    obtain ⟨MM,hMM⟩:=gX (dQ3 rl KS)
    rw [hMM] at hMg
    have hTF:fV0 T KM X.C.en i=MM:=by
     unfold fV0
     rw [<-hrl,jk hfit,hKS,hMM]
    have hkn:=tabK_next T KM X.C.en hlt
    rw [hTF] at hkn
    have hset:∀y:ERow,(tt.set i y)[i]? =some y:=fun y=>by rw [qO,jw rfl,jw (by omega)]
    repeat' (conv=>whnf);first|(refine VIx.is ?_;refine VIx.mk rfl (by omega) (by omega) ?_)|(refine VLd.is ?_;refine oC (.vec aT (bQ8 (f:=erV) (k:=1) (fun _=>rfl) hr rfl)) ?_)|(refine VSeq.go ?_)|(refine VB.is ?_;refine bX5 (by omega) fun _=>?_)|(refine VB.is ?_;refine bZ2 (by omega) fun _=>?_)|(refine VLd.is ?_;refine VLd.mk (.row aT (by rfl)) ?_)|(refine VAr.is ?_;refine oA ?_)
    all_goals (conv=>whnf)
    refine VLoop.mk (α:=Nat×Option Addr×Nat) (fun z=>z.1<=rl.length/\(0<z.1->∃g,z.2.1=some ⟨g,0,none⟩)) (fun z=>[(1000000,.tuple #[dZ3 d]),(4,.pointer (some ⟨b4,0,none⟩)),(6,.pointer (some ⟨b6,0,none⟩)),(7,.int .i64 0),(10,.pointer (some ⟨bm,0,none⟩)),(24,.int .i64 (i:Int)),(25,.slice (some ⟨g,0,none⟩) rl.length rc),(26,.slice z.2.1 z.1 z.2.2),(223,.slice (some ⟨gt,0,none⟩) n n),(224,.int .i64 (n:Int)),(225,.int .i64 (i:Int)),(235,.slice (some ⟨g,0,none⟩) rl.length rc),(236,.int .i64 (rl.length:Int)),(237,.int .i64 (z.1:Int))])
     (fun z=>.vec z.2.1 z.1 z.2.2 3 1 (bQ1 bQ6 (KS.take z.1))::.row bm 61 [.slice pc cores.length cc,.slice ps cores.length cs,.slice y.pp Q.ps.length y.cp,.int .i64 Q.inp,.slice y.ps Q.syns.length y.cs,.slice y.pz Q.scales.length y.cz,.slice y.pq Q.quots.length y.cq,.slice y.pe Q.errs.length y.ce,.bool Q.exact,.slice (some ⟨gr,0,none⟩) n n,.slice (some ⟨gt,0,none⟩) n n,.slice (some ⟨gw,0,none⟩) x.T.length x.T.length,.int .i64 (cn:Int),.int .i64 (bJ7 (aks.map (mpE X cores).T):Int),.int .i64 (sm:Int)]::.obj d (.deferred (some []))::.vec (some ⟨gw,0,none⟩) x.T.length x.T.length 3 1 (bQ1 bQ6 wv)::.vec (some ⟨gt,0,none⟩) n n 178 1 (bQ1 erV tt)::.row b3 25 [.slice X.pn X.N.ps.length X.cn,.int .i64 X.N.inputs,.slice X.qs X.N.syns.length X.cs]::.row b4 30 [.int .i64 X.C.mesh.wide,.int .i64 X.C.mesh.high,.int .i64 X.C.mesh.room,.int .i64 X.C.nr,.int .i64 X.C.sy,.int .i64 X.C.en,.int .i64 X.C.bits,.slice X.pd X.C.dead.length X.cd]::.row b6 61 [.slice none 0 0,.slice none 0 0,.slice none 0 0,.int .i64 0,.slice none 0 0,.slice none 0 0,.slice none 0 0,.slice none 0 0,.bool false,.slice none 0 0,.slice none 0 0,.slice none 0 0,.int .i64 0,.int .i64 0,.int .i64 0]::.vec pc cores.length cc 3 1 (bQ1 bQ6 cores)::.vec ps cores.length cs 3 1 (bQ1 bQ6 SL)::.vec (some ⟨gr,0,none⟩) n n 155 1 (bQ1 rrV rr)::.vec y.pp Q.ps.length y.cp 140 8 (bQ1 bH3 Q.ps)::.vec y.ps Q.syns.length y.cs 154 4 (bQ1 bP1 Q.syns)::.vec y.pz Q.scales.length y.cz 3 1 (bQ1 bQ6 Q.scales)::.vec y.pq Q.quots.length y.cq 3 1 (bQ1 bQ6 Q.quots)::.vec y.pe Q.errs.length y.ce 3 1 (bQ1 bQ6 Q.errs)::(tt.map erE++rr.map rrE)) (fun z=>rl.length - z.1) (0,none,0) ⟨qB _,fun h=>absurd h (Nat.lt_irrefl _)⟩ aE (HLe.nilv (HLe.refl _)) ?_
    rintro ⟨j,kp,kc⟩ ⟨hj,hkp⟩
    dsimp only at hj hkp ⊢
    rcases qy j rl.length with hjl|hjg
    ·obtain ⟨e,he⟩:∃e,rl[j]? =some e:=⟨_,qq hjl⟩
     have hse:sub (bQ1 bY1 rl) (j*3) 3=some [.int .i64 e.key,.int .i64 e.mask,.int .i64 e.outs]:=bQ8 (f:=bY1) (k:=3) (fun _=>rfl) he rfl
     have htk1:KS.take (j+1)=KS.take j++[e.key]:=by rw [qi,<-hKS,qj,he];rfl
     repeat' (conv=>whnf);first|(refine VIx.is ?_;refine VIx.mk rfl (by omega) (by omega) ?_)|(refine VLd.is ?_;refine gJ6 g ?_;refine oC (fK5 (by (repeat (first|exact hqm|exact List.mem_append_left _ hqm|apply List.mem_cons_of_mem|apply List.mem_append_right));first|done|fail) hse) ?_)|(refine VNew.mk fun b28=>?_)|(refine VAp.is ?_;refine VAp.own aT (.at_ (.vec aT rfl)) (by simp [Value.oneCell']) (by (try dsimp only);omega) (by simp only [maxLen];omega) fun p1 c1 hp1=>?_)|(refine VSeq.go ?_)|(refine VB.is ?_;refine bX5 (by omega) fun _=>?_)|(refine VLd.is ?_;refine VLd.mk (.row aT (by rfl)) ?_)|(refine VSt.is ?_;refine VSt.row aT (by rfl) (by first|rfl|assumption) ?_)|(refine VAr.is ?_;refine oA ?_)
     all_goals (conv=>whnf)
     refine VNext.mk (j+1,p1,c1) ⟨by dsimp only;omega,fun _=>hp1 (by omega)⟩ (by dsimp only;omega) aE ?_
     dsimp only
     rw [htk1,bQ7]
     exact aH
    have hjr:j=rl.length:=by omega
    subst hjr
    rw [qe (by omega)]
    repeat' (conv=>whnf);first|(refine bQ0 67 ?_;(refine bQ2 (fun w' hw'=>Exists.elim (Sl.own (f:=bQ6) (l:=KS) (k:=1) hw' aT (fun _=>rfl) hksl) fun bk hbk=>hMg w' _ _ _ _ _ _ bk 0 (bZ1 hw' (by (repeat (first|exact hqm|exact List.mem_append_left _ hqm|apply List.mem_cons_of_mem|apply List.mem_append_right));first|done|fail) (fun _=>rfl) rfl) hbk) ?_;rintro ⟨z1,z2⟩ hz;dsimp only at hz ⊢))|(refine VSt.is ?_;refine VSt.is ?_;refine VSt.cast (off':=i*1) (by first|omega|(dsimp only;omega)|rfl) (VSt.vec aT (bZ9 (f:=erV) (k:=1) (y:=⟨z1,z2,MM⟩) (fun _=>rfl) hr rfl) rfl ?_))|(refine VIx.is ?_;refine VIx.mk rfl (by omega) (by omega) ?_)|(refine VLd.is ?_;refine oC (.vec aT (bQ8 (f:=erV) (k:=1) (fun _=>rfl) (hset _) rfl)) ?_)|(refine VUn.is ?_;refine VUn.mk aT ?_)|(refine VSeq.go ?_)|(refine VB.is ?_;refine bZ2 (by omega) fun _=>?_)|(refine VB.split (fun _=>?_) (fun _=>?_))|(refine VLd.is ?_;refine VLd.mk (.row aT (by rfl)) ?_)|(refine VSt.is ?_;refine VSt.row aT (by rfl) (by first|rfl|assumption) ?_)|(refine VAr.is ?_;refine oA ?_)|(refine VKeep.is ?_;refine VKeep.mk aH ?_)|(refine VHs.mk _ (.refl _) ?_)
    all_goals (conv=>whnf)
    ·rename_i hbad
     have h15:=hE15 hlt (by rw [hTF];exact fun h=>absurd h (by dsimp only at hbad;omega))
     have hmr:bC5 X.N X.C cores=dF4:=by unfold bC5;rw [h15,jw (by simp)]
     rw [h15,hmr]
     exact ⟨fun w' hw'=>⟨gN9,rfl,gY7,hw'.le aH⟩⟩
    ·rename_i hgood
     refine VNext.mk (i+1,tt.set i ⟨z1,z2,MM⟩) ⟨by dsimp only;omega,?_,?_,?_⟩ (by dsimp only;omega) aE ?_
     ·dsimp only
      rw [hkn,<-htt,List.map_set]
     ·intro r' hr'
      rcases Qq hr' with h|rfl
      ·exact htk r' h
      ·exact hz
     ·intro j' hj'
      by_cases hji:j'<i
      ·exact hfe j' hji
      ·have:j'=i:=by dsimp only at hj';omega
       subst this
       rw [hTF]
       dsimp only at hgood
       omega
     ·dsimp only
      refine HLe.permL ?_ (cH8 (f:=erE) aS (by omega))
      refine HLe.trans ?_ (dL4 (f:=erE) aS hr)
      exact aH
  have hin:i=n:=by omega
  subst hin
  rw [hL5] at htt
  have he0:=hE0 hfe
  have hmr:bC5 X.N X.C cores=⟨cores,SL,Q,rr.map (·.l),tt.map (·.l),wv,(cn:Int),(bJ7 (aks.map (mpE X cores).T):Int),(sm:Int)⟩:=by
   have hws:ws.map (·.ks)=bX4 X.N X.C cores:=hI.ws
   have haks:aks=bX0 X.N:=hI.aks
   have hwv:wv=(List.range (bV2 X.N)).map fun (k:Nat)=>bW0 (bX4 X.N X.C cores) (k:Int):=hI.wv
   have hcost:cn=bM9 X.N X.C cores:=hI.n
   have htt':tt.map (·.l)=bK9 X.N X.C cores:=by
    rw [htt,<-hT,<-hKM];unfold bK9;rw [hn]
   have hrr':rr.map (·.l)=(List.range (bX1 X.C)).map fun (k:Nat)=>bM1 X.N cores (cJ5 X.N (bQ9 X.N X.C.bits).quots) (k:Int):=by
    rw [hrr,hn,hQ,hsq];rfl
   unfold bC5
   rw [jk (by rw [he0];simp),<-hrr',<-htt',<-hwv,<-hcost,hSL,hQ,hsm,hws,haks]
   rfl
  have hwvl:wv.length=x.T.length:=by
   have h1:wv.length=_:=congrArg List.length hI.wv
   rw [h1,qv,Qg,hTl]
  rw [he0,hmr]
  repeat' (conv=>whnf);first|(refine VUn.is ?_;refine VUn.mk aT ?_)|(refine VSeq.go ?_)|(refine VB.is ?_;refine bZ2 (by omega) fun _=>?_)|(refine VLd.is ?_;refine VLd.mk (.row aT (by rfl)) ?_)|(refine VSt.is ?_;refine VSt.row aT (by rfl) (by first|rfl|assumption) ?_)
  all_goals (conv=>whnf)
  refine ⟨fun w' hw'=>⟨⟨pc,cc,ps,cs,y,some ⟨gr,0,none⟩,i,rr,some ⟨gt,0,none⟩,i,tt,some ⟨gw,0,none⟩,x.T.length⟩,?_,⟨rfl,rfl,hrk,htk⟩,hw'.le ?_⟩⟩
  ·unfold kR8 cF6
   dsimp only
   rw [hsll,hrl,htl,hwvl]
   rfl
  ·unfold lV9 cM4
   dsimp only
   rw [hsll,hrl,htl,hwvl]
   simp only [Qw,Qc]
   exact aH
theorem cL8 (X:PlnX)(w:World)(hX:PlnRd X w)(cores:List Int)(hcw:∀k∈cores,I64 k)(hlc:cores.length<=1000000)(p:Option Addr)(c b o:Nat)(h1:Sl w bQ6 1 cores p cores.length b o):
  Calls Tryz.prog 20 #[.agg X.net.toArray,.agg (bD5 X.C X.pd X.cd).toArray,.slice p cores.length c] w fun e w'=>∃z:MapP,e=.returned (.tuple #[.agg (kR8 z (bC5 X.N X.C cores)).toArray,.int .i64 (bV5 X.N X.C cores)])/\MapIs z (bC5 X.N X.C cores)/\St w [] (lV9 z (bC5 X.N X.C cores)) w':=by
 by_cases hasg:gS1 X.N X.C cores=0
 ·exact fQ4 X w hX cores hcw p c b o h1 (fM8 hasg) hasg
 ·have he:bV5 X.N X.C cores=gS1 X.N X.C cores:=by unfold bV5;rw [jw hasg]
  have hr:bC5 X.N X.C cores=dF4:=by unfold bC5;rw [he,jw hasg]
  refine (fG9 X w hX cores hcw hlc p c b o h1 hasg).mono fun e w' h=>?_
  rw [he,hr]
  exact ⟨gN9,h.1,gY7,h.2.le (HLe.permL (HLe.nilv (HLe.nilv (HLe.nilv (HLe.nilv (HLe.nilv (HLe.nilv (HLe.nilv (HLe.nilv (HLe.nilv (HLe.nilv .nil)))))))))) (.refl _))⟩
end Go.Proofs
