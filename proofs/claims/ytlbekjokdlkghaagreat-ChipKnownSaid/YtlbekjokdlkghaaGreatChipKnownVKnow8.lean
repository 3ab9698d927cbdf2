import Derived.Test.YtlbekjokdlkghaaGreatChipKnownZk
set_option linter.unusedVariables false
set_option linter.unusedSimpArgs false
set_option maxHeartbeats 4000000
namespace Go.Proofs
open Go Go.Vx Go.Gm
theorem chpT_wf:chpT.wf:=by
 obtain ⟨h1,h2,h3,h4,h5,h6,h7⟩:=chpW_wf
 exact ⟨h1,h2,h3,h4,by unfold chpT I64;dsimp only;omega,h6,h7⟩
theorem ChipKnown_any (w:World):Calls Tryz.prog 10 #[] w fun e w'=>e=.returned (.bool true)/\St w [] [] w':=by
 refine enter (C:=Tryz.cx) (F:=Tryz.fx10) (args:=[]) Tryz.func10 rfl rfl rfl Tryz.ok10 (St.start w []) ?_
 refine VSeq.go ?_
 skip
 all_goals (conv=>whnf)
 refine VSeq.cut (at_:=2) (α:=Nat×Nat×Nat×Nat×Nat) (fun _=>True) (fun z=>[(1000000,.tuple #[]),(0,.bool false),(1,.pointer (some ⟨z.1,0,none⟩)),(2,.pointer (some ⟨z.2.1,0,none⟩)),(3,.slice (some ⟨z.2.2.1,0,none⟩) 2 2)]) (fun z=>.row z.1 25 [.slice (some ⟨z.2.2.2.1,0,none⟩) 2 2,.int .i64 1,.slice (some ⟨z.2.2.2.2,0,none⟩) 2 2]::.row z.2.1 30 [.int .i64 2,.int .i64 1,.int .i64 1,.int .i64 1,.int .i64 4,.int .i64 4,.int .i64 3,.slice none 0 0]::.vec (some ⟨z.2.2.1,0,none⟩) 2 2 3 1 (flat intV [0,1])::.vec (some ⟨z.2.2.2.1,0,none⟩) 2 2 140 8 (flat parV netW.ps)::.vec (some ⟨z.2.2.2.2,0,none⟩) 2 2 154 4 (flat synV netW.syns)::[]) ?_ ?_
 ·repeat' (conv=>whnf);first|(refine VCall.isF 44 ?_;refine VCall.inl (F:=Tryz.fx44) Tryz.func44 rfl rfl rfl Tryz.ok44 ?_)|(refine VCall.isF 102 ?_;refine VCall.inl (F:=Tryz.fx102) Tryz.func102 rfl rfl rfl Tryz.ok102 ?_)|(refine VCall.isF 45 ?_;refine VCall.inl (F:=Tryz.fx45) Tryz.func45 rfl rfl rfl Tryz.ok45 ?_)|(refine VNew.mk fun bb=>?_)|refine VSeq.go ?_|refine oL ?_|refine oT ?_
  all_goals (conv=>whnf)
  rename_i gp gs _ gc b1
  exact VMid.mk (b1,bb,gc,gp,gs) trivial aE aH
 rintro ⟨b1,b2,gc,gp,gs⟩ _
 dsimp only
 have hr:=fun pn cn qs cs (w':World) h p c b o h1 pe ce be oe h3 hce=>chipRun_any ⟨chpW,none,0,netW,pn,cn,qs,cs⟩ w' h [0,1] (by simp [I64]) (by simp) p c b o h1 evX8 evX8_wf pe ce be oe h3 hce 6 (by simp [I64])
 dsimp only at hr
 rw [runW] at hr
 have hc1:=fun pn cn qs cs (w':World) h p c b o h1 pe ce be oe h3 hce=>(cmp8_main ⟨chpW,none,0,netW,pn,cn,qs,cs⟩ w' h [0,1] (by simp [I64]) p c b o h1 evX8 evX8_wf pe ce be oe h3 hce 6 k8_pl 6 (qA _) (fun t ht=>of_decide_eq_true (List.all_eq_true.1 k8_eq t (qL.2 ht))) (fun h=>absurd h (by decide))).mono fun e w'' g=>g.1 rfl
 have hc2:=fun pn cn qs cs (w':World) h p c b o h1 pe ce be oe h3 hce=>(cmp8_main ⟨chpT,none,0,netW,pn,cn,qs,cs⟩ w' h [0,1] (by simp [I64]) p c b o h1 evX8 evX8_wf pe ce be oe h3 hce 6 k8_plT 1 (by decide) (fun t ht=>by obtain rfl:t=0:=qZ;exact k8_T0) (fun _=>by dsimp only;rw [k8_T1,k8_T2];simp)).mono fun e w'' g=>g.2 (by decide)
 dsimp only at hc1 hc2
 rw [k8_T1,k8_T2] at hc2
 have heq:=fun (p:Option Addr) (c b o:Nat) (q:Option Addr) (d b2 o2:Nat) (w':World) h h'=>equal8_any [0] [0] (by simp) p c b o q d b2 o2 w' (by simp [I64]) (by simp [I64]) h h'
 repeat' (conv=>whnf);first|(refine VSeq.is ?_;refine VSeq.isN 11 rfl ?_;refine VSeq.cut (at_:=11) (α:=Unit) (fun _=>True) (fun _=>[(1000000,.tuple #[]),(0,.bool false),(1,.pointer (some ⟨b1,0,none⟩)),(2,.pointer (some ⟨b2,0,none⟩)),(3,.slice (some ⟨gc,0,none⟩) 2 2)]) (fun _=>.row b1 25 [.slice (some ⟨gp,0,none⟩) 2 2,.int .i64 1,.slice (some ⟨gs,0,none⟩) 2 2]::.row b2 30 [.int .i64 2,.int .i64 1,.int .i64 1,.int .i64 1,.int .i64 4,.int .i64 4,.int .i64 3,.slice none 0 0]::.vec (some ⟨gc,0,none⟩) 2 2 3 1 (flat intV [0,1])::.vec (some ⟨gp,0,none⟩) 2 2 140 8 (flat parV netW.ps)::.vec (some ⟨gs,0,none⟩) 2 2 154 4 (flat synV netW.syns)::[]) ?_ ?_)|(refine VNew.mk fun bb=>?_)|(refine VCall.isF 13 ?_;(refine VCall.genR (fun w' hw'=>hr _ _ _ _ w' ⟨netW_wf,chpW_wf,Nat.zero_le _,⟨0,0,Sl.nil (.inl rfl)⟩,⟨_,0,Sl.own' hw' (l:=netW.ps) (f:=parV) (k:=8) (by repeat (first|exact List.mem_cons_self|apply List.mem_cons_of_mem)) (fun _=>rfl) rfl⟩,⟨_,0,Sl.own' hw' (l:=netW.syns) (f:=synV) (k:=4) (by repeat (first|exact List.mem_cons_self|apply List.mem_cons_of_mem)) (fun _=>rfl) rfl⟩⟩ _ _ _ _ (Sl.own' hw' (l:=[0,1]) (f:=intV) (k:=1) (by repeat (first|exact List.mem_cons_self|apply List.mem_cons_of_mem)) (fun _=>rfl) rfl) _ _ _ _ (Sl.own' hw' (l:=evX8) (f:=evtV) (k:=2) (by repeat (first|exact List.mem_cons_self|apply List.mem_cons_of_mem)) (fun _=>rfl) rfl) (by decide)) ?_;rintro ⟨q1,c1⟩ _;dsimp only))|(refine VCall.isF 24 ?_;(refine VCall.snd8 (.agg #[.int .i64 2,.int .i64 1,.int .i64 1,.int .i64 1,.int .i64 4,.int .i64 4,.int .i64 3,.slice none 0 0]) ?_;refine VCall.valR (fun w' hw'=>hc1 _ _ _ _ w' ⟨netW_wf,chpW_wf,Nat.zero_le _,⟨0,0,Sl.nil (.inl rfl)⟩,⟨_,0,Sl.own' hw' (l:=netW.ps) (f:=parV) (k:=8) (by repeat (first|exact List.mem_cons_self|apply List.mem_cons_of_mem)) (fun _=>rfl) rfl⟩,⟨_,0,Sl.own' hw' (l:=netW.syns) (f:=synV) (k:=4) (by repeat (first|exact List.mem_cons_self|apply List.mem_cons_of_mem)) (fun _=>rfl) rfl⟩⟩ _ _ _ _ (Sl.own' hw' (l:=[0,1]) (f:=intV) (k:=1) (by repeat (first|exact List.mem_cons_self|apply List.mem_cons_of_mem)) (fun _=>rfl) rfl) _ _ _ _ (Sl.own' hw' (l:=evX8) (f:=evtV) (k:=2) (by repeat (first|exact List.mem_cons_self|apply List.mem_cons_of_mem)) (fun _=>rfl) rfl) (by decide)) ?_))|(refine VCall.isF 24 ?_;(refine VCall.snd8 (.agg #[.int .i64 2,.int .i64 1,.int .i64 1,.int .i64 1,.int .i64 4,.int .i64 4,.int .i64 2,.slice none 0 0]) ?_;refine VCall.genR (fun w' hw'=>hc2 _ _ _ _ w' ⟨netW_wf,chpT_wf,Nat.zero_le _,⟨0,0,Sl.nil (.inl rfl)⟩,⟨_,0,Sl.own' hw' (l:=netW.ps) (f:=parV) (k:=8) (by repeat (first|exact List.mem_cons_self|apply List.mem_cons_of_mem)) (fun _=>rfl) rfl⟩,⟨_,0,Sl.own' hw' (l:=netW.syns) (f:=synV) (k:=4) (by repeat (first|exact List.mem_cons_self|apply List.mem_cons_of_mem)) (fun _=>rfl) rfl⟩⟩ _ _ _ _ (Sl.own' hw' (l:=[0,1]) (f:=intV) (k:=1) (by repeat (first|exact List.mem_cons_self|apply List.mem_cons_of_mem)) (fun _=>rfl) rfl) _ _ _ _ (Sl.own' hw' (l:=evX8) (f:=evtV) (k:=2) (by repeat (first|exact List.mem_cons_self|apply List.mem_cons_of_mem)) (fun _=>rfl) rfl) (by decide)) ?_;rintro ⟨⟨na,nc⟩,nb,nd⟩ _))|(refine VCall.isF 26 ?_;(refine VCall.genR (fun w' hw'=>Exists.elim (Sl.own (f:=intV) (l:=[0]) (n:=1) (p:=na) (k:=1) hw' aT (fun _=>rfl) rfl) fun ba ha=>heq na nc ba 0 _ _ _ _ w' ha (Sl.own' hw' (l:=[0]) (f:=intV) (k:=1) (by repeat (first|exact List.mem_cons_self|apply List.mem_cons_of_mem)) (fun _=>rfl) rfl)) ?_;rintro r hr0;obtain rfl:r=true:=hr0.2 rfl;clear hr0))|refine VSeq.go ?_|refine oN fun _=>?_|refine oS (fun _=>?_) fun _=>?_|refine oL ?_|refine oT ?_
 all_goals (conv=>whnf)
 ·rename_i h
  exact absurd (by simp [wrkX8]) h
 ·exact VMid.mk () trivial aE aH
 rintro _ _
 clear hr hc1 hc2
 obtain ⟨hA,htabs⟩:=mapErr_asg mapW_zero
 have hev:=k8_ev
 have hg:=fun pn cn qs cs (w':World) h p c b o h1=>New_good ⟨chpW,none,0,netW,pn,cn,qs,cs⟩ w' h [0,1] (by simp [I64]) p c b o h1 mapW_zero
 dsimp only at hg
 repeat' (conv=>whnf);first|(refine VSeq.is ?_;refine VSeq.isN 12 rfl ?_;refine VSeq.cut (at_:=12) (α:=NewZ) (fun z=>NewIs netW chpW [0,1] z) (fun z=>[(1000000,.tuple #[]),(0,.bool false),(6,.int .i64 0),(13,.pointer (some ⟨z.bm,0,none⟩))]) (fun z=>.row z.bm 135 (macC netW chpW [0,1] (newX netW chpW [0,1] z) 0 wrk0)::(z.cs.map celE++newR netW chpW [0,1] z)) ?_ ?_)|(refine VCall.isF 32 ?_;(refine VCall.genR (fun w' hw'=>hg _ _ _ _ w' ⟨netW_wf,chpW_wf,qB _,⟨0,0,Sl.nil (.inl rfl)⟩,⟨_,0,Sl.own' hw' (l:=netW.ps) (f:=parV) (k:=8) (by repeat (first|exact qg|apply qu)) (fun _=>rfl) rfl⟩,⟨_,0,Sl.own' hw' (l:=netW.syns) (f:=synV) (k:=4) (by repeat (first|exact qg|apply qu)) (fun _=>rfl) rfl⟩⟩ _ _ _ _ (Sl.own' hw' (l:=[0,1]) (f:=intV) (k:=1) (by repeat (first|exact qg|apply qu)) (fun _=>rfl) rfl)) ?_;rintro z hz))|refine oL ?_
 all_goals (conv=>whnf)
 ·exact VMid.mk z hz aE (HLe.of_sub _ (List.Perm.refl _))
 intro z hz
 clear hg
 have hm0:=MacUp.of (new_go hA hz evX8)
 obtain ⟨m0,hm0e⟩:=gX (newM z)
 have e1:z.cs=m0.cs:=by rw [<-hm0e];rfl
 have e2:wrk0=m0.w:=by rw [<-hm0e];rfl
 rw [hm0e] at hm0
 rw [e1,e2]
 have hs0:=fun {w0:World} {M:List Nat} {H R:HP} {K:Value->HP->Prop}=>mstep8_vc (w0:=w0) (M:=M) (H:=H) (R:=R) (K:=K) (l:=evX8) (t:=0) hA htabs hz m0 hm0 (by decide) hev [] k8_s0 [0] rfl
 repeat' (conv=>whnf);first|(refine VSeq.is ?_;refine VSeq.isN 14 rfl ?_;refine VSeq.cut (at_:=14) (α:=Mac×(Nat×Nat)×Option Addr×Nat) (fun y=>MacUp netW chpW (newX netW chpW [0,1] z) evX8 2 y.1) (fun y=>[(1000000,.tuple #[]),(0,.bool false),(6,.int .i64 0),(12,.int .i64 0),(13,.pointer (some ⟨z.bm,0,none⟩)),(14,.slice y.2.2.1 0 y.2.2.2),(15,.slice (some ⟨y.2.1.1,0,none⟩) 1 y.2.1.2),(16,.int .i64 0)]) (fun y=>.row z.bm 135 (macC netW chpW [0,1] (newX netW chpW [0,1] z) 2 y.1.w)::(y.1.cs.map celE++(.vec (some ⟨y.2.1.1,0,none⟩) 1 y.2.1.2 3 1 (flat intV [0])::newR netW chpW [0,1] z))) ?_ ?_)|(refine VNew.mk fun bb=>?_)|(refine VCall.isF 37 ?_;(refine VCall.snd8 (.slice (some ⟨bb,0,none⟩) 1 1) ?_;refine hs0 _ _ _ rfl (by repeat (first|exact Take.nil|(with_reducible apply Take.seg;(focus (exact aS)))|(apply Take.cons;(focus (exact aT)))|(apply Take.last;(focus (exact aS))))) aH (fun w hw=>Exists.elim (Sl.vecOut (f:=intV) (l:=[0]) (k:=1) (p:=some ⟨bb,0,none⟩) (n:=1) (cap:=1) (e:=3) hw aH (fun _=>rfl) rfl) fun b hb=>⟨b,0,hb.1,hb.2⟩) ?_;intro m1 hm1 q1 c1 hq1))|(refine VCall.isF 37 ?_;(refine VCall.snd8 (.slice none 0 0) ?_;refine mstep8_vc (l:=evX8) (t:=0+1) hA htabs hz m1 hm1 (by decide) hev [0] k8_s1 [] rfl none 0 0 rfl (by repeat (first|exact Take.nil|(with_reducible apply Take.seg;(focus (exact aS)))|(apply Take.cons;(focus (exact aT)))|(apply Take.last;(focus (exact aS))))) aH (fun w hw=>⟨w.heap.size,0,.nil (.inl rfl),fun hb=>Nat.lt_irrefl _ (ids_lt (hw.le aH) hb)⟩) ?_;intro m2 hm2 q2 c2 hq2))|refine VSeq.go ?_
 all_goals (conv=>whnf)
 ·obtain ⟨g2,rfl⟩:=hq2 (by decide)
  exact VMid.mk (m2,(g2,c2),q1,c1) hm2 aE aH
 rintro ⟨m2,⟨g2,c2⟩,q1,c1⟩ hm2
 dsimp only at hm2 ⊢
 clear hs0
 have hia:=fun (w':World)=>mImage_any netW chpW [0,1] hA (newX netW chpW [0,1] z) m2 hm2.go w'
 rw [hm2.tick,hm2.sm] at hia
 have ht2:sub (macC netW chpW [0,1] (newX netW chpW [0,1] z) 2 m2.w) 0 1=some [.int .i64 2]:=rfl
 have hc2:sub (macC netW chpW [0,1] (newX netW chpW [0,1] z) 2 m2.w) 2 1=some [.slice (some ⟨z.cb,0,none⟩) 2 z.cc]:=rfl
 repeat' (conv=>whnf);first|(refine VNew.mk fun bi=>?_)|(refine VCall.isF 33 ?_;(refine VCall.genR (fun w' hw'=>hia w' (MacRd.of hz hm2 hw' aH)) ?_;rintro ⟨it,isp,isc,ists,idp,idc,iD⟩ ⟨hi1,hi2,hi3⟩;dsimp only at hi1 hi2 hi3;subst hi1 hi2))|(refine VSeq.is ?_;refine VSeq.isN 15 rfl ?_;refine VSeq.cut (at_:=15) (α:=Nat×Option Addr×Nat×Option Addr×Nat×List DRow) (fun y=>y.2.2.2.2.2.map (·.l)=rot 2 (rnAt (qNet netW chpW) evX8 2).D) (fun y=>[(1000000,.tuple #[]),(0,.bool false),(6,.int .i64 0),(12,.int .i64 0),(13,.pointer (some ⟨z.bm,0,none⟩)),(14,.slice q1 0 c1),(15,.slice (some ⟨g2,0,none⟩) 1 c2),(16,.int .i64 0),(17,.pointer (some ⟨y.1,0,none⟩)),(18,.int .i64 0)]) (fun y=>.row y.1 94 [.int .i64 2,.slice y.2.1 2 y.2.2.1,.slice y.2.2.2.1 16 y.2.2.2.2.1]::.vec y.2.1 2 y.2.2.1 126 2 (flat staV (rnAt (qNet netW chpW) evX8 2).sts)::.vec y.2.2.2.1 16 y.2.2.2.2.1 28 1 (flat drowVs y.2.2.2.2.2)::.row z.bm 135 (macC netW chpW [0,1] (newX netW chpW [0,1] z) 2 m2.w)::.vec (some ⟨g2,0,none⟩) 1 c2 3 1 (flat intV [0])::y.2.2.2.2.2.map drowE) ?_ ?_)|refine oT ?_
 all_goals (conv=>whnf)
 ·refine VMid.mk (bi,isp,isc,idp,idc,iD) hi3 aE ?_
  have hl16:iD.length=16:=by
   have:=congrArg List.length hi3
   rw [qv,rot_length] at this
   exact this
  dsimp only [imgH]
  rw [k8_stl,hl16]
  exact aH
 rintro ⟨bi,isp,isc,idp,idc,iD⟩ hi3
 dsimp only at hi3 ⊢
 have hl16:iD.length=16:=by
  have:=congrArg List.length hi3
  rw [qv,rot_length] at this
  exact this
 have hd1:=k8_D1
 have hd2:=k8_D2
 rw [<-hi3,qj] at hd1 hd2
 obtain ⟨⟨e1,f1,l1⟩,hd1,rfl⟩:=Option.map_eq_some_iff.1 hd1
 obtain ⟨⟨e2,f2,l2⟩,hd2,rfl⟩:=Option.map_eq_some_iff.1 hd2
 have hst:=k8_st
 obtain ⟨sts,hsts⟩:=gX ((rnAt (qNet netW chpW) evX8 2).sts)
 rw [hsts] at hst ⊢
 refine VSeq.learn (fun w hw=>(⟨vec_facts (hw (.vec isp 2 isc 126 2 (flat staV sts)) (by simp)),vec_facts (hw (.vec idp 16 idc 28 1 (flat drowVs iD)) (by simp))⟩:_/\_)) fun hf=>?_
 obtain ⟨gs,rfl⟩:=hf.1.2.1 (by decide)
 obtain ⟨gd,rfl⟩:=hf.2.2.1 (by decide)
 clear hf
 have hsv:sub (staV ⟨0,1⟩) 0 2=some [.int .i64 0,.int .i64 1]:=rfl
 have hv1:sub (drowVs ⟨e1,f1,[0,0]⟩) 0 1=some [.slice (some ⟨e1,0,none⟩) 2 f1]:=rfl
 have hv2:sub (drowVs ⟨e2,f2,[0,6]⟩) 0 1=some [.slice (some ⟨e2,0,none⟩) 2 f2]:=rfl
 have hq2:=fun (p:Option Addr) (c b o:Nat) (q:Option Addr) (d b2 o2:Nat) (w':World) h h'=>equal8_any [0,6] [0,6] (by simp) p c b o q d b2 o2 w' (by simp [I64]) (by simp [I64]) h h'
 have hq3:=fun (p:Option Addr) (c b o:Nat) (q:Option Addr) (d b2 o2:Nat) (w':World) h h'=>equal8_any [0,0] [0,0] (by simp) p c b o q d b2 o2 w' (by simp [I64]) (by simp [I64]) h h'
 repeat' (conv=>whnf);first|(refine VNew.mk fun bb=>?_)|(refine VCall.isF 40 ?_;refine VCall.inl (F:=Tryz.fx40) Tryz.func40 rfl rfl rfl Tryz.ok40 ?_)|(refine VCall.isF 37 ?_;refine VCall.inl (F:=Tryz.fx37) Tryz.func37 rfl rfl rfl Tryz.ok37 ?_)|(refine VCall.isF 33 ?_;refine VCall.inl (F:=Tryz.fx33) Tryz.func33 rfl rfl rfl Tryz.ok33 ?_)|(refine VCall.isF 36 ?_;refine VCall.inl (F:=Tryz.fx36) Tryz.func36 rfl rfl rfl Tryz.ok36 ?_)|(refine VCall.isF 41 ?_;refine VCall.inl (F:=Tryz.fx41) Tryz.func41 rfl rfl rfl Tryz.ok41 ?_)|(refine VCall.isF 46 ?_;refine VCall.inl (F:=Tryz.fx46) Tryz.func46 rfl rfl rfl Tryz.ok46 ?_)|(refine VCall.isF 12 ?_;(refine VCall.valR (fun w' _=>works8_any w') ?_))|(refine VCall.isF 91 ?_;refine VCall.inl (F:=Tryz.fx91) Tryz.func91 rfl rfl rfl Tryz.ok91 ?_)|(refine VLd.is ?_;refine VLd.mk (Rd.cast (.row aT (ht2)) oE) ?_)|(refine VLd.is ?_;refine VLd.mk (Rd.cast (.row aT (hc2)) oE) ?_)|(refine VLd.is ?_;refine VLd.mk (Rd.cast (.vec aT (sub_flat0 (f:=staV) (k:=2) (fun _=>rfl) hst hsv)) oE) ?_)|(refine VLd.is ?_;refine VLd.mk (Rd.cast (.vec aT (sub_flat0 (f:=drowVs) (k:=1) (fun _=>rfl) hd2 hv2)) oE) ?_)|(refine VLd.is ?_;refine VLd.mk (Rd.cast (.vec aT (sub_flat0 (f:=drowVs) (k:=1) (fun _=>rfl) hd1 hv1)) oE) ?_)|(refine VCall.isF 26 ?_;(refine VCall.fst8 (.slice (some ⟨g2,0,none⟩) 1 c2) ?_;refine VCall.genR (fun w' hw'=>heq _ c2 _ _ _ _ _ _ w' (Sl.own' hw' (l:=[0]) (f:=intV) (k:=1) (by repeat (first|exact qg|apply qu)) (fun _=>rfl) rfl) (Sl.own' hw' (l:=[0]) (f:=intV) (k:=1) (by repeat (first|exact qg|apply qu)) (fun _=>rfl) rfl)) ?_;rintro r hr0;obtain rfl:r=true:=hr0.2 rfl;clear hr0))|(refine VCall.isF 26 ?_;(refine VCall.fst8 (.slice (some ⟨e2,0,none⟩) 2 f2) ?_;refine VCall.genR (fun w' hw'=>hq2 _ f2 _ _ _ _ _ _ w' (Sl.own' (hw'.le (show HLe (iD.map drowE) _ by exact aH)) (qN (f:=drowE) (qz hd2)) (fun _=>rfl) rfl) (Sl.own' hw' (l:=[0,6]) (f:=intV) (k:=1) (by repeat (first|exact qg|apply qu)) (fun _=>rfl) rfl)) ?_;rintro r hr0;obtain rfl:r=true:=hr0.2 rfl;clear hr0))|(refine VCall.isF 26 ?_;(refine VCall.fst8 (.slice (some ⟨e1,0,none⟩) 2 f1) ?_;refine VCall.genR (fun w' hw'=>hq3 _ f1 _ _ _ _ _ _ w' (Sl.own' (hw'.le (show HLe (iD.map drowE) _ by exact aH)) (qN (f:=drowE) (qz hd1)) (fun _=>rfl) rfl) (Sl.own' hw' (l:=[0,0]) (f:=intV) (k:=1) (by repeat (first|exact qg|apply qu)) (fun _=>rfl) rfl)) ?_;rintro r hr0;obtain rfl:r=true:=hr0.2 rfl;clear hr0))|refine VSeq.go ?_|refine oY fun _=>?_|refine oN fun _=>?_|refine oS (fun _=>?_) fun _=>?_|refine oL ?_|refine oT ?_|refine oI ?_
 all_goals (conv=>whnf)
 all_goals first
  |exact ⟨fun w' hw'=>⟨rfl,hw'.le .nil⟩⟩
  |(exfalso;rename_i h;simp at h)
end Go.Proofs
