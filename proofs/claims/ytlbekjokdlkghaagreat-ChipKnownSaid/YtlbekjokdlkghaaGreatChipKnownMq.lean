import Derived.Test.YtlbekjokdlkghaaGreatChipKnownMp
set_option linter.unusedVariables false
set_option linter.unusedSimpArgs false
set_option maxHeartbeats 4000000
namespace Go.Gm
def usL (C:Chp)(l:List Syn)(cores:List Int):List (Nat×Nat):=(List.range (nCores C)).map fun (k:Nat)=>(useN cores (k:Int),useR l cores (k:Int))
theorem usL_get {C:Chp}{l:List Syn}{cores:List Int}{k:Nat}(hk:k<nCores C):(usL C l cores)[k]? =some (useN cores (k:Int),useR l cores (k:Int)):=by
 unfold usL
 rw [qj,qX hk]
 rfl
theorem usL_len (C:Chp)(l:List Syn)(cores:List Int):(usL C l cores).length=nCores C:=by unfold usL;simp
theorem usL_next {C:Chp}{l:List Syn}{cores:List Int}{i:Nat}{c:Nat}(h:cores[i]? =some (c:Int)):
  usL C l (cores.take (i+1))=(usL C l (cores.take i)).set c (useN (cores.take i) (c:Int)+1,useR l (cores.take i) (c:Int)+rowN l (i:Int)):=by
 have hil:=(qx.1 h).1
 have e:cores.take (i+1)=cores.take i++[(c:Int)]:=by rw [qi,h];rfl
 have hlen:(cores.take i).length=i:=by rw [qh];omega
 apply qp
 intro j
 by_cases hj:j<nCores C
 ·rw [usL_get hj,e,useN_snoc,useR_snoc,hlen]
  by_cases hjc:c=j
  ·subst hjc
   rw [jx rfl,jx rfl,QZ (by rw [usL_len];exact hj)]
  ·rw [jz (by omega),jz (by omega),List.getElem?_set_ne hjc,usL_get hj]
   rfl
 ·rw [qf (by rw [usL_len];omega),qf (by rw [QF,usL_len];omega)]
theorem usL_nil (C:Chp)(l:List Syn):usL C l []=List.replicate (nCores C) (0,0):=by
 unfold usL
 have e:(fun (k:Nat)=>(useN [] (k:Int),useR l [] (k:Int)))=fun _=>(0,0):=by
  funext k
  unfold useN useR
  simp
 rw [e,List.map_const',Qg]
end Go.Gm
namespace Go.Proofs
open Go Go.Vx Go.Gm
structure PlnAt (X:PlnX) (x:PlnM) (w:World):Prop where
 ok:PlanOk X.N X.C
 up:PlnUp X X.N.syns x
 rd:PlnRd X w
 row:Cells w x.b 0 (plnV X x)
 T:Cells w x.gt 0 (flat srV x.T)
 F:Cells w x.gf 0 (flat srV x.F)
 R:Cells w x.gr 0 (flat intV x.R)
 rowT:∀d∈x.T,∃b,Sl w intV 1 d.l d.p d.l.length b 0
 rowF:∀d∈x.F,∃b,Sl w intV 1 d.l d.p d.l.length b 0
theorem PlnRd.keep {X:PlnX}{w w':World}{H:HP}(h:PlnRd X w)(hs:St w [] H w'):PlnRd X w':=by
 obtain ⟨h1,h2,h3,⟨b1,o1,h4⟩,⟨b2,o2,h5⟩,⟨b3,o3,h6⟩⟩:=h
 exact ⟨h1,h2,h3,⟨b1,o1,h4.keep hs (by simp)⟩,⟨b2,o2,h5.keep hs (by simp)⟩,⟨b3,o3,h6.keep hs (by simp)⟩⟩
theorem PlnAt.keep {X:PlnX}{x:PlnM}{w w':World}{H:HP}(h:PlnAt X x w)(hs:St w [] H w'):PlnAt X x w':=by
 obtain ⟨h1,h2,h3,h4,h5,h6,h7,h8,h9⟩:=h
 refine ⟨h1,h2,h3.keep hs,h4.keep hs (by simp),h5.keep hs (by simp),h6.keep hs (by simp),h7.keep hs (by simp),fun d hd=>?_,fun d hd=>?_⟩
 ·obtain ⟨b,hb⟩:=h8 d hd
  exact ⟨b,hb.keep hs (by simp)⟩
 ·obtain ⟨b,hb⟩:=h9 d hd
  exact ⟨b,hb.keep hs (by simp)⟩
theorem PlnAt.of {X:PlnX}{x:PlnM}{w0 w:World}{M:List Nat}{H:HP}(hok:PlanOk X.N X.C)(hup:PlnUp X X.N.syns x)(hrd:PlnRd X w)(hs:St w0 M H w)(hl:HLe (plnH X x) H):PlnAt X x w:=by
 have h:=hs.le hl
 have hv:∀(g n c e k:Nat) (xs:List Value),Ent.vec (some ⟨g,0,none⟩) n c e k xs∈plnH X x->Cells w g 0 xs:=fun g n c e k xs hm=>by
  obtain ⟨g',cur,hg,hh,_,_,_,ht,_⟩:=vec_some (h.own _ hm)
  cases hg
  intro j v hj
  rw [<-ht,Qt] at hj
  split at hj
  ·simp only [Qo,World.cell?,hh];simpa using hj
  ·cases hj
 have hr:∀d:SRow,srE d∈plnH X x->∃b,Sl w intV 1 d.l d.p d.l.length b 0:=fun d hm=>by
  obtain ⟨u,r,hat⟩:=at_mem hm
  exact Sl.own h (by unfold srE at hat;exact hat) (fun _=>rfl) rfl
 refine ⟨hok,hup,hrd,Cells.own (e:=151) h qg,hv _ _ _ _ _ _ (qu _ qg),hv _ _ _ _ _ _ (qu _ (qu _ qg)),hv _ _ _ _ _ _ (qu _ (qu _ (qu _ qg))),fun d hd=>?_,fun d hd=>?_⟩
 ·exact hr d (by unfold plnH;simp only [qQ,qH];exact .inr (.inr (.inr (.inr (.inl (qN hd))))))
 ·exact hr d (by unfold plnH;simp only [qQ,qH];exact .inr (.inr (.inr (.inr (.inr (qN hd))))))
def usV (u:Nat×Nat):List Value:=[.int .i64 (u.1:Int),.int .i64 (u.2:Int)]
theorem used_any (X:PlnX)(x:PlnM)(cores:List Int)(hlen:cores.length<=X.N.ps.length)(hcr:∀k∈cores,0<=k/\k<X.C.mesh.wide*X.C.mesh.high)(p:Option Addr)(c b o:Nat)(w:World)(hx:PlnAt X x w)(h1:Sl w intV 1 cores p cores.length b o):
  Calls Tryz.prog 172 #[.pointer (some ⟨x.b,0,none⟩),.slice p cores.length c] w fun e w'=>∃g:Nat,e=.returned (.slice (some ⟨g,0,none⟩) (nCores X.C) (nCores X.C))/\True/\St w [] [.vec (some ⟨g,0,none⟩) (nCores X.C) (nCores X.C) 331 2 (flat usV (usL X.C X.N.syns cores))] w':=by
 obtain ⟨hnc,hn1,hn2⟩:=nCores_ok hx.ok.chip
 obtain ⟨n,hn⟩:=gX (nCores X.C)
 have hul:=usL_len X.C X.N.syns
 have hnx:=fun {i c:Nat} h=>usL_next (C:=X.C) (l:=X.N.syns) (cores:=cores) (i:=i) (c:=c) h
 have hgt:=fun {k:Nat} {l:List Int} hk=>usL_get (C:=X.C) (l:=X.N.syns) (cores:=l) (k:=k) hk
 have h0:=usL_nil X.C X.N.syns
 rw [hn] at hnc hn1 hn2 h0 ⊢
 have hfs:=hx.ok.net.few
 have hR:=hx.up.R
 have hRl:x.R.length=X.N.ps.length:=by rw [hR];unfold rowL;simp
 have hrow:=hx.row
 have hRc:=hx.R
 have k0:sub (plnV X x) 0 8=some (chpC X.C X.pd X.cd):=rfl
 have k13:sub (plnV X x) 13 1=some [.slice (some ⟨x.gr,0,none⟩) x.R.length x.R.length]:=rfl
 unfold chpC at k0
 have hrep:=flat_rep (f:=usV) (x:=((0,0):Nat×Nat)) n
 refine enter (C:=Tryz.cx) (F:=Tryz.fx172) (args:=[_,_]) Tryz.func172 rfl rfl rfl Tryz.ok172 (St.start w []) ?_
 repeat' (conv=>whnf);first|(refine VLd.is ?_;refine VLd.mk (Rd.cast (.old (hrow.part k0) rfl (by simp)) oE) ?_)|(refine VCall.isF 57 ?_;refine VCall.inl (F:=Tryz.fx57) Tryz.func57 rfl rfl rfl Tryz.ok57 ?_)|(refine VAr.is ?_;refine VAr.mul hnc.symm qZ qZ ?_)|(refine VMk.is ?_;refine VMk.mk qZ qZ (by (try dsimp only);omega) qZ fun g=>?_)|refine VSeq.go ?_|refine oL ?_|refine oV fun _=>?_
 all_goals (conv=>whnf)
 refine VLoop.mk (α:=Nat) (fun i=>i<=cores.length) (fun i=>[(1000000,.tuple #[]),(0,.pointer (some ⟨x.b,0,none⟩)),(4,.slice none 0 0),(5,.slice (some ⟨g,0,none⟩) n n),(14,.slice p cores.length c),(15,.int .i64 (cores.length:Int)),(16,.int .i64 (i:Int))])
  (fun i=>[.vec (some ⟨g,0,none⟩) n n 331 2 (flat usV (usL X.C X.N.syns (cores.take i)))]) (fun i=>cores.length - i) 0 (qB _) aE ?_ ?_
 ·rw [QO,h0,<-hrep]
  exact aH
 intro i hi
 rcases qy i cores.length with hlt|hge
 ·obtain ⟨kz,hkz⟩:=h1.get hlt
  have hkr:=hcr kz (qz hkz)
  obtain ⟨k,rfl⟩:∃k:Nat,kz=(k:Int):=⟨kz.toNat,by omega⟩
  have hkn:k<n:=by omega
  have hg:=hgt (l:=cores.take i) (by rw [hn];exact hkn)
  have hnx2:=hnx hkz
  have hRi:x.R[i]? =some (rowN X.N.syns (i:Int):Int):=by
   rw [hR];unfold rowL
   rw [qj,qX qZ];rfl
  have b1:useN (cores.take i) (k:Int)<=1024:=by
   have:=qT (p:=fun c=>decide (c=(k:Int))) (l:=cores.take i)
   rw [qh] at this
   unfold useN;omega
  have b2:useR X.N.syns (cores.take i) (k:Int)<=8192:=by
   have:=qT (p:=fun s:Syn=>decide (0<=s.to/\(cores.take i)[s.to.toNat]? =some (k:Int))) (l:=X.N.syns)
   have:=hx.ok.net.fewS
   unfold useR;omega
  have b3:rowN X.N.syns (i:Int)<=8192:=by
   have:=qT (p:=fun s:Syn=>decide (s.to=(i:Int))) (l:=X.N.syns)
   have:=hx.ok.net.fewS
   unfold rowN;omega
  have hUl:=hul (cores.take i)
  obtain ⟨U,hU⟩:=gX (usL X.C X.N.syns (cores.take i))
  rw [hU] at hg hnx2 hUl ⊢
  obtain ⟨u1,hu1⟩:=gX (useN (cores.take i) (k:Int))
  obtain ⟨u2,hu2⟩:=gX (useR X.N.syns (cores.take i) (k:Int))
  obtain ⟨u3,hu3⟩:=gX (rowN X.N.syns (i:Int))
  rw [hu1,hu2] at hg
  rw [hu1,hu2,hu3] at hnx2
  rw [hu3] at hRi
  rw [hu1] at b1
  rw [hu2] at b2
  rw [hu3] at b3
  have hg2:(U.set k (u1+1,u2))[k]? =some (u1+1,u2):=QZ qZ
  repeat' (conv=>whnf);first|(refine VLd.is ?_;refine VLd.mk (Rd.cast (.old (hrow.part k13) rfl (by simp)) oE) ?_)|(refine VIx.is ?_;refine VIx.mk (h1.ptr qZ) qZ qZ ?_)|(refine VLd.is ?_;refine VLd.mk (Rd.cast (h1.rd0 (by simp) (fun _=>rfl) hkz rfl) oE) ?_)|refine oI ?_|(refine VLd.is ?_;refine VLd.mk (Rd.cast (.vec aT (sub_flat (vs:=[.int .i64 (u1:Int)]) (f:=usV) (k:=2) (o:=0) (s:=1) (fun _=>rfl) hg rfl)) oE) ?_)|(refine VLd.is ?_;refine VLd.mk (Rd.cast (.vec aT (sub_flat (vs:=[.int .i64 (u2:Int)]) (f:=usV) (k:=2) (o:=1) (s:=1) (fun _=>rfl) hg2 rfl)) oE) ?_)|(refine VLd.is ?_;refine VLd.mk (Rd.cast (.old (hRc.part (sub_flat0 (vs:=[.int .i64 (u3:Int)]) (s:=1) (f:=intV) (k:=1) (fun _=>rfl) hRi rfl)) rfl (by simp)) oE) ?_)|(refine VSt.is ?_;refine VSt.cast (off':=k*2+0) oE (VSt.vec aT (upd_flat (o:=0) (f:=usV) (k:=2) (y:=(u1+1,u2)) (fun _=>rfl) hg rfl) rfl ?_))|(refine VSt.is ?_;refine VSt.cast (off':=k*2+1) oE (VSt.vec aT (upd_flat (o:=1) (f:=usV) (k:=2) (y:=(u1+1,u2+u3)) (fun _=>rfl) hg2 rfl) rfl ?_))|(refine VHs.is ?_;refine VHs.mk [.vec (some ⟨g,0,none⟩) n n 331 2 (flat usV (U.set k (u1+1,u2)))] aH ?_)|refine VSeq.go ?_|refine oY fun _=>?_|refine oA ?_
  all_goals (conv=>whnf)
  refine VNext.mk (i+1) qZ qZ aE ?_
  rw [hnx2,<-List.set_set]
  exact aH
 ·rw [qe hge]
  repeat' (conv=>whnf);first|refine VSeq.go ?_|refine oN fun _=>?_
  all_goals (conv=>whnf)
  exact ⟨fun w' hw'=>⟨g,rfl,trivial,hw'⟩⟩
def chkA (N:Net)(C:Chp)(cores:List Int):Int:=if cores.length≠N.ps.length then 13 else if coreE C cores≠0 then coreE C cores else if¬fitsA C N.syns cores then 15 else 0
theorem pcheck_any (X:PlnX)(x:PlnM)(cores:List Int)(hcw:∀k∈cores,I64 k)(hlc:cores.length<=1000000)(p:Option Addr)(c b o:Nat)(w:World)(hx:PlnAt X x w)(h1:Sl w intV 1 cores p cores.length b o):
  Calls Tryz.prog 109 #[.pointer (some ⟨x.b,0,none⟩),.slice p cores.length c] w fun e w'=>e=.returned (.int .i64 (chkA X.N X.C cores))/\St w [] [] w':=by
 obtain ⟨hnc,hn1,hn2⟩:=nCores_ok hx.ok.chip
 obtain ⟨n,hn⟩:=gX (nCores X.C)
 have hrow:=hx.row
 have k0:sub (plnV X x) 0 8=some (chpC X.C X.pd X.cd):=rfl
 have k3:sub (plnV X x) 3 1=some [.int .i64 X.C.nr]:=rfl
 have k4:sub (plnV X x) 4 1=some [.int .i64 X.C.sy]:=rfl
 have k7:sub (plnV X x) 7 1=some [.slice X.pd X.C.dead.length X.cd]:=rfl
 have k8:sub (plnV X x) 8 1=some [.slice X.pn X.N.ps.length X.cn]:=rfl
 unfold chpC at k0
 obtain ⟨bd,od,hd⟩:=hx.rd.dead
 have hdl:=hx.rd.chip.few
 have hfew:=hx.ok.net.few
 refine enter (C:=Tryz.cx) (F:=Tryz.fx109) (args:=[_,_]) Tryz.func109 rfl rfl rfl Tryz.ok109 (St.start w []) ?_
 unfold chkA
 by_cases hln:cores.length≠X.N.ps.length
 ·rw [jx hln]
  repeat' (conv=>whnf);first|(refine VLd.is ?_;refine VLd.mk (Rd.cast (.old (hrow.part k8) rfl (by simp)) oE) ?_)|refine VSeq.go ?_|refine oY fun _=>?_|refine oL ?_|refine oV fun _=>?_
  all_goals (conv=>whnf)
  exact ⟨fun w' hw'=>⟨rfl,hw'.le .nil⟩⟩
 rw [jz hln]
 have hln:=Qm.1 hln
 repeat' (conv=>whnf);first|(refine VLd.is ?_;refine VLd.mk (Rd.cast (.old (hrow.part k8) rfl (by simp)) oE) ?_)|(refine VNew.mk fun b2=>?_)|refine VSeq.go ?_|refine oN fun _=>?_|refine oL ?_
 all_goals (conv=>whnf)
 refine VLoop.mk (α:=Nat) (fun i=>i<=cores.length/\coreE X.C cores=coreE X.C (cores.drop i)) (fun i=>[(1000000,.tuple #[]),(1,.slice p cores.length c),(2,.pointer (some ⟨b2,0,none⟩)),(4,.int .i64 0),(16,.slice p cores.length c),(17,.int .i64 (cores.length:Int)),(18,.int .i64 (i:Int))])
  (fun i=>[.row b2 146 [.pointer (some ⟨x.b,0,none⟩)]]) (fun i=>cores.length - i) 0 ⟨qB _,rfl⟩ aE aH ?_
 rintro i ⟨hi,hcd⟩
 rcases qy i cores.length with hlt|hge
 ·obtain ⟨k,hk⟩:=h1.get hlt
  have hkw:=hcw k (qz hk)
  unfold I64 at hkw
  have hbad:¬(0<=k/\k<=X.C.mesh.wide*X.C.mesh.high - 1)->coreE X.C cores=3:=fun h=>hcd.trans (coreE_bad hk h)
  have hdead:(0<=k/\k<=X.C.mesh.wide*X.C.mesh.high - 1)->k∈X.C.dead->coreE X.C cores=25:=fun h h2=>hcd.trans (coreE_down hk h h2)
  have hnext:(0<=k/\k<=X.C.mesh.wide*X.C.mesh.high - 1)->k∉X.C.dead->coreE X.C cores=coreE X.C (cores.drop (i+1)):=fun h h2=>hcd.trans (coreE_next hk h h2)
  rw [<-hnc,hn] at hbad hdead hnext
  rw [hn] at hnc hn1 hn2
  clear hcd
  repeat' (conv=>whnf);first|(refine VIx.is ?_;refine VIx.mk (h1.ptr qZ) qZ qZ ?_)|(refine VLd.is ?_;refine VLd.mk (Rd.cast (h1.rd0 (by simp) (fun _=>rfl) hk rfl) oE) ?_)|(refine VLd.is ?_;refine VLd.mk (Rd.cast (.old (hrow.part k0) rfl (by simp)) oE) ?_)|(refine VLd.is ?_;refine VLd.mk (Rd.cast (.old (hrow.part k7) rfl (by simp)) oE) ?_)|(refine VCall.isF 79 ?_;refine VCall.inl (F:=Tryz.fx79) Tryz.func79 rfl rfl rfl Tryz.ok79 ?_)|(refine VCall.isF 57 ?_;refine VCall.inl (F:=Tryz.fx57) Tryz.func57 rfl rfl rfl Tryz.ok57 ?_)|(refine VAr.is ?_;refine VAr.mul hnc.symm qZ qZ ?_)|(refine VCall.isF 145 ?_;(refine VCall.genR (fun w' hw'=>contains_any X.C.dead qZ k _ _ bd od w' (hd.keep hw' (by simp))) ?_;intro c1 hc1;cases c1<;>simp only [QV,false_iff,true_iff] at hc1))|refine VSeq.go ?_|refine oY fun _=>?_|refine oS (fun _=>?_) fun _=>?_|refine oL ?_|refine oV fun _=>?_|refine oA ?_
  all_goals (conv=>whnf)
  all_goals first
   |exact ⟨fun w' hw'=>⟨by rw [hbad qZ];rfl,hw'.le .nil⟩⟩
   |exact ⟨fun w' hw'=>⟨by rw [hdead qZ hc1];rfl,hw'.le .nil⟩⟩
   |exact VNext.mk (i+1) ⟨by omega,hnext qZ hc1⟩ qZ aE aH
 have hc0:coreE X.C cores=0:=by rw [hcd,Qi hge];rfl
 have hcz:=coreE_zero.1 hc0
 rw [jz (by rw [hc0];simp)]
 have hus:=used_any X x cores qZ (fun k hk=>(hcz k hk).1) p c b o
 have hul:=usL_len X.C X.N.syns cores
 have hgt:=fun {k:Nat} hk=>usL_get (C:=X.C) (l:=X.N.syns) (cores:=cores) (k:=k) hk
 have hfit:fitsA X.C X.N.syns cores<->∀k:Nat,k<n->(useN cores k:Int)<=X.C.nr/\(useR X.N.syns cores k:Int)<=X.C.sy:=by unfold fitsA;rw [hn]
 rw [hn] at hnc hn1 hn2 hus hul hgt
 obtain ⟨U,hU⟩:=gX (usL X.C X.N.syns cores)
 rw [hU] at hus hul hgt
 have hres:∀v:Int,(fitsA X.C X.N.syns cores->v=0)->(¬fitsA X.C X.N.syns cores->v=15)->v=if¬fitsA X.C X.N.syns cores then 15 else 0:=fun v h2 h3=>by
  split
  ·rename_i h;exact h3 h
  ·rename_i h;exact h2 (Qm.1 h)
 repeat' (conv=>whnf);first|(refine VCall.isF 172 ?_;(refine VCall.genR (fun w' hw'=>hus w' (hx.keep hw') (h1.keep hw' (by simp))) ?_;rintro g _;dsimp only))|(refine VCall.isF 171 ?_;refine VCall.inl (F:=Tryz.fx171) Tryz.func171 rfl rfl rfl Tryz.ok171 ?_)|(refine VCall.isF 221 ?_;refine VCall.inl (F:=Tryz.fx221) Tryz.func221 rfl rfl rfl Tryz.ok221 ?_)|refine VSeq.go ?_|refine oN fun _=>?_|refine oL ?_
 all_goals (conv=>whnf)
 refine VLoop.mk (α:=Nat) (fun j=>j<=n/\∀k:Nat,k<j->(useN cores k:Int)<=X.C.nr/\(useR X.N.syns cores k:Int)<=X.C.sy) (fun j=>[(1000000,.tuple #[]),(0,.slice (some ⟨g,0,none⟩) n n),(1,.func (.func 173) #[] #[.pointer (some ⟨b2,0,none⟩)]),(4,.int .i64 0),(7,.int .i64 (n:Int)),(8,.int .i64 (j:Int))])
  (fun _=>[.vec (some ⟨g,0,none⟩) n n 331 2 (flat usV U),.row b2 146 [.pointer (some ⟨x.b,0,none⟩)]]) (fun j=>n - j) 0 ⟨qB _,by intro k hk;omega⟩ aE aH ?_
 rintro j ⟨hj,hall⟩
 rcases qy j n with hlj|hgj
 ·have hu:=hgt hlj
  have hno:((useN cores (j:Int):Int)>X.C.nr\/(useR X.N.syns cores (j:Int):Int)>X.C.sy)->¬fitsA X.C X.N.syns cores:=fun h h2=>by
   have:=hfit.1 h2 j hlj
   omega
  have hyes:¬((useN cores (j:Int):Int)>X.C.nr\/(useR X.N.syns cores (j:Int):Int)>X.C.sy)->∀k:Nat,k<j+1->(useN cores k:Int)<=X.C.nr/\(useR X.N.syns cores k:Int)<=X.C.sy:=fun h k hk=>by
   rcases qy k j with h2|h2
   ·exact hall k h2
   ·have e:k=j:=by omega
    subst e
    omega
  obtain ⟨u1,hu1⟩:=gX (useN cores (j:Int))
  obtain ⟨u2,hu2⟩:=gX (useR X.N.syns cores (j:Int))
  rw [hu1,hu2] at hu hno hyes
  clear hall hfit hcz hcd
  repeat' (conv=>whnf);first|refine oI ?_|(refine VLd.is ?_;refine VLd.mk (Rd.cast (.vec aT (sub_flat0 (f:=usV) (k:=2) (fun _=>rfl) hu rfl)) oE) ?_)|(refine VCall.isF 173 ?_;refine VCall.inl (F:=Tryz.fx173) Tryz.func173 rfl rfl rfl Tryz.ok173 ?_)|(refine VLd.is ?_;refine VLd.mk (Rd.cast (.old (hrow.part k3) rfl (by simp)) oE) ?_)|(refine VLd.is ?_;refine VLd.mk (Rd.cast (.old (hrow.part k4) rfl (by simp)) oE) ?_)|refine VSeq.go ?_|refine oY fun _=>?_|refine oS (fun _=>?_) fun _=>?_|refine oL ?_|refine oV fun _=>?_|refine oA ?_|refine oH ?_
  all_goals (conv=>whnf)
  all_goals first
   |exact ⟨fun w' hw'=>⟨by rw [<-hres 15 (fun h=>absurd h (hno qZ)) (fun _=>rfl)];rfl,hw'.le .nil⟩⟩
   |exact VNext.mk (j+1) ⟨by omega,hyes qZ⟩ qZ aE aH
 have hok:fitsA X.C X.N.syns cores:=hfit.2 fun k hk=>hall k qZ
 repeat' (conv=>whnf);first|refine VSeq.go ?_|refine oN fun _=>?_
 all_goals (conv=>whnf)
 exact ⟨fun w' hw'=>⟨by rw [<-hres 0 (fun _=>rfl) (fun h=>absurd hok h)];rfl,hw'.le .nil⟩⟩
end Go.Proofs
