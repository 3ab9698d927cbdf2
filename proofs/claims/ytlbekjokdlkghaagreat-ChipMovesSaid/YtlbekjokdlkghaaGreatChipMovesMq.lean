import Derived.Test.YtlbekjokdlkghaaGreatChipMovesMp
set_option linter.unusedVariables false
set_option linter.unusedSimpArgs false
set_option maxHeartbeats 4000000
namespace Go.Gm
def usL (C:Chp)(l:List Syn)(cores:List Int):List (Nat×Nat):=(List.range (bX1 C)).map fun (k:Nat)=>(cQ4 cores (k:Int),dP8 l cores (k:Int))
theorem dS6 {C:Chp}{l:List Syn}{cores:List Int}{k:Nat}(hk:k<bX1 C):(usL C l cores)[k]? =some (cQ4 cores (k:Int),dP8 l cores (k:Int)):=by
 unfold usL
 rw [qj,qX hk]
 rfl
theorem dV4 (C:Chp)(l:List Syn)(cores:List Int):(usL C l cores).length=bX1 C:=by unfold usL;simp
theorem hS6 {C:Chp}{l:List Syn}{cores:List Int}{i:Nat}{c:Nat}(h:cores[i]? =some (c:Int)):
  usL C l (cores.take (i+1))=(usL C l (cores.take i)).set c (cQ4 (cores.take i) (c:Int)+1,dP8 l (cores.take i) (c:Int)+fY8 l (i:Int)):=by
 have hil:=(qx.1 h).1
 have e:cores.take (i+1)=cores.take i++[(c:Int)]:=by rw [qi,h];rfl
 have hlen:(cores.take i).length=i:=by rw [qh];omega
 apply qp
 intro j
 by_cases hj:j<bX1 C
 ·rw [dS6 hj,e,dV3,hQ0,hlen]
  by_cases hjc:c=j
  ·subst hjc
   rw [jw rfl,jw rfl,QZ (by rw [dV4];exact hj)]
  ·rw [jk qZ,jk qZ,List.getElem?_set_ne hjc,dS6 hj]
   rfl
 ·rw [qf (by rw [dV4];omega),qf (by rw [QH,dV4];omega)]
theorem kM9 (C:Chp)(l:List Syn):usL C l []=List.replicate (bX1 C) (0,0):=by
 unfold usL
 have e:(fun (k:Nat)=>(cQ4 [] (k:Int),dP8 l [] (k:Int)))=fun _=>(0,0):=by
  funext k
  unfold cQ4 dP8
  simp
 rw [e,List.map_const',Qg]
end Go.Gm
namespace Go.Proofs
open Go Go.Vx Go.Gm
structure PlnAt (X:PlnX) (x:PlnM) (w:World):Prop where
 ok:PlanOk X.N X.C
 up:PlnUp X X.N.syns x
 rd:PlnRd X w
 row:Cells w x.b 0 (fS0 X x)
 T:Cells w x.gt 0 (bQ1 srV x.T)
 F:Cells w x.gf 0 (bQ1 srV x.F)
 R:Cells w x.gr 0 (bQ1 bQ6 x.R)
 rowT:∀d∈x.T,∃b,Sl w bQ6 1 d.l d.p d.l.length b 0
 rowF:∀d∈x.F,∃b,Sl w bQ6 1 d.l d.p d.l.length b 0
theorem PlnRd.keep {X:PlnX}{w w':World}{H:HP}(h:PlnRd X w)(hs:St w [] H w'):PlnRd X w':=by
 obtain ⟨h1,h2,h3,⟨b1,o1,h4⟩,⟨b2,o2,h5⟩,⟨b3,o3,h6⟩⟩:=h
 exact ⟨h1,h2,h3,⟨b1,o1,h4.keep hs oU⟩,⟨b2,o2,h5.keep hs oU⟩,⟨b3,o3,h6.keep hs oU⟩⟩
theorem PlnAt.keep {X:PlnX}{x:PlnM}{w w':World}{H:HP}(h:PlnAt X x w)(hs:St w [] H w'):PlnAt X x w':=by
 obtain ⟨h1,h2,h3,h4,h5,h6,h7,h8,h9⟩:=h
 refine ⟨h1,h2,h3.keep hs,h4.keep hs oU,h5.keep hs oU,h6.keep hs oU,h7.keep hs oU,fun d hd=>?_,fun d hd=>?_⟩
 ·obtain ⟨b,hb⟩:=h8 d hd
  exact ⟨b,hb.keep hs oU⟩
 ·obtain ⟨b,hb⟩:=h9 d hd
  exact ⟨b,hb.keep hs oU⟩
theorem PlnAt.of {X:PlnX}{x:PlnM}{w0 w:World}{M:List Nat}{H:HP}(hok:PlanOk X.N X.C)(hup:PlnUp X X.N.syns x)(hrd:PlnRd X w)(hs:St w0 M H w)(hl:HLe (fQ3 X x) H):PlnAt X x w:=by
 have h:=hs.le hl
 have hv:∀(g n c e k:Nat) (xs:List Value),Ent.vec (some ⟨g,0,none⟩) n c e k xs∈fQ3 X x->Cells w g 0 xs:=fun g n c e k xs hm=>by
  obtain ⟨g',cur,hg,hh,_,_,_,ht,_⟩:=bW7 (h.own _ hm)
  cases hg
  intro j v hj
  rw [<-ht,Qt] at hj
  split at hj
  ·simp only [Qo,World.cell?,hh];simpa using hj
  ·cases hj
 have hr:∀d:SRow,srE d∈fQ3 X x->∃b,Sl w bQ6 1 d.l d.p d.l.length b 0:=fun d hm=>by
  obtain ⟨u,r,hat⟩:=kD7 hm
  exact Sl.own h (by unfold srE at hat;exact hat) oR rfl
 refine ⟨hok,hup,hrd,Cells.own (e:=151) h qg,hv _ _ _ _ _ _ (qu _ qg),hv _ _ _ _ _ _ (qu _ (qu _ qg)),hv _ _ _ _ _ _ (qu _ (qu _ (qu _ qg))),fun d hd=>?_,fun d hd=>?_⟩
 ·exact hr d (by unfold fQ3;simp only [qQ,qH];exact .inr (.inr (.inr (.inr (.inl (qN hd))))))
 ·exact hr d (by unfold fQ3;simp only [qQ,qH];exact .inr (.inr (.inr (.inr (.inr (qN hd))))))
def usV (u:Nat×Nat):List Value:=[.int .i64 (u.1:Int),.int .i64 (u.2:Int)]
theorem hS4 (X:PlnX)(x:PlnM)(cores:List Int)(hlen:cores.length<=X.N.ps.length)(hcr:∀k∈cores,0<=k/\k<X.C.mesh.wide*X.C.mesh.high)(p:Option Addr)(c b o:Nat)(w:World)(hx:PlnAt X x w)(h1:Sl w bQ6 1 cores p cores.length b o):
  Calls Tryz.prog 172 #[.pointer (some ⟨x.b,0,none⟩),.slice p cores.length c] w fun e w'=>∃g:Nat,e=.returned (.slice (some ⟨g,0,none⟩) (bX1 X.C) (bX1 X.C))/\True/\St w [] [.vec (some ⟨g,0,none⟩) (bX1 X.C) (bX1 X.C) 331 2 (bQ1 usV (usL X.C X.N.syns cores))] w':=by
 obtain ⟨hnc,hn1,hn2⟩:=bX6 hx.ok.chip
 obtain ⟨n,hn⟩:=gX (bX1 X.C)
 have hul:=dV4 X.C X.N.syns
 have hnx:=fun {i c:Nat} h=>hS6 (C:=X.C) (l:=X.N.syns) (cores:=cores) (i:=i) (c:=c) h
 have hgt:=fun {k:Nat} {l:List Int} hk=>dS6 (C:=X.C) (l:=X.N.syns) (cores:=l) (k:=k) hk
 have h0:=kM9 X.C X.N.syns
 rw [hn] at hnc hn1 hn2 h0 ⊢
 have hfs:=hx.ok.net.few
 have hR:=hx.up.R
 have hRl:x.R.length=X.N.ps.length:=by rw [hR];unfold gM2;simp
 have hrow:=hx.row
 have hRc:=hx.R
 have k0:sub (fS0 X x) 0 8=some (bD5 X.C X.pd X.cd):=rfl
 have k13:sub (fS0 X x) 13 1=some [.slice (some ⟨x.gr,0,none⟩) x.R.length x.R.length]:=rfl
 unfold bD5 at k0
 have hrep:=bV3 (f:=usV) (x:=((0,0):Nat×Nat)) n
 refine enter (C:=Tryz.cx) (F:=lH5) (args:=[_,_]) Tryz.func172 rfl rfl rfl lL6 (St.start w []) ?_
 repeat' (conv=>whnf);first|(refine VLd.is ?_;refine oC (.old (hrow.part k0) rfl (by simp)) ?_)|(refine bQ0 57 ?_;refine VCall.inl (F:=lY0) Tryz.func57 rfl rfl rfl lN8 ?_)|(refine VAr.is ?_;refine VAr.mul hnc.symm qZ qZ ?_)|(refine VMk.is ?_;refine VMk.mk qZ qZ (by (try dsimp only);omega) qZ fun g=>?_)|refine VSeq.go ?_|refine oL ?_|refine oV fun _=>?_
 all_goals (conv=>whnf)
 refine VLoop.mk (α:=Nat) (fun i=>i<=cores.length) (fun i=>[(1000000,.tuple #[]),(0,.pointer (some ⟨x.b,0,none⟩)),(4,.slice none 0 0),(5,.slice (some ⟨g,0,none⟩) n n),(14,.slice p cores.length c),(15,.int .i64 (cores.length:Int)),(16,.int .i64 (i:Int))])
  (fun i=>[.vec (some ⟨g,0,none⟩) n n 331 2 (bQ1 usV (usL X.C X.N.syns (cores.take i)))]) (fun i=>cores.length - i) 0 (qB _) aE ?_ ?_
 ·rw [QU,h0,<-hrep]
  exact aH
 intro i hi
 rcases qy i cores.length with hlt|hge
 ·obtain ⟨kz,hkz⟩:=h1.get hlt
  have hkr:=hcr kz (qz hkz)
  obtain ⟨k,rfl⟩:∃k:Nat,kz=(k:Int):=⟨kz.toNat,by omega⟩
  have hkn:k<n:=by omega
  have hg:=hgt (l:=cores.take i) (by rw [hn];exact hkn)
  have hnx2:=hnx hkz
  have hRi:x.R[i]? =some (fY8 X.N.syns (i:Int):Int):=by
   rw [hR];unfold gM2
   rw [qj,qX qZ];rfl
  have b1:cQ4 (cores.take i) (k:Int)<=1024:=by
   have:=qT (p:=fun c=>decide (c=(k:Int))) (l:=cores.take i)
   rw [qh] at this
   unfold cQ4;omega
  have b2:dP8 X.N.syns (cores.take i) (k:Int)<=8192:=by
   have:=qT (p:=fun s:Syn=>decide (0<=s.to/\(cores.take i)[s.to.toNat]? =some (k:Int))) (l:=X.N.syns)
   have:=hx.ok.net.fewS
   unfold dP8;omega
  have b3:fY8 X.N.syns (i:Int)<=8192:=by
   have:=qT (p:=fun s:Syn=>decide (s.to=(i:Int))) (l:=X.N.syns)
   have:=hx.ok.net.fewS
   unfold fY8;omega
  have hUl:=hul (cores.take i)
  obtain ⟨U,hU⟩:=gX (usL X.C X.N.syns (cores.take i))
  rw [hU] at hg hnx2 hUl ⊢
  obtain ⟨u1,hu1⟩:=gX (cQ4 (cores.take i) (k:Int))
  obtain ⟨u2,hu2⟩:=gX (dP8 X.N.syns (cores.take i) (k:Int))
  obtain ⟨u3,hu3⟩:=gX (fY8 X.N.syns (i:Int))
  rw [hu1,hu2] at hg
  rw [hu1,hu2,hu3] at hnx2
  rw [hu3] at hRi
  rw [hu1] at b1
  rw [hu2] at b2
  rw [hu3] at b3
  have hg2:(U.set k (u1+1,u2))[k]? =some (u1+1,u2):=QZ qZ
  repeat' (conv=>whnf);first|(refine VLd.is ?_;refine oC (.old (hrow.part k13) rfl oU) ?_)|(refine VIx.is ?_;refine VIx.mk (h1.ptr qZ) qZ qZ ?_)|(refine VLd.is ?_;refine oC (h1.rd0 oU oR hkz rfl) ?_)|refine oI ?_|(refine VLd.is ?_;refine oC (.vec aT (bT7 (vs:=[.int .i64 (u1:Int)]) (f:=usV) (k:=2) (o:=0) (s:=1) oR hg rfl)) ?_)|(refine VLd.is ?_;refine oC (.vec aT (bT7 (vs:=[.int .i64 (u2:Int)]) (f:=usV) (k:=2) (o:=1) (s:=1) oR hg2 rfl)) ?_)|(refine VLd.is ?_;refine oC (.old (hRc.part (bQ8 (vs:=[.int .i64 (u3:Int)]) (s:=1) (f:=bQ6) (k:=1) oR hRi rfl)) rfl oU) ?_)|(refine VSt.is ?_;refine VSt.cast (off':=k*2+0) oE (VSt.vec aT (dZ9 (o:=0) (f:=usV) (k:=2) (y:=(u1+1,u2)) oR hg rfl) rfl ?_))|(refine VSt.is ?_;refine VSt.cast (off':=k*2+1) oE (VSt.vec aT (dZ9 (o:=1) (f:=usV) (k:=2) (y:=(u1+1,u2+u3)) oR hg2 rfl) rfl ?_))|(refine VHs.is ?_;refine VHs.mk [.vec (some ⟨g,0,none⟩) n n 331 2 (bQ1 usV (U.set k (u1+1,u2)))] aH ?_)|refine VSeq.go ?_|refine oY fun _=>?_|refine oA ?_
  all_goals (conv=>whnf)
  refine VNext.mk (i+1) qZ qZ aE ?_
  rw [hnx2,<-List.set_set]
  exact aH
 ·rw [qe hge]
  repeat' (conv=>whnf);first|refine VSeq.go ?_|refine oN fun _=>?_
  all_goals (conv=>whnf)
  exact ⟨fun w' hw'=>⟨g,rfl,trivial,hw'⟩⟩
def lZ5 (N:Net)(C:Chp)(cores:List Int):Int:=if cores.length≠N.ps.length then 13 else if bT5 C cores≠0 then bT5 C cores else if¬cR5 C N.syns cores then 15 else 0
theorem gN1 (X:PlnX)(x:PlnM)(cores:List Int)(hcw:∀k∈cores,I64 k)(hlc:cores.length<=1000000)(p:Option Addr)(c b o:Nat)(w:World)(hx:PlnAt X x w)(h1:Sl w bQ6 1 cores p cores.length b o):
  Calls Tryz.prog 109 #[.pointer (some ⟨x.b,0,none⟩),.slice p cores.length c] w fun e w'=>e=.returned (.int .i64 (lZ5 X.N X.C cores))/\St w [] [] w':=by
 obtain ⟨hnc,hn1,hn2⟩:=bX6 hx.ok.chip
 obtain ⟨n,hn⟩:=gX (bX1 X.C)
 have hrow:=hx.row
 have k0:sub (fS0 X x) 0 8=some (bD5 X.C X.pd X.cd):=rfl
 have k3:sub (fS0 X x) 3 1=some [.int .i64 X.C.nr]:=rfl
 have k4:sub (fS0 X x) 4 1=some [.int .i64 X.C.sy]:=rfl
 have k7:sub (fS0 X x) 7 1=some [.slice X.pd X.C.dead.length X.cd]:=rfl
 have k8:sub (fS0 X x) 8 1=some [.slice X.pn X.N.ps.length X.cn]:=rfl
 unfold bD5 at k0
 obtain ⟨bd,od,hd⟩:=hx.rd.dead
 have hdl:=hx.rd.chip.few
 have hfew:=hx.ok.net.few
 refine enter (C:=Tryz.cx) (F:=lD8) (args:=[_,_]) Tryz.func109 rfl rfl rfl mZ9 (St.start w []) ?_
 unfold lZ5
 by_cases hln:cores.length≠X.N.ps.length
 ·rw [jw hln]
  repeat' (conv=>whnf);first|(refine VLd.is ?_;refine oC (.old (hrow.part k8) rfl oU) ?_)|refine VSeq.go ?_|refine oY fun _=>?_|refine oL ?_|refine oV fun _=>?_
  all_goals (conv=>whnf)
  exact ⟨fun w' hw'=>⟨rfl,hw'.le .nil⟩⟩
 rw [jk hln]
 have hln:=Qm.1 hln
 repeat' (conv=>whnf);first|(refine VLd.is ?_;refine oC (.old (hrow.part k8) rfl oU) ?_)|(refine VNew.mk fun b2=>?_)|refine VSeq.go ?_|refine oN fun _=>?_|refine oL ?_
 all_goals (conv=>whnf)
 refine VLoop.mk (α:=Nat) (fun i=>i<=cores.length/\bT5 X.C cores=bT5 X.C (cores.drop i)) (fun i=>[(1000000,.tuple #[]),(1,.slice p cores.length c),(2,.pointer (some ⟨b2,0,none⟩)),(4,.int .i64 0),(16,.slice p cores.length c),(17,.int .i64 (cores.length:Int)),(18,.int .i64 (i:Int))])
  (fun i=>[.row b2 146 [.pointer (some ⟨x.b,0,none⟩)]]) (fun i=>cores.length - i) 0 ⟨qB _,rfl⟩ aE aH ?_
 rintro i ⟨hi,hcd⟩
 rcases qy i cores.length with hlt|hge
 ·obtain ⟨k,hk⟩:=h1.get hlt
  have hkw:=hcw k (qz hk)
  unfold I64 at hkw
  have hbad:¬(0<=k/\k<=X.C.mesh.wide*X.C.mesh.high - 1)->bT5 X.C cores=3:=fun h=>hcd.trans (hM1 hk h)
  have hdead:(0<=k/\k<=X.C.mesh.wide*X.C.mesh.high - 1)->k∈X.C.dead->bT5 X.C cores=25:=fun h h2=>hcd.trans (gR2 hk h h2)
  have hnext:(0<=k/\k<=X.C.mesh.wide*X.C.mesh.high - 1)->k∉X.C.dead->bT5 X.C cores=bT5 X.C (cores.drop (i+1)):=fun h h2=>hcd.trans (gR1 hk h h2)
  rw [<-hnc,hn] at hbad hdead hnext
  rw [hn] at hnc hn1 hn2
  clear hcd
  repeat' (conv=>whnf);first|(refine VIx.is ?_;refine VIx.mk (h1.ptr qZ) qZ qZ ?_)|(refine VLd.is ?_;refine oC (h1.rd0 oU oR hk rfl) ?_)|(refine VLd.is ?_;refine oC (.old (hrow.part k0) rfl oU) ?_)|(refine VLd.is ?_;refine oC (.old (hrow.part k7) rfl oU) ?_)|(refine bQ0 79 ?_;refine VCall.inl (F:=kL2) Tryz.func79 rfl rfl rfl lZ3 ?_)|(refine bQ0 57 ?_;refine VCall.inl (F:=lY0) Tryz.func57 rfl rfl rfl lN8 ?_)|(refine VAr.is ?_;refine VAr.mul hnc.symm qZ qZ ?_)|(refine bQ0 145 ?_;(refine bQ2 (fun w' hw'=>bR5 X.C.dead qZ k _ _ bd od w' (hd.keep hw' oU)) ?_;intro c1 hc1;cases c1<;>simp only [QV,false_iff,true_iff] at hc1))|refine VSeq.go ?_|refine oY fun _=>?_|refine oS (fun _=>?_) fun _=>?_|refine oL ?_|refine oV fun _=>?_|refine oA ?_
  all_goals (conv=>whnf)
  all_goals first
   |exact ⟨fun w' hw'=>⟨by rw [hbad qZ];rfl,hw'.le .nil⟩⟩
   |exact ⟨fun w' hw'=>⟨by rw [hdead qZ hc1];rfl,hw'.le .nil⟩⟩
   |exact VNext.mk (i+1) ⟨by omega,hnext qZ hc1⟩ qZ aE aH
 have hc0:bT5 X.C cores=0:=by rw [hcd,Qi hge];rfl
 have hcz:=cG5.1 hc0
 rw [jk (by rw [hc0];simp)]
 have hus:=hS4 X x cores qZ (fun k hk=>(hcz k hk).1) p c b o
 have hul:=dV4 X.C X.N.syns cores
 have hgt:=fun {k:Nat} hk=>dS6 (C:=X.C) (l:=X.N.syns) (cores:=cores) (k:=k) hk
 have hfit:cR5 X.C X.N.syns cores<->∀k:Nat,k<n->(cQ4 cores k:Int)<=X.C.nr/\(dP8 X.N.syns cores k:Int)<=X.C.sy:=by unfold cR5;rw [hn]
 rw [hn] at hnc hn1 hn2 hus hul hgt
 obtain ⟨U,hU⟩:=gX (usL X.C X.N.syns cores)
 rw [hU] at hus hul hgt
 have hres:∀v:Int,(cR5 X.C X.N.syns cores->v=0)->(¬cR5 X.C X.N.syns cores->v=15)->v=if¬cR5 X.C X.N.syns cores then 15 else 0:=fun v h2 h3=>by
  split
  ·rename_i h;exact h3 h
  ·rename_i h;exact h2 (Qm.1 h)
 repeat' (conv=>whnf);first|(refine bQ0 172 ?_;(refine bQ2 (fun w' hw'=>hus w' (hx.keep hw') (h1.keep hw' (by simp))) ?_;rintro g _;dsimp only))|(refine bQ0 171 ?_;refine VCall.inl (F:=lH6) Tryz.func171 rfl rfl rfl lL7 ?_)|(refine bQ0 221 ?_;refine VCall.inl (F:=lG4) Tryz.func221 rfl rfl rfl lR4 ?_)|refine VSeq.go ?_|refine oN fun _=>?_|refine oL ?_
 all_goals (conv=>whnf)
 refine VLoop.mk (α:=Nat) (fun j=>j<=n/\∀k:Nat,k<j->(cQ4 cores k:Int)<=X.C.nr/\(dP8 X.N.syns cores k:Int)<=X.C.sy) (fun j=>[(1000000,.tuple #[]),(0,.slice (some ⟨g,0,none⟩) n n),(1,.func (.func 173) #[] #[.pointer (some ⟨b2,0,none⟩)]),(4,.int .i64 0),(7,.int .i64 (n:Int)),(8,.int .i64 (j:Int))])
  (fun _=>[.vec (some ⟨g,0,none⟩) n n 331 2 (bQ1 usV U),.row b2 146 [.pointer (some ⟨x.b,0,none⟩)]]) (fun j=>n - j) 0 ⟨qB _,by intro k hk;omega⟩ aE aH ?_
 rintro j ⟨hj,hall⟩
 rcases qy j n with hlj|hgj
 ·have hu:=hgt hlj
  have hno:((cQ4 cores (j:Int):Int)>X.C.nr\/(dP8 X.N.syns cores (j:Int):Int)>X.C.sy)->¬cR5 X.C X.N.syns cores:=fun h h2=>by
   have:=hfit.1 h2 j hlj
   omega
  have hyes:¬((cQ4 cores (j:Int):Int)>X.C.nr\/(dP8 X.N.syns cores (j:Int):Int)>X.C.sy)->∀k:Nat,k<j+1->(cQ4 cores k:Int)<=X.C.nr/\(dP8 X.N.syns cores k:Int)<=X.C.sy:=fun h k hk=>by
   rcases qy k j with h2|h2
   ·exact hall k h2
   ·have e:k=j:=by omega
    subst e
    omega
  obtain ⟨u1,hu1⟩:=gX (cQ4 cores (j:Int))
  obtain ⟨u2,hu2⟩:=gX (dP8 X.N.syns cores (j:Int))
  rw [hu1,hu2] at hu hno hyes
  clear hall hfit hcz hcd
  repeat' (conv=>whnf);first|refine oI ?_|(refine VLd.is ?_;refine oC (.vec aT (bQ8 (f:=usV) (k:=2) oR hu rfl)) ?_)|(refine bQ0 173 ?_;refine VCall.inl (F:=lH4) Tryz.func173 rfl rfl rfl lL5 ?_)|(refine VLd.is ?_;refine oC (.old (hrow.part k3) rfl oU) ?_)|(refine VLd.is ?_;refine oC (.old (hrow.part k4) rfl oU) ?_)|refine VSeq.go ?_|refine oY fun _=>?_|refine oS (fun _=>?_) fun _=>?_|refine oL ?_|refine oV fun _=>?_|refine oA ?_|refine oH ?_
  all_goals (conv=>whnf)
  all_goals first
   |exact ⟨fun w' hw'=>⟨by rw [<-hres 15 (fun h=>absurd h (hno qZ)) oR];rfl,hw'.le .nil⟩⟩
   |exact VNext.mk (j+1) ⟨by omega,hyes qZ⟩ qZ aE aH
 have hok:cR5 X.C X.N.syns cores:=hfit.2 fun k hk=>hall k qZ
 repeat' (conv=>whnf);first|refine VSeq.go ?_|refine oN fun _=>?_
 all_goals (conv=>whnf)
 exact ⟨fun w' hw'=>⟨by rw [<-hres 0 oR (fun h=>absurd hok h)];rfl,hw'.le .nil⟩⟩
end Go.Proofs
