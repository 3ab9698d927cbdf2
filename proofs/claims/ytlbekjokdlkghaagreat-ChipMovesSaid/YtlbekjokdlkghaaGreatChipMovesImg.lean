import Derived.Test.YtlbekjokdlkghaaGreatChipMovesWk
import Derived.Test.YtlbekjokdlkghaaGreatChipMovesTo9
set_option linter.unusedVariables false
set_option linter.unusedSimpArgs false
set_option maxHeartbeats 4000000
section
namespace Go.Gm
open Go.Proofs
def hP7:List Evt:=[⟨0,0⟩]
def dG3:List Evt:=[⟨1,0⟩,⟨4,1⟩]
def gP4:Wrk:=⟨6,12,2,2,1,2,2,3,2⟩
theorem hV0:bG2 fS9 hR2 [0,1] hP7 6=dG3:=by kernel_rfl
theorem kC2:(gM3 fS9 hR2 [0,1] hP7 6).2=gP4:=by kernel_rfl
theorem kQ8:bY6 (cJ8 1) hP7 6 10000=0:=by kernel_rfl
theorem runW:fY5 fS9 hR2 [0,1] hP7 6=(dG3,gP4,0):=by
 have h0:bH8 fS9 hR2 [0,1] hP7 6=0:=by
  have h1:¬dZ0 fS9 hR2 [0,1] hP7 (6:Int).toNat:=by
   show¬65536<(bG2 fS9 hR2 [0,1] hP7 6).length
   rw [hV0]
   decide
  unfold bH8
  rw [hG3,jk oU,jk (by have:fS9.inputs=1:=rfl;rw [this,kQ8];simp),jk h1]
 unfold fY5
 rw [h0,jk oU]
 have e:(6:Int).toNat=6:=rfl
 rw [e,hV0,kC2]
theorem eneW:kY5 gP4 ⟨1,2,3,4,5⟩=(42,0):=by kernel_rfl
end Go.Gm
namespace Go.Proofs
open Go Go.Vx Go.Gm
theorem hJ8 (l m:List Evt)(hm:∀x∈m,x.wf)(hl:∀x∈l,x.wf)(p:Option Addr)(c b o:Nat)(q:Option Addr)(d b2 o2:Nat)(w:World)(h1:Sl w cP1 2 l p l.length b o)(h2:Sl w cP1 2 m q m.length b2 o2)(hsz:l.length<4611686018427387904):
  Calls Tryz.prog 16 #[.slice p l.length c,.slice q m.length d] w fun e w'=>∃r:Bool,e=.returned (.bool r)/\(r=true<->l=m)/\St w [] [] w':=by
 refine enter (C:=Tryz.cx) (F:=mP2) (args:=[_,_]) Tryz.func16 rfl rfl rfl ok16 (St.start w []) ?_
 repeat' (conv=>whnf);first|refine VSeq.go ?_|refine oS (fun _=>?_) fun _=>?_
 all_goals (conv=>whnf)
 ·exact ⟨fun w' hw'=>⟨_,rfl,⟨fun h=>by simp at h,fun h=>by subst h;omega⟩,hw'.le .nil⟩⟩
 refine VLoop.mk (α:=Nat) (fun i=>i<=l.length/\l.take i=m.take i)
  (fun i=>[(1000000,.tuple #[]),(0,.slice p l.length c),(1,.slice q m.length d),(4,.bool false),(5,.int .i64 (i:Int))])
  (fun _=>[]) (fun i=>l.length - i) 0 ⟨by omega,rfl⟩ aE aH ?_
 rintro i ⟨hi,ht⟩
 rcases qy i l.length with hlt|hge
 ·obtain ⟨x,hx⟩:=h1.get hlt
  obtain ⟨y,hy⟩:=h2.get (i:=i) qZ
  have hwx:=hl x (qz hx)
  have hwy:=hm y (qz hy)
  unfold Evt.wf I64 at hwx hwy
  repeat' (conv=>whnf);first|(refine VIx.is ?_;refine VIx.mk (h1.ptr qZ) qZ qZ ?_)|(refine VIx.is ?_;refine VIx.mk (h2.ptr qZ) qZ qZ ?_)|(refine VLd.is ?_;refine VLd.mk (h1.rd0 oU oR hx rfl) ?_)|(refine VLd.is ?_;refine VLd.mk (h2.rd0 oU oR hy rfl) ?_)|refine VSeq.go ?_|refine oY fun _=>?_|refine oS (fun _=>?_) fun _=>?_|refine oA ?_|refine oH ?_
  all_goals (conv=>whnf)
  ·have hne:¬(x.tick=y.tick/\x.id=y.id):=fun h=>‹¬(x.tick=y.tick/\x.id=y.id/\True)› ⟨h.1,h.2,trivial⟩
   exact ⟨fun w' hw'=>⟨_,rfl,⟨fun h=>by simp at h,fun h=>absurd (by rw [h,hy] at hx;cases hx;exact ⟨rfl,rfl⟩) hne⟩,hw'.le .nil⟩⟩
  ·have he:x=y:=by
    have h1:x.tick=y.tick/\x.id=y.id:=by simp only [and_true] at*;omega
    cases x;cases y;simp only [Evt.mk.injEq];exact h1
   refine VNext.mk (i+1) ⟨by omega,?_⟩ qZ aE aH
   rw [qi,qi,ht,hx,hy,he]
 ·repeat' (conv=>whnf);first|refine VSeq.go ?_|refine oN fun _=>?_
  all_goals (conv=>whnf)
  refine ⟨fun w' hw'=>⟨_,rfl,⟨fun _=>?_,fun _=>rfl⟩,hw'.le .nil⟩⟩
  rw [qe qZ,qe qZ] at ht
  exact ht
theorem gY4:∀x∈dG3,x.wf:=by
 intro x hx
 simp only [dG3,qQ,jq,or_false] at hx
 rcases hx with rfl|rfl<;>simp [Evt.wf,I64]
theorem lQ0:∀x∈hP7,x.wf:=by
 intro x hx
 simp only [hP7,qQ,jq,or_false] at hx
 subst hx
 simp [Evt.wf,I64]
theorem hR5:gP4.wf:=by simp [Wrk.wf,gP4,I64]
theorem bS6 (w:World):Calls Tryz.prog 12 #[] w fun e w'=>e=.returned (.bool true)/\St w [] [] w':=by
 have hr:=fun pn cn qs cs (w':World) h p c b o h1 pe ce be oe h3 hce=>dB4 ⟨hR2,none,0,fS9,pn,cn,qs,cs⟩ w' h [0,1] (by simp [I64]) oU p c b o h1 hP7 lQ0 pe ce be oe h3 hce 6 (by simp [I64])
 dsimp only at hr
 rw [runW] at hr
 have hen:=fun (w':World)=>gS6 gP4 ⟨1,2,3,4,5⟩ hR5 (by simp [Prc.wf,I64]) w'
 rw [eneW] at hen
 refine enter (C:=Tryz.cx) (F:=mP3) (args:=[]) Tryz.func12 rfl rfl rfl ok12 (St.start w []) ?_
 repeat' (conv=>whnf);first|(refine bQ0 44 ?_;refine VCall.inl (F:=mH7) Tryz.func44 rfl rfl rfl ok44 ?_)|(refine bQ0 102 ?_;refine VCall.inl (F:=lD9) Tryz.func102 rfl rfl rfl mJ0 ?_)|(refine bQ0 45 ?_;refine VCall.inl (F:=mH6) Tryz.func45 rfl rfl rfl ok45 ?_)|(refine bQ0 13 ?_;(refine bQ2 (fun w' hw'=>hr _ _ _ _ w' ⟨kR5,lX1,Nat.zero_le _,⟨0,0,Sl.nil (.inl rfl)⟩,⟨_,0,bZ1 hw' (l:=fS9.ps) (f:=bH3) (k:=8) (by repeat (first|exact List.mem_cons_self|apply List.mem_cons_of_mem)) oR rfl⟩,⟨_,0,bZ1 hw' (l:=fS9.syns) (f:=bP1) (k:=4) (by repeat (first|exact List.mem_cons_self|apply List.mem_cons_of_mem)) oR rfl⟩⟩ _ _ _ _ (bZ1 hw' (l:=[0,1]) (f:=bQ6) (k:=1) (by repeat (first|exact List.mem_cons_self|apply List.mem_cons_of_mem)) oR rfl) _ _ _ _ (bZ1 hw' (l:=hP7) (f:=cP1) (k:=2) (by repeat (first|exact List.mem_cons_self|apply List.mem_cons_of_mem)) oR rfl) (by decide)) ?_;rintro ⟨q1,c1⟩ _;dsimp only))|(refine bQ0 17 ?_;(refine bQ4 (fun w' hw'=>hen w') ?_))|(refine bQ0 16 ?_;(refine bQ2 (v:=fun r=>.bool r) (p:=fun r=>(r=true<->dG3=dG3)) (G:=fun _=>[]) (fun w' hw'=>by obtain ⟨b1,hb1⟩:=Sl.own hw' (f:=cP1) (l:=dG3) (n:=dG3.length) (k:=2) (p:=q1) aT oR rfl;exact hJ8 dG3 dG3 gY4 gY4 _ _ _ _ _ _ _ _ w' hb1 (bZ1 hw' (l:=dG3) (f:=cP1) (k:=2) (by repeat (first|exact List.mem_cons_self|apply List.mem_cons_of_mem)) oR rfl) (by decide)) ?_;intro r hr2;have hr2:=hr2.2 rfl;subst hr2))|refine VSeq.go ?_|refine oY fun _=>?_|refine oL ?_|refine oT ?_|refine oV fun _=>?_
 all_goals (conv=>whnf)
 exact ⟨fun w' hw'=>⟨rfl,hw'.le .nil⟩⟩
end Go.Proofs
end

section
namespace Go.Proofs
open Go Go.Vx Go.Gm
structure PlnR8 (X:PlnX) (w:World):Prop where
 net:X.N.wf
 chip:X.C.int
 cap:X.C.dead.length<=X.cd
 dead:∃b o,Sl w bQ6 1 X.C.dead X.pd X.C.dead.length b o
 ps:∃b o,Sl w bH3 8 X.N.ps X.pn X.N.ps.length b o
 syns:∃b o,Sl w bP1 4 X.N.syns X.qs X.N.syns.length b o
theorem PlnR8.rd {X:PlnX}{w w':World}{H:HP}(h:PlnR8 X w)(hw':St w [] H w')(hf:X.C.dead.length<=1000000):PlnRd X w':=
 PlnRd.keep ⟨h.net,h.chip.wf hf,h.cap,h.dead,h.ps,h.syns⟩ hw'
structure CsX where
 X:PlnX
 cores:List Int
 pc:Option Addr
 cc:Nat
 l:List Evt
 pe:Option Addr
 ce:Nat
 ticks:Int
def CsX.v (Y:CsX):List Value:=
 [.slice Y.X.pn Y.X.N.ps.length Y.X.cn,.int .i64 Y.X.N.inputs,.slice Y.X.qs Y.X.N.syns.length Y.X.cs,.int .i64 Y.X.C.mesh.wide,.int .i64 Y.X.C.mesh.high,.int .i64 Y.X.C.mesh.room,.int .i64 Y.X.C.nr,.int .i64 Y.X.C.sy,.int .i64 Y.X.C.en,.int .i64 Y.X.C.bits,.slice Y.X.pd Y.X.C.dead.length Y.X.cd,.slice Y.pc Y.cores.length Y.cc,.slice Y.pe Y.l.length Y.ce,.int .i64 Y.ticks]
structure CsRd (Y:CsX) (w:World):Prop where
 X:PlnR8 Y.X w
 hcw:∀k∈Y.cores,I64 k
 cores:∃b o,Sl w bQ6 1 Y.cores Y.pc Y.cores.length b o
 hlw:∀x∈Y.l,x.wf
 evs:∃b o,Sl w cP1 2 Y.l Y.pe Y.l.length b o
 hce:Y.l.length<=Y.ce
 ti:I64 Y.ticks
theorem PlnR8.keep {X:PlnX}{w w':World}{H:HP}(h:PlnR8 X w)(hw':St w [] H w'):PlnR8 X w':=by
 obtain ⟨h1,h2,h3,⟨b1,o1,a1⟩,⟨b2,o2,a2⟩,⟨b3,o3,a3⟩⟩:=h
 exact ⟨h1,h2,h3,⟨b1,o1,a1.keep hw' oU⟩,⟨b2,o2,a2.keep hw' oU⟩,⟨b3,o3,a3.keep hw' oU⟩⟩
theorem CsRd.keep {Y:CsX}{w w':World}{H:HP}(h:CsRd Y w)(hw':St w [] H w'):CsRd Y w':=by
 obtain ⟨h1,h2,⟨b1,o1,a1⟩,h3,⟨b2,o2,a2⟩,h4,h5⟩:=h
 exact ⟨h1.keep hw',h2,⟨b1,o1,a1.keep hw' oU⟩,h3,⟨b2,o2,a2.keep hw' oU⟩,h4,h5⟩
def hT6 (Y:CsX):Prop:=Y.X.N.ps.length<=20/\Y.X.N.syns.length<=70/\Y.X.C.dead.length<=20/\Y.cores.length<=100/\(Y.l.length<=200\/65536<Y.l.length/\Y.l.length<=65546)/\(Y.ticks<=80\/10000<Y.ticks)
theorem kY0 (Y:CsX)(w:World):
  Calls Tryz.prog 11 #[.agg Y.v.toArray] w fun e w'=>∃r:Bool,e=.returned (.bool r)/\(r=true<->hT6 Y)/\St w [] [] w':=by
 unfold CsX.v hT6
 refine enter (C:=Tryz.cx) (F:=mP4) (args:=[_]) Tryz.func11 rfl rfl rfl ok11 (St.start w []) ?_
 repeat' (conv=>whnf);first|(refine VNew.mk fun b1=>?_)|refine VSeq.go ?_|refine oS (fun _=>?_) fun _=>?_|refine oL ?_|refine oA ?_
 all_goals (conv=>whnf)
 all_goals first
  |exact ⟨fun w' hw'=>⟨true,rfl,by simp only [true_iff];omega,hw'.le .nil⟩⟩
  |exact ⟨fun w' hw'=>⟨false,rfl,by simp only [QV,false_iff];omega,hw'.le .nil⟩⟩
theorem fY3 (Y:CsX)(w:World)(hY:CsRd Y w):
  Calls Tryz.prog 19 #[.agg Y.v.toArray] w fun e w'=>∃r:Bool,e=.returned (.bool r)/\(r=true<->hT6 Y/\bH8 Y.X.N Y.X.C Y.cores Y.l Y.ticks=0)/\St w [] [] w':=by
 have hf:=fun (w':World)=>kY0 Y w'
 obtain ⟨b1,o1,hc⟩:=hY.cores
 obtain ⟨b2,o2,he⟩:=hY.evs
 have hr:=fun (hF:hT6 Y) (w':World) (hw':PlnRd Y.X w') h h'=>dB4 Y.X w' hw' Y.cores hY.hcw (by have:=hF.2.2.2.1;omega) Y.pc Y.cc b1 o1 h Y.l hY.hlw Y.pe Y.ce b2 o2 h' hY.hce Y.ticks hY.ti
 have hX:=hY.X
 have hs:(fY5 Y.X.N Y.X.C Y.cores Y.l Y.ticks).2.2=bH8 Y.X.N Y.X.C Y.cores Y.l Y.ticks:=by
  unfold fY5
  by_cases h:bH8 Y.X.N Y.X.C Y.cores Y.l Y.ticks≠0
  ·rw [jw h]
  ·rw [jk h,Qm.1 h]
 rw [hs] at hr
 obtain ⟨R,hR⟩:=gX ((fY5 Y.X.N Y.X.C Y.cores Y.l Y.ticks).1)
 obtain ⟨W,hW⟩:=gX ((fY5 Y.X.N Y.X.C Y.cores Y.l Y.ticks).2.1)
 obtain ⟨E,hE⟩:=gX (bH8 Y.X.N Y.X.C Y.cores Y.l Y.ticks)
 rw [hR,hW,hE] at hr
 rw [hE]
 unfold lZ1 PlnX.net bD5 at hr
 unfold CsX.v at hf ⊢
 refine enter (C:=Tryz.cx) (F:=mP0) (args:=[_]) Tryz.func19 rfl rfl rfl ok19 (St.start w []) ?_
 repeat' (conv=>whnf);first|(refine VNew.mk fun b1=>?_)|(refine bQ0 11 ?_;(refine bQ2 (fun w' hw'=>hf w') ?_;rintro r hrr))|(refine bQ0 13 ?_;(refine bQ2 (fun w' hw'=>hr (hrr.1 rfl) w' (hX.rd hw' (by have:=(hrr.1 rfl).2.2.1;omega)) (hc.keep hw' oU) (he.keep hw' oU)) ?_;rintro ⟨q,qc⟩ _))|refine VSeq.go ?_|refine oS (fun _=>?_) fun _=>?_|(refine oB (fun h=>?_) (fun h=>?_)<;>subst h)|refine oL ?_|refine oT ?_
 all_goals (conv=>whnf)
 all_goals first
  |exact ⟨fun w' hw'=>⟨true,rfl,by simp only [true_iff];exact ⟨hrr.1 rfl,by omega⟩,hw'.le .nil⟩⟩
  |exact ⟨fun w' hw'=>⟨false,rfl,by simp only [QV,false_iff];rintro ⟨h1,h2⟩;(first|exact absurd (hrr.2 h1) (by decide)|omega),hw'.le .nil⟩⟩
  |exact ⟨fun w' hw'=>⟨_,rfl,by rw [jy];exact ⟨fun h=>⟨hrr.1 rfl,h⟩,fun h=>h.2⟩,hw'.le .nil⟩⟩
end Go.Proofs
namespace Go.Gm
open Go.Proofs
end Go.Gm
namespace Go.Proofs
open Go Go.Vx Go.Gm
end Go.Proofs
end

section
namespace Go.Proofs
open Go Go.Vx Go.Gm
theorem _root_.Go.Vx.cQ1 {P:Program}{w0:World}{M:List Nat}{H:HP}{f:Nat}(x:Value){xs:List Value}{K:Value->HP->Prop}(hh:VCall P w0 M H f (x::xs) K):VCall P w0 M H f (x::xs) K:=hh
theorem cS1 (l m:List Int)(hll:l.length<=1000000)(p:Option Addr)(c b o:Nat)(q:Option Addr)(d b2 o2:Nat)(w:World)(hl:∀k∈l,I64 k)(hm:∀k∈m,I64 k)(h1:Sl w bQ6 1 l p l.length b o)(h2:Sl w bQ6 1 m q m.length b2 o2):
  Calls Tryz.prog 26 #[.slice p l.length c,.slice q m.length d] w fun e w'=>∃r:Bool,e=.returned (.bool r)/\(r=true<->l=m)/\St w [] [] w':=by
 refine enter (C:=Tryz.cx) (F:=mB8) (args:=[_,_]) Tryz.func26 rfl rfl rfl ok26 (St.start w []) ?_
 by_cases hlen:l.length≠m.length
 ·repeat' (conv=>whnf);first|refine VSeq.go ?_|refine oY fun _=>?_
  all_goals (conv=>whnf)
  exact ⟨fun w' hw'=>⟨false,rfl,by simp only [QV,false_iff];exact fun h=>hlen (by rw [h]),hw'.le .nil⟩⟩
 have hlen:=Qm.1 hlen
 repeat' (conv=>whnf);first|refine VSeq.go ?_|refine oN fun _=>?_
 all_goals (conv=>whnf)
 refine VLoop.mk (α:=Nat) (fun j=>j<=l.length/\l.take j=m.take j) (fun j=>[(1000000,.tuple #[]),(0,.slice p l.length c),(1,.slice q m.length d),(4,.bool false),(5,.int .i64 (j:Int))])
  (fun _=>[]) (fun j=>l.length - j) 0 ⟨qB _,by simp⟩ aE aH ?_
 rintro j ⟨hj,ht⟩
 rcases qy j l.length with hlt|hge
 ·obtain ⟨x,hx⟩:=h1.get hlt
  obtain ⟨y,hy⟩:=h2.get (by omega:j<m.length)
  have hxw:=hl x (qz hx)
  have hyw:=hm y (qz hy)
  unfold I64 at hxw hyw
  repeat' (conv=>whnf);first|(refine VIx.is ?_;refine VIx.mk (h1.ptr qZ) qZ qZ ?_)|(refine VIx.is ?_;refine VIx.mk (h2.ptr qZ) qZ qZ ?_)|(refine VLd.is ?_;refine oC (h1.rd0 oU oR hx rfl) ?_)|(refine VLd.is ?_;refine oC (h2.rd0 oU oR hy rfl) ?_)|refine VSeq.go ?_|refine oY fun _=>?_|refine oS (fun _=>?_) fun _=>?_|refine oA ?_|refine oH ?_
  all_goals (conv=>whnf)
  all_goals first
   |(have e:x≠y:=by omega
     exact ⟨fun w' hw'=>⟨false,rfl,by simp only [QV,false_iff];exact fun h=>e (by rw [h,hy] at hx;exact (Option.some.inj hx).symm),hw'.le .nil⟩⟩)
   |(have e:x=y:=by omega
     refine VNext.mk (j+1) ⟨by omega,?_⟩ qZ aE aH
     rw [qi,qi,hx,hy,ht,e])
 rw [qe hge,qe qZ] at ht
 repeat' (conv=>whnf);first|refine VSeq.go ?_|refine oN fun _=>?_
 all_goals (conv=>whnf)
 exact ⟨fun w' hw'=>⟨true,rfl,by simp [ht],hw'.le .nil⟩⟩
theorem hH7 {l:List Evt}{t:Int}{j:Nat}{e:Evt}(h:l[j]? =some e):bV0 (l.take (j+1)) t=bV0 (l.take j) t++if e.tick=t then [e.id] else []:=by
 rw [qi,h,qW,gC8]
 congr 1
 unfold bV0
 by_cases he:e.tick=t
 ·rw [jw he,List.filter_cons_of_pos (by simpa using he)];rfl
 ·rw [jk he,List.filter_cons_of_neg (by simpa using he)];rfl
theorem kS8 (l:List Evt)(t:Int)(j:Nat):(bV0 (l.take j) t).length<=j:=by
 unfold bV0
 rw [qv]
 refine Qb (qD _ _) ?_
 rw [qh];omega
theorem lX7 (l:List Evt)(hlen:l.length<=1000000)(t:Int)(ht:I64 t)(hlw:∀e∈l,I64 e.tick)(p:Option Addr)(c b o:Nat)(w:World)(h1:Sl w cP1 2 l p l.length b o):
  Calls Tryz.prog 31 #[.slice p l.length c,.int .i64 t] w fun e w'=>∃y:Option Addr×Nat,e=.returned (.slice y.1 (bV0 l t).length y.2)/\True/\St w [] [.vec y.1 (bV0 l t).length y.2 3 1 (bQ1 bQ6 (bV0 l t))] w':=by
 unfold I64 at ht
 refine enter (C:=Tryz.cx) (F:=mB3) (args:=[_,_]) Tryz.func31 rfl rfl rfl ok31 (St.start w []) ?_
 repeat' (conv=>whnf);first|refine VSeq.go ?_|refine oN fun _=>?_
 all_goals (conv=>whnf)
 refine VLoop.mk (α:=Nat×Option Addr×Nat) (fun z=>z.1<=l.length) (fun z=>[(1000000,.tuple #[]),(0,.slice p l.length c),(1,.int .i64 t),(4,.slice none 0 0),(5,.slice z.2.1 (bV0 (l.take z.1) t).length z.2.2),(6,.int .i64 (z.1:Int))])
  (fun z=>[.vec z.2.1 (bV0 (l.take z.1) t).length z.2.2 3 1 (bQ1 bQ6 (bV0 (l.take z.1) t))]) (fun z=>l.length - z.1) (0,none,0) (qB _) aE (HLe.nilv .nil) ?_
 rintro ⟨j,q,cq⟩ hj
 dsimp only at hj ⊢
 rcases qy j l.length with hlj|hgj
 ·obtain ⟨e,he⟩:=h1.get hlj
  have hnx:=hH7 (t:=t) he
  have hle:=kS8 l t j
  have hew:=hlw e (qz he)
  unfold I64 at hew
  obtain ⟨T,hT⟩:=gX (bV0 (l.take j) t)
  rw [hT] at hnx hle ⊢
  have hs0:sub (cP1 e) 0 1=some [.int .i64 e.tick]:=rfl
  have hs1:sub (cP1 e) 1 1=some [.int .i64 e.id]:=rfl
  by_cases hkk:e.tick=t
  ·rw [jw hkk] at hnx
   repeat' (conv=>whnf);first|(refine VIx.is ?_;refine VIx.mk (h1.ptr qZ) qZ qZ ?_)|(refine VLd.is ?_;refine oC (h1.rd (o:=0) (s:=1) (by simp) (fun _=>rfl) he hs0) ?_)|(refine VLd.is ?_;refine oC (h1.rd (o:=1) (s:=1) (by simp) (fun _=>rfl) he hs1) ?_)|(refine VNew.mk fun bn=>?_)|(refine VAp.is ?_;refine VAp.own aT (.at_ (.vec aT rfl)) (by simp [Value.oneCell']) (by (try dsimp only);omega) (by simp only [maxLen];omega) fun p' cap' hp'=>?_)|refine VSeq.go ?_|refine oY fun _=>?_|refine oA ?_
   all_goals (conv=>whnf)
   refine VNext.mk (j+1,p',cap') (by dsimp only;omega) (by dsimp only;omega) ?_ ?_
   ·dsimp only
    rw [hnx,qw,qM]
    exact aE
   ·dsimp only
    rw [hnx,qw,bQ7]
    exact aH
  ·rw [jk hkk,qC] at hnx
   repeat' (conv=>whnf);first|(refine VIx.is ?_;refine VIx.mk (h1.ptr qZ) qZ qZ ?_)|(refine VLd.is ?_;refine oC (h1.rd (o:=0) (s:=1) oU oR he hs0) ?_)|refine VSeq.go ?_|refine oY fun _=>?_|refine oN fun _=>?_|refine oA ?_
   all_goals (conv=>whnf)
   refine VNext.mk (j+1,q,cq) (by dsimp only;omega) (by dsimp only;omega) ?_ ?_
   ·dsimp only
    rw [hnx]
    exact aE
   ·dsimp only
    rw [hnx]
    exact aH
 ·rw [qe hgj]
  obtain ⟨T,hT⟩:=gX (bV0 l t)
  rw [hT]
  repeat' (conv=>whnf);first|refine VSeq.go ?_|refine oN fun _=>?_
  all_goals (conv=>whnf)
  exact ⟨fun w' hw'=>⟨(q,cq),rfl,trivial,hw'.le aH⟩⟩
theorem fL0 (N:Net)(hN:N.wf)(hNok:NetOk N)(pn:Option Addr)(cn bn on:Nat)(qs:Option Addr)(cs bs os:Nat)(w:World)(h1:Sl w bH3 8 N.ps pn N.ps.length bn on)(h2:Sl w bP1 4 N.syns qs N.syns.length bs os):
  Calls Tryz.prog 29 #[.agg #[.slice pn N.ps.length cn,.int .i64 N.inputs,.slice qs N.syns.length cs]] w fun e w'=>∃x:SimM,e=.returned (.tuple #[.pointer (some ⟨x.b,0,none⟩),.int .i64 0])/\(∀l,SimAt x N l 0)/\St w [] (kB8 x) w':=by
 have hz:=bJ4.2 hNok
 have hc:=fun (w':World) h h'=>bT4 N hN pn cn bn on qs cs bs os w' h h'
 rw [hz] at hc
 have hs:=fun (w':World) h h'=>dW0 N hNok pn cn bn on qs cs bs os w' h h'
 refine enter (C:=Tryz.cx) (F:=mB5) (args:=[_]) Tryz.func29 rfl rfl rfl ok29 (St.start w []) ?_
 repeat' (conv=>whnf);first|(refine VNew.mk fun b1=>?_)|(refine bQ0 78 ?_;(refine bQ4 (fun w' hw'=>hc w' (h1.keep hw' oU) (h2.keep hw' oU)) ?_))|(refine bQ0 86 ?_;(refine bQ2 (fun w' hw'=>hs w' (h1.keep hw' oU) (h2.keep hw' oU)) ?_;rintro x ⟨hx,hxN,hxt,hxs,hxD⟩))|refine VSeq.go ?_|refine oN fun _=>?_|refine oL ?_
 all_goals (conv=>whnf)
 exact ⟨fun w' hw'=>⟨x,rfl,fun l=>SimAt.start hNok l hx hxN hxt hxs hxD,hw'.le aH⟩⟩
theorem hL8 {w0:World}{M:List Nat}{H:HP}{Z:HP->HP}{K:Value->HP->Prop}{N:Net}{l:List Evt}{t:Nat}{limit:Int}(x:SimM)(h:SimAt x N l t)(ht:t<10000)(hev:EvOk N.inputs limit l)(sp:List Int)(hsp:cM3 N l t=sp)(ins:List Int)(hins:bV0 l (t:Int)=ins)(p:Option Addr)(n c:Nat)(hn:n=ins.length)
  (hat:AtS H (bM7 x) Z) (hle:HLe (bM7 x++dW4 x) H) (hin:∀w,St w0 M H w->∃bi oi,Sl w bQ6 1 ins p ins.length bi oi/\bi∉ids (bM7 x))
  (hk:∀q cap,(0<sp.length->∃g,q=some ⟨g,0,none⟩)->K (.tuple #[.slice q sp.length cap,.int .i64 0]) (.vec q sp.length cap 3 1 (bQ1 bQ6 sp)::Z (bM7 (bJ1 x ins)))):
  VCall Tryz.cx.P w0 M H 30 [.pointer (some ⟨x.b,0,none⟩),.slice p n c] K:=by
 have h0:bG9 x ins=0:=by rw [<-hins];exact h.good ht hev
 have h1:bG8 x ins=sp:=by unfold bG8;rw [jw h0,h.spk,hsp]
 have h2:bR7 x ins=bJ1 x ins:=by unfold bR7;rw [jw h0]
 have hil:ins.length<=65536:=by rw [<-hins];exact (hev.ins (t:Int)).2.2
 rw [<-h1,<-h2,<-h0] at hk
 subst hn
 refine cZ9 (α:=Option Addr×Nat) (fun z=>.tuple #[.slice z.1 (bG8 x ins).length z.2,.int .i64 (bG9 x ins)]) (fun z=>0<(bG8 x ins).length->∃g,z.1=some ⟨g,0,none⟩) (fun z=>bM7 (bR7 x ins)) (fun z=>[.vec z.1 (bG8 x ins).length z.2 3 1 (bQ1 bQ6 (bG8 x ins))]) hat (fun w hw hs=>?_) (fun z hz=>hk z.1 z.2 hz)
 obtain ⟨bi,oi,g1,g2⟩:=hin w hw
 exact kH7 x h.run ins qZ p c bi oi w hs (ShOk.of (hw.le hle) .here h.run.ok.rows (fun y hy=>by simpa using hy)) g1 g2
end Go.Proofs
end

section
namespace Go.Proofs
open Go Go.Vx Go.Gm
structure SimRd (w:World) (x:SimM):Prop where
 cells:Cells w x.b 0 (dJ0 x)
 st:Sl w cJ6 2 x.sts (some ⟨x.sb,0,none⟩) x.sts.length x.sb 0
 due:∀d∈x.D,Sl w bQ6 1 d.l (some ⟨d.g,0,none⟩) d.l.length d.g 0
theorem SimRd.of {w0 w:World}{M:List Nat}{H:HP}{x:SimM}(hs:St w0 M H w)(hl:HLe (bM7 x) H):SimRd w x:=by
 have h:=hs.le hl
 refine ⟨?_,bZ1 (cap:=x.sc) (e:=126) h (by simp only [bM7,qQ,true_or,or_true]) oR rfl,fun d hd=>bZ1 h (by simp only [bM7,qQ];exact .inr (.inr (qN hd))) oR rfl⟩
 have hb:=h.own (.row x.b 206 (dJ0 x)) (by simp only [bM7,qQ,true_or])
 have hb':w.heap[x.b]? =some (.cells (dJ0 x).toArray 206 (0,0)):=hb
 intro j v hj
 simpa [World.cell?,hb'] using hj
def bL8 (d:DRow):List Value:=[bJ9 d]
structure ImgM where
 tick:Nat
 sp:Option Addr
 sc:Nat
 sts:List Sta
 dp:Option Addr
 dc:Nat
 D:List DRow
def kP6 (y:ImgM):Value:=.agg #[.int .i64 (y.tick:Int),.slice y.sp y.sts.length y.sc,.slice y.dp y.D.length y.dc]
def gX0 (y:ImgM):HP:=.vec y.sp y.sts.length y.sc 126 2 (bQ1 cJ6 y.sts)::.vec y.dp y.D.length y.dc 28 1 (bQ1 bL8 y.D)::y.D.map bY9
theorem gW8 (t:Nat)(D:List (List Int)){i:Nat}{l:List Int}(hi:i<16)(h:D[(t+i)%16]? =some l):(rot t D).take (i+1)=(rot t D).take i++[l]:=by
 rw [qi,fR7,jw hi,h]
 rfl
theorem dP6 (x:SimM)(hx:SimRun x)(w:World)(hr:SimRd w x):
  Calls Tryz.prog 34 #[.pointer (some ⟨x.b,0,none⟩)] w fun e w'=>∃y:ImgM,e=.returned (.tuple #[kP6 y,.int .i64 0])/\
   (y.tick=x.tick/\y.sts=x.sts/\y.D.map (·.l)=rot x.tick (x.D.map (·.l)))/\St w [] (gX0 y) w':=by
 obtain ⟨hxo,hxs,hxt⟩:=hx
 obtain ⟨hc,hst,hdue⟩:=hr
 have hNk:=hxo.net
 have hpos:=hNk.some
 have hfew:=hNk.few
 have hsl:=hxo.sts
 have hDl:=hxo.due
 have hcells:=hxo.cells
 obtain ⟨cs,hcs⟩:=gX (dJ0 x)
 have h4:sub cs 4 1=some [.int .i64 (x.tick:Int)]:=by rw [<-hcs];rfl
 have h5:sub cs 5 1=some [.slice (some ⟨x.sb,0,none⟩) x.sts.length x.sc]:=by rw [<-hcs,cJ0 _ _ _ (by simp [dJ0])];rfl
 have hrow:∀(i:Nat) d,i<16->x.D[(x.tick+i)%16]? =some d->sub cs (6+(((x.tick:Int)+(i:Int))%16).toNat) 1=some [bJ9 d]:=by
  intro i d hi h
  have:=dL6 (x:=x) rfl h
  rw [hcs] at this
  rw [show (((x.tick:Int)+(i:Int))%16).toNat=(x.tick+i)%16 by omega];exact this
 rw [hcs] at hc
 have hR:(rot x.tick (x.D.map (·.l))).length=16:=cT9 _ _
 refine enter (C:=Tryz.cx) (F:=mB1) (args:=[_]) Tryz.func34 rfl rfl rfl ok34 (St.start w []) ?_
 refine VSeq.go ?_
 repeat' (conv=>whnf);first|(refine VNew.mk fun b1=>?_)
 all_goals (conv=>whnf)
 repeat' (conv=>whnf);first|(refine bQ0 89 ?_;refine VCall.inl (F:=mJ4) Tryz.func89 rfl rfl rfl mW6 ?_)|(refine VLd.is ?_;refine oC (.old (hc.part h4) rfl (by simp)) ?_)|(refine VLd.is ?_;refine oC (.old (hc.part h5) rfl (by simp)) ?_)|(refine bQ0 92 ?_;(refine bQ2 (fun w' hw'=>fD8 x.sts _ _ _ _ _ (hst.keep hw' (by simp)) qZ) ?_;rintro ⟨p1,c1⟩ hp1;dsimp only at hp1))|(refine VNew.mk fun b2=>?_)|(refine VSeq.is ?_;refine VSeq.cut (at_:=4) (α:=Nat×Option Addr×Nat) (fun _=>True) (fun y=>[(1000000,.tuple #[]),(0,.pointer (some ⟨x.b,0,none⟩)),(2,.pointer (some ⟨b1,0,none⟩)),(3,.int .i64 0),(4,.pointer (some ⟨y.1,0,none⟩))]) (fun y=>[.row b1 94 [.int .i64 0,.slice none 0 0,.slice none 0 0],.row y.1 94 [.int .i64 (x.tick:Int),.slice y.2.1 x.sts.length y.2.2,.slice none 0 0],.vec y.2.1 x.sts.length y.2.2 126 2 (bQ1 cJ6 x.sts)]) ?_ ?_)|refine VSeq.go ?_|refine oY fun _=>?_|refine oT ?_|refine oK ?_|refine oH ?_|refine And.intro ?_ ?_
 all_goals (conv=>whnf)
 ·exact VMid.mk (b2,p1,c1) trivial aE aH
 ·exact VMid.mk (b2,p1,c1) trivial aE aH
 rintro ⟨b4,p1,c1⟩ _
 dsimp only
 repeat' (conv=>whnf);first|refine VSeq.go ?_
 all_goals (conv=>whnf)
 refine bF2 (α:=List DRow×Option Addr×Nat) [1000000,0,2,3,4] rfl (fun y=>y.1.length<=16/\y.1.map (·.l)=(rot x.tick (x.D.map (·.l))).take y.1.length)
  (fun y K=>(20,.int .i64 (y.1.length:Int))::K)
  (fun y=>.row b1 94 [.int .i64 0,.slice none 0 0,.slice none 0 0]::.row b4 94 [.int .i64 (x.tick:Int),.slice p1 x.sts.length c1,.slice y.2.1 y.1.length y.2.2]::.vec p1 x.sts.length c1 126 2 (bQ1 cJ6 x.sts)::
   .vec y.2.1 y.1.length y.2.2 28 1 (bQ1 bL8 y.1)::y.1.map bY9)
  (fun y=>16 - y.1.length) ([],none,0) ⟨by simp,by simp⟩ aE aH ?_
 rintro ⟨D,p,cap⟩ ⟨hD,hDl'⟩
 dsimp only at hD hDl' ⊢
 rcases qy D.length 16 with hlt|hge
 ·obtain ⟨d,hd⟩:∃d,x.D[(x.tick+D.length)%16]? =some d:=⟨x.D[(x.tick+D.length)%16]'qZ,qq _⟩
  have hdl:=hcells d (qz hd)
  have hsd:=hdue d (qz hd)
  have hrd:=hrow D.length d hlt hd
  have htk:=gW8 x.tick (x.D.map (·.l)) (i:=D.length) (l:=d.l) hlt (by rw [qj,hd];rfl)
  repeat' (conv=>whnf);first|(refine bQ0 93 ?_;refine VCall.inl (F:=lW9) Tryz.func93 rfl rfl rfl lN7 ?_)|(refine VLd.is ?_;refine oC (.old (hc.part h4) rfl (by simp)) ?_)|(refine VLd.is ?_;refine oC (.old (hc.part hrd) rfl (by simp)) ?_)|(refine bQ0 56 ?_;(refine bQ2 (fun w' hw'=>dX2 d.l _ _ _ _ _ (hsd.keep hw' (by simp)) qZ) ?_;rintro ⟨p2,c2⟩ hp2;obtain ⟨g2,hg2⟩:=hp2 qZ;dsimp only at hg2;subst hg2))|(refine VAp.is ?_;refine VAp.own (p:=p) aT (.at_ (.vec aT rfl)) (by simp [Value.oneCell']) (by (try dsimp only);omega) (by simp only [maxLen];omega) fun p' cap' hp'=>?_)|refine VSeq.go ?_|refine oY fun _=>?_|refine oL ?_|refine oT ?_|refine oV fun _=>?_|refine oA ?_|refine oI ?_|refine oK ?_|refine oH ?_|refine oM ?_
  all_goals (conv=>whnf)
  refine VNext.mk (D++[⟨g2,c2,d.l⟩],p',cap') ⟨by simp;omega,?_⟩ (by simp;omega) ?_ ?_
  ·dsimp only
   rw [ql,qw,hDl',qR,List.length_nil,htk]
   rfl
  ·dsimp only
   simp only [qw,qR,List.length_nil]
   exact aE
  ·dsimp only
   have e2:(D++[(⟨g2,c2,d.l⟩:DRow)]).map bY9=D.map bY9++[.vec (some ⟨g2,0,none⟩) d.l.length c2 3 1 (bQ1 bQ6 d.l)]:=by simp [bY9]
   have e3:bQ1 bL8 (D++[(⟨g2,c2,d.l⟩:DRow)])=bQ1 bL8 D++[.slice (some ⟨g2,0,none⟩) d.l.length c2]:=by simp [bQ1,bL8,bJ9]
   rw [e2,e3,qw,qR,List.length_nil]
   refine HLe.cons aT (HLe.cons aT (HLe.cons aT (HLe.cons aT ?_)))
   refine HLe.permL (A:=.vec (some ⟨g2,0,none⟩) d.l.length c2 3 1 (bQ1 bQ6 d.l)::D.map bY9) ?_ oU
   exact aH
 ·repeat' (conv=>whnf);first|refine VSeq.go ?_|refine oN fun _=>?_|refine oL ?_|refine oT ?_
  all_goals (conv=>whnf)
  have h16:D.length=16:=by omega
  refine ⟨fun w' hw'=>⟨⟨x.tick,p1,c1,x.sts,p,cap,D⟩,rfl,⟨rfl,rfl,?_⟩,hw'.le ?_⟩⟩
  ·dsimp only
   rw [hDl',h16,qe qZ]
  ·unfold gX0
   dsimp only
   exact aH
end Go.Proofs
end
