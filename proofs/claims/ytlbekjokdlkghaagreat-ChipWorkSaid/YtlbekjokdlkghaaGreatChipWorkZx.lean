import Derived.Test.YtlbekjokdlkghaaGreatChipWorkPz
import Derived.Test.YtlbekjokdlkghaaGreatChipWorkMm
import Derived.Test.YtlbekjokdlkghaaGreatChipWorkZw
import Derived.Test.YtlbekjokdlkghaaGreatChipWorkTo9
set_option linter.unusedVariables false
set_option linter.unusedSimpArgs false
set_option maxHeartbeats 4000000
section
namespace Go.Gm
end Go.Gm
namespace Go.Proofs
open Go Go.Vx Go.Gm
end Go.Proofs
end

section
namespace Go.Proofs
open Go Go.Vx Go.Gm
end Go.Proofs
end

section
namespace Go.Gm
def parW:Par:=⟨1,1,0,5,0,0, -4,1⟩
def netW:Net:=⟨[parW,parW],1,[⟨-1,0,6,1⟩,⟨0,1,6,3⟩]⟩
def chpW:Chp:=⟨⟨2,1,1⟩,1,4,4,3,[]⟩
theorem mapW_zero:mapErr netW chpW [0,1]=0:=by kernel_rfl
end Go.Gm
namespace Go.Proofs
open Go Go.Vx Go.Gm
theorem netW_wf:netW.wf:=by
 refine ⟨?_,?_,?_⟩
 ·intro p hp
  simp only [netW,qQ,jq,or_false,or_self] at hp
  subst hp
  constructor<;>simp [parW,I64]
 ·simp [netW,I64]
 ·simp [netW,Syn.wf,I64]
theorem chpW_wf:chpW.wf:=by
 refine ⟨⟨?_,?_,?_⟩,?_,?_,?_,?_,?_,?_⟩<;>simp [chpW,I64]
end Go.Proofs
end

section
namespace Go.Gm
open Go.Proofs
def evX8:List Evt:=[⟨0,0⟩]
def outX8:List Evt:=[⟨1,0⟩,⟨4,1⟩]
def wrkX8:Wrk:=⟨6,12,2,2,1,2,2,3,2⟩
theorem rkW_out:rkOut netW chpW [0,1] evX8 6=outX8:=by kernel_rfl
theorem rkW_wrk:(rkAt netW chpW [0,1] evX8 6).2=wrkX8:=by kernel_rfl
theorem rkW_prep:prepErr (net1 1) evX8 6 10000=0:=by kernel_rfl
theorem runW:run8 netW chpW [0,1] evX8 6=(outX8,wrkX8,0):=by
 have h0:plErr netW chpW [0,1] evX8 6=0:=by
  have h1:¬overB netW chpW [0,1] evX8 (6:Int).toNat:=by
   show¬65536<(rkOut netW chpW [0,1] evX8 6).length
   rw [rkW_out]
   decide
  unfold plErr
  rw [mapW_zero,jk (by simp),jk (by have:netW.inputs=1:=rfl;rw [this,rkW_prep];simp),jk h1]
 unfold run8
 rw [h0,jk (by simp)]
 have e:(6:Int).toNat=6:=rfl
 rw [e,rkW_out,rkW_wrk]
theorem eneW:eneR wrkX8 ⟨1,2,3,4,5⟩=(42,0):=by kernel_rfl
end Go.Gm
namespace Go.Proofs
open Go Go.Vx Go.Gm
theorem same8_any (l m:List Evt)(hm:∀x∈m,x.wf)(hl:∀x∈l,x.wf)(p:Option Addr)(c b o:Nat)(q:Option Addr)(d b2 o2:Nat)(w:World)(h1:Sl w evtV 2 l p l.length b o)(h2:Sl w evtV 2 m q m.length b2 o2)(hsz:l.length<4611686018427387904):
  Calls Tryz.prog 16 #[.slice p l.length c,.slice q m.length d] w fun e w'=>∃r:Bool,e=.returned (.bool r)/\(r=true<->l=m)/\St w [] [] w':=by
 refine enter (C:=Tryz.cx) (F:=Tryz.fx16) (args:=[_,_]) Tryz.func16 rfl rfl rfl Tryz.ok16 (St.start w []) ?_
 repeat' (conv=>whnf);first|refine VSeq.go ?_|refine oS (fun _=>?_) fun _=>?_
 all_goals (conv=>whnf)
 ·exact ⟨fun w' hw'=>⟨_,rfl,⟨fun h=>by simp at h,fun h=>by subst h;omega⟩,hw'.le .nil⟩⟩
 refine VLoop.mk (α:=Nat) (fun i=>i<=l.length/\l.take i=m.take i)
  (fun i=>[(1000000,.tuple #[]),(0,.slice p l.length c),(1,.slice q m.length d),(4,.bool false),(5,.int .i64 (i:Int))])
  (fun _=>[]) (fun i=>l.length - i) 0 ⟨by omega,rfl⟩ aE aH ?_
 rintro i ⟨hi,ht⟩
 rcases qy i l.length with hlt|hge
 ·obtain ⟨x,hx⟩:=h1.get hlt
  obtain ⟨y,hy⟩:=h2.get (i:=i) qZ
  have hwx:=hl x (qz hx)
  have hwy:=hm y (qz hy)
  unfold Evt.wf I64 at hwx hwy
  repeat' (conv=>whnf);first|(refine VIx.is ?_;refine VIx.mk (h1.ptr qZ) qZ qZ ?_)|(refine VIx.is ?_;refine VIx.mk (h2.ptr qZ) qZ qZ ?_)|(refine VLd.is ?_;refine VLd.mk (h1.rd0 (by simp) (fun _=>rfl) hx rfl) ?_)|(refine VLd.is ?_;refine VLd.mk (h2.rd0 (by simp) (fun _=>rfl) hy rfl) ?_)|refine VSeq.go ?_|refine oY fun _=>?_|refine oS (fun _=>?_) fun _=>?_|refine oA ?_|refine oH ?_
  all_goals (conv=>whnf)
  ·have hne:¬(x.tick=y.tick/\x.id=y.id):=fun h=>‹¬(x.tick=y.tick/\x.id=y.id/\True)› ⟨h.1,h.2,trivial⟩
   exact ⟨fun w' hw'=>⟨_,rfl,⟨fun h=>by simp at h,fun h=>absurd (by rw [h,hy] at hx;cases hx;exact ⟨rfl,rfl⟩) hne⟩,hw'.le .nil⟩⟩
  ·have he:x=y:=by
    have h1:x.tick=y.tick/\x.id=y.id:=by simp only [and_true] at*;omega
    cases x;cases y;simp only [Evt.mk.injEq];exact h1
   refine VNext.mk (i+1) ⟨by omega,?_⟩ qZ aE aH
   rw [qi,qi,ht,hx,hy,he]
 ·repeat' (conv=>whnf);first|refine VSeq.go ?_|refine oN fun _=>?_
  all_goals (conv=>whnf)
  refine ⟨fun w' hw'=>⟨_,rfl,⟨fun _=>?_,fun _=>rfl⟩,hw'.le .nil⟩⟩
  rw [qe qZ,qe qZ] at ht
  exact ht
theorem outX8_wf:∀x∈outX8,x.wf:=by
 intro x hx
 simp only [outX8,qQ,jq,or_false] at hx
 rcases hx with rfl|rfl<;>simp [Evt.wf,I64]
theorem evX8_wf:∀x∈evX8,x.wf:=by
 intro x hx
 simp only [evX8,qQ,jq,or_false] at hx
 subst hx
 simp [Evt.wf,I64]
theorem wrkX8_wf:wrkX8.wf:=by simp [Wrk.wf,wrkX8,I64]
theorem works8_any (w:World):Calls Tryz.prog 12 #[] w fun e w'=>e=.returned (.bool true)/\St w [] [] w':=by
 have hr:=fun pn cn qs cs (w':World) h p c b o h1 pe ce be oe h3 hce=>chipRun_any ⟨chpW,none,0,netW,pn,cn,qs,cs⟩ w' h [0,1] (by simp [I64]) (by simp) p c b o h1 evX8 evX8_wf pe ce be oe h3 hce 6 (by simp [I64])
 dsimp only at hr
 rw [runW] at hr
 have hen:=fun (w':World)=>Energy_any wrkX8 ⟨1,2,3,4,5⟩ wrkX8_wf (by simp [Prc.wf,I64]) w'
 rw [eneW] at hen
 refine enter (C:=Tryz.cx) (F:=Tryz.fx12) (args:=[]) Tryz.func12 rfl rfl rfl Tryz.ok12 (St.start w []) ?_
 repeat' (conv=>whnf);first|(refine VCall.isF 44 ?_;refine VCall.inl (F:=Tryz.fx44) Tryz.func44 rfl rfl rfl Tryz.ok44 ?_)|(refine VCall.isF 102 ?_;refine VCall.inl (F:=Tryz.fx102) Tryz.func102 rfl rfl rfl Tryz.ok102 ?_)|(refine VCall.isF 45 ?_;refine VCall.inl (F:=Tryz.fx45) Tryz.func45 rfl rfl rfl Tryz.ok45 ?_)|(refine VCall.isF 13 ?_;(refine VCall.genR (fun w' hw'=>hr _ _ _ _ w' ⟨netW_wf,chpW_wf,Nat.zero_le _,⟨0,0,Sl.nil (.inl rfl)⟩,⟨_,0,Sl.own' hw' (l:=netW.ps) (f:=parV) (k:=8) (by repeat (first|exact List.mem_cons_self|apply List.mem_cons_of_mem)) (fun _=>rfl) rfl⟩,⟨_,0,Sl.own' hw' (l:=netW.syns) (f:=synV) (k:=4) (by repeat (first|exact List.mem_cons_self|apply List.mem_cons_of_mem)) (fun _=>rfl) rfl⟩⟩ _ _ _ _ (Sl.own' hw' (l:=[0,1]) (f:=intV) (k:=1) (by repeat (first|exact List.mem_cons_self|apply List.mem_cons_of_mem)) (fun _=>rfl) rfl) _ _ _ _ (Sl.own' hw' (l:=evX8) (f:=evtV) (k:=2) (by repeat (first|exact List.mem_cons_self|apply List.mem_cons_of_mem)) (fun _=>rfl) rfl) (by decide)) ?_;rintro ⟨q1,c1⟩ _;dsimp only))|(refine VCall.isF 17 ?_;(refine VCall.valR (fun w' hw'=>hen w') ?_))|(refine VCall.isF 16 ?_;(refine VCall.genR (v:=fun r=>.bool r) (p:=fun r=>(r=true<->outX8=outX8)) (G:=fun _=>[]) (fun w' hw'=>by obtain ⟨b1,hb1⟩:=Sl.own hw' (f:=evtV) (l:=outX8) (n:=outX8.length) (k:=2) (p:=q1) aT (fun _=>rfl) rfl;exact same8_any outX8 outX8 outX8_wf outX8_wf _ _ _ _ _ _ _ _ w' hb1 (Sl.own' hw' (l:=outX8) (f:=evtV) (k:=2) (by repeat (first|exact List.mem_cons_self|apply List.mem_cons_of_mem)) (fun _=>rfl) rfl) (by decide)) ?_;intro r hr2;have hr2:=hr2.2 rfl;subst hr2))|refine VSeq.go ?_|refine oY fun _=>?_|refine oL ?_|refine oT ?_|refine oV fun _=>?_
 all_goals (conv=>whnf)
 exact ⟨fun w' hw'=>⟨rfl,hw'.le .nil⟩⟩
end Go.Proofs
end

section
namespace Go.Proofs
open Go Go.Vx Go.Gm
structure PlnR8 (X:PlnX) (w:World):Prop where
 net:X.N.wf
 chip:X.C.int
 cap:X.C.dead.length<=X.cd
 dead:∃b o,Sl w intV 1 X.C.dead X.pd X.C.dead.length b o
 ps:∃b o,Sl w parV 8 X.N.ps X.pn X.N.ps.length b o
 syns:∃b o,Sl w synV 4 X.N.syns X.qs X.N.syns.length b o
theorem PlnR8.rd {X:PlnX}{w w':World}{H:HP}(h:PlnR8 X w)(hw':St w [] H w')(hf:X.C.dead.length<=1000000):PlnRd X w':=
 PlnRd.keep ⟨h.net,h.chip.wf hf,h.cap,h.dead,h.ps,h.syns⟩ hw'
structure CsX where
 X:PlnX
 cores:List Int
 pc:Option Addr
 cc:Nat
 l:List Evt
 pe:Option Addr
 ce:Nat
 ticks:Int
def CsX.v (Y:CsX):List Value:=
 [.slice Y.X.pn Y.X.N.ps.length Y.X.cn,.int .i64 Y.X.N.inputs,.slice Y.X.qs Y.X.N.syns.length Y.X.cs,.int .i64 Y.X.C.mesh.wide,.int .i64 Y.X.C.mesh.high,.int .i64 Y.X.C.mesh.room,.int .i64 Y.X.C.nr,.int .i64 Y.X.C.sy,.int .i64 Y.X.C.en,.int .i64 Y.X.C.bits,.slice Y.X.pd Y.X.C.dead.length Y.X.cd,.slice Y.pc Y.cores.length Y.cc,.slice Y.pe Y.l.length Y.ce,.int .i64 Y.ticks]
structure CsRd (Y:CsX) (w:World):Prop where
 X:PlnR8 Y.X w
 hcw:∀k∈Y.cores,I64 k
 cores:∃b o,Sl w intV 1 Y.cores Y.pc Y.cores.length b o
 hlw:∀x∈Y.l,x.wf
 evs:∃b o,Sl w evtV 2 Y.l Y.pe Y.l.length b o
 hce:Y.l.length<=Y.ce
 ti:I64 Y.ticks
theorem PlnR8.keep {X:PlnX}{w w':World}{H:HP}(h:PlnR8 X w)(hw':St w [] H w'):PlnR8 X w':=by
 obtain ⟨h1,h2,h3,⟨b1,o1,a1⟩,⟨b2,o2,a2⟩,⟨b3,o3,a3⟩⟩:=h
 exact ⟨h1,h2,h3,⟨b1,o1,a1.keep hw' (by simp)⟩,⟨b2,o2,a2.keep hw' (by simp)⟩,⟨b3,o3,a3.keep hw' (by simp)⟩⟩
theorem CsRd.keep {Y:CsX}{w w':World}{H:HP}(h:CsRd Y w)(hw':St w [] H w'):CsRd Y w':=by
 obtain ⟨h1,h2,⟨b1,o1,a1⟩,h3,⟨b2,o2,a2⟩,h4,h5⟩:=h
 exact ⟨h1.keep hw',h2,⟨b1,o1,a1.keep hw' (by simp)⟩,h3,⟨b2,o2,a2.keep hw' (by simp)⟩,h4,h5⟩
def Few8 (Y:CsX):Prop:=Y.X.N.ps.length<=20/\Y.X.N.syns.length<=70/\Y.X.C.dead.length<=20/\Y.cores.length<=100/\(Y.l.length<=200\/65536<Y.l.length/\Y.l.length<=65546)/\(Y.ticks<=80\/10000<Y.ticks)
theorem few8_any (Y:CsX)(w:World):
  Calls Tryz.prog 11 #[.agg Y.v.toArray] w fun e w'=>∃r:Bool,e=.returned (.bool r)/\(r=true<->Few8 Y)/\St w [] [] w':=by
 unfold CsX.v Few8
 refine enter (C:=Tryz.cx) (F:=Tryz.fx11) (args:=[_]) Tryz.func11 rfl rfl rfl Tryz.ok11 (St.start w []) ?_
 repeat' (conv=>whnf);first|(refine VNew.mk fun b1=>?_)|refine VSeq.go ?_|refine oS (fun _=>?_) fun _=>?_|refine oL ?_|refine oA ?_
 all_goals (conv=>whnf)
 all_goals first
  |exact ⟨fun w' hw'=>⟨true,rfl,by simp only [true_iff];omega,hw'.le .nil⟩⟩
  |exact ⟨fun w' hw'=>⟨false,rfl,by simp only [QV,false_iff];omega,hw'.le .nil⟩⟩
theorem key8_any (Y:CsX)(hl:Y.X.N.ps.length<=1024)(f:Int)(hf: -1000000<=f/\f<=1000000000)(w:World):
  Calls Tryz.prog 68 #[.agg Y.v.toArray,.int .i64 f] w fun e w'=>e=.returned (.int .i64 (keyM Y.X.N f))/\St w [] [] w':=by
 unfold CsX.v keyM
 refine enter (C:=Tryz.cx) (F:=Tryz.fx68) (args:=[_,_]) Tryz.func68 rfl rfl rfl Tryz.ok68 (St.start w []) ?_
 repeat' (conv=>whnf);first|(refine VNew.mk fun b1=>?_)|refine VSeq.go ?_|refine oS (fun _=>?_) fun _=>?_|refine oL ?_|refine oA ?_
 all_goals (conv=>whnf)
 all_goals first
  |exact ⟨fun w' hw'=>⟨by rw [jw qZ];rfl,hw'.le .nil⟩⟩
  |exact ⟨fun w' hw'=>⟨by rw [jk qZ];rfl,hw'.le .nil⟩⟩
theorem runs8_any (Y:CsX)(w:World)(hY:CsRd Y w):
  Calls Tryz.prog 19 #[.agg Y.v.toArray] w fun e w'=>∃r:Bool,e=.returned (.bool r)/\(r=true<->Few8 Y/\plErr Y.X.N Y.X.C Y.cores Y.l Y.ticks=0)/\St w [] [] w':=by
 have hf:=fun (w':World)=>few8_any Y w'
 obtain ⟨b1,o1,hc⟩:=hY.cores
 obtain ⟨b2,o2,he⟩:=hY.evs
 have hr:=fun (hF:Few8 Y) (w':World) (hw':PlnRd Y.X w') h h'=>chipRun_any Y.X w' hw' Y.cores hY.hcw (by have:=hF.2.2.2.1;omega) Y.pc Y.cc b1 o1 h Y.l hY.hlw Y.pe Y.ce b2 o2 h' hY.hce Y.ticks hY.ti
 have hX:=hY.X
 have hs:(run8 Y.X.N Y.X.C Y.cores Y.l Y.ticks).2.2=plErr Y.X.N Y.X.C Y.cores Y.l Y.ticks:=by
  unfold run8
  by_cases h:plErr Y.X.N Y.X.C Y.cores Y.l Y.ticks≠0
  ·rw [jw h]
  ·rw [jk h,Qm.1 h]
 rw [hs] at hr
 obtain ⟨R,hR⟩:=gX ((run8 Y.X.N Y.X.C Y.cores Y.l Y.ticks).1)
 obtain ⟨W,hW⟩:=gX ((run8 Y.X.N Y.X.C Y.cores Y.l Y.ticks).2.1)
 obtain ⟨E,hE⟩:=gX (plErr Y.X.N Y.X.C Y.cores Y.l Y.ticks)
 rw [hR,hW,hE] at hr
 rw [hE]
 unfold wrkV PlnX.net chpC at hr
 unfold CsX.v at hf ⊢
 refine enter (C:=Tryz.cx) (F:=Tryz.fx19) (args:=[_]) Tryz.func19 rfl rfl rfl Tryz.ok19 (St.start w []) ?_
 repeat' (conv=>whnf);first|(refine VNew.mk fun b1=>?_)|(refine VCall.isF 11 ?_;(refine VCall.genR (fun w' hw'=>hf w') ?_;rintro r hrr))|(refine VCall.isF 13 ?_;(refine VCall.genR (fun w' hw'=>hr (hrr.1 rfl) w' (hX.rd hw' (by have:=(hrr.1 rfl).2.2.1;omega)) (hc.keep hw' (by simp)) (he.keep hw' (by simp))) ?_;rintro ⟨q,qc⟩ _))|refine VSeq.go ?_|refine oS (fun _=>?_) fun _=>?_|(refine oB (fun h=>?_) (fun h=>?_)<;>subst h)|refine oL ?_|refine oT ?_
 all_goals (conv=>whnf)
 all_goals first
  |exact ⟨fun w' hw'=>⟨true,rfl,by simp only [true_iff];exact ⟨hrr.1 rfl,by omega⟩,hw'.le .nil⟩⟩
  |exact ⟨fun w' hw'=>⟨false,rfl,by simp only [QV,false_iff];rintro ⟨h1,h2⟩;(first|exact absurd (hrr.2 h1) (by decide)|omega),hw'.le .nil⟩⟩
  |exact ⟨fun w' hw'=>⟨_,rfl,by rw [jy];exact ⟨fun h=>⟨hrr.1 rfl,h⟩,fun h=>h.2⟩,hw'.le .nil⟩⟩
end Go.Proofs
namespace Go.Gm
open Go.Proofs
def linkF8 (x:Int)(k:Nat):Nat:=((List.range k).map fun (j:Nat)=>((2 ^ j:Nat):Int)).countP fun b=>decide (hasB x b)
theorem linkF8_next (x:Int)(k:Nat):linkF8 x (k+1)=linkF8 x k+if hasB x ((2 ^ k:Nat):Int) then 1 else 0:=by
 unfold linkF8
 rw [Qz,ql,List.countP_append,qU,List.countP_singleton]
 congr 1
 by_cases h:hasB x ((2 ^ k:Nat):Int)
 ·rw [jw h,jw (by simpa using h)]
 ·rw [jk h,jk (by simpa using h)]
theorem linkF8_four (x:Int):linkF8 x 4=linkN x:=rfl
theorem linkF8_le (x:Int)(k:Nat):linkF8 x k<=k:=by
 refine Qb (qT ..) ?_
 simp
def tgL (N:Net)(cores:List Int)(k:Int)(L:List Syn):List Int:=(L.filter fun s=>decide (keyM N s.frm=k)).map fun s=>cores[s.to.toNat]?.getD 0
theorem tgL_next {N:Net}{cores:List Int}{k:Int}{L:List Syn}{j:Nat}{s:Syn}{v:Int}(h:L[j]? =some s)(hv:cores[s.to.toNat]? =some v):tgL N cores k (L.take (j+1))=tgL N cores k (L.take j)++if keyM N s.frm=k then [v] else []:=by
 unfold tgL
 rw [qi,h,qW,Qa,ql]
 by_cases e:keyM N s.frm=k
 ·rw [jw e,List.filter_cons_of_pos (by simpa using e),List.filter_nil,qU,hv];rfl
 ·rw [jk e,List.filter_cons_of_neg (by simpa using e),List.filter_nil];rfl
theorem tgL_len (N:Net)(cores:List Int)(k:Int)(L:List Syn):(tgL N cores k L).length=L.countP (fun s=>decide (keyM N s.frm=k)):=by
 unfold tgL
 rw [qv,List.countP_eq_length_filter]
theorem tgL_le (N:Net)(cores:List Int)(k:Int)(L:List Syn)(j:Nat):(tgL N cores k (L.take j)).length<=j:=by
 rw [tgL_len]
 refine Qb qT ?_
 rw [qh];omega
end Go.Gm
namespace Go.Proofs
open Go Go.Vx Go.Gm
theorem bits8_any (o:List Int)(ho:OutsOk o)(hol:o.length<=65536)(po:Option Addr)(co bo oo:Nat)(w:World)(h1:Sl w intV 1 o po o.length bo oo):
  Calls Tryz.prog 23 #[.slice po o.length co] w fun e w'=>e=.returned (.int .i64 (linksM o:Int))/\St w [] [] w':=by
 refine enter (C:=Tryz.cx) (F:=Tryz.fx23) (args:=[_]) Tryz.func23 rfl rfl rfl Tryz.ok23 (St.start w []) ?_
 repeat' (conv=>whnf);first|refine VSeq.go ?_|refine oY fun _=>?_|refine oN fun _=>?_|refine oL ?_|refine oA ?_
 all_goals (conv=>whnf)
 refine VLoop.mk (α:=Nat) (fun i=>i<=o.length) (fun i=>[(1000000,.tuple #[]),(0,.slice po o.length co),(2,.int .i64 0),(3,.int .i64 (linksM (o.take i):Int)),(4,.int .i64 (i:Int))])
  (fun _=>[]) (fun i=>o.length - i) 0 (qB _) aE aH ?_
 intro i hi
 rcases qy i o.length with hlt|hge
 ·obtain ⟨v,hv⟩:=h1.get hlt
  have hvr:=ho v (qz hv)
  have hnx:=linksM_take hv
  have hb:=linksM_le (o.take i)
  rw [qh] at hb
  obtain ⟨n0,hn0⟩:=gX (linksM (o.take i))
  rw [hn0] at hnx hb ⊢
  repeat' (conv=>whnf);first|refine VSeq.go ?_|refine oY fun _=>?_|refine oN fun _=>?_|refine oL ?_|refine oA ?_
  all_goals (conv=>whnf)
  refine VLoop.mk (α:=Nat) (fun k=>k<=4) (fun k=>[(1000000,.tuple #[]),(0,.slice po o.length co),(2,.int .i64 0),(3,.int .i64 ((n0+linkF8 v k:Nat):Int)),(4,.int .i64 (i:Int)),(5,.int .i64 ((2 ^ k:Nat):Int))])
   (fun _=>[]) (fun k=>4 - k) 0 qZ aE aH ?_
  intro k hk
  rcases qy k 4 with hk4|hk4
  ·have hp1:2 ^ (k+1)=2*2 ^ k:=by rw [Nat.pow_succ];omega
   have hp2:2 ^ k<=8:=by
    have:(2:Nat) ^ k<=2 ^ 3:=jz qZ qZ
    omega
   have hfn:=linkF8_next v k
   have hfl:=linkF8_le v k
   obtain ⟨m,hm⟩:=gX (linkF8 v k)
   obtain ⟨m2,hm2⟩:=gX (linkF8 v (k+1))
   obtain ⟨pw,hpw⟩:=gX (2 ^ k)
   obtain ⟨pw2,hpw2⟩:=gX (2 ^ (k+1))
   have hhas:hasB v (pw:Int)<->((v.toNat&&&(pw:Int).toNat:Nat):Int)≠0:=by
    unfold hasB
    omega
   rw [hm,hm2,hpw] at hfn
   rw [hm] at hfl ⊢
   rw [hpw,hpw2] at hp1
   rw [hpw] at hp2 ⊢
   repeat' (conv=>whnf);first|(refine VIx.is ?_;refine VIx.mk (h1.ptr qZ) qZ qZ ?_)|(refine VLd.is ?_;refine VLd.mk (Rd.cast (h1.rd0 (by simp) (fun _=>rfl) hv rfl) oE) ?_)|(refine VBit.is ?_;refine VBit.and qZ qZ ?_)|refine VSeq.go ?_|refine oY fun _=>?_|refine oS (fun _=>?_) fun _=>?_|refine oA ?_
   all_goals (conv=>whnf)
   ·rw [jw (hhas.2 qZ)] at hfn
    refine VNext.mk (k+1) qZ qZ ?_ aH
    dsimp only
    rw [hm2,hpw2,hp1,hfn,show ((2*pw:Nat):Int)=2*(pw:Int) by omega,show ((n0+(m+1):Nat):Int)=((n0+m:Nat):Int)+1 by omega]
    exact aE
   ·rw [jk (fun h=>absurd (hhas.1 h) qZ)] at hfn
    refine VNext.mk (k+1) qZ qZ ?_ aH
    dsimp only
    rw [hm2,hpw2,hp1,hfn,show ((2*pw:Nat):Int)=2*(pw:Int) by omega,show ((n0+(m+0):Nat):Int)=((n0+m:Nat):Int) by omega]
    exact aE
  have e:k=4:=by omega
  subst e
  rw [linkF8_four]
  repeat' (conv=>whnf);first|refine VSeq.go ?_|refine oY fun _=>?_|refine oN fun _=>?_|refine oL ?_|refine oA ?_
  all_goals (conv=>whnf)
  refine VNext.mk (i+1) qZ qZ ?_ aH
  rw [hnx]
  exact aE
 rw [qe hge]
 repeat' (conv=>whnf);first|refine VSeq.go ?_|refine oY fun _=>?_|refine oN fun _=>?_|refine oL ?_|refine oA ?_
 all_goals (conv=>whnf)
 exact ⟨fun w' hw'=>⟨rfl,hw'.le .nil⟩⟩
theorem targets8_any (Y:CsX)(w:World)(hY:CsRd Y w)(hok:NetOk Y.X.N)(hlen:Y.cores.length=Y.X.N.ps.length)(k:Int)(hk:I64 k):
  Calls Tryz.prog 21 #[.agg Y.v.toArray,.int .i64 k] w fun e w'=>∃z:Option Addr×Nat,e=.returned (.tuple #[.slice z.1 (tgL Y.X.N Y.cores k Y.X.N.syns).length z.2,.int .i64 ((tgL Y.X.N Y.cores k Y.X.N.syns).length:Int)])/\True/\St w [] [.vec z.1 (tgL Y.X.N Y.cores k Y.X.N.syns).length z.2 3 1 (flat intV (tgL Y.X.N Y.cores k Y.X.N.syns))] w':=by
 have hky:=fun (f:Int) hf (w':World)=>key8_any Y hok.few f hf w'
 obtain ⟨X,cores,pc,cc,l,pe,ce,ticks⟩:=Y
 obtain ⟨⟨hN,hC,hcc,⟨bd,od,hd⟩,⟨bp,op,hp⟩,⟨bs,os,hs⟩⟩,hcw,⟨bc,oc,h1⟩,hlw,⟨be,oe,h2⟩,hce,hti⟩:=hY
 dsimp only at hN hC hcc hd hp hs hcw h1 hlw h2 hce hti hok hlen hky ⊢
 have hfs:=hok.fewS
 have hfn:=hok.few
 have hfr:∀s∈X.N.syns, -1000000<=s.frm/\s.frm<=1000000000:=fun s h=>by
  have h1:=(hok.syns s h).1
  have h2:=hok.inputs
  unfold srcOk at h1
  omega
 have hto:∀s∈X.N.syns,0<=s.to/\s.to.toNat<cores.length:=fun s h=>by have:=(hok.syns s h).2.1;omega
 unfold I64 at hk
 unfold CsX.v at hky ⊢
 dsimp only at hky ⊢
 refine enter (C:=Tryz.cx) (F:=Tryz.fx21) (args:=[_,_]) Tryz.func21 rfl rfl rfl Tryz.ok21 (St.start w []) ?_
 repeat' (conv=>whnf);first|(refine VNew.mk fun b2=>?_)|refine VSeq.go ?_
 all_goals (conv=>whnf)
 refine VLoop.mk (α:=Nat×Option Addr×Nat) (fun z=>z.1<=X.N.syns.length) (fun z=>[(1000000,.tuple #[]),(1,.int .i64 k),(2,.pointer (some ⟨b2,0,none⟩)),(4,.slice none 0 0),(5,.int .i64 0),(6,.slice z.2.1 (tgL X.N cores k (X.N.syns.take z.1)).length z.2.2),(7,.int .i64 ((tgL X.N cores k (X.N.syns.take z.1)).length:Int)),(8,.int .i64 (z.1:Int))])
  (fun z=>.vec z.2.1 (tgL X.N cores k (X.N.syns.take z.1)).length z.2.2 3 1 (flat intV (tgL X.N cores k (X.N.syns.take z.1)))::(.row b2 33 [.slice X.pn X.N.ps.length X.cn,.int .i64 X.N.inputs,.slice X.qs X.N.syns.length X.cs,.int .i64 X.C.mesh.wide,.int .i64 X.C.mesh.high,.int .i64 X.C.mesh.room,.int .i64 X.C.nr,.int .i64 X.C.sy,.int .i64 X.C.en,.int .i64 X.C.bits,.slice X.pd X.C.dead.length X.cd,.slice pc cores.length cc,.slice pe l.length ce,.int .i64 ticks]::[])) (fun z=>X.N.syns.length - z.1) (0,none,0) (qB _) aE (HLe.nilv aH) ?_
 rintro ⟨j,q,cq⟩ hj
 dsimp only at hj ⊢
 rcases qy j X.N.syns.length with hlj|hgj
 ·obtain ⟨s,hsj⟩:=hs.get hlj
  have hsm:=qz hsj
  have hky2:=hky s.frm (hfr s hsm)
  obtain ⟨ht0,ht1⟩:=hto s hsm
  obtain ⟨v,hv⟩:=h1.get ht1
  have hnx:=tgL_next (N:=X.N) (cores:=cores) (k:=k) hsj hv
  have hle:=tgL_le X.N cores k X.N.syns j
  obtain ⟨T,hT⟩:=gX (tgL X.N cores k (X.N.syns.take j))
  rw [hT] at hnx hle ⊢
  obtain ⟨ky,hkyE⟩:=gX (keyM X.N s.frm)
  rw [hkyE] at hnx hky2
  have hsx:sub (synV s) 0 4=some [.int .i64 s.frm,.int .i64 s.to,.int .i64 s.wt,.int .i64 s.dl]:=rfl
  have hs0:sub (synV s) 0 1=some [.int .i64 s.frm]:=rfl
  have hs1:sub (synV s) 1 1=some [.int .i64 s.to]:=rfl
  by_cases hkk:ky=k
  ·rw [jw hkk] at hnx
   repeat' (conv=>whnf);first|(refine VCall.isF 68 ?_;(refine VCall.valR (fun w' hw'=>hky2 w') ?_))|(refine VIx.is ?_;refine VIx.mk (hs.ptr qZ) qZ qZ ?_)|(refine VIx.is ?_;refine VIx.mk (h1.ptr qZ) qZ qZ ?_)|(refine VLd.is ?_;refine VLd.mk (Rd.cast (hs.rd (o:=0) (s:=1) (by simp) (fun _=>rfl) hsj hs0) oE) ?_)|(refine VLd.is ?_;refine VLd.mk (Rd.cast (hs.rd (o:=1) (s:=1) (by simp) (fun _=>rfl) hsj hs1) oE) ?_)|(refine VLd.is ?_;refine VLd.mk (Rd.cast (h1.rd0 (by simp) (fun _=>rfl) hv rfl) oE) ?_)|(refine VNew.mk fun bn=>?_)|(refine VAp.is ?_;refine VAp.own aT (.at_ (.vec aT rfl)) (by simp [Value.oneCell']) (by (try dsimp only);omega) (by simp only [maxLen];omega) fun p' cap' hp'=>?_)|refine VSeq.go ?_|refine oY fun _=>?_|refine oL ?_|refine oA ?_|refine oH ?_
   all_goals (conv=>whnf)
   refine VNext.mk (j+1,p',cap') (by dsimp only;omega) (by dsimp only;omega) ?_ ?_
   ·dsimp only
    rw [hnx,qw,qM]
    exact aE
   ·dsimp only
    rw [hnx,qw,flat_append]
    exact aH
  ·rw [jk hkk,qC] at hnx
   repeat' (conv=>whnf);first|(refine VCall.isF 68 ?_;(refine VCall.valR (fun w' hw'=>hky2 w') ?_))|(refine VIx.is ?_;refine VIx.mk (hs.ptr qZ) qZ qZ ?_)|(refine VLd.is ?_;refine VLd.mk (Rd.cast (hs.rd (o:=0) (s:=1) (by simp) (fun _=>rfl) hsj hs0) oE) ?_)|refine VSeq.go ?_|refine oY fun _=>?_|refine oN fun _=>?_|refine oL ?_|refine oA ?_|refine oH ?_
   all_goals (conv=>whnf)
   refine VNext.mk (j+1,q,cq) (by dsimp only;omega) (by dsimp only;omega) ?_ ?_
   ·dsimp only
    rw [hnx]
    exact aE
   ·dsimp only
    rw [hnx]
    exact aH
 ·rw [qe hgj]
  obtain ⟨T,hT⟩:=gX (tgL X.N cores k X.N.syns)
  rw [hT]
  repeat' (conv=>whnf);first|refine VSeq.go ?_|refine oY fun _=>?_|refine oN fun _=>?_|refine oL ?_|refine oA ?_
  all_goals (conv=>whnf)
  exact ⟨fun w' hw'=>⟨(q,cq),rfl,trivial,hw'.le aH⟩⟩
end Go.Proofs
end
