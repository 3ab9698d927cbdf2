import Derived.Test.YtlbekjokdlkghaaGreatChipKnownWk
import Derived.Test.YtlbekjokdlkghaaGreatChipKnownPm
import Derived.Test.YtlbekjokdlkghaaGreatChipKnownMc
set_option linter.unusedVariables false
set_option linter.unusedSimpArgs false
set_option maxHeartbeats 4000000
section
namespace Go.Gm
open Go.Proofs
def evX8:List Evt:=[⟨0,0⟩]
def outX8:List Evt:=[⟨1,0⟩,⟨4,1⟩]
def wrkX8:Wrk:=⟨6,12,2,2,1,2,2,3,2⟩
theorem rkW_out:rkOut netW chpW [0,1] evX8 6=outX8:=by kernel_rfl
theorem rkW_wrk:(rkAt netW chpW [0,1] evX8 6).2=wrkX8:=by kernel_rfl
theorem rkW_prep:prepErr (net1 1) evX8 6 10000=0:=by kernel_rfl
theorem runW:run8 netW chpW [0,1] evX8 6=(outX8,wrkX8,0):=by
 have h0:plErr netW chpW [0,1] evX8 6=0:=by
  have h1:¬overB netW chpW [0,1] evX8 (6:Int).toNat:=by
   show¬65536<(rkOut netW chpW [0,1] evX8 6).length
   rw [rkW_out]
   decide
  unfold plErr
  rw [mapW_zero,jz (by simp),jz (by have:netW.inputs=1:=rfl;rw [this,rkW_prep];simp),jz h1]
 unfold run8
 rw [h0,jz (by simp)]
 have e:(6:Int).toNat=6:=rfl
 rw [e,rkW_out,rkW_wrk]
theorem eneW:eneR wrkX8 ⟨1,2,3,4,5⟩=(42,0):=by kernel_rfl
end Go.Gm
namespace Go.Proofs
open Go Go.Vx Go.Gm
theorem same8_any (l m:List Evt)(hm:∀x∈m,x.wf)(hl:∀x∈l,x.wf)(p:Option Addr)(c b o:Nat)(q:Option Addr)(d b2 o2:Nat)(w:World)(h1:Sl w evtV 2 l p l.length b o)(h2:Sl w evtV 2 m q m.length b2 o2)(hsz:l.length<4611686018427387904):
  Calls Tryz.prog 16 #[.slice p l.length c,.slice q m.length d] w fun e w'=>∃r:Bool,e=.returned (.bool r)/\(r=true<->l=m)/\St w [] [] w':=by
 refine enter (C:=Tryz.cx) (F:=Tryz.fx16) (args:=[_,_]) Tryz.func16 rfl rfl rfl Tryz.ok16 (St.start w []) ?_
 repeat' (conv=>whnf);first|refine VSeq.go ?_|refine oS (fun _=>?_) fun _=>?_
 all_goals (conv=>whnf)
 ·exact ⟨fun w' hw'=>⟨_,rfl,⟨fun h=>by simp at h,fun h=>by subst h;omega⟩,hw'.le .nil⟩⟩
 refine VLoop.mk (α:=Nat) (fun i=>i<=l.length/\l.take i=m.take i)
  (fun i=>[(1000000,.tuple #[]),(0,.slice p l.length c),(1,.slice q m.length d),(4,.bool false),(5,.int .i64 (i:Int))])
  (fun _=>[]) (fun i=>l.length - i) 0 ⟨by omega,rfl⟩ aE aH ?_
 rintro i ⟨hi,ht⟩
 rcases qy i l.length with hlt|hge
 ·obtain ⟨x,hx⟩:=h1.get hlt
  obtain ⟨y,hy⟩:=h2.get (i:=i) qZ
  have hwx:=hl x (qz hx)
  have hwy:=hm y (qz hy)
  unfold Evt.wf I64 at hwx hwy
  repeat' (conv=>whnf);first|(refine VIx.is ?_;refine VIx.mk (h1.ptr qZ) qZ qZ ?_)|(refine VIx.is ?_;refine VIx.mk (h2.ptr qZ) qZ qZ ?_)|(refine VLd.is ?_;refine VLd.mk (h1.rd0 (by simp) (fun _=>rfl) hx rfl) ?_)|(refine VLd.is ?_;refine VLd.mk (h2.rd0 (by simp) (fun _=>rfl) hy rfl) ?_)|refine VSeq.go ?_|refine oY fun _=>?_|refine oS (fun _=>?_) fun _=>?_|refine oA ?_|refine oH ?_
  all_goals (conv=>whnf)
  ·have hne:¬(x.tick=y.tick/\x.id=y.id):=fun h=>‹¬(x.tick=y.tick/\x.id=y.id/\True)› ⟨h.1,h.2,trivial⟩
   exact ⟨fun w' hw'=>⟨_,rfl,⟨fun h=>by simp at h,fun h=>absurd (by rw [h,hy] at hx;cases hx;exact ⟨rfl,rfl⟩) hne⟩,hw'.le .nil⟩⟩
  ·have he:x=y:=by
    have h1:x.tick=y.tick/\x.id=y.id:=by simp only [and_true] at*;omega
    cases x;cases y;simp only [Evt.mk.injEq];exact h1
   refine VNext.mk (i+1) ⟨by omega,?_⟩ qZ aE aH
   rw [qi,qi,ht,hx,hy,he]
 ·repeat' (conv=>whnf);first|refine VSeq.go ?_|refine oN fun _=>?_
  all_goals (conv=>whnf)
  refine ⟨fun w' hw'=>⟨_,rfl,⟨fun _=>?_,fun _=>rfl⟩,hw'.le .nil⟩⟩
  rw [qe qZ,qe qZ] at ht
  exact ht
theorem outX8_wf:∀x∈outX8,x.wf:=by
 intro x hx
 simp only [outX8,qQ,QU,or_false] at hx
 rcases hx with rfl|rfl<;>simp [Evt.wf,I64]
theorem evX8_wf:∀x∈evX8,x.wf:=by
 intro x hx
 simp only [evX8,qQ,QU,or_false] at hx
 subst hx
 simp [Evt.wf,I64]
theorem wrkX8_wf:wrkX8.wf:=by simp [Wrk.wf,wrkX8,I64]
theorem works8_any (w:World):Calls Tryz.prog 12 #[] w fun e w'=>e=.returned (.bool true)/\St w [] [] w':=by
 have hr:=fun pn cn qs cs (w':World) h p c b o h1 pe ce be oe h3 hce=>chipRun_any ⟨chpW,none,0,netW,pn,cn,qs,cs⟩ w' h [0,1] (by simp [I64]) (by simp) p c b o h1 evX8 evX8_wf pe ce be oe h3 hce 6 (by simp [I64])
 dsimp only at hr
 rw [runW] at hr
 have hen:=fun (w':World)=>Energy_any wrkX8 ⟨1,2,3,4,5⟩ wrkX8_wf (by simp [Prc.wf,I64]) w'
 rw [eneW] at hen
 refine enter (C:=Tryz.cx) (F:=Tryz.fx12) (args:=[]) Tryz.func12 rfl rfl rfl Tryz.ok12 (St.start w []) ?_
 repeat' (conv=>whnf);first|(refine VCall.isF 44 ?_;refine VCall.inl (F:=Tryz.fx44) Tryz.func44 rfl rfl rfl Tryz.ok44 ?_)|(refine VCall.isF 102 ?_;refine VCall.inl (F:=Tryz.fx102) Tryz.func102 rfl rfl rfl Tryz.ok102 ?_)|(refine VCall.isF 45 ?_;refine VCall.inl (F:=Tryz.fx45) Tryz.func45 rfl rfl rfl Tryz.ok45 ?_)|(refine VCall.isF 13 ?_;(refine VCall.genR (fun w' hw'=>hr _ _ _ _ w' ⟨netW_wf,chpW_wf,Nat.zero_le _,⟨0,0,Sl.nil (.inl rfl)⟩,⟨_,0,Sl.own' hw' (l:=netW.ps) (f:=parV) (k:=8) (by repeat (first|exact List.mem_cons_self|apply List.mem_cons_of_mem)) (fun _=>rfl) rfl⟩,⟨_,0,Sl.own' hw' (l:=netW.syns) (f:=synV) (k:=4) (by repeat (first|exact List.mem_cons_self|apply List.mem_cons_of_mem)) (fun _=>rfl) rfl⟩⟩ _ _ _ _ (Sl.own' hw' (l:=[0,1]) (f:=intV) (k:=1) (by repeat (first|exact List.mem_cons_self|apply List.mem_cons_of_mem)) (fun _=>rfl) rfl) _ _ _ _ (Sl.own' hw' (l:=evX8) (f:=evtV) (k:=2) (by repeat (first|exact List.mem_cons_self|apply List.mem_cons_of_mem)) (fun _=>rfl) rfl) (by decide)) ?_;rintro ⟨q1,c1⟩ _;dsimp only))|(refine VCall.isF 17 ?_;(refine VCall.valR (fun w' hw'=>hen w') ?_))|(refine VCall.isF 16 ?_;(refine VCall.genR (v:=fun r=>.bool r) (p:=fun r=>(r=true<->outX8=outX8)) (G:=fun _=>[]) (fun w' hw'=>by obtain ⟨b1,hb1⟩:=Sl.own hw' (f:=evtV) (l:=outX8) (n:=outX8.length) (k:=2) (p:=q1) aT (fun _=>rfl) rfl;exact same8_any outX8 outX8 outX8_wf outX8_wf _ _ _ _ _ _ _ _ w' hb1 (Sl.own' hw' (l:=outX8) (f:=evtV) (k:=2) (by repeat (first|exact List.mem_cons_self|apply List.mem_cons_of_mem)) (fun _=>rfl) rfl) (by decide)) ?_;intro r hr2;have hr2:=hr2.2 rfl;subst hr2))|refine VSeq.go ?_|refine oY fun _=>?_|refine oL ?_|refine oT ?_|refine oV fun _=>?_
 all_goals (conv=>whnf)
 exact ⟨fun w' hw'=>⟨rfl,hw'.le .nil⟩⟩
end Go.Proofs
end

section
namespace Go.Proofs
open Go Go.Vx Go.Gm Go.RowKit Go.WideShapes Go.ChangeShapes Go.Deep Go.Joins
section
variable {H : Type} {enc : TypeId × Value -> H} {P : Program} {w : World} {base : Nat} {spare : Nat -> Bool} {held : Bool}
end
structure _root_.Go.Gm.Chp.int (C:Chp):Prop where
 mesh:C.mesh.wf
 nr:I64 C.nr
 sy:I64 C.sy
 en:I64 C.en
 bits:I64 C.bits
 dead:∀x∈C.dead,I64 x
theorem _root_.Go.Gm.Chp.int.wf {C:Chp}(h:C.int)(hf:C.dead.length<=1000000):C.wf:=⟨h.mesh,h.nr,h.sy,h.en,h.bits,h.dead,hf⟩
section
variable {H : Type} {enc : TypeId × Value -> H} {W : World} {base : Nat} {spare : Nat -> Bool} {held : Bool} {r : Reach} {b0 : Nat}
end
end Go.Proofs
end

section
namespace Go.Proofs
open Go Go.Vx Go.Gm
structure PlnR8 (X:PlnX) (w:World):Prop where
 net:X.N.wf
 chip:X.C.int
 cap:X.C.dead.length<=X.cd
 dead:∃b o,Sl w intV 1 X.C.dead X.pd X.C.dead.length b o
 ps:∃b o,Sl w parV 8 X.N.ps X.pn X.N.ps.length b o
 syns:∃b o,Sl w synV 4 X.N.syns X.qs X.N.syns.length b o
theorem PlnR8.rd {X:PlnX}{w w':World}{H:HP}(h:PlnR8 X w)(hw':St w [] H w')(hf:X.C.dead.length<=1000000):PlnRd X w':=
 PlnRd.keep ⟨h.net,h.chip.wf hf,h.cap,h.dead,h.ps,h.syns⟩ hw'
structure CsX where
 X:PlnX
 cores:List Int
 pc:Option Addr
 cc:Nat
 l:List Evt
 pe:Option Addr
 ce:Nat
 ticks:Int
def CsX.v (Y:CsX):List Value:=
 [.slice Y.X.pn Y.X.N.ps.length Y.X.cn,.int .i64 Y.X.N.inputs,.slice Y.X.qs Y.X.N.syns.length Y.X.cs,.int .i64 Y.X.C.mesh.wide,.int .i64 Y.X.C.mesh.high,.int .i64 Y.X.C.mesh.room,.int .i64 Y.X.C.nr,.int .i64 Y.X.C.sy,.int .i64 Y.X.C.en,.int .i64 Y.X.C.bits,.slice Y.X.pd Y.X.C.dead.length Y.X.cd,.slice Y.pc Y.cores.length Y.cc,.slice Y.pe Y.l.length Y.ce,.int .i64 Y.ticks]
structure CsRd (Y:CsX) (w:World):Prop where
 X:PlnR8 Y.X w
 hcw:∀k∈Y.cores,I64 k
 cores:∃b o,Sl w intV 1 Y.cores Y.pc Y.cores.length b o
 hlw:∀x∈Y.l,x.wf
 evs:∃b o,Sl w evtV 2 Y.l Y.pe Y.l.length b o
 hce:Y.l.length<=Y.ce
 ti:I64 Y.ticks
theorem PlnR8.keep {X:PlnX}{w w':World}{H:HP}(h:PlnR8 X w)(hw':St w [] H w'):PlnR8 X w':=by
 obtain ⟨h1,h2,h3,⟨b1,o1,a1⟩,⟨b2,o2,a2⟩,⟨b3,o3,a3⟩⟩:=h
 exact ⟨h1,h2,h3,⟨b1,o1,a1.keep hw' (by simp)⟩,⟨b2,o2,a2.keep hw' (by simp)⟩,⟨b3,o3,a3.keep hw' (by simp)⟩⟩
theorem CsRd.keep {Y:CsX}{w w':World}{H:HP}(h:CsRd Y w)(hw':St w [] H w'):CsRd Y w':=by
 obtain ⟨h1,h2,⟨b1,o1,a1⟩,h3,⟨b2,o2,a2⟩,h4,h5⟩:=h
 exact ⟨h1.keep hw',h2,⟨b1,o1,a1.keep hw' (by simp)⟩,h3,⟨b2,o2,a2.keep hw' (by simp)⟩,h4,h5⟩
end Go.Proofs
namespace Go.Gm
open Go.Proofs
end Go.Gm
namespace Go.Proofs
open Go Go.Vx Go.Gm
end Go.Proofs
end

section
namespace Go.Proofs
open Go Go.Vx Go.Gm
theorem _root_.Go.Vx.VCall.fst8 {P:Program}{w0:World}{M:List Nat}{H:HP}{f:Nat}(x:Value){xs:List Value}{K:Value->HP->Prop}(hh:VCall P w0 M H f (x::xs) K):VCall P w0 M H f (x::xs) K:=hh
theorem equal8_any (l m:List Int)(hll:l.length<=1000000)(p:Option Addr)(c b o:Nat)(q:Option Addr)(d b2 o2:Nat)(w:World)(hl:∀k∈l,I64 k)(hm:∀k∈m,I64 k)(h1:Sl w intV 1 l p l.length b o)(h2:Sl w intV 1 m q m.length b2 o2):
  Calls Tryz.prog 26 #[.slice p l.length c,.slice q m.length d] w fun e w'=>∃r:Bool,e=.returned (.bool r)/\(r=true<->l=m)/\St w [] [] w':=by
 refine enter (C:=Tryz.cx) (F:=Tryz.fx26) (args:=[_,_]) Tryz.func26 rfl rfl rfl Tryz.ok26 (St.start w []) ?_
 by_cases hlen:l.length≠m.length
 ·repeat' (conv=>whnf);first|refine VSeq.go ?_|refine oY fun _=>?_
  all_goals (conv=>whnf)
  exact ⟨fun w' hw'=>⟨false,rfl,by simp only [QV,false_iff];exact fun h=>hlen (by rw [h]),hw'.le .nil⟩⟩
 have hlen:=Qm.1 hlen
 repeat' (conv=>whnf);first|refine VSeq.go ?_|refine oN fun _=>?_
 all_goals (conv=>whnf)
 refine VLoop.mk (α:=Nat) (fun j=>j<=l.length/\l.take j=m.take j) (fun j=>[(1000000,.tuple #[]),(0,.slice p l.length c),(1,.slice q m.length d),(4,.bool false),(5,.int .i64 (j:Int))])
  (fun _=>[]) (fun j=>l.length - j) 0 ⟨qB _,by simp⟩ aE aH ?_
 rintro j ⟨hj,ht⟩
 rcases qy j l.length with hlt|hge
 ·obtain ⟨x,hx⟩:=h1.get hlt
  obtain ⟨y,hy⟩:=h2.get (by omega:j<m.length)
  have hxw:=hl x (qz hx)
  have hyw:=hm y (qz hy)
  unfold I64 at hxw hyw
  repeat' (conv=>whnf);first|(refine VIx.is ?_;refine VIx.mk (h1.ptr qZ) qZ qZ ?_)|(refine VIx.is ?_;refine VIx.mk (h2.ptr qZ) qZ qZ ?_)|(refine VLd.is ?_;refine VLd.mk (Rd.cast (h1.rd0 (by simp) (fun _=>rfl) hx rfl) oE) ?_)|(refine VLd.is ?_;refine VLd.mk (Rd.cast (h2.rd0 (by simp) (fun _=>rfl) hy rfl) oE) ?_)|refine VSeq.go ?_|refine oY fun _=>?_|refine oS (fun _=>?_) fun _=>?_|refine oA ?_|refine oH ?_
  all_goals (conv=>whnf)
  all_goals first
   |(have e:x≠y:=by omega
     exact ⟨fun w' hw'=>⟨false,rfl,by simp only [QV,false_iff];exact fun h=>e (by rw [h,hy] at hx;exact (Option.some.inj hx).symm),hw'.le .nil⟩⟩)
   |(have e:x=y:=by omega
     refine VNext.mk (j+1) ⟨by omega,?_⟩ qZ aE aH
     rw [qi,qi,hx,hy,ht,e])
 rw [qe hge,qe qZ] at ht
 repeat' (conv=>whnf);first|refine VSeq.go ?_|refine oN fun _=>?_
 all_goals (conv=>whnf)
 exact ⟨fun w' hw'=>⟨true,rfl,by simp [ht],hw'.le .nil⟩⟩
theorem slEq_any (l m:List Int)(hll:l.length<=1000000)(p:Option Addr)(c b o:Nat)(q:Option Addr)(d b2 o2:Nat)(w:World)(hl:∀k∈l,I64 k)(hm:∀k∈m,I64 k)(h1:Sl w intV 1 l p l.length b o)(h2:Sl w intV 1 m q m.length b2 o2):
  Calls Tryz.prog 73 #[.slice p l.length c,.slice q m.length d] w fun e w'=>∃r:Bool,e=.returned (.bool r)/\(r=true<->l=m)/\St w [] [] w':=by
 refine enter (C:=Tryz.cx) (F:=Tryz.fx73) (args:=[_,_]) Tryz.func73 rfl rfl rfl Tryz.ok73 (St.start w []) ?_
 by_cases hlen:l.length≠m.length
 ·repeat' (conv=>whnf);first|refine VSeq.go ?_|refine oY fun _=>?_
  all_goals (conv=>whnf)
  exact ⟨fun w' hw'=>⟨false,rfl,by simp only [QV,false_iff];exact fun h=>hlen (by rw [h]),hw'.le .nil⟩⟩
 have hlen:=Qm.1 hlen
 repeat' (conv=>whnf);first|refine VSeq.go ?_|refine oN fun _=>?_
 all_goals (conv=>whnf)
 refine VLoop.mk (α:=Nat) (fun j=>j<=l.length/\l.take j=m.take j) (fun j=>[(1000000,.tuple #[]),(0,.slice p l.length c),(1,.slice q m.length d),(4,.bool false),(12,.int .i64 (l.length:Int)),(13,.int .i64 (j:Int))])
  (fun _=>[]) (fun j=>l.length - j) 0 ⟨qB _,by simp⟩ aE aH ?_
 rintro j ⟨hj,ht⟩
 rcases qy j l.length with hlt|hge
 ·obtain ⟨x,hx⟩:=h1.get hlt
  obtain ⟨y,hy⟩:=h2.get (by omega:j<m.length)
  have hxw:=hl x (qz hx)
  have hyw:=hm y (qz hy)
  unfold I64 at hxw hyw
  repeat' (conv=>whnf);first|(refine VIx.is ?_;refine VIx.mk (h1.ptr qZ) qZ qZ ?_)|(refine VIx.is ?_;refine VIx.mk (h2.ptr qZ) qZ qZ ?_)|(refine VLd.is ?_;refine VLd.mk (Rd.cast (h1.rd0 (by simp) (fun _=>rfl) hx rfl) oE) ?_)|(refine VLd.is ?_;refine VLd.mk (Rd.cast (h2.rd0 (by simp) (fun _=>rfl) hy rfl) oE) ?_)|refine VSeq.go ?_|refine oY fun _=>?_|refine oS (fun _=>?_) fun _=>?_|refine oA ?_|refine oH ?_
  all_goals (conv=>whnf)
  all_goals first
   |(have e:x≠y:=by omega
     exact ⟨fun w' hw'=>⟨false,rfl,by simp only [QV,false_iff];exact fun h=>e (by rw [h,hy] at hx;exact (Option.some.inj hx).symm),hw'.le .nil⟩⟩)
   |(have e:x=y:=by omega
     refine VNext.mk (j+1) ⟨by omega,?_⟩ qZ aE aH
     rw [qi,qi,hx,hy,ht,e])
 rw [qe hge,qe qZ] at ht
 repeat' (conv=>whnf);first|refine VSeq.go ?_|refine oN fun _=>?_
 all_goals (conv=>whnf)
 exact ⟨fun w' hw'=>⟨true,rfl,by simp [ht],hw'.le .nil⟩⟩
theorem netNew8_any (N:Net)(hN:N.wf)(hNok:NetOk N)(pn:Option Addr)(cn bn on:Nat)(qs:Option Addr)(cs bs os:Nat)(w:World)(h1:Sl w parV 8 N.ps pn N.ps.length bn on)(h2:Sl w synV 4 N.syns qs N.syns.length bs os):
  Calls Tryz.prog 29 #[.agg #[.slice pn N.ps.length cn,.int .i64 N.inputs,.slice qs N.syns.length cs]] w fun e w'=>∃x:SimM,e=.returned (.tuple #[.pointer (some ⟨x.b,0,none⟩),.int .i64 0])/\(∀l,SimAt x N l 0)/\St w [] (simH x) w':=by
 have hz:=netchk_zero.2 hNok
 have hc:=fun (w':World) h h'=>Check_any N hN pn cn bn on qs cs bs os w' h h'
 rw [hz] at hc
 have hs:=fun (w':World) h h'=>start_any N hNok pn cn bn on qs cs bs os w' h h'
 refine enter (C:=Tryz.cx) (F:=Tryz.fx29) (args:=[_]) Tryz.func29 rfl rfl rfl Tryz.ok29 (St.start w []) ?_
 repeat' (conv=>whnf);first|(refine VNew.mk fun b1=>?_)|(refine VCall.isF 78 ?_;(refine VCall.valR (fun w' hw'=>hc w' (h1.keep hw' (by simp)) (h2.keep hw' (by simp))) ?_))|(refine VCall.isF 86 ?_;(refine VCall.genR (fun w' hw'=>hs w' (h1.keep hw' (by simp)) (h2.keep hw' (by simp))) ?_;rintro x ⟨hx,hxN,hxt,hxs,hxD⟩))|refine VSeq.go ?_|refine oN fun _=>?_|refine oL ?_
 all_goals (conv=>whnf)
 exact ⟨fun w' hw'=>⟨x,rfl,fun l=>SimAt.start hNok l hx hxN hxt hxs hxD,hw'.le aH⟩⟩
theorem step8_vc {w0:World}{M:List Nat}{H:HP}{Z:HP->HP}{K:Value->HP->Prop}{N:Net}{l:List Evt}{t:Nat}{limit:Int}(x:SimM)(h:SimAt x N l t)(ht:t<10000)(hev:EvOk N.inputs limit l)(sp:List Int)(hsp:rnSpk N l t=sp)(ins:List Int)(hins:insOf l (t:Int)=ins)(p:Option Addr)(n c:Nat)(hn:n=ins.length)
  (hat:AtS H (ownH x) Z) (hle:HLe (ownH x++shrH x) H) (hin:∀w,St w0 M H w->∃bi oi,Sl w intV 1 ins p ins.length bi oi/\bi∉ids (ownH x))
  (hk:∀q cap,(0<sp.length->∃g,q=some ⟨g,0,none⟩)->K (.tuple #[.slice q sp.length cap,.int .i64 0]) (.vec q sp.length cap 3 1 (flat intV sp)::Z (ownH (simStep x ins)))):
  VCall Tryz.cx.P w0 M H 30 [.pointer (some ⟨x.b,0,none⟩),.slice p n c] K:=by
 have h0:stepErr x ins=0:=by rw [<-hins];exact h.good ht hev
 have h1:stepSpk x ins=sp:=by unfold stepSpk;rw [jx h0,h.spk,hsp]
 have h2:stepSim x ins=simStep x ins:=by unfold stepSim;rw [jx h0]
 have hil:ins.length<=65536:=by rw [<-hins];exact (hev.ins (t:Int)).2.2
 rw [<-h1,<-h2,<-h0] at hk
 subst hn
 refine VCall.turnV (α:=Option Addr×Nat) (fun z=>.tuple #[.slice z.1 (stepSpk x ins).length z.2,.int .i64 (stepErr x ins)]) (fun z=>0<(stepSpk x ins).length->∃g,z.1=some ⟨g,0,none⟩) (fun z=>ownH (stepSim x ins)) (fun z=>[.vec z.1 (stepSpk x ins).length z.2 3 1 (flat intV (stepSpk x ins))]) hat (fun w hw hs=>?_) (fun z hz=>hk z.1 z.2 hz)
 obtain ⟨bi,oi,g1,g2⟩:=hin w hw
 exact Step_any x h.run ins qZ p c bi oi w hs (ShOk.of (hw.le hle) .here h.run.ok.rows (fun y hy=>by simpa using hy)) g1 g2
end Go.Proofs
end

section
namespace Go.Proofs
open Go Go.Vx Go.Gm
theorem cmp8_main (X:PlnX)(w:World)(hX:PlnRd X w)(cores:List Int)(hcw:∀k∈cores,I64 k)(p:Option Addr)(c b o:Nat)(h1:Sl w intV 1 cores p cores.length b o)
  (l:List Evt) (hlw:∀x∈l,x.wf) (pe:Option Addr) (ce be oe:Nat) (h3:Sl w evtV 2 l pe l.length be oe) (hce:l.length<=ce) (T:Nat) (he:plErr X.N X.C cores l (T:Int)=0)
  (m:Nat) (hm:m<=T) (hlo:∀t,t<m->rnSpk X.N l t=rnSpk (qNet X.N X.C) l t) (hhi:m<T->rnSpk X.N l m≠rnSpk (qNet X.N X.C) l m):
  Calls Tryz.prog 24 #[.agg X.net.toArray,.agg (chpC X.C X.pd X.cd).toArray,.slice p cores.length c,.slice pe l.length ce,.int .i64 (T:Int)] w fun e w'=>
   (m=T->e=.returned (.tuple #[.agg #[.int .i64 0,.slice none 0 0,.slice none 0 0],.bool false,.int .i64 0])/\St w [] [] w')/\
   (m<T->∃y:(Option Addr×Nat)×(Option Addr×Nat),e=.returned (.tuple #[.agg #[.int .i64 (m:Int),.slice y.1.1 (rnSpk X.N l m).length y.1.2,.slice y.2.1 (rnSpk (qNet X.N X.C) l m).length y.2.2],.bool true,.int .i64 0])/\True/\St w [] [.vec y.1.1 (rnSpk X.N l m).length y.1.2 3 1 (flat intV (rnSpk X.N l m)),.vec y.2.1 (rnSpk (qNet X.N X.C) l m).length y.2.2 3 1 (flat intV (rnSpk (qNet X.N X.C) l m))] w'):=by
 have hg:=fun (w':World) h h' h''=>played_good X w' h cores hcw p c b o h' l hlw pe ce be oe h'' hce (T:Int) he
 have hm0:mapErr X.N X.C cores=0:=jk fun h=>by unfold plErr at he;rw [jx h] at he;exact h he
 have hp0:prepErr (net1 X.N.inputs) l (T:Int) 10000=0:=jk fun h=>by unfold plErr at he;rw [jz (by rw [hm0];simp),jx h] at he;exact h he
 have ho:¬overB X.N X.C cores l T:=fun h=>by
  unfold plErr at he
  rw [jz (by rw [hm0];simp),jz (by rw [hp0];simp),jw,jx h] at he
  cases he
 obtain ⟨_,hT,hev⟩:=prep_zero.1 hp0
 unfold overB at ho
 obtain ⟨hA, -⟩:=mapErr_asg hm0
 have hOk:=hA.plan.net
 obtain ⟨⟨hN,hC,hcc,hd,⟨bp,op,hps⟩,⟨bs,os,hss⟩⟩,hX0⟩:PlnRd X w/\PlnRd X w:=⟨hX,hX⟩
 rw [jw,rkOut_rn] at hg
 rw [rkOut_rn] at ho
 have hOt:=rnOut_tick (qNet X.N X.C) l T
 have hOa:=rnOut_asc (qNet X.N X.C) l T
 have hOi:=rnOut_ins (qNet X.N X.C) l T
 obtain ⟨O,hO⟩:=gX (rnOut (qNet X.N X.C) l T)
 rw [hO] at hg ho hOt hOa hOi
 have hg2:∀w':World,PlnRd X w'->Sl w' intV 1 cores p cores.length b o->Sl w' evtV 2 l pe l.length be oe->Calls Tryz.prog 47 #[.agg X.net.toArray,.agg (chpC X.C X.pd X.cd).toArray,.slice p cores.length c,.slice pe l.length ce,.int .i64 (T:Int)] w' fun e w''=>∃y:Nat×Option Addr×Nat,e=.returned (.tuple #[.pointer (some ⟨y.1,0,none⟩),.slice y.2.1 O.length y.2.2,.int .i64 0])/\True/\St w' [] [.vec y.2.1 O.length y.2.2 67 2 (flat evtV O)] w'':=
  fun w' a1 a2 a3=>(hg w' a1 a2 a3).mono fun e w'' ⟨y,e1,_,e3⟩=>⟨(y.1.b,y.2),e1,trivial,e3.le aH⟩
 clear hg
 have hnew:=fun (w':World) h h'=>netNew8_any X.N hN hOk X.pn X.cn bp op X.qs X.cs bs os w' h h'
 have hids:=fun (t:Nat) (ht:t<T) (w':World) h=>ids8_any l (fun e he=>by have:=(hev.range e he).1;omega) (by have:=hev.few;omega) hev.asc (t:Int) qZ pe ce be oe w' h
 have hids2:=fun (t:Nat) (ht:t<T) (q:Option Addr) (c b o:Nat) (w':World) h=>ids8_any O (fun e he=>by have:=(hOt e he).1;omega) qZ hOa (t:Int) qZ q c b o w' h
 unfold PlnX.net chpC at hg2
 unfold PlnX.net chpC
 refine enter (C:=Tryz.cx) (F:=Tryz.fx24) (args:=[_,_,_,_,_]) Tryz.func24 rfl rfl rfl Tryz.ok24 (St.start w []) ?_
 repeat' (conv=>whnf);first|(refine VNew.mk fun b10=>?_)|(refine VCall.isF 47 ?_;(refine VCall.genR (fun w' hw'=>hg2 w' (hX.keep hw') (h1.keep hw' (by simp)) (h3.keep hw' (by simp))) ?_;rintro ⟨bm,q,qc⟩ _;dsimp only))|(refine VCall.isF 29 ?_;(refine VCall.genR (fun w' hw'=>hnew w' (hps.keep hw' (by simp)) (hss.keep hw' (by simp))) ?_;rintro x0 hx0))|refine VSeq.go ?_|refine oN fun _=>?_|refine oL ?_
 all_goals (conv=>whnf)
 clear hg2 hnew
 refine VLoop.mk (α:=Nat×SimM) (fun z=>z.1<=m/\SimAt z.2 X.N l z.1) (fun z=>[(1000000,.tuple #[]),(3,.slice pe l.length ce),(10,.pointer (some ⟨b10,0,none⟩)),(11,.bool false),(12,.int .i64 0),(14,.slice q O.length qc),(16,.pointer (some ⟨z.2.b,0,none⟩)),(44,.int .i64 (T:Int)),(45,.int .i64 (z.1:Int))]) (fun z=>.row b10 72 [.int .i64 0,.slice none 0 0,.slice none 0 0]::.vec q O.length qc 67 2 (flat evtV O)::(ownH z.2++shrH z.2)) (fun z=>m - z.1) (0,x0) ⟨qB _,hx0 l⟩ aE (by unfold simH;exact aH) ?_
 rintro ⟨t,x⟩ ⟨htm,hx⟩
 dsimp only at htm hx ⊢
 have hT2:T<=10000:=by omega
 rcases qy t T with htT|htT
 ·have hasc:=hev.ins (t:Int)
  have hsp:=rnSpk_few X.N l t
  have hsq:=rnSpk_few (qNet X.N X.C) l t
  have hO2:=hOi t
  rw [jx htT] at hO2
  have hi1:=hids t htT
  have hi2:=hids2 t htT
  rw [hO2] at hi2
  have hnx:=hx.step qZ hev
  have hsv:=fun {w0:World} {M:List Nat} {H:HP} {Z:HP->HP} {K:Value->HP->Prop}=>step8_vc (w0:=w0) (M:=M) (H:=H) (Z:=Z) (K:=K) x hx qZ hev _ rfl _ rfl
  have hlt:=fun h=>hlo t h
  have hmt:=fun (h:t=m)=>hhi
  obtain ⟨I,hI⟩:=gX (insOf l (t:Int))
  obtain ⟨A,hAe⟩:=gX (rnSpk X.N l t)
  obtain ⟨B,hBe⟩:=gX (rnSpk (qNet X.N X.C) l t)
  rw [hI] at hi1 hsv hasc hnx
  rw [hAe] at hsv hsp hlt
  rw [hBe] at hi2 hsq hlt
  have hxb:(simStep x I).b=x.b:=rfl
  have hAf:A.length<=1024:=Qb hsp.1 hOk.few
  have hBf:B.length<=1024:=Qb hsq.1 hOk.few
  have hpf:=hOk.few
  have heq:=fun (pa:Option Addr) (ca ba oa:Nat) (pb:Option Addr) (cb bb ob:Nat) (w':World) h h'=>slEq_any A B qZ pa ca ba oa pb cb bb ob w' (fun k hk=>by have:=hsp.2 k hk;unfold I64;omega) (fun k hk=>by have:=hsq.2 k hk;show I64 k;unfold I64;have h2:(qNet X.N X.C).ps.length=X.N.ps.length:=rfl;omega) h h'
  by_cases htm2:t<m
  ·have hab:=hlt htm2
   repeat' (conv=>whnf);first|(refine VCall.isF 72 ?_;(refine VCall.fst8 (.slice pe l.length ce) ?_;refine VCall.genR (fun w' hw'=>hi1 w' (h3.keep hw' (by simp))) ?_;rintro ⟨pi,ci⟩ hpi;dsimp only at hpi))|(refine VCall.isF 72 ?_;(refine VCall.fst8 (.slice q O.length qc) ?_;refine VCall.genR (fun w' hw'=>Exists.elim (Sl.own (f:=evtV) (l:=O) (k:=2) hw' aT (fun _=>rfl) rfl) fun bq hq=>hi2 q qc bq 0 w' hq) ?_;rintro ⟨pb,cb⟩ hpb;dsimp only at hpb))|(refine VCall.isF 30 ?_;(refine hsv _ _ _ rfl aS aH (fun w hw=>Exists.elim (Sl.vecOut (f:=intV) (l:=I) (k:=1) (p:=pi) (n:=I.length) (cap:=ci) (e:=3) (S:=ownH x) hw aH (fun _=>rfl) rfl) fun b hb=>⟨b,0,hb.1,hb.2⟩) ?_;intro pa ca hpa))|(refine VCall.isF 73 ?_;(refine VCall.genR (fun w' hw'=>Exists.elim (Sl.own (f:=intV) (l:=A) (p:=pa) (k:=1) hw' aT (fun _=>rfl) rfl) fun ba ha=>Exists.elim (Sl.own (f:=intV) (l:=B) (p:=pb) (k:=1) hw' aT (fun _=>rfl) rfl) fun bb hb=>heq pa ca ba 0 pb cb bb 0 w' ha hb) ?_;rintro r hr;obtain rfl:r=true:=hr.2 hab;clear hr))|refine VSeq.go ?_|refine oY fun _=>?_|refine oA ?_
   all_goals (conv=>whnf)
   refine VNext.mk (t+1,simStep x I) ⟨by dsimp only;omega,hnx⟩ (by dsimp only;omega) aE aH
  ·have htm3:t=m:=by omega
   have hne:=hhi qZ
   rw [<-htm3,hAe,hBe] at hne
   repeat' (conv=>whnf);first|(refine VCall.isF 72 ?_;(refine VCall.fst8 (.slice pe l.length ce) ?_;refine VCall.genR (fun w' hw'=>hi1 w' (h3.keep hw' (by simp))) ?_;rintro ⟨pi,ci⟩ hpi;dsimp only at hpi))|(refine VCall.isF 72 ?_;(refine VCall.fst8 (.slice q O.length qc) ?_;refine VCall.genR (fun w' hw'=>Exists.elim (Sl.own (f:=evtV) (l:=O) (k:=2) hw' aT (fun _=>rfl) rfl) fun bq hq=>hi2 q qc bq 0 w' hq) ?_;rintro ⟨pb,cb⟩ hpb;dsimp only at hpb))|(refine VCall.isF 30 ?_;(refine hsv _ _ _ rfl aS aH (fun w hw=>Exists.elim (Sl.vecOut (f:=intV) (l:=I) (k:=1) (p:=pi) (n:=I.length) (cap:=ci) (e:=3) (S:=ownH x) hw aH (fun _=>rfl) rfl) fun b hb=>⟨b,0,hb.1,hb.2⟩) ?_;intro pa ca hpa))|(refine VCall.isF 73 ?_;(refine VCall.genR (fun w' hw'=>Exists.elim (Sl.own (f:=intV) (l:=A) (p:=pa) (k:=1) hw' aT (fun _=>rfl) rfl) fun ba ha=>Exists.elim (Sl.own (f:=intV) (l:=B) (p:=pb) (k:=1) hw' aT (fun _=>rfl) rfl) fun bb hb=>heq pa ca ba 0 pb cb bb 0 w' ha hb) ?_;rintro r hr;obtain rfl:r=false:=(by cases r;rfl;exact absurd (hr.1 rfl) hne);clear hr))|refine VSeq.go ?_|refine oY fun _=>?_|refine oL ?_|refine oT ?_
   all_goals (conv=>whnf)
   refine ⟨fun w' hw'=>⟨fun h=>absurd h qZ,fun _=>⟨((pa,ca),(pb,cb)),?_,trivial,?_⟩⟩⟩
   ·rw [<-htm3,hAe,hBe];rfl
   ·rw [<-htm3,hAe,hBe]
    exact hw'.le aH
 ·have e:t=T:=by omega
  have e2:m=T:=by omega
  repeat' (conv=>whnf);first|refine VSeq.go ?_|refine oN fun _=>?_|refine oL ?_|refine oT ?_
  all_goals (conv=>whnf)
  exact ⟨fun w' hw'=>⟨fun _=>⟨rfl,hw'.le .nil⟩,fun h=>absurd h qZ⟩⟩
end Go.Proofs
end

section
namespace Go.Proofs
open Go Go.Vx Go.Gm
structure SimRd (w:World) (x:SimM):Prop where
 cells:Cells w x.b 0 (simC x)
 st:Sl w staV 2 x.sts (some ⟨x.sb,0,none⟩) x.sts.length x.sb 0
 due:∀d∈x.D,Sl w intV 1 d.l (some ⟨d.g,0,none⟩) d.l.length d.g 0
theorem SimRd.of {w0 w:World}{M:List Nat}{H:HP}{x:SimM}(hs:St w0 M H w)(hl:HLe (ownH x) H):SimRd w x:=by
 have h:=hs.le hl
 refine ⟨?_,Sl.own' (cap:=x.sc) (e:=126) h (by simp only [ownH,qQ,true_or,or_true]) (fun _=>rfl) rfl,fun d hd=>Sl.own' h (by simp only [ownH,qQ];exact .inr (.inr (qN hd))) (fun _=>rfl) rfl⟩
 have hb:=h.own (.row x.b 206 (simC x)) (by simp only [ownH,qQ,true_or])
 have hb':w.heap[x.b]? =some (.cells (simC x).toArray 206 (0,0)):=hb
 intro j v hj
 simpa [World.cell?,hb'] using hj
def drowVs (d:DRow):List Value:=[drowV d]
structure ImgM where
 tick:Nat
 sp:Option Addr
 sc:Nat
 sts:List Sta
 dp:Option Addr
 dc:Nat
 D:List DRow
def imgV (y:ImgM):Value:=.agg #[.int .i64 (y.tick:Int),.slice y.sp y.sts.length y.sc,.slice y.dp y.D.length y.dc]
def imgH (y:ImgM):HP:=.vec y.sp y.sts.length y.sc 126 2 (flat staV y.sts)::.vec y.dp y.D.length y.dc 28 1 (flat drowVs y.D)::y.D.map drowE
theorem rot_take (t:Nat)(D:List (List Int)){i:Nat}{l:List Int}(hi:i<16)(h:D[(t+i)%16]? =some l):(rot t D).take (i+1)=(rot t D).take i++[l]:=by
 rw [qi,rot_get,jx hi,h]
 rfl
end Go.Proofs
end
