import Derived.Test.YtlbekjokdlkghaaGreatChipEnergiesYo
import Derived.Test.YtlbekjokdlkghaaGreatChipEnergiesYn
import Derived.Test.YtlbekjokdlkghaaGreatChipEnergiesPz
import Derived.Test.YtlbekjokdlkghaaGreatChipEnergiesMm
set_option linter.unusedVariables false
set_option linter.unusedSimpArgs false
set_option maxHeartbeats 4000000
section
namespace Go.Gm
open Go.Proofs
instance (N:Net) (C:Chp) (cores:List Int) (l:List Evt) (T:Nat):Decidable (overB N C cores l T):=by unfold overB;infer_instance
def plErr (N:Net)(C:Chp)(cores:List Int)(l:List Evt)(ticks:Int):Int:=
 if mapErr N C cores≠0 then mapErr N C cores else if prepErr (net1 N.inputs) l ticks 10000≠0 then prepErr (net1 N.inputs) l ticks 10000 else if overB N C cores l ticks.toNat then 8 else 0
def run8 (N:Net)(C:Chp)(cores:List Int)(l:List Evt)(ticks:Int):List Evt×Wrk×Int:=
 if plErr N C cores l ticks≠0 then ([],wrk0,plErr N C cores l ticks) else (rkOut N C cores l ticks.toNat,(rkAt N C cores l ticks.toNat).2,0)
end Go.Gm
namespace Go.Proofs
open Go Go.Vx Go.Gm
theorem played_err (X:PlnX)(w:World)(hX:PlnRd X w)(cores:List Int)(hcw:∀k∈cores,I64 k)(hlc:cores.length≤1000000)(p:Option Addr)(c b o:Nat)(h1:Sl w intV 1 cores p cores.length b o)
  (l:List Evt) (hlw:∀x∈l,x.wf) (pe:Option Addr) (ce be oe:Nat) (h3:Sl w evtV 2 l pe l.length be oe) (hce:l.length≤ce) (ticks:Int) (hti:I64 ticks) (he:plErr X.N X.C cores l ticks≠0):
  Calls Tryz.prog 47 #[.agg X.net.toArray,.agg (chpC X.C X.pd X.cd).toArray,.slice p cores.length c,.slice pe l.length ce,.int .i64 ticks] w fun e w'=>e=.returned (.tuple #[.pointer none,.slice none 0 0,.int .i64 (plErr X.N X.C cores l ticks)])∧St w [] [] w':=by
 by_cases hm:mapErr X.N X.C cores≠0
 ·have hE:plErr X.N X.C cores l ticks=mapErr X.N X.C cores:=by unfold plErr;rw [if_pos hm]
  have hb:=fun (w':World) h h'=>New_bad X w' h cores hcw hlc p c b o h' hm
  rw [hE]
  obtain ⟨E,hEE⟩:∃E,mapErr X.N X.C cores=E:=⟨_,rfl⟩
  rw [hEE] at hb hm ⊢
  unfold PlnX.net chpC at hb
  unfold PlnX.net chpC
  refine enter (C:=Tryz.cx) (F:=Tryz.fx47) (args:=[_,_,_,_,_]) Tryz.func47 rfl rfl rfl Tryz.ok47 (St.start w []) ?_
  repeat' (conv=>whnf);first|(refine VCall.isF 32 ?_;(refine VCall.valR (fun w' hw'=>hb w' (hX.keep hw') (h1.keep hw' (by simp))) ?_))|refine VSeq.go ?_|refine oY fun _=>?_|refine oL ?_|refine oV fun _=>?_
  all_goals (conv=>whnf)
  exact ⟨fun w' hw'=>⟨rfl,hw'.le .nil⟩⟩
 ·have hm0:mapErr X.N X.C cores=0:=Decidable.not_not.1 hm
  by_cases hp:prepErr (net1 X.N.inputs) l ticks 10000≠0
  ·have hE:plErr X.N X.C cores l ticks=prepErr (net1 X.N.inputs) l ticks 10000:=by unfold plErr;rw [if_neg hm,if_pos hp]
   have hg:=fun (w':World) h h'=>New_good X w' h cores hcw p c b o h' hm0
   have hrr:=net1_bad hp
   have hwf1:(net1 X.N.inputs).wf:=by
    refine ⟨fun q hq=>?_,hX.net.inputs,by simp [net1]⟩
    have:q=par1:=by simpa [net1] using hq
    subst this
    unfold par1
    constructor<;>(unfold I64;dsimp only;omega)
   have hrun:=fun (w':World) (g:Nat) (ha:Sl w' parV 8 (net1 X.N.inputs).ps (some ⟨g,0,none⟩) (net1 X.N.inputs).ps.length g 0) h3'=>Run_any (net1 X.N.inputs) hwf1 l hlw ticks (some ⟨g,0,none⟩) 1 g 0 none 0 0 0 pe ce be oe w' ha (.nil (.inl rfl)) h3' hce
   rw [hrr] at hrun
   rw [hE]
   obtain ⟨E,hEE⟩:∃E,prepErr (net1 X.N.inputs) l ticks 10000=E:=⟨_,rfl⟩
   rw [hEE] at hrun hp ⊢
   unfold PlnX.net chpC at hg
   unfold PlnX.net chpC
   refine enter (C:=Tryz.cx) (F:=Tryz.fx47) (args:=[_,_,_,_,_]) Tryz.func47 rfl rfl rfl Tryz.ok47 (St.start w []) ?_
   repeat' (conv=>whnf);first|(refine VCall.isF 32 ?_;(refine VCall.genR (fun w' hw'=>hg w' (hX.keep hw') (h1.keep hw' (by simp))) ?_;rintro z hz))|(refine VCall.isF 28 ?_;(refine VCall.genR (fun w' hw'=>hrun w' _ (Sl.own' (cap:=1) (e:=140) hw' (by exact List.mem_cons_self) (fun _=>rfl) rfl) (h3.keep hw' (by simp))) ?_;rintro ⟨rq,rc⟩ _))|refine VSeq.go ?_|refine oY fun _=>?_|refine oN fun _=>?_|refine oL ?_|refine oV fun _=>?_
   all_goals (conv=>whnf)
   exact ⟨fun w' hw'=>⟨rfl,hw'.le .nil⟩⟩
  ·have hp0:=Decidable.not_not.1 hp
   have ho:overB X.N X.C cores l ticks.toNat:=by
    refine Decidable.byContradiction fun h=>he ?_
    unfold plErr
    rw [if_neg hm,if_neg hp,if_neg h]
   have hE:plErr X.N X.C cores l ticks=8:=by unfold plErr;rw [if_neg hm,if_neg hp,if_pos ho]
   obtain ⟨_,hT,_⟩:=prep_zero.1 hp0
   obtain ⟨T,rfl⟩:∃T:Nat,ticks=(T:Int):=⟨ticks.toNat,by omega⟩
   rw [Int.toNat_natCast] at ho
   rw [hE]
   exact (played_main X w hX cores hcw p c b o h1 hm0 l hlw pe ce be oe h3 hce T hp0).mono fun e w' h=>h.1 ho
theorem played_good (X:PlnX)(w:World)(hX:PlnRd X w)(cores:List Int)(hcw:∀k∈cores,I64 k)(p:Option Addr)(c b o:Nat)(h1:Sl w intV 1 cores p cores.length b o)
  (l:List Evt) (hlw:∀x∈l,x.wf) (pe:Option Addr) (ce be oe:Nat) (h3:Sl w evtV 2 l pe l.length be oe) (hce:l.length≤ce) (ticks:Int) (he:plErr X.N X.C cores l ticks=0):
  Calls Tryz.prog 47 #[.agg X.net.toArray,.agg (chpC X.C X.pd X.cd).toArray,.slice p cores.length c,.slice pe l.length ce,.int .i64 ticks] w fun e w'=>∃y:MacX×Option Addr×Nat,e=.returned (.tuple #[.pointer (some ⟨y.1.b,0,none⟩),.slice y.2.1 (rkOut X.N X.C cores l ticks.toNat).length y.2.2,.int .i64 0])∧True∧St w [] (.row y.1.b 135 (macC X.N X.C cores y.1 ticks.toNat (rkAt X.N X.C cores l ticks.toNat).2)::[.vec y.2.1 (rkOut X.N X.C cores l ticks.toNat).length y.2.2 67 2 (flat evtV (rkOut X.N X.C cores l ticks.toNat))]) w':=by
 have hm0:mapErr X.N X.C cores=0:=Decidable.byContradiction fun h=>by unfold plErr at he;rw [if_pos h] at he;exact h he
 have hp0:prepErr (net1 X.N.inputs) l ticks 10000=0:=Decidable.byContradiction fun h=>by unfold plErr at he;rw [if_neg (by rw [hm0];simp),if_pos h] at he;exact h he
 have ho:¬overB X.N X.C cores l ticks.toNat:=fun h=>by
  unfold plErr at he
  rw [if_neg (by rw [hm0];simp),if_neg (by rw [hp0];simp),if_pos h] at he
  cases he
 obtain ⟨_,hT,_⟩:=prep_zero.1 hp0
 obtain ⟨T,rfl⟩:∃T:Nat,ticks=(T:Int):=⟨ticks.toNat,by omega⟩
 rw [Int.toNat_natCast] at ho ⊢
 exact (played_main X w hX cores hcw p c b o h1 hm0 l hlw pe ce be oe h3 hce T hp0).mono fun e w' h=>by
  obtain ⟨y,e1,e2⟩:=h.2 ho
  exact ⟨y,e1,trivial,e2⟩
theorem chipRun_any (X:PlnX)(w:World)(hX:PlnRd X w)(cores:List Int)(hcw:∀k∈cores,I64 k)(hlc:cores.length≤1000000)(p:Option Addr)(c b o:Nat)(h1:Sl w intV 1 cores p cores.length b o)
  (l:List Evt) (hlw:∀x∈l,x.wf) (pe:Option Addr) (ce be oe:Nat) (h3:Sl w evtV 2 l pe l.length be oe) (hce:l.length≤ce) (ticks:Int) (hti:I64 ticks):
  Calls Tryz.prog 13 #[.agg X.net.toArray,.agg (chpC X.C X.pd X.cd).toArray,.slice p cores.length c,.slice pe l.length ce,.int .i64 ticks] w fun e w'=>∃y:Option Addr×Nat,e=.returned (.tuple #[.slice y.1 (run8 X.N X.C cores l ticks).1.length y.2,.agg (wrkV (run8 X.N X.C cores l ticks).2.1).toArray,.int .i64 (run8 X.N X.C cores l ticks).2.2])∧True∧St w [] [.vec y.1 (run8 X.N X.C cores l ticks).1.length y.2 67 2 (flat evtV (run8 X.N X.C cores l ticks).1)] w':=by
 by_cases he:plErr X.N X.C cores l ticks≠0
 ·have hr:run8 X.N X.C cores l ticks=([],wrk0,plErr X.N X.C cores l ticks):=by unfold run8;rw [if_pos he]
  have hb:=fun (w':World) h h' h''=>played_err X w' h cores hcw hlc p c b o h' l hlw pe ce be oe h'' hce ticks hti he
  rw [hr]
  obtain ⟨E,hEE⟩:∃E,plErr X.N X.C cores l ticks=E:=⟨_,rfl⟩
  rw [hEE] at hb he ⊢
  unfold PlnX.net chpC at hb
  unfold PlnX.net chpC
  refine enter (C:=Tryz.cx) (F:=Tryz.fx13) (args:=[_,_,_,_,_]) Tryz.func13 rfl rfl rfl Tryz.ok13 (St.start w []) ?_
  repeat' (conv=>whnf);first|(refine VCall.isF 47 ?_;(refine VCall.valR (fun w' hw'=>hb w' (hX.keep hw') (h1.keep hw' (by simp)) (h3.keep hw' (by simp))) ?_))|refine VSeq.go ?_|refine oY fun _=>?_|refine oL ?_|refine oT ?_|refine oV fun _=>?_
  all_goals (conv=>whnf)
  exact ⟨fun w' hw'=>⟨(none,0),rfl,trivial,hw'.le (HLe.nilv .nil)⟩⟩
 ·have he0:=Decidable.not_not.1 he
  have hr:run8 X.N X.C cores l ticks=(rkOut X.N X.C cores l ticks.toNat,(rkAt X.N X.C cores l ticks.toNat).2,0):=by unfold run8;rw [if_neg he]
  have hb:=fun (w':World) h h' h''=>played_good X w' h cores hcw p c b o h' l hlw pe ce be oe h'' hce ticks he0
  rw [hr]
  obtain ⟨OO,hOO⟩:∃OO,rkOut X.N X.C cores l ticks.toNat=OO:=⟨_,rfl⟩
  obtain ⟨WW,hWW⟩:∃WW,(rkAt X.N X.C cores l ticks.toNat).2=WW:=⟨_,rfl⟩
  rw [hOO,hWW] at hb ⊢
  have hr25:∀y:MacX,sub (macC X.N X.C cores y ticks.toNat WW) 25 9=some (wrkV WW):=fun _=>rfl
  unfold PlnX.net chpC at hb
  unfold PlnX.net chpC
  refine enter (C:=Tryz.cx) (F:=Tryz.fx13) (args:=[_,_,_,_,_]) Tryz.func13 rfl rfl rfl Tryz.ok13 (St.start w []) ?_
  repeat' (conv=>whnf);first|(refine VCall.isF 47 ?_;(refine VCall.genR (fun w' hw'=>hb w' (hX.keep hw') (h1.keep hw' (by simp)) (h3.keep hw' (by simp))) ?_;rintro ⟨y,q,qc⟩ _;dsimp only))|(refine VLd.is ?_;refine VLd.mk (Rd.cast (.row aT ((hr25 y))) oE) ?_)|refine VSeq.go ?_|refine oN fun _=>?_|refine oL ?_|refine oT ?_|refine oV fun _=>?_|refine oH ?_
  all_goals (conv=>whnf)
  exact ⟨fun w' hw'=>⟨(q,qc),rfl,trivial,hw'.le aH⟩⟩
end Go.Proofs
end

section
namespace Go.Gm
end Go.Gm
namespace Go.Proofs
open Go Go.Vx Go.Gm
end Go.Proofs
end

section
namespace Go.Proofs
open Go Go.Vx Go.Gm
end Go.Proofs
end

section
namespace Go.Gm
def parW:Par:=⟨1,1,0,5,0,0, -4,1⟩
def netW:Net:=⟨[parW,parW],1,[⟨-1,0,6,1⟩,⟨0,1,6,3⟩]⟩
def chpW:Chp:=⟨⟨2,1,1⟩,1,4,4,3,[]⟩
theorem mapW_zero:mapErr netW chpW [0,1]=0:=by kernel_rfl
end Go.Gm
namespace Go.Proofs
open Go Go.Vx Go.Gm
theorem netW_wf:netW.wf:=by
 refine ⟨?_,?_,?_⟩
 ·intro p hp
  simp only [netW,List.mem_cons,List.not_mem_nil,or_false,or_self] at hp
  subst hp
  constructor<;>simp [parW,I64]
 ·simp [netW,I64]
 ·simp [netW,Syn.wf,I64]
theorem chpW_wf:chpW.wf:=by
 refine ⟨⟨?_,?_,?_⟩,?_,?_,?_,?_,?_,?_⟩<;>simp [chpW,I64]
end Go.Proofs
end

section
namespace Go.Gm
open Go.Proofs
def evX8:List Evt:=[⟨0,0⟩]
def outX8:List Evt:=[⟨1,0⟩,⟨4,1⟩]
def wrkX8:Wrk:=⟨6,12,2,2,1,2,2,3,2⟩
theorem rkW_out:rkOut netW chpW [0,1] evX8 6=outX8:=by kernel_rfl
theorem rkW_wrk:(rkAt netW chpW [0,1] evX8 6).2=wrkX8:=by kernel_rfl
theorem rkW_prep:prepErr (net1 1) evX8 6 10000=0:=by kernel_rfl
theorem runW:run8 netW chpW [0,1] evX8 6=(outX8,wrkX8,0):=by
 have h0:plErr netW chpW [0,1] evX8 6=0:=by
  have h1:¬overB netW chpW [0,1] evX8 (6:Int).toNat:=by
   show¬65536<(rkOut netW chpW [0,1] evX8 6).length
   rw [rkW_out]
   decide
  unfold plErr
  rw [mapW_zero,if_neg (by simp),if_neg (by have:netW.inputs=1:=rfl;rw [this,rkW_prep];simp),if_neg h1]
 unfold run8
 rw [h0,if_neg (by simp)]
 have e:(6:Int).toNat=6:=rfl
 rw [e,rkW_out,rkW_wrk]
theorem eneW:eneR wrkX8 ⟨1,2,3,4,5⟩=(42,0):=by kernel_rfl
end Go.Gm
namespace Go.Proofs
open Go Go.Vx Go.Gm
theorem same8_any (l m:List Evt)(hm:∀x∈m,x.wf)(hl:∀x∈l,x.wf)(p:Option Addr)(c b o:Nat)(q:Option Addr)(d b2 o2:Nat)(w:World)(h1:Sl w evtV 2 l p l.length b o)(h2:Sl w evtV 2 m q m.length b2 o2)(hsz:l.length<4611686018427387904):
  Calls Tryz.prog 16 #[.slice p l.length c,.slice q m.length d] w fun e w'=>∃r:Bool,e=.returned (.bool r)∧(r=true↔l=m)∧St w [] [] w':=by
 refine enter (C:=Tryz.cx) (F:=Tryz.fx16) (args:=[_,_]) Tryz.func16 rfl rfl rfl Tryz.ok16 (St.start w []) ?_
 repeat' (conv=>whnf);first|refine VSeq.go ?_|refine oS (fun _=>?_) fun _=>?_
 all_goals (conv=>whnf)
 ·exact ⟨fun w' hw'=>⟨_,rfl,⟨fun h=>by simp at h,fun h=>by subst h;omega⟩,hw'.le .nil⟩⟩
 refine VLoop.mk (α:=Nat) (fun i=>i≤l.length∧l.take i=m.take i)
  (fun i=>[(1000000,.tuple #[]),(0,.slice p l.length c),(1,.slice q m.length d),(4,.bool false),(5,.int .i64 (i:Int))])
  (fun _=>[]) (fun i=>l.length - i) 0 ⟨by omega,rfl⟩ aE aH ?_
 rintro i ⟨hi,ht⟩
 rcases Nat.lt_or_ge i l.length with hlt|hge
 ·obtain ⟨x,hx⟩:=h1.get hlt
  obtain ⟨y,hy⟩:=h2.get (i:=i) qZ
  have hwx:=hl x (List.mem_of_getElem? hx)
  have hwy:=hm y (List.mem_of_getElem? hy)
  unfold Evt.wf I64 at hwx hwy
  repeat' (conv=>whnf);first|(refine VIx.is ?_;refine VIx.mk (h1.ptr qZ) qZ qZ ?_)|(refine VIx.is ?_;refine VIx.mk (h2.ptr qZ) qZ qZ ?_)|(refine VLd.is ?_;refine VLd.mk (h1.rd0 (by simp) (fun _=>rfl) hx rfl) ?_)|(refine VLd.is ?_;refine VLd.mk (h2.rd0 (by simp) (fun _=>rfl) hy rfl) ?_)|refine VSeq.go ?_|refine oY fun _=>?_|refine oS (fun _=>?_) fun _=>?_|refine oA ?_|refine oH ?_
  all_goals (conv=>whnf)
  ·have hne:¬(x.tick=y.tick∧x.id=y.id):=fun h=>‹¬(x.tick=y.tick∧x.id=y.id∧True)› ⟨h.1,h.2,trivial⟩
   exact ⟨fun w' hw'=>⟨_,rfl,⟨fun h=>by simp at h,fun h=>absurd (by rw [h,hy] at hx;cases hx;exact ⟨rfl,rfl⟩) hne⟩,hw'.le .nil⟩⟩
  ·have he:x=y:=by
    have h1:x.tick=y.tick∧x.id=y.id:=by simp only [and_true] at*;omega
    cases x;cases y;simp only [Evt.mk.injEq];exact h1
   refine VNext.mk (i+1) ⟨by omega,?_⟩ qZ aE aH
   rw [List.take_add_one,List.take_add_one,ht,hx,hy,he]
 ·repeat' (conv=>whnf);first|refine VSeq.go ?_|refine oN fun _=>?_
  all_goals (conv=>whnf)
  refine ⟨fun w' hw'=>⟨_,rfl,⟨fun _=>?_,fun _=>rfl⟩,hw'.le .nil⟩⟩
  rw [List.take_of_length_le qZ,List.take_of_length_le qZ] at ht
  exact ht
theorem outX8_wf:∀x∈outX8,x.wf:=by
 intro x hx
 simp only [outX8,List.mem_cons,List.not_mem_nil,or_false] at hx
 rcases hx with rfl|rfl<;>simp [Evt.wf,I64]
theorem evX8_wf:∀x∈evX8,x.wf:=by
 intro x hx
 simp only [evX8,List.mem_cons,List.not_mem_nil,or_false] at hx
 subst hx
 simp [Evt.wf,I64]
theorem wrkX8_wf:wrkX8.wf:=by simp [Wrk.wf,wrkX8,I64]
theorem works8_any (w:World):Calls Tryz.prog 12 #[] w fun e w'=>e=.returned (.bool true)∧St w [] [] w':=by
 have hr:=fun pn cn qs cs (w':World) h p c b o h1 pe ce be oe h3 hce=>chipRun_any ⟨chpW,none,0,netW,pn,cn,qs,cs⟩ w' h [0,1] (by simp [I64]) (by simp) p c b o h1 evX8 evX8_wf pe ce be oe h3 hce 6 (by simp [I64])
 dsimp only at hr
 rw [runW] at hr
 have hen:=fun (w':World)=>Energy_any wrkX8 ⟨1,2,3,4,5⟩ wrkX8_wf (by simp [Prc.wf,I64]) w'
 rw [eneW] at hen
 refine enter (C:=Tryz.cx) (F:=Tryz.fx12) (args:=[]) Tryz.func12 rfl rfl rfl Tryz.ok12 (St.start w []) ?_
 repeat' (conv=>whnf);first|(refine VCall.isF 44 ?_;refine VCall.inl (F:=Tryz.fx44) Tryz.func44 rfl rfl rfl Tryz.ok44 ?_)|(refine VCall.isF 102 ?_;refine VCall.inl (F:=Tryz.fx102) Tryz.func102 rfl rfl rfl Tryz.ok102 ?_)|(refine VCall.isF 45 ?_;refine VCall.inl (F:=Tryz.fx45) Tryz.func45 rfl rfl rfl Tryz.ok45 ?_)|(refine VCall.isF 13 ?_;(refine VCall.genR (fun w' hw'=>hr _ _ _ _ w' ⟨netW_wf,chpW_wf,Nat.zero_le _,⟨0,0,Sl.nil (.inl rfl)⟩,⟨_,0,Sl.own' hw' (l:=netW.ps) (f:=parV) (k:=8) (by repeat (first|exact List.mem_cons_self|apply List.mem_cons_of_mem)) (fun _=>rfl) rfl⟩,⟨_,0,Sl.own' hw' (l:=netW.syns) (f:=synV) (k:=4) (by repeat (first|exact List.mem_cons_self|apply List.mem_cons_of_mem)) (fun _=>rfl) rfl⟩⟩ _ _ _ _ (Sl.own' hw' (l:=[0,1]) (f:=intV) (k:=1) (by repeat (first|exact List.mem_cons_self|apply List.mem_cons_of_mem)) (fun _=>rfl) rfl) _ _ _ _ (Sl.own' hw' (l:=evX8) (f:=evtV) (k:=2) (by repeat (first|exact List.mem_cons_self|apply List.mem_cons_of_mem)) (fun _=>rfl) rfl) (by decide)) ?_;rintro ⟨q1,c1⟩ _;dsimp only))|(refine VCall.isF 17 ?_;(refine VCall.valR (fun w' hw'=>hen w') ?_))|(refine VCall.isF 16 ?_;(refine VCall.genR (v:=fun r=>.bool r) (p:=fun r=>(r=true↔outX8=outX8)) (G:=fun _=>[]) (fun w' hw'=>by obtain ⟨b1,hb1⟩:=Sl.own hw' (f:=evtV) (l:=outX8) (n:=outX8.length) (k:=2) (p:=q1) aT (fun _=>rfl) rfl;exact same8_any outX8 outX8 outX8_wf outX8_wf _ _ _ _ _ _ _ _ w' hb1 (Sl.own' hw' (l:=outX8) (f:=evtV) (k:=2) (by repeat (first|exact List.mem_cons_self|apply List.mem_cons_of_mem)) (fun _=>rfl) rfl) (by decide)) ?_;intro r hr2;have hr2:=hr2.2 rfl;subst hr2))|refine VSeq.go ?_|refine oY fun _=>?_|refine oL ?_|refine oT ?_|refine oV fun _=>?_
 all_goals (conv=>whnf)
 exact ⟨fun w' hw'=>⟨rfl,hw'.le .nil⟩⟩
end Go.Proofs
end

section
namespace Go.Proofs
open Go Go.Vx Go.Gm
theorem ChipEnergies_any (W:Wrk)(p:Prc)(hW:W.wf)(hp:p.wf)(w:World):Calls Tryz.prog 4 #[.agg (wrkV W).toArray,.agg (prcV p).toArray] w fun e w'=>e=.returned (.bool true)∧St w [] [] w':=by
 have h1:=fun (w':World)=>Energy_any W p hW hp w'
 have h2:=fun (w':World)=>refEnergy_any W p hW hp w'
 obtain ⟨w1,w2,w3,w4,w5,w6,w7,w8,w9⟩:=hW
 obtain ⟨p1,p2,p3,p4,p5⟩:=hp
 obtain ⟨⟨a,b⟩,hR⟩:∃R,eneR W p=R:=⟨_,rfl⟩
 rw [hR] at h1 h2
 dsimp only at h1 h2
 unfold wrkV prcV at h1 h2 ⊢
 refine enter (C:=Tryz.cx) (F:=Tryz.fx4) (args:=[_,_]) Tryz.func4 rfl rfl rfl Tryz.ok4 (St.start w []) ?_
 repeat' (conv=>whnf);first|(refine VCall.isF 17 ?_;(refine VCall.valR (fun w' hw'=>h1 w') ?_))|(refine VCall.isF 18 ?_;(refine VCall.valR (fun w' hw'=>h2 w') ?_))|(refine VCall.isF 12 ?_;(refine VCall.valR (fun w' hw'=>works8_any w') ?_))|refine VSeq.go ?_|refine oY fun _=>?_|refine oL ?_|refine oV fun _=>?_
 all_goals (conv=>whnf)
 all_goals exact ⟨fun w' hw'=>⟨rfl,hw'.le .nil⟩⟩
end Go.Proofs
end
