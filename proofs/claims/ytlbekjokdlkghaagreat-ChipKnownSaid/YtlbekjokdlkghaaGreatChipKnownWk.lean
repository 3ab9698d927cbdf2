import Derived.Test.YtlbekjokdlkghaaGreatChipKnownYo
import Derived.Test.YtlbekjokdlkghaaGreatChipKnownYn
import Derived.Test.YtlbekjokdlkghaaGreatChipKnownNb
import Derived.Test.YtlbekjokdlkghaaGreatChipKnownPz
import Derived.Test.YtlbekjokdlkghaaGreatChipKnownMm
set_option linter.unusedVariables false
set_option linter.unusedSimpArgs false
set_option maxHeartbeats 4000000
section
namespace Go.Gm
open Go.Proofs
instance (N:Net) (C:Chp) (cores:List Int) (l:List Evt) (T:Nat):Decidable (overB N C cores l T):=by unfold overB;infer_instance
def plErr (N:Net)(C:Chp)(cores:List Int)(l:List Evt)(ticks:Int):Int:=
 if mapErr N C cores≠0 then mapErr N C cores else if prepErr (net1 N.inputs) l ticks 10000≠0 then prepErr (net1 N.inputs) l ticks 10000 else if overB N C cores l ticks.toNat then 8 else 0
def run8 (N:Net)(C:Chp)(cores:List Int)(l:List Evt)(ticks:Int):List Evt×Wrk×Int:=
 if plErr N C cores l ticks≠0 then ([],wrk0,plErr N C cores l ticks) else (rkOut N C cores l ticks.toNat,(rkAt N C cores l ticks.toNat).2,0)
end Go.Gm
namespace Go.Proofs
open Go Go.Vx Go.Gm
theorem played_err (X:PlnX)(w:World)(hX:PlnRd X w)(cores:List Int)(hcw:∀k∈cores,I64 k)(hlc:cores.length<=1000000)(p:Option Addr)(c b o:Nat)(h1:Sl w intV 1 cores p cores.length b o)
  (l:List Evt) (hlw:∀x∈l,x.wf) (pe:Option Addr) (ce be oe:Nat) (h3:Sl w evtV 2 l pe l.length be oe) (hce:l.length<=ce) (ticks:Int) (hti:I64 ticks) (he:plErr X.N X.C cores l ticks≠0):
  Calls Tryz.prog 47 #[.agg X.net.toArray,.agg (chpC X.C X.pd X.cd).toArray,.slice p cores.length c,.slice pe l.length ce,.int .i64 ticks] w fun e w'=>e=.returned (.tuple #[.pointer none,.slice none 0 0,.int .i64 (plErr X.N X.C cores l ticks)])/\St w [] [] w':=by
 by_cases hm:mapErr X.N X.C cores≠0
 ·have hE:plErr X.N X.C cores l ticks=mapErr X.N X.C cores:=by unfold plErr;rw [jx hm]
  have hb:=fun (w':World) h h'=>New_bad X w' h cores hcw hlc p c b o h' hm
  rw [hE]
  obtain ⟨E,hEE⟩:=gX (mapErr X.N X.C cores)
  rw [hEE] at hb hm ⊢
  unfold PlnX.net chpC at hb
  unfold PlnX.net chpC
  refine enter (C:=Tryz.cx) (F:=Tryz.fx47) (args:=[_,_,_,_,_]) Tryz.func47 rfl rfl rfl Tryz.ok47 (St.start w []) ?_
  repeat' (conv=>whnf);first|(refine VCall.isF 32 ?_;(refine VCall.valR (fun w' hw'=>hb w' (hX.keep hw') (h1.keep hw' (by simp))) ?_))|refine VSeq.go ?_|refine oY fun _=>?_|refine oL ?_|refine oV fun _=>?_
  all_goals (conv=>whnf)
  exact ⟨fun w' hw'=>⟨rfl,hw'.le .nil⟩⟩
 ·have hm0:mapErr X.N X.C cores=0:=Qm.1 hm
  by_cases hp:prepErr (net1 X.N.inputs) l ticks 10000≠0
  ·have hE:plErr X.N X.C cores l ticks=prepErr (net1 X.N.inputs) l ticks 10000:=by unfold plErr;rw [jz hm,jx hp]
   have hg:=fun (w':World) h h'=>New_good X w' h cores hcw p c b o h' hm0
   have hrr:=net1_bad hp
   have hwf1:(net1 X.N.inputs).wf:=by
    refine ⟨fun q hq=>?_,hX.net.inputs,by simp [net1]⟩
    have:q=par1:=by simpa [net1] using hq
    subst this
    unfold par1
    constructor<;>(unfold I64;dsimp only;omega)
   have hrun:=fun (w':World) (g:Nat) (ha:Sl w' parV 8 (net1 X.N.inputs).ps (some ⟨g,0,none⟩) (net1 X.N.inputs).ps.length g 0) h3'=>Run_any (net1 X.N.inputs) hwf1 l hlw ticks (some ⟨g,0,none⟩) 1 g 0 none 0 0 0 pe ce be oe w' ha (.nil (.inl rfl)) h3' hce
   rw [hrr] at hrun
   rw [hE]
   obtain ⟨E,hEE⟩:=gX (prepErr (net1 X.N.inputs) l ticks 10000)
   rw [hEE] at hrun hp ⊢
   unfold PlnX.net chpC at hg
   unfold PlnX.net chpC
   refine enter (C:=Tryz.cx) (F:=Tryz.fx47) (args:=[_,_,_,_,_]) Tryz.func47 rfl rfl rfl Tryz.ok47 (St.start w []) ?_
   repeat' (conv=>whnf);first|(refine VCall.isF 32 ?_;(refine VCall.genR (fun w' hw'=>hg w' (hX.keep hw') (h1.keep hw' (by simp))) ?_;rintro z hz))|(refine VCall.isF 28 ?_;(refine VCall.genR (fun w' hw'=>hrun w' _ (Sl.own' (cap:=1) (e:=140) hw' (by exact qg) (fun _=>rfl) rfl) (h3.keep hw' (by simp))) ?_;rintro ⟨rq,rc⟩ _))|refine VSeq.go ?_|refine oY fun _=>?_|refine oN fun _=>?_|refine oL ?_|refine oV fun _=>?_
   all_goals (conv=>whnf)
   exact ⟨fun w' hw'=>⟨rfl,hw'.le .nil⟩⟩
  ·have hp0:=Qm.1 hp
   have ho:overB X.N X.C cores l ticks.toNat:=by
    refine jk fun h=>he ?_
    unfold plErr
    rw [jz hm,jz hp,jz h]
   have hE:plErr X.N X.C cores l ticks=8:=by unfold plErr;rw [jz hm,jz hp,jx ho]
   obtain ⟨_,hT,_⟩:=prep_zero.1 hp0
   obtain ⟨T,rfl⟩:∃T:Nat,ticks=(T:Int):=⟨ticks.toNat,by omega⟩
   rw [jw] at ho
   rw [hE]
   exact (played_main X w hX cores hcw p c b o h1 hm0 l hlw pe ce be oe h3 hce T hp0).mono fun e w' h=>h.1 ho
theorem played_good (X:PlnX)(w:World)(hX:PlnRd X w)(cores:List Int)(hcw:∀k∈cores,I64 k)(p:Option Addr)(c b o:Nat)(h1:Sl w intV 1 cores p cores.length b o)
  (l:List Evt) (hlw:∀x∈l,x.wf) (pe:Option Addr) (ce be oe:Nat) (h3:Sl w evtV 2 l pe l.length be oe) (hce:l.length<=ce) (ticks:Int) (he:plErr X.N X.C cores l ticks=0):
  Calls Tryz.prog 47 #[.agg X.net.toArray,.agg (chpC X.C X.pd X.cd).toArray,.slice p cores.length c,.slice pe l.length ce,.int .i64 ticks] w fun e w'=>∃y:MacX×Option Addr×Nat,e=.returned (.tuple #[.pointer (some ⟨y.1.b,0,none⟩),.slice y.2.1 (rkOut X.N X.C cores l ticks.toNat).length y.2.2,.int .i64 0])/\True/\St w [] (.row y.1.b 135 (macC X.N X.C cores y.1 ticks.toNat (rkAt X.N X.C cores l ticks.toNat).2)::[.vec y.2.1 (rkOut X.N X.C cores l ticks.toNat).length y.2.2 67 2 (flat evtV (rkOut X.N X.C cores l ticks.toNat))]) w':=by
 have hm0:mapErr X.N X.C cores=0:=jk fun h=>by unfold plErr at he;rw [jx h] at he;exact h he
 have hp0:prepErr (net1 X.N.inputs) l ticks 10000=0:=jk fun h=>by unfold plErr at he;rw [jz (by rw [hm0];simp),jx h] at he;exact h he
 have ho:¬overB X.N X.C cores l ticks.toNat:=fun h=>by
  unfold plErr at he
  rw [jz (by rw [hm0];simp),jz (by rw [hp0];simp),jx h] at he
  cases he
 obtain ⟨_,hT,_⟩:=prep_zero.1 hp0
 obtain ⟨T,rfl⟩:∃T:Nat,ticks=(T:Int):=⟨ticks.toNat,by omega⟩
 rw [jw] at ho ⊢
 exact (played_main X w hX cores hcw p c b o h1 hm0 l hlw pe ce be oe h3 hce T hp0).mono fun e w' h=>by
  obtain ⟨y,e1,e2⟩:=h.2 ho
  exact ⟨y,e1,trivial,e2⟩
theorem chipRun_any (X:PlnX)(w:World)(hX:PlnRd X w)(cores:List Int)(hcw:∀k∈cores,I64 k)(hlc:cores.length<=1000000)(p:Option Addr)(c b o:Nat)(h1:Sl w intV 1 cores p cores.length b o)
  (l:List Evt) (hlw:∀x∈l,x.wf) (pe:Option Addr) (ce be oe:Nat) (h3:Sl w evtV 2 l pe l.length be oe) (hce:l.length<=ce) (ticks:Int) (hti:I64 ticks):
  Calls Tryz.prog 13 #[.agg X.net.toArray,.agg (chpC X.C X.pd X.cd).toArray,.slice p cores.length c,.slice pe l.length ce,.int .i64 ticks] w fun e w'=>∃y:Option Addr×Nat,e=.returned (.tuple #[.slice y.1 (run8 X.N X.C cores l ticks).1.length y.2,.agg (wrkV (run8 X.N X.C cores l ticks).2.1).toArray,.int .i64 (run8 X.N X.C cores l ticks).2.2])/\True/\St w [] [.vec y.1 (run8 X.N X.C cores l ticks).1.length y.2 67 2 (flat evtV (run8 X.N X.C cores l ticks).1)] w':=by
 by_cases he:plErr X.N X.C cores l ticks≠0
 ·have hr:run8 X.N X.C cores l ticks=([],wrk0,plErr X.N X.C cores l ticks):=by unfold run8;rw [jx he]
  have hb:=fun (w':World) h h' h''=>played_err X w' h cores hcw hlc p c b o h' l hlw pe ce be oe h'' hce ticks hti he
  rw [hr]
  obtain ⟨E,hEE⟩:=gX (plErr X.N X.C cores l ticks)
  rw [hEE] at hb he ⊢
  unfold PlnX.net chpC at hb
  unfold PlnX.net chpC
  refine enter (C:=Tryz.cx) (F:=Tryz.fx13) (args:=[_,_,_,_,_]) Tryz.func13 rfl rfl rfl Tryz.ok13 (St.start w []) ?_
  repeat' (conv=>whnf);first|(refine VCall.isF 47 ?_;(refine VCall.valR (fun w' hw'=>hb w' (hX.keep hw') (h1.keep hw' (by simp)) (h3.keep hw' (by simp))) ?_))|refine VSeq.go ?_|refine oY fun _=>?_|refine oL ?_|refine oT ?_|refine oV fun _=>?_
  all_goals (conv=>whnf)
  exact ⟨fun w' hw'=>⟨(none,0),rfl,trivial,hw'.le (HLe.nilv .nil)⟩⟩
 ·have he0:=Qm.1 he
  have hr:run8 X.N X.C cores l ticks=(rkOut X.N X.C cores l ticks.toNat,(rkAt X.N X.C cores l ticks.toNat).2,0):=by unfold run8;rw [jz he]
  have hb:=fun (w':World) h h' h''=>played_good X w' h cores hcw p c b o h' l hlw pe ce be oe h'' hce ticks he0
  rw [hr]
  obtain ⟨OO,hOO⟩:=gX (rkOut X.N X.C cores l ticks.toNat)
  obtain ⟨WW,hWW⟩:=gX ((rkAt X.N X.C cores l ticks.toNat).2)
  rw [hOO,hWW] at hb ⊢
  have hr25:∀y:MacX,sub (macC X.N X.C cores y ticks.toNat WW) 25 9=some (wrkV WW):=fun _=>rfl
  unfold PlnX.net chpC at hb
  unfold PlnX.net chpC
  refine enter (C:=Tryz.cx) (F:=Tryz.fx13) (args:=[_,_,_,_,_]) Tryz.func13 rfl rfl rfl Tryz.ok13 (St.start w []) ?_
  repeat' (conv=>whnf);first|(refine VCall.isF 47 ?_;(refine VCall.genR (fun w' hw'=>hb w' (hX.keep hw') (h1.keep hw' (by simp)) (h3.keep hw' (by simp))) ?_;rintro ⟨y,q,qc⟩ _;dsimp only))|(refine VLd.is ?_;refine VLd.mk (Rd.cast (.row aT ((hr25 y))) oE) ?_)|refine VSeq.go ?_|refine oN fun _=>?_|refine oL ?_|refine oT ?_|refine oV fun _=>?_|refine oH ?_
  all_goals (conv=>whnf)
  exact ⟨fun w' hw'=>⟨(q,qc),rfl,trivial,hw'.le aH⟩⟩
end Go.Proofs
end

section
namespace Go.Gm
open Go.Proofs
section
variable {N : Net} {C : Chp} {cores : List Int} {l : List Evt}
end
end Go.Gm
end

section
namespace Go.Gm
theorem ascErr_len {m:Int}:∀{l:List Int} {p:Option Int} {lo:Int},(∀k,p=some k->lo<=k+1)->(p=none->lo<=0)->ascErr m p l=0->(∀k∈l,0<=k/\k<m)/\(l≠[]->(l.length:Int)+lo<=m)
 |[],_,_,_,_,_=>by simp
 |k::r,p,lo,h1,h2,h=>by
  unfold ascErr at h
  by_cases hb:inBad m k
  ·rw [jx hb] at h;cases h
  ·rw [jz hb] at h
   by_cases hl:inBehind k p
   ·rw [jx hl] at h;cases h
   ·rw [jz hl] at h
    unfold inBad at hb
    have hlo:lo<=k:=by
     cases p with
     |none=>have:=h2 rfl;omega
     |some q=>have:=h1 q rfl;unfold inBehind at hl;omega
    obtain ⟨g1,g2⟩:=ascErr_len (lo:=lo+1) (fun k' hk=>by cases hk;omega) (fun hk=>by cases hk) h
    refine ⟨fun x hx=>?_,fun _=>?_⟩
    ·rcases qQ.1 hx with rfl|hx
     ·omega
     ·exact g1 x hx
    ·by_cases hr:r=[]
     ·subst hr;simp;omega
     ·have:=g2 hr;simp only [qR];omega
theorem asc_zero {m:Int}{l:List Int}(hm:0<=m)(h:ascErr m none l=0):(∀k∈l,0<=k/\k<m)/\(l.length:Int)<=m:=by
 obtain ⟨g1,g2⟩:=ascErr_len (lo:=0) (by simp) (by simp) h
 refine ⟨g1,?_⟩
 by_cases hl:l=[]
 ·subst hl;simpa using hm
 ·have:=g2 hl;omega
end Go.Gm
namespace Go.Proofs
open Go Go.Vx Go.Gm
structure SimRun (x:SimM):Prop where
 ok:SimOk x
 sta:StaAll x.N x.sts
 tick:x.tick<=10000
def stepErr (x:SimM)(ins:List Int):Int:=if 10000<=x.tick then 8 else ascErr x.N.inputs none ins
def stepSpk (x:SimM)(ins:List Int):List Int:=if stepErr x ins=0 then spk (simFire x) else []
def stepSim (x:SimM)(ins:List Int):SimM:=if stepErr x ins=0 then simStep x ins else x
theorem SimRun.step {x:SimM}(h:SimRun x)(ins:List Int):SimRun (stepSim x ins):=by
 unfold stepSim
 split
 ·rename_i h0
  have ht:x.tick<10000:=by
   unfold stepErr at h0
   split at h0
   ·cases h0
   ·omega
  exact ⟨h.ok.step ins,h.sta.step h.ok ins,by show x.tick+1<=10000;omega⟩
 ·exact h
theorem mapIs_keep {w0 w:World}{M:List Nat}{H:HP}{b:Nat}{m:List (Int×Value)}(h:mapIs w0 b m)(hM:b∉M)(hs:St w0 M H w):mapIs w b m:=by
 obtain ⟨es,cl,h1,h2⟩:=h
 have hlt:b<w0.heap.size:=by
  by_cases hl:b<w0.heap.size
  ·exact hl
  ·rw [Array.getElem?_eq_none qZ] at h1;cases h1
 exact ⟨es,cl,by rw [hs.old b hlt hM];exact h1,h2⟩
theorem ShOk.keep {w0 w:World}{M:List Nat}{H:HP}{x:SimM}(h:ShOk w0 M x)(hs:St w0 M H w):ShOk w M x:=
 ⟨h.par.keep hs h.parM,h.parM,mapIs_keep h.map h.mapM hs,h.mapM,fun r hr=>by
  obtain ⟨g,h1,h2,h3⟩:=h.rows r hr
  exact ⟨g,h1,h2.keep hs h3,h3⟩⟩
theorem Step_any (x:SimM)(hx:SimRun x)(ins:List Int)(hil:ins.length<9223372036854775807)(pi:Option Addr)(ci bi oi:Nat)(w:World)
  (hs:St w (ids (ownH x)) (ownH x) w) (hsh:ShOk w (ids (ownH x)) x) (hin:Sl w intV 1 ins pi ins.length bi oi) (hbi:bi∉ids (ownH x)):
  Calls Tryz.prog 30 #[.pointer (some ⟨x.b,0,none⟩),.slice pi ins.length ci] w fun e w'=>∃y:Option Addr×Nat,e=.returned (.tuple #[.slice y.1 (stepSpk x ins).length y.2,.int .i64 (stepErr x ins)])/\
   (0<(stepSpk x ins).length->∃g,y.1=some ⟨g,0,none⟩)/\St w (ids (ownH x)) (ownH (stepSim x ins)++[.vec y.1 (stepSpk x ins).length y.2 3 1 (flat intV (stepSpk x ins))]) w':=by
 obtain ⟨hxo,hxs,hxt⟩:=hx
 have hNk:=hxo.net
 have hin':=hNk.inputs
 have hpos:=hNk.some
 have hsl:=hxo.sts
 obtain ⟨cs,hcs⟩:=gX (simC x)
 have h0:sub cs 0 3=some [.slice (some ⟨x.pb,0,none⟩) x.N.ps.length x.pc,.int .i64 x.N.inputs,x.sv]:=by rw [<-hcs];rfl
 have h4:sub cs 4 1=some [.int .i64 (x.tick:Int)]:=by rw [<-hcs];rfl
 have h5:sub cs 5 1=some [.slice (some ⟨x.sb,0,none⟩) x.sts.length x.sc]:=by rw [<-hcs,sub_mk _ _ _ (by simp [simC])];rfl
 obtain ⟨Mx,hMx⟩:=gX (ids (ownH x))
 have hfin:∀w',St w Mx (ownH x) w'->stepErr x ins≠0->∃y:Option Addr×Nat,Ending.returned (.tuple #[.slice none 0 0,.int .i64 (stepErr x ins)])=.returned (.tuple #[.slice y.1 (stepSpk x ins).length y.2,.int .i64 (stepErr x ins)])/\
   (0<(stepSpk x ins).length->∃g,y.1=some ⟨g,0,none⟩)/\St w Mx (ownH (stepSim x ins)++[.vec y.1 (stepSpk x ins).length y.2 3 1 (flat intV (stepSpk x ins))]) w':=by
  intro w' hw' hne
  unfold stepSim stepSpk
  rw [jz hne,jz hne]
  exact ⟨(none,0),rfl,by simp,hw'.le aH⟩
 have hs0:=hs
 rw [hMx] at hs hbi hsh ⊢
 unfold ownH at hs
 rw [hcs] at hs
 refine enter (C:=Tryz.cx) (F:=Tryz.fx30) (args:=[_,_]) Tryz.func30 rfl rfl rfl Tryz.ok30 hs ?_
 repeat' (conv=>whnf);first|(refine VCall.isF 89 ?_;refine VCall.inl (F:=Tryz.fx89) Tryz.func89 rfl rfl rfl Tryz.ok89 ?_)|(refine VLd.is ?_;refine VLd.mk (Rd.cast (.row aT (h0)) oE) ?_)|(refine VLd.is ?_;refine VLd.mk (Rd.cast (.row aT (h4)) oE) ?_)|(refine VLd.is ?_;refine VLd.mk (Rd.cast (.row aT (h5)) oE) ?_)|(refine VCall.isF 90 ?_;refine VCall.valR (fun w' hw'=>ascending_any x.N hin' ins _ _ _ _ _ _ w' (hin.keep hw' hbi) hil) ?_)|refine VSeq.go ?_|refine oY fun _=>?_|refine oS (fun _=>?_) fun _=>?_
 all_goals (conv=>whnf)
 ·have he:stepErr x ins=8:=by unfold stepErr;rw [jx qZ]
  rw [<-he,<-hcs]
  exact ⟨fun w' hw'=>hfin w' hw' qZ⟩
 ·have he:stepErr x ins=ascErr x.N.inputs none ins:=by unfold stepErr;rw [jz qZ]
  rw [<-he,<-hcs]
  exact ⟨fun w' hw'=>hfin w' hw' qZ⟩
 ·have he:stepErr x ins=ascErr x.N.inputs none ins:=by unfold stepErr;rw [jz qZ]
  have h0e:stepErr x ins=0:=by omega
  obtain ⟨ha1,ha2⟩:=asc_zero qZ (he.symm.trans h0e)
  refine VCall.turnV (α:=Option Addr×Nat) (S:=ownH x) (fun y=>.slice y.1 (spk (simFire x)).length y.2) (fun y=>0<(spk (simFire x)).length->∃g,y.1=some ⟨g,0,none⟩) (fun y=>ownH (simStep x ins)) (fun y=>[.vec y.1 (spk (simFire x)).length y.2 3 1 (flat intV (spk (simFire x)))]) (by rw [<-hcs];exact AtS.last) (fun w1 hw1 hs1=>?_) (fun y hy=>?_)
  ·rw [<-hcs] at hw1
   subst hMx
   exact step_any x hxo qZ hxs ins (fun k hk=>by have:=ha1 k hk;omega) qZ pi ci bi oi w1 hs1 (hsh.keep hw1) (hin.keep hw1 hbi) hbi
  ·skip
   all_goals (conv=>whnf)
   refine ⟨fun w' hw'=>⟨y,?_,?_,?_⟩⟩
   ·unfold stepSpk;rw [jx h0e,h0e];rfl
   ·unfold stepSpk;rw [jx h0e];exact hy
   ·unfold stepSpk stepSim
    rw [jx h0e,jx h0e]
    exact hw'.le aH
end Go.Proofs
end

section
namespace Go.Gm
open Go.Proofs
def rnAt (M:Net)(l:List Evt):Nat->Sm
 |0=>sm0 M
 |t+1=>ringStep M t (rnAt M l t) (insOf l (t:Int))
def rnSpk (M:Net)(l:List Evt)(t:Nat):List Int:=ringSpk M t (rnAt M l t)
def rnOut (M:Net)(l:List Evt):Nat->List Evt
 |0=>[]
 |t+1=>rnOut M l t++(rnSpk M l t).map fun i=>⟨(t:Int),i⟩
theorem rkAt_rn (N:Net)(C:Chp)(cores:List Int)(l:List Evt):∀t,(rkAt N C cores l t).1=rnAt (qNet N C) l t
 |0=>rfl
 |t+1=>by
  show ringStep (qNet N C) t (rkAt N C cores l t).1 (insOf l (t:Int))=_
  rw [rkAt_rn N C cores l t];rfl
theorem rkSpk_rn (N:Net)(C:Chp)(cores:List Int)(l:List Evt)(t:Nat):rkSpk N C cores l t=rnSpk (qNet N C) l t:=by
 unfold rkSpk rnSpk
 rw [rkAt_rn]
theorem rkOut_rn (N:Net)(C:Chp)(cores:List Int)(l:List Evt):∀t,rkOut N C cores l t=rnOut (qNet N C) l t
 |0=>rfl
 |t+1=>by
  show rkOut N C cores l t++_=_
  rw [rkOut_rn N C cores l t,rkSpk_rn];rfl
theorem fire_le:∀(ps:List Par) (ss:List Sta) (xs:List Int),(fire ps ss xs).length<=ps.length
 |[],_,_=>by simp [fire]
 |_::_,[],_=>by simp [fire]
 |_::_,_::_,[]=>by simp [fire]
 |p::ps,s::ss,x::xs=>by
  have:=fire_le ps ss xs
  rw [fire,qR,qR];omega
theorem rnSpk_few (M:Net)(l:List Evt)(t:Nat):(rnSpk M l t).length<=M.ps.length/\∀k∈rnSpk M l t,0<=k/\k<M.ps.length:=by
 have hf:=fire_le M.ps (rnAt M l t).sts (((rnAt M l t).D[t%16]?).getD [])
 refine ⟨?_,fun k hk=>?_⟩
 ·have h:=spk_length (fire M.ps (rnAt M l t).sts (((rnAt M l t).D[t%16]?).getD [])) (fire M.ps (rnAt M l t).sts (((rnAt M l t).D[t%16]?).getD [])).length
  rw [Qk] at h
  exact Qb h hf
 ·have:=spkY_range (F:=fire M.ps (rnAt M l t).sts (((rnAt M l t).D[t%16]?).getD [])) hk
  omega
theorem rnSpk_asc (M:Net)(l:List Evt)(t:Nat):(rnSpk M l t).Pairwise (· <·):=spkF_asc _ 0
theorem rnOut_tick (M:Net)(l:List Evt):∀t,∀e∈rnOut M l t,(0<=e.tick/\e.tick<(t:Int))/\(0<=e.id/\e.id<M.ps.length)
 |0,e,h=>by simp [rnOut] at h
 |t+1,e,h=>by
  rw [rnOut,qH] at h
  rcases h with h|h
  ·have:=rnOut_tick M l t e h;omega
  ·obtain ⟨i,hi,rfl⟩:=qo.1 h
   have:=(rnSpk_few M l t).2 i hi
   dsimp only;omega
theorem rnOut_asc (M:Net)(l:List Evt):∀t,TickAsc (rnOut M l t)
 |0=>List.Pairwise.nil
 |t+1=>by
  unfold TickAsc
  rw [rnOut,List.pairwise_append]
  refine ⟨rnOut_asc M l t,?_,fun a ha b hb=>?_⟩
  ·rw [List.pairwise_map]
   exact (rnSpk_asc M l t).imp fun _=>Int.le_refl _
  ·obtain ⟨i,hi,rfl⟩:=qo.1 hb
   have:=(rnOut_tick M l t a ha).1
   dsimp only;omega
theorem ins_append (a b:List Evt)(t:Int):insOf (a++b) t=insOf a t++insOf b t:=by
 unfold insOf
 rw [Qa,ql]
theorem ins_none {a:List Evt}{t:Int}(h:∀e∈a,e.tick≠t):insOf a t=[]:=by
 unfold insOf
 rw [List.filter_eq_nil_iff.2 fun e he=>by simpa using h e he];rfl
theorem ins_all (l:List Int)(t:Int):insOf (l.map fun i=>(⟨t,i⟩:Evt)) t=l:=by
 unfold insOf
 rw [List.filter_eq_self.2 fun e he=>by obtain ⟨i,_,rfl⟩:=qo.1 he;simp,List.map_map]
 exact (List.map_congr_left fun _ _=>rfl).trans (List.map_id _)
theorem rnOut_ins (M:Net)(l:List Evt):∀T t:Nat,insOf (rnOut M l T) (t:Int)=if t<T then rnSpk M l t else []
 |0,t=>rfl
 |T+1,t=>by
  rw [rnOut,ins_append,rnOut_ins M l T t]
  by_cases h:t<T
  ·rw [if_pos h,if_pos (by omega),ins_none (fun e he=>by obtain ⟨i,_,rfl⟩:=List.mem_map.1 he;dsimp only;omega),List.append_nil]
  ·rw [jz h,Qc]
   by_cases h2:t=T
   ·subst h2
    rw [ins_all,jx (by omega)]
   ·rw [if_neg (by omega),ins_none fun e he=>by obtain ⟨i,_,rfl⟩:=List.mem_map.1 he;dsimp only;omega]
section
variable {N : Net} {C : Chp} {cores : List Int}
end
structure SimAt (x:SimM) (M:Net) (l:List Evt) (t:Nat):Prop where
 run:SimRun x
 net:x.N=M
 tick:x.tick=t
 sm:smOf x=rnAt M l t
theorem ascErr8_ok {m:Int}:∀{l:List Int} {p:Option Int},(∀k∈l,0<=k/\k<m)->l.Pairwise (· <·)->(∀q,p=some q->∀k∈l,q<k)->ascErr m p l=0
 |[],_,_,_,_=>rfl
 |k::r,p,h1,h2,h3=>by
  have hk:=h1 k qg
  have h2':=List.pairwise_cons.1 h2
  unfold ascErr
  rw [jz (by unfold inBad;omega),jz]
  ·exact ascErr8_ok (fun x hx=>h1 x (qu _ hx)) h2'.2 (fun q hq x hx=>by cases hq;exact h2'.1 x hx)
  ·cases p with
   |none=>exact fun h=>h
   |some q=>have:=h3 q rfl k qg;unfold inBehind;omega
theorem SimAt.spk {x:SimM}{M:Net}{l:List Evt}{t:Nat}(h:SimAt x M l t):Go.Gm.spk (simFire x)=rnSpk M l t:=by
 show _=ringSpk M t (rnAt M l t)
 rw [<-h.sm,<-h.net,<-h.tick]
 simp only [ringSpk,simFire,smOf,qj]
theorem SimAt.good {x:SimM}{M:Net}{l:List Evt}{t:Nat}(h:SimAt x M l t)(ht:t<10000){limit:Int}(hev:EvOk M.inputs limit l):stepErr x (insOf l (t:Int))=0:=by
 obtain ⟨h1,h2,_⟩:=hev.ins (t:Int)
 unfold stepErr
 rw [jz (by rw [h.tick];omega),h.net]
 exact ascErr8_ok h2 h1 (by simp)
theorem SimAt.step {x:SimM}{M:Net}{l:List Evt}{t:Nat}(h:SimAt x M l t)(ht:t<10000){limit:Int}(hev:EvOk M.inputs limit l):SimAt (simStep x (insOf l (t:Int))) M l (t+1):=by
 have h0:=h.good ht hev
 have hr:=h.run.step (insOf l (t:Int))
 unfold stepSim at hr
 rw [jx h0] at hr
 refine ⟨hr,h.net,by show x.tick+1=t+1;rw [h.tick],?_⟩
 rw [smOf_step,h.net,h.tick,h.sm];rfl
theorem SimAt.start {x:SimM}{M:Net}(hN:NetOk M)(l:List Evt)(h1:SimOk x)(h2:x.N=M)(h3:x.tick=0)(h4:x.sts=List.replicate M.ps.length ⟨0,0⟩)(h5:x.D.map (·.l)=List.replicate 16 (List.replicate M.ps.length 0)):SimAt x M l 0:=by
 refine ⟨⟨h1,fun i p s g1 g2=>?_,by omega⟩,h2,h3,?_⟩
 ·rw [h4,QH] at g2
  rw [h2] at g1
  split at g2
  ·cases g2
   have:=(hN.ps p (qz g1))
   have h1:=this.fl
   have h2:=this.rest
   unfold staOk
   dsimp only
   omega
  ·cases g2
 ·unfold smOf
  rw [h4,h5];rfl
end Go.Gm
end

section
namespace Go.Gm
end Go.Gm
namespace Go.Proofs
open Go Go.Vx Go.Gm
end Go.Proofs
end

section
namespace Go.Proofs
open Go Go.Vx Go.Gm
end Go.Proofs
end

section
namespace Go.Gm
def parW:Par:=⟨1,1,0,5,0,0, -4,1⟩
def netW:Net:=⟨[parW,parW],1,[⟨-1,0,6,1⟩,⟨0,1,6,3⟩]⟩
def chpW:Chp:=⟨⟨2,1,1⟩,1,4,4,3,[]⟩
theorem mapW_zero:mapErr netW chpW [0,1]=0:=by kernel_rfl
end Go.Gm
namespace Go.Proofs
open Go Go.Vx Go.Gm
theorem netW_wf:netW.wf:=by
 refine ⟨?_,?_,?_⟩
 ·intro p hp
  simp only [netW,qQ,QU,or_false,or_self] at hp
  subst hp
  constructor<;>simp [parW,I64]
 ·simp [netW,I64]
 ·simp [netW,Syn.wf,I64]
theorem chpW_wf:chpW.wf:=by
 refine ⟨⟨?_,?_,?_⟩,?_,?_,?_,?_,?_,?_⟩<;>simp [chpW,I64]
end Go.Proofs
end
