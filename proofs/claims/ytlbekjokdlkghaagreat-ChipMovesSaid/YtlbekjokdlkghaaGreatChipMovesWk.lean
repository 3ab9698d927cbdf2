import Derived.Test.YtlbekjokdlkghaaGreatChipMovesYo
import Derived.Test.YtlbekjokdlkghaaGreatChipMovesTo9
import Derived.Test.YtlbekjokdlkghaaGreatChipMovesNb
import Derived.Test.YtlbekjokdlkghaaGreatChipMovesPz
import Derived.Test.YtlbekjokdlkghaaGreatChipMovesMm
set_option linter.unusedVariables false
set_option linter.unusedSimpArgs false
set_option maxHeartbeats 4000000
section
namespace Go.Gm
open Go.Proofs
instance (N:Net) (C:Chp) (cores:List Int) (l:List Evt) (T:Nat):Decidable (dZ0 N C cores l T):=by unfold dZ0;infer_instance
def bH8 (N:Net)(C:Chp)(cores:List Int)(l:List Evt)(ticks:Int):Int:=
 if bV5 N C cores≠0 then bV5 N C cores else if bY6 (cJ8 N.inputs) l ticks 10000≠0 then bY6 (cJ8 N.inputs) l ticks 10000 else if dZ0 N C cores l ticks.toNat then 8 else 0
def fY5 (N:Net)(C:Chp)(cores:List Int)(l:List Evt)(ticks:Int):List Evt×Wrk×Int:=
 if bH8 N C cores l ticks≠0 then ([],hR6,bH8 N C cores l ticks) else (bG2 N C cores l ticks.toNat,(gM3 N C cores l ticks.toNat).2,0)
end Go.Gm
namespace Go.Proofs
open Go Go.Vx Go.Gm
theorem gM8 (X:PlnX)(w:World)(hX:PlnRd X w)(cores:List Int)(hcw:∀k∈cores,I64 k)(hlc:cores.length<=1000000)(p:Option Addr)(c b o:Nat)(h1:Sl w bQ6 1 cores p cores.length b o)
  (l:List Evt) (hlw:∀x∈l,x.wf) (pe:Option Addr) (ce be oe:Nat) (h3:Sl w cP1 2 l pe l.length be oe) (hce:l.length<=ce) (ticks:Int) (hti:I64 ticks) (he:bH8 X.N X.C cores l ticks≠0):
  Calls Tryz.prog 47 #[.agg X.net.toArray,.agg (bD5 X.C X.pd X.cd).toArray,.slice p cores.length c,.slice pe l.length ce,.int .i64 ticks] w fun e w'=>e=.returned (.tuple #[.pointer none,.slice none 0 0,.int .i64 (bH8 X.N X.C cores l ticks)])/\St w [] [] w':=by
 by_cases hm:bV5 X.N X.C cores≠0
 ·have hE:bH8 X.N X.C cores l ticks=bV5 X.N X.C cores:=by unfold bH8;rw [jw hm]
  have hb:=fun (w':World) h h'=>hC9 X w' h cores hcw hlc p c b o h' hm
  rw [hE]
  obtain ⟨E,hEE⟩:=gX (bV5 X.N X.C cores)
  rw [hEE] at hb hm ⊢
  unfold PlnX.net bD5 at hb
  unfold PlnX.net bD5
  refine enter (C:=Tryz.cx) (F:=lC2) (args:=[_,_,_,_,_]) Tryz.func47 rfl rfl rfl lT1 (St.start w []) ?_
  repeat' (conv=>whnf);first|(refine bQ0 32 ?_;(refine bQ4 (fun w' hw'=>hb w' (hX.keep hw') (h1.keep hw' oU)) ?_))|refine VSeq.go ?_|refine oY fun _=>?_|refine oL ?_|refine oV fun _=>?_
  all_goals (conv=>whnf)
  exact ⟨fun w' hw'=>⟨rfl,hw'.le .nil⟩⟩
 ·have hm0:bV5 X.N X.C cores=0:=Qm.1 hm
  by_cases hp:bY6 (cJ8 X.N.inputs) l ticks 10000≠0
  ·have hE:bH8 X.N X.C cores l ticks=bY6 (cJ8 X.N.inputs) l ticks 10000:=by unfold bH8;rw [jk hm,jw hp]
   have hg:=fun (w':World) h h'=>dK5 X w' h cores hcw p c b o h' hm0
   have hrr:=kJ0 hp
   have hwf1:(cJ8 X.N.inputs).wf:=by
    refine ⟨fun q hq=>?_,hX.net.inputs,by simp [cJ8]⟩
    have:q=kT2:=by simpa [cJ8] using hq
    subst this
    unfold kT2
    constructor<;>(unfold I64;dsimp only;omega)
   have hrun:=fun (w':World) (g:Nat) (ha:Sl w' bH3 8 (cJ8 X.N.inputs).ps (some ⟨g,0,none⟩) (cJ8 X.N.inputs).ps.length g 0) h3'=>hC6 (cJ8 X.N.inputs) hwf1 l hlw ticks (some ⟨g,0,none⟩) 1 g 0 none 0 0 0 pe ce be oe w' ha (.nil (.inl rfl)) h3' hce
   rw [hrr] at hrun
   rw [hE]
   obtain ⟨E,hEE⟩:=gX (bY6 (cJ8 X.N.inputs) l ticks 10000)
   rw [hEE] at hrun hp ⊢
   unfold PlnX.net bD5 at hg
   unfold PlnX.net bD5
   refine enter (C:=Tryz.cx) (F:=lC2) (args:=[_,_,_,_,_]) Tryz.func47 rfl rfl rfl lT1 (St.start w []) ?_
   repeat' (conv=>whnf);first|(refine bQ0 32 ?_;(refine bQ2 (fun w' hw'=>hg w' (hX.keep hw') (h1.keep hw' oU)) ?_;rintro z hz))|(refine bQ0 28 ?_;(refine bQ2 (fun w' hw'=>hrun w' _ (bZ1 (cap:=1) (e:=140) hw' (by exact qg) oR rfl) (h3.keep hw' oU)) ?_;rintro ⟨rq,rc⟩ _))|refine VSeq.go ?_|refine oY fun _=>?_|refine oN fun _=>?_|refine oL ?_|refine oV fun _=>?_
   all_goals (conv=>whnf)
   exact ⟨fun w' hw'=>⟨rfl,hw'.le .nil⟩⟩
  ·have hp0:=Qm.1 hp
   have ho:dZ0 X.N X.C cores l ticks.toNat:=by
    refine jg fun h=>he ?_
    unfold bH8
    rw [jk hm,jk hp,jk h]
   have hE:bH8 X.N X.C cores l ticks=8:=by unfold bH8;rw [jk hm,jk hp,jw ho]
   obtain ⟨_,hT,_⟩:=cK9.1 hp0
   obtain ⟨T,rfl⟩:∃T:Nat,ticks=(T:Int):=⟨ticks.toNat,by omega⟩
   rw [jf] at ho
   rw [hE]
   exact (dG0 X w hX cores hcw p c b o h1 hm0 l hlw pe ce be oe h3 hce T hp0).mono fun e w' h=>h.1 ho
theorem fS1 (X:PlnX)(w:World)(hX:PlnRd X w)(cores:List Int)(hcw:∀k∈cores,I64 k)(p:Option Addr)(c b o:Nat)(h1:Sl w bQ6 1 cores p cores.length b o)
  (l:List Evt) (hlw:∀x∈l,x.wf) (pe:Option Addr) (ce be oe:Nat) (h3:Sl w cP1 2 l pe l.length be oe) (hce:l.length<=ce) (ticks:Int) (he:bH8 X.N X.C cores l ticks=0):
  Calls Tryz.prog 47 #[.agg X.net.toArray,.agg (bD5 X.C X.pd X.cd).toArray,.slice p cores.length c,.slice pe l.length ce,.int .i64 ticks] w fun e w'=>∃y:MacX×Option Addr×Nat,e=.returned (.tuple #[.pointer (some ⟨y.1.b,0,none⟩),.slice y.2.1 (bG2 X.N X.C cores l ticks.toNat).length y.2.2,.int .i64 0])/\True/\St w [] (.row y.1.b 135 (bV1 X.N X.C cores y.1 ticks.toNat (gM3 X.N X.C cores l ticks.toNat).2)::[.vec y.2.1 (bG2 X.N X.C cores l ticks.toNat).length y.2.2 67 2 (bQ1 cP1 (bG2 X.N X.C cores l ticks.toNat))]) w':=by
 have hm0:bV5 X.N X.C cores=0:=jg fun h=>by unfold bH8 at he;rw [jw h] at he;exact h he
 have hp0:bY6 (cJ8 X.N.inputs) l ticks 10000=0:=jg fun h=>by unfold bH8 at he;rw [jk (by rw [hm0];simp),jw h] at he;exact h he
 have ho:¬dZ0 X.N X.C cores l ticks.toNat:=fun h=>by
  unfold bH8 at he
  rw [jk (by rw [hm0];simp),jk (by rw [hp0];simp),jw h] at he
  cases he
 obtain ⟨_,hT,_⟩:=cK9.1 hp0
 obtain ⟨T,rfl⟩:∃T:Nat,ticks=(T:Int):=⟨ticks.toNat,by omega⟩
 rw [jf] at ho ⊢
 exact (dG0 X w hX cores hcw p c b o h1 hm0 l hlw pe ce be oe h3 hce T hp0).mono fun e w' h=>by
  obtain ⟨y,e1,e2⟩:=h.2 ho
  exact ⟨y,e1,trivial,e2⟩
theorem dB4 (X:PlnX)(w:World)(hX:PlnRd X w)(cores:List Int)(hcw:∀k∈cores,I64 k)(hlc:cores.length<=1000000)(p:Option Addr)(c b o:Nat)(h1:Sl w bQ6 1 cores p cores.length b o)
  (l:List Evt) (hlw:∀x∈l,x.wf) (pe:Option Addr) (ce be oe:Nat) (h3:Sl w cP1 2 l pe l.length be oe) (hce:l.length<=ce) (ticks:Int) (hti:I64 ticks):
  Calls Tryz.prog 13 #[.agg X.net.toArray,.agg (bD5 X.C X.pd X.cd).toArray,.slice p cores.length c,.slice pe l.length ce,.int .i64 ticks] w fun e w'=>∃y:Option Addr×Nat,e=.returned (.tuple #[.slice y.1 (fY5 X.N X.C cores l ticks).1.length y.2,.agg (lZ1 (fY5 X.N X.C cores l ticks).2.1).toArray,.int .i64 (fY5 X.N X.C cores l ticks).2.2])/\True/\St w [] [.vec y.1 (fY5 X.N X.C cores l ticks).1.length y.2 67 2 (bQ1 cP1 (fY5 X.N X.C cores l ticks).1)] w':=by
 by_cases he:bH8 X.N X.C cores l ticks≠0
 ·have hr:fY5 X.N X.C cores l ticks=([],hR6,bH8 X.N X.C cores l ticks):=by unfold fY5;rw [jw he]
  have hb:=fun (w':World) h h' h''=>gM8 X w' h cores hcw hlc p c b o h' l hlw pe ce be oe h'' hce ticks hti he
  rw [hr]
  obtain ⟨E,hEE⟩:=gX (bH8 X.N X.C cores l ticks)
  rw [hEE] at hb he ⊢
  unfold PlnX.net bD5 at hb
  unfold PlnX.net bD5
  refine enter (C:=Tryz.cx) (F:=mK2) (args:=[_,_,_,_,_]) Tryz.func13 rfl rfl rfl mY4 (St.start w []) ?_
  repeat' (conv=>whnf);first|(refine bQ0 47 ?_;(refine bQ4 (fun w' hw'=>hb w' (hX.keep hw') (h1.keep hw' oU) (h3.keep hw' oU)) ?_))|refine VSeq.go ?_|refine oY fun _=>?_|refine oL ?_|refine oT ?_|refine oV fun _=>?_
  all_goals (conv=>whnf)
  exact ⟨fun w' hw'=>⟨(none,0),rfl,trivial,hw'.le (HLe.nilv .nil)⟩⟩
 ·have he0:=Qm.1 he
  have hr:fY5 X.N X.C cores l ticks=(bG2 X.N X.C cores l ticks.toNat,(gM3 X.N X.C cores l ticks.toNat).2,0):=by unfold fY5;rw [jk he]
  have hb:=fun (w':World) h h' h''=>fS1 X w' h cores hcw p c b o h' l hlw pe ce be oe h'' hce ticks he0
  rw [hr]
  obtain ⟨OO,hOO⟩:=gX (bG2 X.N X.C cores l ticks.toNat)
  obtain ⟨WW,hWW⟩:=gX ((gM3 X.N X.C cores l ticks.toNat).2)
  rw [hOO,hWW] at hb ⊢
  have hr25:∀y:MacX,sub (bV1 X.N X.C cores y ticks.toNat WW) 25 9=some (lZ1 WW):=fun _=>rfl
  unfold PlnX.net bD5 at hb
  unfold PlnX.net bD5
  refine enter (C:=Tryz.cx) (F:=mK2) (args:=[_,_,_,_,_]) Tryz.func13 rfl rfl rfl mY4 (St.start w []) ?_
  repeat' (conv=>whnf);first|(refine bQ0 47 ?_;(refine bQ2 (fun w' hw'=>hb w' (hX.keep hw') (h1.keep hw' (by simp)) (h3.keep hw' (by simp))) ?_;rintro ⟨y,q,qc⟩ _;dsimp only))|(refine VLd.is ?_;refine oC (.row aT ((hr25 y))) ?_)|refine VSeq.go ?_|refine oN fun _=>?_|refine oL ?_|refine oT ?_|refine oV fun _=>?_|refine oH ?_
  all_goals (conv=>whnf)
  exact ⟨fun w' hw'=>⟨(q,qc),rfl,trivial,hw'.le aH⟩⟩
end Go.Proofs
end

section
namespace Go.Gm
open Go.Proofs
section
variable {N : Net} {C : Chp} {cores : List Int} {l : List Evt}
end
end Go.Gm
end

section
namespace Go.Gm
theorem dR9 {m:Int}:∀{l:List Int} {p:Option Int} {lo:Int},(∀k,p=some k->lo<=k+1)->(p=none->lo<=0)->bP9 m p l=0->(∀k∈l,0<=k/\k<m)/\(l≠[]->(l.length:Int)+lo<=m)
 |[],_,_,_,_,_=>by simp
 |k::r,p,lo,h1,h2,h=>by
  unfold bP9 at h
  by_cases hb:cN5 m k
  ·rw [jw hb] at h;cases h
  ·rw [jk hb] at h
   by_cases hl:bD7 k p
   ·rw [jw hl] at h;cases h
   ·rw [jk hl] at h
    unfold cN5 at hb
    have hlo:lo<=k:=by
     cases p with
     |none=>have:=h2 rfl;omega
     |some q=>have:=h1 q rfl;unfold bD7 at hl;omega
    obtain ⟨g1,g2⟩:=dR9 (lo:=lo+1) (fun k' hk=>by cases hk;omega) (fun hk=>by cases hk) h
    refine ⟨fun x hx=>?_,fun _=>?_⟩
    ·rcases qQ.1 hx with rfl|hx
     ·omega
     ·exact g1 x hx
    ·by_cases hr:r=[]
     ·subst hr;simp;omega
     ·have:=g2 hr;simp only [qR];omega
theorem kH5 {m:Int}{l:List Int}(hm:0<=m)(h:bP9 m none l=0):(∀k∈l,0<=k/\k<m)/\(l.length:Int)<=m:=by
 obtain ⟨g1,g2⟩:=dR9 (lo:=0) oU oU h
 refine ⟨g1,?_⟩
 by_cases hl:l=[]
 ·subst hl;simpa using hm
 ·have:=g2 hl;omega
end Go.Gm
namespace Go.Proofs
open Go Go.Vx Go.Gm
structure SimRun (x:SimM):Prop where
 ok:SimOk x
 sta:StaAll x.N x.sts
 tick:x.tick<=10000
def bG9 (x:SimM)(ins:List Int):Int:=if 10000<=x.tick then 8 else bP9 x.N.inputs none ins
def bG8 (x:SimM)(ins:List Int):List Int:=if bG9 x ins=0 then spk (bZ6 x) else []
def bR7 (x:SimM)(ins:List Int):SimM:=if bG9 x ins=0 then bJ1 x ins else x
theorem SimRun.step {x:SimM}(h:SimRun x)(ins:List Int):SimRun (bR7 x ins):=by
 unfold bR7
 split
 ·rename_i h0
  have ht:x.tick<10000:=by
   unfold bG9 at h0
   split at h0
   ·cases h0
   ·omega
  exact ⟨h.ok.step ins,h.sta.step h.ok ins,by show x.tick+1<=10000;omega⟩
 ·exact h
theorem cR2 {w0 w:World}{M:List Nat}{H:HP}{b:Nat}{m:List (Int×Value)}(h:mapIs w0 b m)(hM:b∉M)(hs:St w0 M H w):mapIs w b m:=by
 obtain ⟨es,cl,h1,h2⟩:=h
 have hlt:b<w0.heap.size:=by
  by_cases hl:b<w0.heap.size
  ·exact hl
  ·rw [Array.getElem?_eq_none qZ] at h1;cases h1
 exact ⟨es,cl,by rw [hs.old b hlt hM];exact h1,h2⟩
theorem ShOk.keep {w0 w:World}{M:List Nat}{H:HP}{x:SimM}(h:ShOk w0 M x)(hs:St w0 M H w):ShOk w M x:=
 ⟨h.par.keep hs h.parM,h.parM,cR2 h.map h.mapM hs,h.mapM,fun r hr=>by
  obtain ⟨g,h1,h2,h3⟩:=h.rows r hr
  exact ⟨g,h1,h2.keep hs h3,h3⟩⟩
theorem kH7 (x:SimM)(hx:SimRun x)(ins:List Int)(hil:ins.length<9223372036854775807)(pi:Option Addr)(ci bi oi:Nat)(w:World)
  (hs:St w (ids (bM7 x)) (bM7 x) w) (hsh:ShOk w (ids (bM7 x)) x) (hin:Sl w bQ6 1 ins pi ins.length bi oi) (hbi:bi∉ids (bM7 x)):
  Calls Tryz.prog 30 #[.pointer (some ⟨x.b,0,none⟩),.slice pi ins.length ci] w fun e w'=>∃y:Option Addr×Nat,e=.returned (.tuple #[.slice y.1 (bG8 x ins).length y.2,.int .i64 (bG9 x ins)])/\
   (0<(bG8 x ins).length->∃g,y.1=some ⟨g,0,none⟩)/\St w (ids (bM7 x)) (bM7 (bR7 x ins)++[.vec y.1 (bG8 x ins).length y.2 3 1 (bQ1 bQ6 (bG8 x ins))]) w':=by
 obtain ⟨hxo,hxs,hxt⟩:=hx
 have hNk:=hxo.net
 have hin':=hNk.inputs
 have hpos:=hNk.some
 have hsl:=hxo.sts
 obtain ⟨cs,hcs⟩:=gX (dJ0 x)
 have h0:sub cs 0 3=some [.slice (some ⟨x.pb,0,none⟩) x.N.ps.length x.pc,.int .i64 x.N.inputs,x.sv]:=by rw [<-hcs];rfl
 have h4:sub cs 4 1=some [.int .i64 (x.tick:Int)]:=by rw [<-hcs];rfl
 have h5:sub cs 5 1=some [.slice (some ⟨x.sb,0,none⟩) x.sts.length x.sc]:=by rw [<-hcs,cJ0 _ _ _ (by simp [dJ0])];rfl
 obtain ⟨Mx,hMx⟩:=gX (ids (bM7 x))
 have hfin:∀w',St w Mx (bM7 x) w'->bG9 x ins≠0->∃y:Option Addr×Nat,Ending.returned (.tuple #[.slice none 0 0,.int .i64 (bG9 x ins)])=.returned (.tuple #[.slice y.1 (bG8 x ins).length y.2,.int .i64 (bG9 x ins)])/\
   (0<(bG8 x ins).length->∃g,y.1=some ⟨g,0,none⟩)/\St w Mx (bM7 (bR7 x ins)++[.vec y.1 (bG8 x ins).length y.2 3 1 (bQ1 bQ6 (bG8 x ins))]) w':=by
  intro w' hw' hne
  unfold bR7 bG8
  rw [jk hne,jk hne]
  exact ⟨(none,0),rfl,by simp,hw'.le aH⟩
 have hs0:=hs
 rw [hMx] at hs hbi hsh ⊢
 unfold bM7 at hs
 rw [hcs] at hs
 refine enter (C:=Tryz.cx) (F:=mB4) (args:=[_,_]) Tryz.func30 rfl rfl rfl ok30 hs ?_
 repeat' (conv=>whnf);first|(refine bQ0 89 ?_;refine VCall.inl (F:=mJ4) Tryz.func89 rfl rfl rfl mW6 ?_)|(refine VLd.is ?_;refine oC (.row aT (h0)) ?_)|(refine VLd.is ?_;refine oC (.row aT (h4)) ?_)|(refine VLd.is ?_;refine oC (.row aT (h5)) ?_)|(refine bQ0 90 ?_;refine bQ4 (fun w' hw'=>fK1 x.N hin' ins _ _ _ _ _ _ w' (hin.keep hw' hbi) hil) ?_)|refine VSeq.go ?_|refine oY fun _=>?_|refine oS (fun _=>?_) fun _=>?_
 all_goals (conv=>whnf)
 ·have he:bG9 x ins=8:=by unfold bG9;rw [jw qZ]
  rw [<-he,<-hcs]
  exact ⟨fun w' hw'=>hfin w' hw' qZ⟩
 ·have he:bG9 x ins=bP9 x.N.inputs none ins:=by unfold bG9;rw [jk qZ]
  rw [<-he,<-hcs]
  exact ⟨fun w' hw'=>hfin w' hw' qZ⟩
 ·have he:bG9 x ins=bP9 x.N.inputs none ins:=by unfold bG9;rw [jk qZ]
  have h0e:bG9 x ins=0:=by omega
  obtain ⟨ha1,ha2⟩:=kH5 qZ (he.symm.trans h0e)
  refine cZ9 (α:=Option Addr×Nat) (S:=bM7 x) (fun y=>.slice y.1 (spk (bZ6 x)).length y.2) (fun y=>0<(spk (bZ6 x)).length->∃g,y.1=some ⟨g,0,none⟩) (fun y=>bM7 (bJ1 x ins)) (fun y=>[.vec y.1 (spk (bZ6 x)).length y.2 3 1 (bQ1 bQ6 (spk (bZ6 x)))]) (by rw [<-hcs];exact AtS.last) (fun w1 hw1 hs1=>?_) (fun y hy=>?_)
  ·rw [<-hcs] at hw1
   subst hMx
   exact gV5 x hxo qZ hxs ins (fun k hk=>by have:=ha1 k hk;omega) qZ pi ci bi oi w1 hs1 (hsh.keep hw1) (hin.keep hw1 hbi) hbi
  ·skip
   all_goals (conv=>whnf)
   refine ⟨fun w' hw'=>⟨y,?_,?_,?_⟩⟩
   ·unfold bG8;rw [jw h0e,h0e];rfl
   ·unfold bG8;rw [jw h0e];exact hy
   ·unfold bG8 bR7
    rw [jw h0e,jw h0e]
    exact hw'.le aH
end Go.Proofs
end

section
namespace Go.Gm
open Go.Proofs
def fG1 (M:Net)(l:List Evt):Nat->Sm
 |0=>sm0 M
 |t+1=>bP3 M t (fG1 M l t) (bV0 l (t:Int))
def cM3 (M:Net)(l:List Evt)(t:Nat):List Int:=bD3 M t (fG1 M l t)
def kC1 (M:Net)(l:List Evt):Nat->List Evt
 |0=>[]
 |t+1=>kC1 M l t++(cM3 M l t).map fun i=>⟨(t:Int),i⟩
theorem fR8 (N:Net)(C:Chp)(cores:List Int)(l:List Evt):∀t,(gM3 N C cores l t).1=fG1 (cP8 N C) l t
 |0=>rfl
 |t+1=>by
  show bP3 (cP8 N C) t (gM3 N C cores l t).1 (bV0 l (t:Int))=_
  rw [fR8 N C cores l t];rfl
theorem kQ9 (N:Net)(C:Chp)(cores:List Int)(l:List Evt)(t:Nat):dL9 N C cores l t=cM3 (cP8 N C) l t:=by
 unfold dL9 cM3
 rw [fR8]
theorem gW9 (N:Net)(C:Chp)(cores:List Int)(l:List Evt):∀t,bG2 N C cores l t=kC1 (cP8 N C) l t
 |0=>rfl
 |t+1=>by
  show bG2 N C cores l t++_=_
  rw [gW9 N C cores l t,kQ9];rfl
theorem hP3:∀(ps:List Par) (ss:List Sta) (xs:List Int),(fire ps ss xs).length<=ps.length
 |[],_,_=>by simp [fire]
 |_::_,[],_=>by simp [fire]
 |_::_,_::_,[]=>by simp [fire]
 |p::ps,s::ss,x::xs=>by
  have:=hP3 ps ss xs
  rw [fire,qR,qR];omega
theorem fG0 (M:Net)(l:List Evt)(t:Nat):(cM3 M l t).length<=M.ps.length/\∀k∈cM3 M l t,0<=k/\k<M.ps.length:=by
 have hf:=hP3 M.ps (fG1 M l t).sts (((fG1 M l t).D[t%16]?).getD [])
 refine ⟨?_,fun k hk=>?_⟩
 ·have h:=bB5 (fire M.ps (fG1 M l t).sts (((fG1 M l t).D[t%16]?).getD [])) (fire M.ps (fG1 M l t).sts (((fG1 M l t).D[t%16]?).getD [])).length
  rw [Qk] at h
  exact Qb h hf
 ·have:=cT5 (F:=fire M.ps (fG1 M l t).sts (((fG1 M l t).D[t%16]?).getD [])) hk
  omega
theorem hK9 (M:Net)(l:List Evt)(t:Nat):(cM3 M l t).Pairwise (· <·):=cD6 _ 0
theorem gC8 (a b:List Evt)(t:Int):bV0 (a++b) t=bV0 a t++bV0 b t:=by
 unfold bV0
 rw [Qa,ql]
section
variable {N : Net} {C : Chp} {cores : List Int}
theorem hV6 (hA:AsgOk N C cores):NetOk (cP8 N C):=by
 have hOk:=hA.plan.net
 have hhalf:=gX3 hA.plan.chip.bits
 refine ⟨hOk.some,hOk.few,hOk.inputs,by show (bJ6 N C).length<=8192;unfold bJ6;rw [qv];exact hOk.fewS,hOk.ps,fun s hs=>?_⟩
 obtain ⟨x,hx,rfl⟩:=qo.1 hs
 obtain ⟨h1,h2,h3,h4⟩:=hOk.syns x hx
 obtain ⟨t,z,ht,htl,hz,hz1,hq,hok⟩:=cH7 hOk hhalf hx
 refine ⟨h1,h2,?_,h4⟩
 show -32768<=bL1 (bX2 N (bW6 C.bits)) x*((bX2 N (bW6 C.bits))[x.to.toNat]?.getD 1)/\_
 rw [ht,jf,hz,hq]
 refine ⟨hok.2.1,?_⟩
 show bL1 (bX2 N (bW6 C.bits)) x*((bX2 N (bW6 C.bits))[x.to.toNat]?.getD 1)<=_
 rw [ht,jf,hz,hq]
 exact hok.2.2
end
structure SimAt (x:SimM) (M:Net) (l:List Evt) (t:Nat):Prop where
 run:SimRun x
 net:x.N=M
 tick:x.tick=t
 sm:hT8 x=fG1 M l t
theorem dS1 {m:Int}:∀{l:List Int} {p:Option Int},(∀k∈l,0<=k/\k<m)->l.Pairwise (· <·)->(∀q,p=some q->∀k∈l,q<k)->bP9 m p l=0
 |[],_,_,_,_=>rfl
 |k::r,p,h1,h2,h3=>by
  have hk:=h1 k qg
  have h2':=List.pairwise_cons.1 h2
  unfold bP9
  rw [jk (by unfold cN5;omega),jk]
  ·exact dS1 (fun x hx=>h1 x (qu _ hx)) h2'.2 (fun q hq x hx=>by cases hq;exact h2'.1 x hx)
  ·cases p with
   |none=>exact fun h=>h
   |some q=>have:=h3 q rfl k qg;unfold bD7;omega
theorem SimAt.spk {x:SimM}{M:Net}{l:List Evt}{t:Nat}(h:SimAt x M l t):Go.Gm.spk (bZ6 x)=cM3 M l t:=by
 show _=bD3 M t (fG1 M l t)
 rw [<-h.sm,<-h.net,<-h.tick]
 simp only [bD3,bZ6,hT8,qj]
theorem SimAt.good {x:SimM}{M:Net}{l:List Evt}{t:Nat}(h:SimAt x M l t)(ht:t<10000){limit:Int}(hev:EvOk M.inputs limit l):bG9 x (bV0 l (t:Int))=0:=by
 obtain ⟨h1,h2,_⟩:=hev.ins (t:Int)
 unfold bG9
 rw [jk (by rw [h.tick];omega),h.net]
 exact dS1 h2 h1 oU
theorem SimAt.step {x:SimM}{M:Net}{l:List Evt}{t:Nat}(h:SimAt x M l t)(ht:t<10000){limit:Int}(hev:EvOk M.inputs limit l):SimAt (bJ1 x (bV0 l (t:Int))) M l (t+1):=by
 have h0:=h.good ht hev
 have hr:=h.run.step (bV0 l (t:Int))
 unfold bR7 at hr
 rw [jw h0] at hr
 refine ⟨hr,h.net,by show x.tick+1=t+1;rw [h.tick],?_⟩
 rw [fY0,h.net,h.tick,h.sm];rfl
theorem SimAt.start {x:SimM}{M:Net}(hN:NetOk M)(l:List Evt)(h1:SimOk x)(h2:x.N=M)(h3:x.tick=0)(h4:x.sts=List.replicate M.ps.length ⟨0,0⟩)(h5:x.D.map (·.l)=List.replicate 16 (List.replicate M.ps.length 0)):SimAt x M l 0:=by
 refine ⟨⟨h1,fun i p s g1 g2=>?_,by omega⟩,h2,h3,?_⟩
 ·rw [h4,QB] at g2
  rw [h2] at g1
  split at g2
  ·cases g2
   have:=(hN.ps p (qz g1))
   have h1:=this.fl
   have h2:=this.rest
   unfold bD9
   dsimp only
   omega
  ·cases g2
 ·unfold hT8
  rw [h4,h5];rfl
end Go.Gm
end

section
namespace Go.Gm
end Go.Gm
namespace Go.Proofs
open Go Go.Vx Go.Gm
end Go.Proofs
end

section
namespace Go.Proofs
open Go Go.Vx Go.Gm
end Go.Proofs
end

section
namespace Go.Gm
def lC9:Par:=⟨1,1,0,5,0,0, -4,1⟩
def fS9:Net:=⟨[lC9,lC9],1,[⟨-1,0,6,1⟩,⟨0,1,6,3⟩]⟩
def hR2:Chp:=⟨⟨2,1,1⟩,1,4,4,3,[]⟩
theorem hG3:bV5 fS9 hR2 [0,1]=0:=by kernel_rfl
end Go.Gm
namespace Go.Proofs
open Go Go.Vx Go.Gm
theorem kR5:fS9.wf:=by
 refine ⟨?_,?_,?_⟩
 ·intro p hp
  simp only [fS9,qQ,jq,or_false,or_self] at hp
  subst hp
  constructor<;>simp [lC9,I64]
 ·simp [fS9,I64]
 ·simp [fS9,Syn.wf,I64]
theorem lX1:hR2.wf:=by
 refine ⟨⟨?_,?_,?_⟩,?_,?_,?_,?_,?_,?_⟩<;>simp [hR2,I64]
end Go.Proofs
end
