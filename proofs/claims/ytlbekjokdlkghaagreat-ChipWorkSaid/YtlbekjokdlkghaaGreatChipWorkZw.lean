import Derived.Test.YtlbekjokdlkghaaGreatChipWorkYo
import Derived.Test.YtlbekjokdlkghaaGreatChipWorkYn
set_option linter.unusedVariables false
set_option linter.unusedSimpArgs false
set_option maxHeartbeats 4000000
section
namespace Go.Gm
open Go.Proofs
instance (N:Net) (C:Chp) (cores:List Int) (l:List Evt) (T:Nat):Decidable (overB N C cores l T):=by unfold overB;infer_instance
def plErr (N:Net)(C:Chp)(cores:List Int)(l:List Evt)(ticks:Int):Int:=
 if mapErr N C cores≠0 then mapErr N C cores else if prepErr (net1 N.inputs) l ticks 10000≠0 then prepErr (net1 N.inputs) l ticks 10000 else if overB N C cores l ticks.toNat then 8 else 0
def run8 (N:Net)(C:Chp)(cores:List Int)(l:List Evt)(ticks:Int):List Evt×Wrk×Int:=
 if plErr N C cores l ticks≠0 then ([],wrk0,plErr N C cores l ticks) else (rkOut N C cores l ticks.toNat,(rkAt N C cores l ticks.toNat).2,0)
end Go.Gm
namespace Go.Proofs
open Go Go.Vx Go.Gm
theorem played_err (X:PlnX)(w:World)(hX:PlnRd X w)(cores:List Int)(hcw:∀k∈cores,I64 k)(hlc:cores.length<=1000000)(p:Option Addr)(c b o:Nat)(h1:Sl w intV 1 cores p cores.length b o)
  (l:List Evt) (hlw:∀x∈l,x.wf) (pe:Option Addr) (ce be oe:Nat) (h3:Sl w evtV 2 l pe l.length be oe) (hce:l.length<=ce) (ticks:Int) (hti:I64 ticks) (he:plErr X.N X.C cores l ticks≠0):
  Calls Tryz.prog 47 #[.agg X.net.toArray,.agg (chpC X.C X.pd X.cd).toArray,.slice p cores.length c,.slice pe l.length ce,.int .i64 ticks] w fun e w'=>e=.returned (.tuple #[.pointer none,.slice none 0 0,.int .i64 (plErr X.N X.C cores l ticks)])/\St w [] [] w':=by
 by_cases hm:mapErr X.N X.C cores≠0
 ·have hE:plErr X.N X.C cores l ticks=mapErr X.N X.C cores:=by unfold plErr;rw [jw hm]
  have hb:=fun (w':World) h h'=>New_bad X w' h cores hcw hlc p c b o h' hm
  rw [hE]
  obtain ⟨E,hEE⟩:=gX (mapErr X.N X.C cores)
  rw [hEE] at hb hm ⊢
  unfold PlnX.net chpC at hb
  unfold PlnX.net chpC
  refine enter (C:=Tryz.cx) (F:=Tryz.fx47) (args:=[_,_,_,_,_]) Tryz.func47 rfl rfl rfl Tryz.ok47 (St.start w []) ?_
  repeat' (conv=>whnf);first|(refine VCall.isF 32 ?_;(refine VCall.valR (fun w' hw'=>hb w' (hX.keep hw') (h1.keep hw' (by simp))) ?_))|refine VSeq.go ?_|refine oY fun _=>?_|refine oL ?_|refine oV fun _=>?_
  all_goals (conv=>whnf)
  exact ⟨fun w' hw'=>⟨rfl,hw'.le .nil⟩⟩
 ·have hm0:mapErr X.N X.C cores=0:=Qm.1 hm
  by_cases hp:prepErr (net1 X.N.inputs) l ticks 10000≠0
  ·have hE:plErr X.N X.C cores l ticks=prepErr (net1 X.N.inputs) l ticks 10000:=by unfold plErr;rw [jk hm,jw hp]
   have hg:=fun (w':World) h h'=>New_good X w' h cores hcw p c b o h' hm0
   have hrr:=net1_bad hp
   have hwf1:(net1 X.N.inputs).wf:=by
    refine ⟨fun q hq=>?_,hX.net.inputs,by simp [net1]⟩
    have:q=par1:=by simpa [net1] using hq
    subst this
    unfold par1
    constructor<;>(unfold I64;dsimp only;omega)
   have hrun:=fun (w':World) (g:Nat) (ha:Sl w' parV 8 (net1 X.N.inputs).ps (some ⟨g,0,none⟩) (net1 X.N.inputs).ps.length g 0) h3'=>Run_any (net1 X.N.inputs) hwf1 l hlw ticks (some ⟨g,0,none⟩) 1 g 0 none 0 0 0 pe ce be oe w' ha (.nil (.inl rfl)) h3' hce
   rw [hrr] at hrun
   rw [hE]
   obtain ⟨E,hEE⟩:=gX (prepErr (net1 X.N.inputs) l ticks 10000)
   rw [hEE] at hrun hp ⊢
   unfold PlnX.net chpC at hg
   unfold PlnX.net chpC
   refine enter (C:=Tryz.cx) (F:=Tryz.fx47) (args:=[_,_,_,_,_]) Tryz.func47 rfl rfl rfl Tryz.ok47 (St.start w []) ?_
   repeat' (conv=>whnf);first|(refine VCall.isF 32 ?_;(refine VCall.genR (fun w' hw'=>hg w' (hX.keep hw') (h1.keep hw' (by simp))) ?_;rintro z hz))|(refine VCall.isF 28 ?_;(refine VCall.genR (fun w' hw'=>hrun w' _ (Sl.own' (cap:=1) (e:=140) hw' (by exact qg) (fun _=>rfl) rfl) (h3.keep hw' (by simp))) ?_;rintro ⟨rq,rc⟩ _))|refine VSeq.go ?_|refine oY fun _=>?_|refine oN fun _=>?_|refine oL ?_|refine oV fun _=>?_
   all_goals (conv=>whnf)
   exact ⟨fun w' hw'=>⟨rfl,hw'.le .nil⟩⟩
  ·have hp0:=Qm.1 hp
   have ho:overB X.N X.C cores l ticks.toNat:=by
    refine jg fun h=>he ?_
    unfold plErr
    rw [jk hm,jk hp,jk h]
   have hE:plErr X.N X.C cores l ticks=8:=by unfold plErr;rw [jk hm,jk hp,jw ho]
   obtain ⟨_,hT,_⟩:=prep_zero.1 hp0
   obtain ⟨T,rfl⟩:∃T:Nat,ticks=(T:Int):=⟨ticks.toNat,by omega⟩
   rw [jf] at ho
   rw [hE]
   exact (played_main X w hX cores hcw p c b o h1 hm0 l hlw pe ce be oe h3 hce T hp0).mono fun e w' h=>h.1 ho
theorem played_good (X:PlnX)(w:World)(hX:PlnRd X w)(cores:List Int)(hcw:∀k∈cores,I64 k)(p:Option Addr)(c b o:Nat)(h1:Sl w intV 1 cores p cores.length b o)
  (l:List Evt) (hlw:∀x∈l,x.wf) (pe:Option Addr) (ce be oe:Nat) (h3:Sl w evtV 2 l pe l.length be oe) (hce:l.length<=ce) (ticks:Int) (he:plErr X.N X.C cores l ticks=0):
  Calls Tryz.prog 47 #[.agg X.net.toArray,.agg (chpC X.C X.pd X.cd).toArray,.slice p cores.length c,.slice pe l.length ce,.int .i64 ticks] w fun e w'=>∃y:MacX×Option Addr×Nat,e=.returned (.tuple #[.pointer (some ⟨y.1.b,0,none⟩),.slice y.2.1 (rkOut X.N X.C cores l ticks.toNat).length y.2.2,.int .i64 0])/\True/\St w [] (.row y.1.b 135 (macC X.N X.C cores y.1 ticks.toNat (rkAt X.N X.C cores l ticks.toNat).2)::[.vec y.2.1 (rkOut X.N X.C cores l ticks.toNat).length y.2.2 67 2 (flat evtV (rkOut X.N X.C cores l ticks.toNat))]) w':=by
 have hm0:mapErr X.N X.C cores=0:=jg fun h=>by unfold plErr at he;rw [jw h] at he;exact h he
 have hp0:prepErr (net1 X.N.inputs) l ticks 10000=0:=jg fun h=>by unfold plErr at he;rw [jk (by rw [hm0];simp),jw h] at he;exact h he
 have ho:¬overB X.N X.C cores l ticks.toNat:=fun h=>by
  unfold plErr at he
  rw [jk (by rw [hm0];simp),jk (by rw [hp0];simp),jw h] at he
  cases he
 obtain ⟨_,hT,_⟩:=prep_zero.1 hp0
 obtain ⟨T,rfl⟩:∃T:Nat,ticks=(T:Int):=⟨ticks.toNat,by omega⟩
 rw [jf] at ho ⊢
 exact (played_main X w hX cores hcw p c b o h1 hm0 l hlw pe ce be oe h3 hce T hp0).mono fun e w' h=>by
  obtain ⟨y,e1,e2⟩:=h.2 ho
  exact ⟨y,e1,trivial,e2⟩
theorem chipRun_any (X:PlnX)(w:World)(hX:PlnRd X w)(cores:List Int)(hcw:∀k∈cores,I64 k)(hlc:cores.length<=1000000)(p:Option Addr)(c b o:Nat)(h1:Sl w intV 1 cores p cores.length b o)
  (l:List Evt) (hlw:∀x∈l,x.wf) (pe:Option Addr) (ce be oe:Nat) (h3:Sl w evtV 2 l pe l.length be oe) (hce:l.length<=ce) (ticks:Int) (hti:I64 ticks):
  Calls Tryz.prog 13 #[.agg X.net.toArray,.agg (chpC X.C X.pd X.cd).toArray,.slice p cores.length c,.slice pe l.length ce,.int .i64 ticks] w fun e w'=>∃y:Option Addr×Nat,e=.returned (.tuple #[.slice y.1 (run8 X.N X.C cores l ticks).1.length y.2,.agg (wrkV (run8 X.N X.C cores l ticks).2.1).toArray,.int .i64 (run8 X.N X.C cores l ticks).2.2])/\True/\St w [] [.vec y.1 (run8 X.N X.C cores l ticks).1.length y.2 67 2 (flat evtV (run8 X.N X.C cores l ticks).1)] w':=by
 by_cases he:plErr X.N X.C cores l ticks≠0
 ·have hr:run8 X.N X.C cores l ticks=([],wrk0,plErr X.N X.C cores l ticks):=by unfold run8;rw [jw he]
  have hb:=fun (w':World) h h' h''=>played_err X w' h cores hcw hlc p c b o h' l hlw pe ce be oe h'' hce ticks hti he
  rw [hr]
  obtain ⟨E,hEE⟩:=gX (plErr X.N X.C cores l ticks)
  rw [hEE] at hb he ⊢
  unfold PlnX.net chpC at hb
  unfold PlnX.net chpC
  refine enter (C:=Tryz.cx) (F:=Tryz.fx13) (args:=[_,_,_,_,_]) Tryz.func13 rfl rfl rfl Tryz.ok13 (St.start w []) ?_
  repeat' (conv=>whnf);first|(refine VCall.isF 47 ?_;(refine VCall.valR (fun w' hw'=>hb w' (hX.keep hw') (h1.keep hw' (by simp)) (h3.keep hw' (by simp))) ?_))|refine VSeq.go ?_|refine oY fun _=>?_|refine oL ?_|refine oT ?_|refine oV fun _=>?_
  all_goals (conv=>whnf)
  exact ⟨fun w' hw'=>⟨(none,0),rfl,trivial,hw'.le (HLe.nilv .nil)⟩⟩
 ·have he0:=Qm.1 he
  have hr:run8 X.N X.C cores l ticks=(rkOut X.N X.C cores l ticks.toNat,(rkAt X.N X.C cores l ticks.toNat).2,0):=by unfold run8;rw [jk he]
  have hb:=fun (w':World) h h' h''=>played_good X w' h cores hcw p c b o h' l hlw pe ce be oe h'' hce ticks he0
  rw [hr]
  obtain ⟨OO,hOO⟩:=gX (rkOut X.N X.C cores l ticks.toNat)
  obtain ⟨WW,hWW⟩:=gX ((rkAt X.N X.C cores l ticks.toNat).2)
  rw [hOO,hWW] at hb ⊢
  have hr25:∀y:MacX,sub (macC X.N X.C cores y ticks.toNat WW) 25 9=some (wrkV WW):=fun _=>rfl
  unfold PlnX.net chpC at hb
  unfold PlnX.net chpC
  refine enter (C:=Tryz.cx) (F:=Tryz.fx13) (args:=[_,_,_,_,_]) Tryz.func13 rfl rfl rfl Tryz.ok13 (St.start w []) ?_
  repeat' (conv=>whnf);first|(refine VCall.isF 47 ?_;(refine VCall.genR (fun w' hw'=>hb w' (hX.keep hw') (h1.keep hw' (by simp)) (h3.keep hw' (by simp))) ?_;rintro ⟨y,q,qc⟩ _;dsimp only))|(refine VLd.is ?_;refine VLd.mk (Rd.cast (.row aT ((hr25 y))) oE) ?_)|refine VSeq.go ?_|refine oN fun _=>?_|refine oL ?_|refine oT ?_|refine oV fun _=>?_|refine oH ?_
  all_goals (conv=>whnf)
  exact ⟨fun w' hw'=>⟨(q,qc),rfl,trivial,hw'.le aH⟩⟩
end Go.Proofs
end

section
namespace Go.Gm
open Go.Proofs
def nK (N:Net)(k:Int):Nat:=N.syns.countP fun s=>decide (keyM N s.frm=k)
def sumR (f:Nat->Nat)(j:Nat):Nat:=((List.range j).map f).sum
theorem sumR_next (f:Nat->Nat)(j:Nat):sumR f (j+1)=sumR f j+f j:=by
 unfold sumR
 rw [Qz,ql,List.sum_append,qU,List.sum_singleton]
theorem sumR_add {f g h:Nat->Nat}:∀{j:Nat},(∀k,k<j->h k=f k+g k)->sumR h j=sumR f j+sumR g j
 |0,_=>rfl
 |j+1,e=>by
  rw [sumR_next,sumR_next,sumR_next,sumR_add (f:=f) (g:=g) fun k hk=>e k (by omega),e j (by omega)]
  omega
theorem sumR_congr {f g:Nat->Nat}:∀{j:Nat},(∀k,k<j->f k=g k)->sumR f j=sumR g j
 |0,_=>rfl
 |j+1,e=>by rw [sumR_next,sumR_next,sumR_congr fun k hk=>e k (by omega),e j (by omega)]
theorem sumR_zero:∀(j:Nat),sumR (fun _=>0) j=0
 |0=>rfl
 |j+1=>by rw [sumR_next,sumR_zero j]
theorem sum_two (p q:Int->Bool)(g:Int->Nat):∀(A:List Nat),(((((A.map fun (k:Nat)=>(k:Int))).filter p).filter q).map g).sum=(A.map fun (k:Nat)=>if p k then if q k then g k else 0 else 0).sum
 |[]=>rfl
 |a::A=>by
  have ih:=sum_two p q g A
  rw [qI,qI,List.sum_cons,<-ih]
  by_cases h1:p (a:Int)=true
  ·rw [List.filter_cons_of_pos h1,jw h1]
   by_cases h2:q (a:Int)=true
   ·rw [List.filter_cons_of_pos h2,jw h2,qI,List.sum_cons]
   ·rw [List.filter_cons_of_neg h2,jk h2,Qo]
  ·rw [List.filter_cons_of_neg h1,jk h1,Qo]
theorem nK_zero {N:Net}{k:Int}:nK N k=0<->¬∃s∈N.syns,keyM N s.frm=k:=by
 unfold nK
 rw [List.countP_eq_zero]
 constructor
 ·rintro h ⟨s,hs,e⟩
  exact h s hs (by simpa using e)
 ·intro h s hs e
  exact h ⟨s,hs,by simpa using e⟩
theorem keys_sum (N:Net)(q:Int->Bool)(g:Int->Nat):(((keysM N).filter q).map g).sum=sumR (fun k=>if nK N k=0 then 0 else if q k then g k else 0) (nSrc N):=by
 unfold keysM sumR
 rw [sum_two]
 refine congrArg List.sum (List.map_congr_left fun k _=>?_)
 by_cases h:nK N (k:Int)=0
 ·rw [jw h,jk (by rw [jy];exact nK_zero.1 h)]
 ·rw [jk h,jw (by rw [jy];exact Qm.1 (mt nK_zero.2 h))]
theorem cnt_one {k:Int}:∀{l:List Int},l.Nodup->l.countP (fun i=>decide (i=k))=if k∈l then 1 else 0
 |[],_=>by simp
 |a::l,h=>by
  have h1:=QC.1 h
  have ih:=cnt_one (k:=k) h1.2
  rw [List.countP_cons,ih]
  by_cases ha:a=k
  ·subst ha
   rw [jk h1.1]
   simp
  ·have:¬k=a:=fun e=>ha e.symm
   by_cases hk:k∈l
   ·rw [jw hk,jw (qu _ hk)];simp [ha]
   ·have h3:¬k∈a::l:=fun h=>(qQ.1 h).elim this hk
    rw [jk hk,jk h3];simp [ha]
theorem cnt_tick {j t:Int}:∀(l:List Evt),l.countP (fun e=>decide (e.id=j)&&decide (e.tick<t+1))=l.countP (fun e=>decide (e.id=j)&&decide (e.tick<t))+(insOf l t).countP fun i=>decide (i=j)
 |[]=>rfl
 |a::l=>by
  have ih:=cnt_tick (j:=j) (t:=t) l
  rw [List.countP_cons,List.countP_cons,ih]
  unfold insOf
  by_cases h1:a.tick=t
  ·rw [List.filter_cons_of_pos (by simpa using h1),qI,List.countP_cons]
   have h2:a.tick<t+1:=by omega
   have h3:¬a.tick<t:=by omega
   simp only [h2,h3,decide_true,decide_false,Bool.and_true,Bool.and_false,QV,if_false]
   omega
  ·rw [List.filter_cons_of_neg (by simpa using h1)]
   have h2:(a.tick<t+1)<->a.tick<t:=by omega
   simp only [h2]
   omega
def sentK (N:Net)(O l:List Evt)(T:Nat)(k:Nat):Nat:=if k<N.ps.length then O.countP (fun e=>decide (e.id=(k:Int))) else l.countP (fun e=>decide (e.id=(k:Int) - N.ps.length)&&decide (e.tick<(T:Int)))
section
variable {N : Net} {C : Chp} {cores : List Int} {l : List Evt}
theorem spk_asc8 (t:Nat):(rkSpk N C cores l t).Pairwise (· <·)/\∀x∈rkSpk N C cores l t,0<=x:=by
 refine ⟨spkF_asc _ 0,fun x hx=>?_⟩
 exact (spkY_range (F:=fire (qNet N C).ps (rkAt N C cores l t).1.sts ((rkAt N C cores l t).1.D[t%16]?.getD [])) hx).1
def sendT (N:Net)(C:Chp)(cores:List Int)(l:List Evt)(t:Nat):Int->Bool:=sendsM N (rkSpk N C cores l t) (insOf l (t:Int))
theorem sent_step (hi:∀t:Nat,(insOf l (t:Int)).Pairwise (· <·))(T k:Nat):sentK N (rkOut N C cores l (T+1)) l (T+1) k=sentK N (rkOut N C cores l T) l T k+if sendT N C cores l T k then 1 else 0:=by
 unfold sentK sendT sendsM
 by_cases hk:k<N.ps.length
 ·rw [jw hk,jw hk,jw (by omega:(k:Int)<N.ps.length)]
  show (rkOut N C cores l T++(rkSpk N C cores l T).map fun i=>(⟨(T:Int),i⟩:Evt)).countP _=_
  rw [List.countP_append,List.countP_map]
  have h1:=cnt_one (k:=(k:Int)) (ascY_nodup (spk_asc8 (N:=N) (C:=C) (cores:=cores) (l:=l) T).1)
  have h2:((fun e:Evt=>decide (e.id=(k:Int)))∘fun i=>(⟨(T:Int),i⟩:Evt))=fun i=>decide (i=(k:Int)):=rfl
  rw [h2,h1]
  by_cases h:(k:Int)∈rkSpk N C cores l T
  ·rw [jw h,jw (by simpa using h)]
  ·rw [jk h,jk (by simpa using h)]
 ·rw [jk hk,jk hk,jk (by omega:¬(k:Int)<N.ps.length)]
  have h1:=cnt_one (k:=(k:Int) - N.ps.length) (ascY_nodup (hi T))
  have h0:((T+1:Nat):Int)=(T:Int)+1:=by omega
  rw [h0,cnt_tick,h1]
  by_cases h:(k:Int) - N.ps.length∈insOf l (T:Int)
  ·rw [jw h,jw (by simpa using h)]
  ·rw [jk h,jk (by simpa using h)]
theorem filt_sum {β:Type}(f:β->Int)(q:Int->Bool):∀(L:List β) (M:Nat),(∀s∈L,0<=f s/\f s<M)->(L.filter fun s=>q (f s)).length=sumR (fun k=>if q k then L.countP (fun s=>decide (f s=(k:Int))) else 0) M
 |[],M,_=>by
  rw [List.filter_nil,List.length_nil]
  rw [sumR_congr (g:=fun _=>0) fun k _=>by simp]
  exact (sumR_zero M).symm
 |a::L,M,h=>by
  have ih:=filt_sum f q L M fun s hs=>h s (qu _ hs)
  obtain ⟨h1,h2⟩:=h a qg
  have h3:sumR (fun k=>if q k then (a::L).countP (fun s=>decide (f s=(k:Int))) else 0) M=sumR (fun k=>if q k then L.countP (fun s=>decide (f s=(k:Int))) else 0) M+sumR (fun k=>if (f a).toNat=k then if q k then 1 else 0 else 0) M:=sumR_add fun k hk=>by
   rw [List.countP_cons]
   by_cases hq:q (k:Int)=true
   ·rw [jw hq,jw hq]
    by_cases he:(f a).toNat=k
    ·rw [jw he,jw hq,jw (by rw [jy];omega)]
    ·rw [jk he,jk (by rw [jy];omega)]
   ·rw [jk hq,jk hq]
    by_cases he:(f a).toNat=k
    ·rw [jw he,jk hq]
    ·rw [jk he]
  have h4:∀(M j:Nat) (u:Nat->Nat),sumR (fun k=>if j=k then u k else 0) M=if j<M then u j else 0:=by
   intro M j u
   induction M with
   |zero=>rfl
   |succ M ih=>
    rw [sumR_next,ih]
    by_cases h5:j<M
    ·rw [jw h5,jk (by omega),jw (by omega)];rfl
    ·rw [jk h5]
     by_cases h6:j=M
     ·rw [jw h6,jw (by omega),h6,Qo]
     ·rw [jk h6,jk (by omega)]
  rw [h3,h4 M _ fun k=>if q k then 1 else 0,jw (by omega),<-ih,Ql h1]
  by_cases hq:q (f a)=true
  ·rw [List.filter_cons_of_pos (by exact hq),jw hq,qR]
  ·rw [List.filter_cons_of_neg (by exact hq),jk hq,Nat.add_zero]
theorem rows_sum (hA:AsgOk N C cores){spikes ins:List Int}(hs:spikes.Pairwise (· <·))(hi:ins.Pairwise (· <·))(h1:∀x∈spikes,0<=x)(h2:∀x∈ins,0<=x):(macAdds N C cores (sendsM N spikes ins)).length=sumR (fun k=>if nK N k=0 then 0 else if sendsM N spikes ins k then nK N k else 0) (nSrc N):=by
 rw [(macAdds_perm hA hs hi h1 h2).length_eq]
 have hn:(spikes++ins.map fun k=> -1 - k).Nodup:=by
  rw [Qe]
  refine ⟨ascY_nodup hs,List.Pairwise.map _ (fun a b h e=>?_) hi,?_⟩
  ·omega
  ·rintro a ha b hb rfl
   obtain ⟨k,hk,he⟩:=qo.1 hb
   have:=h1 _ ha
   have:=h2 _ hk
   omega
 rw [(yields_perm _ hn).length_eq]
 have h3:=sends_src hA h1 h2
 have h4:(qSyns N C).filter (fun s=>decide (s.frm∈spikes++ins.map fun k=> -1 - k))=(qSyns N C).filter fun s=>sendsM N spikes ins (keyM N s.frm):=by
  refine List.filter_congr fun s hs=>?_
  rw [Bool.eq_iff_iff,h3 s hs,jy]
 rw [h4,filt_sum (fun s:Syn=>keyM N s.frm) (sendsM N spikes ins) _ (nSrc N)]
 ·refine sumR_congr fun k _=>?_
  have h5:(qSyns N C).countP (fun s=>decide (keyM N s.frm=(k:Int)))=nK N k:=by
   unfold qSyns nK
   rw [List.countP_map]
   rfl
  rw [h5]
  by_cases h6:nK N (k:Int)=0
  ·rw [jw h6,h6];simp
  ·rw [jk h6]
 ·intro s hs
  obtain ⟨x,hx,hf,_,_⟩:=qSyns_mem hs
  have:=key_range hA.plan.net hx
  rw [hf] at this
  exact this
theorem arr_ge (hA:AsgOk N C cores)(sends:Int->Bool){w:Nat}(hw:w<(wavesF N C cores).length):(sndK N C cores sends w).length<=(sndS N C cores sends (stT N C cores) w).arr.length:=by
 have hd:=sndT_done hA sends hw
 have hlen:(sndC N C cores sends w).pk.length=(sndK N C cores sends w).length:=qv _
 have h:=Go.Vx.nodup_len (l:=List.range (sndK N C cores sends w).length) (m:=(sndS N C cores sends (stT N C cores) w).arr.map (·.1)) List.nodup_range fun p hp=>by
  rw [qL] at hp
  have hkm:(sndK N C cores sends w)[p]?.getD 0∈sndK N C cores sends w:=by rw [qq hp];exact Qu _
  have hkk:=(sndK_keys hkm).1
  obtain ⟨t,ht⟩:=key_way hA hkk
  have hk0:=(keys_src hkk).1.1
  have htr:=core_range hA ht
  have hh:=(way_here hA hk0 (r:=t.toNat)).2 (by rw [Ql htr.1];exact ht)
  obtain ⟨hcells,hn1,hn64⟩:=nCores_ok hA.plan.chip
  have htn:t.toNat<(sndC N C cores sends w).n:=by
   show t.toNat<nCores C
   unfold nCores
   omega
  obtain ⟨u,hu⟩:=hd.aa p t.toNat (by rw [hlen];exact hp) htn hh
  exact qo.2 ⟨_,hu,rfl⟩
 rw [Qg,qv] at h
 exact h
theorem sum_leR {f g:Nat->Nat}:∀{j:Nat},(∀k,k<j->f k<=g k)->sumR f j<=sumR g j
 |0,_=>qA _
 |j+1,e=>by
  have:=sum_leR (f:=f) (g:=g) (j:=j) fun k hk=>e k (by omega)
  have:=e j (by omega)
  rw [sumR_next,sumR_next];omega
theorem sum_posR {f:Nat->Nat}:∀{j:Nat},0<sumR f j<->∃k,k<j/\0<f k
 |0=>by simp [sumR]
 |j+1=>by
  rw [sumR_next]
  constructor
  ·intro h
   by_cases h1:0<f j
   ·exact ⟨j,by omega,h1⟩
   ·obtain ⟨k,h2,h3⟩:=sum_posR.1 (by omega:0<sumR f j)
    exact ⟨k,by omega,h3⟩
  ·rintro ⟨k,h1,h2⟩
   by_cases h3:k=j
   ·subst h3;omega
   ·have:=sum_posR.2 ⟨k,(by omega:k<j),h2⟩;omega
theorem lastOf_pos {A:List (Nat×Nat×Nat)}:0<lastOf A<->A≠[]:=by
 constructor
 ·rintro h rfl
  exact absurd h (by decide)
 ·intro h
  obtain ⟨a,ha⟩:=List.exists_mem_of_ne_nil A h
  have:=(foldl_maxN (A.map fun a=>a.2.2+1) 0).2.1 _ (qN ha)
  unfold lastOf
  omega
theorem sends_len (sends:Int->Bool):((keysM N).filter sends).length=sumR (fun w=>(sndK N C cores sends w).length) (wavesF N C cores).length:=by
 have h1:=(snd_perm (N:=N) (C:=C) (cores:=cores) sends).length_eq
 rw [List.length_flatMap] at h1
 exact h1.symm
theorem arrs_ge (hA:AsgOk N C cores)(sends:Int->Bool):((keysM N).filter sends).length<=macArrs N C cores sends/\(0<macLast N C cores sends<->0<((keysM N).filter sends).length):=by
 rw [sends_len (C:=C) (cores:=cores)]
 refine ⟨sum_leR fun w hw=>arr_ge hA sends hw,?_⟩
 show 0<sumR (fun w=>lastOf (sndS N C cores sends (stT N C cores) w).arr) (wavesF N C cores).length<->_
 rw [sum_posR,sum_posR]
 constructor
 ·rintro ⟨w,hw,h⟩
  refine ⟨w,hw,?_⟩
  rcases Nat.eq_zero_or_pos (sndK N C cores sends w).length with h0|h0
  ·exact absurd (snd_none hA hw (List.length_eq_zero_iff.1 h0)) (lastOf_pos.1 h)
  ·exact h0
 ·rintro ⟨w,hw,h⟩
  have:=arr_ge hA sends hw
  refine ⟨w,hw,lastOf_pos.2 fun e=>?_⟩
  rw [e,List.length_nil] at this
  omega
def pkK (N:Net)(C:Chp)(cores:List Int)(l:List Evt)(T:Nat)(k:Nat):Nat:=if nK N k=0 then 0 else sentK N (rkOut N C cores l T) l T k
def hpK (N:Net)(C:Chp)(cores:List Int)(l:List Evt)(T:Nat)(k:Nat):Nat:=if nK N k=0 then 0 else sentK N (rkOut N C cores l T) l T k*linksM (srcTree N C cores k)
def rwK (N:Net)(C:Chp)(cores:List Int)(l:List Evt)(T:Nat)(k:Nat):Nat:=if nK N k=0 then 0 else sentK N (rkOut N C cores l T) l T k*nK N k
structure WkIs (N:Net) (C:Chp) (cores:List Int) (l:List Evt) (T:Nat) (w:Wrk):Prop where
 ticks:w.ticks=(T:Int)
 updates:w.updates=(T:Int)*N.ps.length
 spikes:w.spikes=((rkOut N C cores l T).length:Int)
 packets:w.packets=(sumR (pkK N C cores l T) (nSrc N):Int)
 hops:w.hops=(sumR (hpK N C cores l T) (nSrc N):Int)
 rows:w.rows=(sumR (rwK N C cores l T) (nSrc N):Int)
 rest:∃A S M:Nat,w.arrivals=(A:Int)/\w.steps=(S:Int)/\w.most=(M:Int)/\sumR (pkK N C cores l T) (nSrc N)<=A/\S<=T*stepsF N C cores/\M<=stepsF N C cores/\M<=S/\(0<S<->0<sumR (pkK N C cores l T) (nSrc N))
theorem sum_len1 {α:Type}:∀(l:List α),(l.map fun _=>1).sum=l.length
 |[]=>rfl
 |_::l=>by rw [qI,List.sum_cons,sum_len1 l,qR];omega
theorem wk_is (hA:AsgOk N C cores){inputs limit:Int}(hl:EvOk inputs limit l):∀(T:Nat),WkIs N C cores l T (rkAt N C cores l T).2
 |0=>by
  have h0:∀k,sentK N (rkOut N C cores l 0) l 0 k=0:=fun k=>by
   unfold sentK
   split
   ·rfl
   ·rw [List.countP_eq_zero]
    intro e he
    have:=(hl.range e he).1
    simp;omega
  have z1:sumR (pkK N C cores l 0) (nSrc N)=0:=by
   rw [sumR_congr (g:=fun _=>0) fun k _=>by unfold pkK;rw [h0];split<;>rfl];exact sumR_zero _
  have z2:sumR (hpK N C cores l 0) (nSrc N)=0:=by
   rw [sumR_congr (g:=fun _=>0) fun k _=>by unfold hpK;rw [h0,Nat.zero_mul];split<;>rfl];exact sumR_zero _
  have z3:sumR (rwK N C cores l 0) (nSrc N)=0:=by
   rw [sumR_congr (g:=fun _=>0) fun k _=>by unfold rwK;rw [h0,Nat.zero_mul];split<;>rfl];exact sumR_zero _
  refine ⟨rfl,?_,rfl,?_,?_,?_,0,0,0,rfl,rfl,rfl,?_⟩
  ·show (0:Int)=((0:Nat):Int)*_;omega
  ·rw [z1];rfl
  ·rw [z2];rfl
  ·rw [z3];rfl
  ·rw [z1];omega
 |T+1=>by
  have ih:=wk_is hA hl T
  have hi:=fun t:Nat=>(hl.ins (t:Int)).1
  have hins:∀x∈insOf l (T:Int),0<=x:=fun x hx=>((hl.ins (T:Int)).2.1 x hx).1
  obtain ⟨hsa,hs0⟩:=spk_asc8 (N:=N) (C:=C) (cores:=cores) (l:=l) T
  obtain ⟨W,hW⟩:=gX ((rkAt N C cores l T).2)
  have hst:(rkAt N C cores l (T+1)).2=macW N C cores (rkAt N C cores l T).2 (rkSpk N C cores l T).length (sendT N C cores l T):=rfl
  have hsent:=fun k=>sent_step (N:=N) (C:=C) (cores:=cores) hi T k
  have p1:((keysM N).filter (sendT N C cores l T)).length=sumR (fun k=>if nK N k=0 then 0 else if sendT N C cores l T k then 1 else 0) (nSrc N):=by
   rw [<-keys_sum N _ fun _=>1,sum_len1]
  have p2:hopsOf N C cores ((keysM N).filter (sendT N C cores l T))=sumR (fun k=>if nK N k=0 then 0 else if sendT N C cores l T k then linksM (srcTree N C cores k) else 0) (nSrc N):=keys_sum N _ fun k=>linksM (srcTree N C cores k)
  have p3:(macAdds N C cores (sendT N C cores l T)).length=sumR (fun k=>if nK N k=0 then 0 else if sendT N C cores l T k then nK N k else 0) (nSrc N):=rows_sum hA hsa (hi T) hs0 hins
  have q1:sumR (pkK N C cores l (T+1)) (nSrc N)=sumR (pkK N C cores l T) (nSrc N)+((keysM N).filter (sendT N C cores l T)).length:=by
   rw [p1]
   refine sumR_add fun k _=>?_
   unfold pkK
   rw [hsent]
   split<;>omega
  have q2:sumR (hpK N C cores l (T+1)) (nSrc N)=sumR (hpK N C cores l T) (nSrc N)+hopsOf N C cores ((keysM N).filter (sendT N C cores l T)):=by
   rw [p2]
   refine sumR_add fun k _=>?_
   unfold hpK
   rw [hsent,QD]
   by_cases h:sendT N C cores l T (k:Int)=true
   ·rw [jw h,jw h,Nat.one_mul];split<;>omega
   ·rw [jk h,jk h,Nat.zero_mul];split<;>omega
  have q3:sumR (rwK N C cores l (T+1)) (nSrc N)=sumR (rwK N C cores l T) (nSrc N)+(macAdds N C cores (sendT N C cores l T)).length:=by
   rw [p3]
   refine sumR_add fun k _=>?_
   unfold rwK
   rw [hsent,QD]
   by_cases h:sendT N C cores l T (k:Int)=true
   ·rw [jw h,jw h,Nat.one_mul];split<;>omega
   ·rw [jk h,jk h,Nat.zero_mul];split<;>omega
  have hlen:(rkOut N C cores l (T+1)).length=(rkOut N C cores l T).length+(rkSpk N C cores l T).length:=by
   show (rkOut N C cores l T++_).length=_
   rw [qw,qv]
  obtain ⟨ag,lg⟩:=arrs_ge hA (sendT N C cores l T)
  have ll:=macLast_le hA (sendT N C cores l T)
  rw [hst]
  rw [hW] at ih ⊢
  obtain ⟨i1,i2,i3,i4,i5,i6,A,S,M,j1,j2,j3,j4,j5,j6,j7,j8⟩:=ih
  unfold macW
  refine ⟨?_,?_,?_,?_,?_,?_,A+macArrs N C cores (sendT N C cores l T),S+macLast N C cores (sendT N C cores l T),max M (macLast N C cores (sendT N C cores l T)),?_,?_,?_,?_,?_,?_,?_,?_⟩
  ·show W.ticks+1=_;omega
  ·show W.updates+N.ps.length=_
   rw [i2]
   have:((T+1:Nat):Int)=(T:Int)+1:=by omega
   rw [this,Int.add_mul];omega
  ·show W.spikes+_=_
   rw [i3,hlen];omega
  ·show W.packets+_=_
   rw [i4,q1];omega
  ·show W.hops+_=_
   rw [i5,q2];omega
  ·show W.rows+_=_
   rw [i6,q3];omega
  ·show W.arrivals+_=_
   rw [j1];omega
  ·show W.steps+_=_
   rw [j2];omega
  ·show max W.most _=_
   rw [j3];omega
  ·rw [q1];omega
  ·rw [QD];omega
  ·omega
  ·omega
  ·rw [q1];omega
end
end Go.Gm
end
