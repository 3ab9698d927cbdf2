import Derived.Test.YtlbekjokdlkghaaGreatChipSameStp
import Derived.Test.YtlbekjokdlkghaaGreatChipSamePz
import Derived.Test.YtlbekjokdlkghaaGreatChipSameMm
import Derived.Test.YtlbekjokdlkghaaGreatChipSameTo9
set_option linter.unusedVariables false
set_option linter.unusedSimpArgs false
set_option maxHeartbeats 4000000
section
namespace Go.Gm
open Go.Proofs
def rnAt (M:Net)(l:List Evt):Nat->Sm
 |0=>sm0 M
 |t+1=>ringStep M t (rnAt M l t) (insOf l (t:Int))
def rnSpk (M:Net)(l:List Evt)(t:Nat):List Int:=ringSpk M t (rnAt M l t)
def rnOut (M:Net)(l:List Evt):Nat->List Evt
 |0=>[]
 |t+1=>rnOut M l t++(rnSpk M l t).map fun i=>⟨(t:Int),i⟩
theorem rkAt_rn (N:Net)(C:Chp)(cores:List Int)(l:List Evt):∀t,(rkAt N C cores l t).1=rnAt (qNet N C) l t
 |0=>rfl
 |t+1=>by
  show ringStep (qNet N C) t (rkAt N C cores l t).1 (insOf l (t:Int))=_
  rw [rkAt_rn N C cores l t];rfl
theorem rkSpk_rn (N:Net)(C:Chp)(cores:List Int)(l:List Evt)(t:Nat):rkSpk N C cores l t=rnSpk (qNet N C) l t:=by
 unfold rkSpk rnSpk
 rw [rkAt_rn]
theorem rkOut_rn (N:Net)(C:Chp)(cores:List Int)(l:List Evt):∀t,rkOut N C cores l t=rnOut (qNet N C) l t
 |0=>rfl
 |t+1=>by
  show rkOut N C cores l t++_=_
  rw [rkOut_rn N C cores l t,rkSpk_rn];rfl
theorem fire_le:∀(ps:List Par) (ss:List Sta) (xs:List Int),(fire ps ss xs).length<=ps.length
 |[],_,_=>by simp [fire]
 |_::_,[],_=>by simp [fire]
 |_::_,_::_,[]=>by simp [fire]
 |p::ps,s::ss,x::xs=>by
  have:=fire_le ps ss xs
  rw [fire,qR,qR];omega
theorem rnSpk_few (M:Net)(l:List Evt)(t:Nat):(rnSpk M l t).length<=M.ps.length/\∀k∈rnSpk M l t,0<=k/\k<M.ps.length:=by
 have hf:=fire_le M.ps (rnAt M l t).sts (((rnAt M l t).D[t%16]?).getD [])
 refine ⟨?_,fun k hk=>?_⟩
 ·have h:=spk_length (fire M.ps (rnAt M l t).sts (((rnAt M l t).D[t%16]?).getD [])) (fire M.ps (rnAt M l t).sts (((rnAt M l t).D[t%16]?).getD [])).length
  rw [Qk] at h
  exact Qb h hf
 ·have:=spkY_range (F:=fire M.ps (rnAt M l t).sts (((rnAt M l t).D[t%16]?).getD [])) hk
  omega
theorem rnSpk_asc (M:Net)(l:List Evt)(t:Nat):(rnSpk M l t).Pairwise (· <·):=spkF_asc _ 0
theorem rnOut_few (M:Net)(l:List Evt):∀t,(rnOut M l t).length<=t*M.ps.length
 |0=>by simp [rnOut]
 |t+1=>by
  have:=rnOut_few M l t
  have:=(rnSpk_few M l t).1
  rw [rnOut,qw,qv,QD];omega
theorem rnOut_tick (M:Net)(l:List Evt):∀t,∀e∈rnOut M l t,(0<=e.tick/\e.tick<(t:Int))/\(0<=e.id/\e.id<M.ps.length)
 |0,e,h=>by simp [rnOut] at h
 |t+1,e,h=>by
  rw [rnOut,qH] at h
  rcases h with h|h
  ·have:=rnOut_tick M l t e h;omega
  ·obtain ⟨i,hi,rfl⟩:=qo.1 h
   have:=(rnSpk_few M l t).2 i hi
   dsimp only;omega
theorem rnOut_asc (M:Net)(l:List Evt):∀t,TickAsc (rnOut M l t)
 |0=>List.Pairwise.nil
 |t+1=>by
  unfold TickAsc
  rw [rnOut,List.pairwise_append]
  refine ⟨rnOut_asc M l t,?_,fun a ha b hb=>?_⟩
  ·rw [List.pairwise_map]
   exact (rnSpk_asc M l t).imp fun _=>Int.le_refl _
  ·obtain ⟨i,hi,rfl⟩:=qo.1 hb
   have:=(rnOut_tick M l t a ha).1
   dsimp only;omega
theorem ins_append (a b:List Evt)(t:Int):insOf (a++b) t=insOf a t++insOf b t:=by
 unfold insOf
 rw [Qa,ql]
theorem ins_none {a:List Evt}{t:Int}(h:∀e∈a,e.tick≠t):insOf a t=[]:=by
 unfold insOf
 rw [List.filter_eq_nil_iff.2 fun e he=>by simpa using h e he];rfl
theorem ins_all (l:List Int)(t:Int):insOf (l.map fun i=>(⟨t,i⟩:Evt)) t=l:=by
 unfold insOf
 rw [List.filter_eq_self.2 fun e he=>by obtain ⟨i,_,rfl⟩:=qo.1 he;simp,List.map_map]
 exact (List.map_congr_left fun _ _=>rfl).trans (List.map_id _)
theorem rnOut_ins (M:Net)(l:List Evt):∀T t:Nat,insOf (rnOut M l T) (t:Int)=if t<T then rnSpk M l t else []
 |0,t=>rfl
 |T+1,t=>by
  rw [rnOut,ins_append,rnOut_ins M l T t]
  by_cases h:t<T
  ·rw [if_pos h,if_pos (by omega),ins_none (fun e he=>by obtain ⟨i,_,rfl⟩:=List.mem_map.1 he;dsimp only;omega),List.append_nil]
  ·rw [jv h,Qc]
   by_cases h2:t=T
   ·subst h2
    rw [ins_all,jk (by omega)]
   ·rw [if_neg (by omega),ins_none fun e he=>by obtain ⟨i,_,rfl⟩:=List.mem_map.1 he;dsimp only;omega]
theorem atLen_cut8 (t:Int):∀(l:List Evt),TickAsc l->(∀e∈l,t<=e.tick)->l.take (atLen t l)=l.filter (fun e=>decide (e.tick=t))/\∀e∈l.drop (atLen t l),t+1<=e.tick
 |[],_,_=>by simp [atLen]
 |x::r,hp,h=>by
  obtain ⟨h1,h2⟩:=List.pairwise_cons.1 hp
  have h3:=h x qg
  by_cases hx:x.tick=t
  ·have ih:=atLen_cut8 t r h2 (fun e he=>h e (qu _ he))
   simp only [atLen,hx,if_true,List.take_succ_cons,List.drop_succ_cons]
   refine ⟨?_,ih.2⟩
   rw [List.filter_cons_of_pos (by simpa using hx),ih.1]
  ·simp only [atLen,hx,if_false,QU,List.drop_zero]
   have hall:∀e∈r,e.tick≠t:=fun e he=>by have:=h1 e he;omega
   refine ⟨?_,fun e he=>?_⟩
   ·rw [List.filter_cons_of_neg (by simpa using hx)]
    symm
    rw [List.filter_eq_nil_iff]
    intro e he
    simpa using hall e he
   ·rcases qQ.1 he with rfl|he
    ·omega
    ·have:=h1 e he;omega
theorem from_rn (M:Net)(l:List Evt):∀(n t:Nat) (L:List Evt),TickAsc L->(∀e∈L,(t:Int)<=e.tick)->(∀u:Nat,t<=u->insOf L (u:Int)=insOf l (u:Int))->(∀m,m<=t+n->(rnOut M l m).length<=65536)->runFrom M n t (rnAt M l t) L (rnOut M l t)=some (rnOut M l (t+n))
 |0,t,L,_,_,_,_=>rfl
 |n+1,t,L,h1,h2,h3,h4=>by
  obtain ⟨c1,c2⟩:=atLen_cut8 (t:Int) L h1 h2
  have hb:¬65536<(rnOut M l (t+1)).length:=by have:=h4 (t+1) (by omega);omega
  have e0:rnOut M l t++((ringSpk M t (rnAt M l t)).map fun i=>(⟨(t:Int),i⟩:Evt))=rnOut M l (t+1):=rfl
  have e1:(L.take (atLen t L)).map (fun e=>e.id)=insOf l (t:Int):=by rw [c1,<-h3 t (qA _)];rfl
  rw [runFrom]
  rw [e0,jv hb,e1]
  have ih:=from_rn M l n (t+1) (L.drop (atLen t L)) (h1.sublist (List.drop_sublist _ _)) (fun e he=>by have:=c2 e he;omega) (fun u hu=>by
   have f:insOf (L.filter fun e=>decide (e.tick=(t:Int))) (u:Int)=[]:=ins_none fun e he=>by
    have:=(qP.1 he).2
    simp only [jw] at this
    omega
   rw [<-h3 u (by omega)]
   conv=>rhs;rw [<-QJ (atLen t L) L]
   rw [ins_append,c1,f,Qc]) (fun m hm=>h4 m (by omega))
  rw [show t+(n+1)=t+1+n by omega]
  exact ih
theorem runRes_rn {M:Net}{l:List Evt}{T:Nat}(hp:prepErr M l (T:Int) 10000=0)(hf:T*M.ps.length<=65536):runRes M l (T:Int)=(rnOut M l T,0):=by
 obtain ⟨hN,hT,hev⟩:=prep_zero.1 hp
 unfold runRes
 rw [jv (by rw [hp];simp),jg]
 have h:=from_rn M l T 0 l hev.asc (fun e he=>by have:=(hev.range e he).1;omega) (fun _ _=>rfl) fun m hm=>by
  have h1:=rnOut_few M l m
  have h2:m*M.ps.length<=T*M.ps.length:=Qj _ (by omega)
  omega
 rw [Qo] at h
 have h2:runFrom M T 0 (sm0 M) l []=some (rnOut M l T):=h
 rw [h2]
section
variable {N : Net} {C : Chp} {cores : List Int}
theorem qNet_ok (hA:AsgOk N C cores):NetOk (qNet N C):=by
 have hOk:=hA.plan.net
 have hhalf:=half_ok hA.plan.chip.bits
 refine ⟨hOk.some,hOk.few,hOk.inputs,by show (qSyns N C).length<=8192;unfold qSyns;rw [qv];exact hOk.fewS,hOk.ps,fun s hs=>?_⟩
 obtain ⟨x,hx,rfl⟩:=qo.1 hs
 obtain ⟨h1,h2,h3,h4⟩:=hOk.syns x hx
 obtain ⟨t,z,ht,htl,hz,hz1,hq,hok⟩:=quot_bounds hOk hhalf hx
 refine ⟨h1,h2,?_,h4⟩
 show -32768<=quotS (scalesM N (halfM C.bits)) x*((scalesM N (halfM C.bits))[x.to.toNat]?.getD 1)/\_
 rw [ht,jg,hz,hq]
 refine ⟨hok.2.1,?_⟩
 show quotS (scalesM N (halfM C.bits)) x*((scalesM N (halfM C.bits))[x.to.toNat]?.getD 1)<=_
 rw [ht,jg,hz,hq]
 exact hok.2.2
theorem qNet_exact (hA:AsgOk N C cores)(he:(quantRes N C.bits).exact=true):qNet N C=N:=by
 have hb:=hA.plan.chip.bits
 have hq0:qErr N C.bits=0:=by
  unfold qErr
  rw [netchk_zero.2 hA.plan.net,jv (by simp),jv (by omega)]
 have hx:(N.syns.all fun s=>decide (offS (scalesM N (halfM C.bits)) s=0))=true:=by
  unfold quantRes at he
  rw [jv (by omega)] at he
  exact he
 have hs:qSyns N C=N.syns:=by
  unfold qSyns
  conv=>rhs;rw [<-List.map_id N.syns]
  refine List.map_congr_left fun s hs=>?_
  have h0:=List.all_eq_true.1 hx s hs
  rw [jw] at h0
  unfold offS at h0
  have h1:s.wt=quotS (scalesM N (halfM C.bits)) s*((scalesM N (halfM C.bits))[s.to.toNat]?.getD 1):=by omega
  show (⟨s.frm,s.to,_,s.dl⟩:Syn)=s
  rw [<-h1]
 unfold qNet
 rw [hs]
end
structure SimAt (x:SimM) (M:Net) (l:List Evt) (t:Nat):Prop where
 run:SimRun x
 net:x.N=M
 tick:x.tick=t
 sm:smOf x=rnAt M l t
theorem ascErr8_ok {m:Int}:∀{l:List Int} {p:Option Int},(∀k∈l,0<=k/\k<m)->l.Pairwise (· <·)->(∀q,p=some q->∀k∈l,q<k)->ascErr m p l=0
 |[],_,_,_,_=>rfl
 |k::r,p,h1,h2,h3=>by
  have hk:=h1 k qg
  have h2':=List.pairwise_cons.1 h2
  unfold ascErr
  rw [jv (by unfold inBad;omega),jv]
  ·exact ascErr8_ok (fun x hx=>h1 x (qu _ hx)) h2'.2 (fun q hq x hx=>by cases hq;exact h2'.1 x hx)
  ·cases p with
   |none=>exact fun h=>h
   |some q=>have:=h3 q rfl k qg;unfold inBehind;omega
theorem SimAt.spk {x:SimM}{M:Net}{l:List Evt}{t:Nat}(h:SimAt x M l t):Go.Gm.spk (simFire x)=rnSpk M l t:=by
 show _=ringSpk M t (rnAt M l t)
 rw [<-h.sm,<-h.net,<-h.tick]
 simp only [ringSpk,simFire,smOf,qj]
theorem SimAt.good {x:SimM}{M:Net}{l:List Evt}{t:Nat}(h:SimAt x M l t)(ht:t<10000){limit:Int}(hev:EvOk M.inputs limit l):stepErr x (insOf l (t:Int))=0:=by
 obtain ⟨h1,h2,_⟩:=hev.ins (t:Int)
 unfold stepErr
 rw [jv (by rw [h.tick];omega),h.net]
 exact ascErr8_ok h2 h1 (by simp)
theorem SimAt.step {x:SimM}{M:Net}{l:List Evt}{t:Nat}(h:SimAt x M l t)(ht:t<10000){limit:Int}(hev:EvOk M.inputs limit l):SimAt (simStep x (insOf l (t:Int))) M l (t+1):=by
 have h0:=h.good ht hev
 have hr:=h.run.step (insOf l (t:Int))
 unfold stepSim at hr
 rw [jk h0] at hr
 refine ⟨hr,h.net,by show x.tick+1=t+1;rw [h.tick],?_⟩
 rw [smOf_step,h.net,h.tick,h.sm];rfl
theorem SimAt.start {x:SimM}{M:Net}(hN:NetOk M)(l:List Evt)(h1:SimOk x)(h2:x.N=M)(h3:x.tick=0)(h4:x.sts=List.replicate M.ps.length ⟨0,0⟩)(h5:x.D.map (·.l)=List.replicate 16 (List.replicate M.ps.length 0)):SimAt x M l 0:=by
 refine ⟨⟨h1,fun i p s g1 g2=>?_,by omega⟩,h2,h3,?_⟩
 ·rw [h4,QB] at g2
  rw [h2] at g1
  split at g2
  ·cases g2
   have:=(hN.ps p (qz g1))
   have h1:=this.fl
   have h2:=this.rest
   unfold staOk
   dsimp only
   omega
  ·cases g2
 ·unfold smOf
  rw [h4,h5];rfl
end Go.Gm
end

section
namespace Go.Gm
end Go.Gm
namespace Go.Proofs
open Go Go.Vx Go.Gm
end Go.Proofs
end

section
namespace Go.Proofs
open Go Go.Vx Go.Gm
end Go.Proofs
end

section
namespace Go.Gm
def parW:Par:=⟨1,1,0,5,0,0, -4,1⟩
def netW:Net:=⟨[parW,parW],1,[⟨-1,0,6,1⟩,⟨0,1,6,3⟩]⟩
def chpW:Chp:=⟨⟨2,1,1⟩,1,4,4,3,[]⟩
theorem mapW_zero:mapErr netW chpW [0,1]=0:=by kernel_rfl
end Go.Gm
namespace Go.Proofs
open Go Go.Vx Go.Gm
theorem netW_wf:netW.wf:=by
 refine ⟨?_,?_,?_⟩
 ·intro p hp
  simp only [netW,qQ,jq,or_false,or_self] at hp
  subst hp
  constructor<;>simp [parW,I64]
 ·simp [netW,I64]
 ·simp [netW,Syn.wf,I64]
theorem chpW_wf:chpW.wf:=by
 refine ⟨⟨?_,?_,?_⟩,?_,?_,?_,?_,?_,?_⟩<;>simp [chpW,I64]
end Go.Proofs
end

section
namespace Go.Gm
open Go.Proofs
def evX8:List Evt:=[⟨0,0⟩]
def outX8:List Evt:=[⟨1,0⟩,⟨4,1⟩]
def wrkX8:Wrk:=⟨6,12,2,2,1,2,2,3,2⟩
theorem rkW_out:rkOut netW chpW [0,1] evX8 6=outX8:=by kernel_rfl
theorem rkW_wrk:(rkAt netW chpW [0,1] evX8 6).2=wrkX8:=by kernel_rfl
theorem rkW_prep:prepErr (net1 1) evX8 6 10000=0:=by kernel_rfl
theorem runW:run8 netW chpW [0,1] evX8 6=(outX8,wrkX8,0):=by
 have h0:plErr netW chpW [0,1] evX8 6=0:=by
  have h1:¬overB netW chpW [0,1] evX8 (6:Int).toNat:=by
   show¬65536<(rkOut netW chpW [0,1] evX8 6).length
   rw [rkW_out]
   decide
  unfold plErr
  rw [mapW_zero,jv (by simp),jv (by have:netW.inputs=1:=rfl;rw [this,rkW_prep];simp),jv h1]
 unfold run8
 rw [h0,jv (by simp)]
 have e:(6:Int).toNat=6:=rfl
 rw [e,rkW_out,rkW_wrk]
theorem eneW:eneR wrkX8 ⟨1,2,3,4,5⟩=(42,0):=by kernel_rfl
end Go.Gm
namespace Go.Proofs
open Go Go.Vx Go.Gm
theorem same8_any (l m:List Evt)(hm:∀x∈m,x.wf)(hl:∀x∈l,x.wf)(p:Option Addr)(c b o:Nat)(q:Option Addr)(d b2 o2:Nat)(w:World)(h1:Sl w evtV 2 l p l.length b o)(h2:Sl w evtV 2 m q m.length b2 o2)(hsz:l.length<4611686018427387904):
  Calls Tryz.prog 16 #[.slice p l.length c,.slice q m.length d] w fun e w'=>∃r:Bool,e=.returned (.bool r)/\(r=true<->l=m)/\St w [] [] w':=by
 refine enter (C:=Tryz.cx) (F:=Tryz.fx16) (args:=[_,_]) Tryz.func16 rfl rfl rfl Tryz.ok16 (St.start w []) ?_
 repeat' (conv=>whnf);first|refine VSeq.go ?_|refine oS (fun _=>?_) fun _=>?_
 all_goals (conv=>whnf)
 ·exact ⟨fun w' hw'=>⟨_,rfl,⟨fun h=>by simp at h,fun h=>by subst h;omega⟩,hw'.le .nil⟩⟩
 refine VLoop.mk (α:=Nat) (fun i=>i<=l.length/\l.take i=m.take i)
  (fun i=>[(1000000,.tuple #[]),(0,.slice p l.length c),(1,.slice q m.length d),(4,.bool false),(5,.int .i64 (i:Int))])
  (fun _=>[]) (fun i=>l.length - i) 0 ⟨by omega,rfl⟩ aE aH ?_
 rintro i ⟨hi,ht⟩
 rcases qy i l.length with hlt|hge
 ·obtain ⟨x,hx⟩:=h1.get hlt
  obtain ⟨y,hy⟩:=h2.get (i:=i) qZ
  have hwx:=hl x (qz hx)
  have hwy:=hm y (qz hy)
  unfold Evt.wf I64 at hwx hwy
  repeat' (conv=>whnf);first|(refine VIx.is ?_;refine VIx.mk (h1.ptr qZ) qZ qZ ?_)|(refine VIx.is ?_;refine VIx.mk (h2.ptr qZ) qZ qZ ?_)|(refine VLd.is ?_;refine VLd.mk (h1.rd0 (by simp) (fun _=>rfl) hx rfl) ?_)|(refine VLd.is ?_;refine VLd.mk (h2.rd0 (by simp) (fun _=>rfl) hy rfl) ?_)|refine VSeq.go ?_|refine oY fun _=>?_|refine oS (fun _=>?_) fun _=>?_|refine oA ?_|refine oH ?_
  all_goals (conv=>whnf)
  ·have hne:¬(x.tick=y.tick/\x.id=y.id):=fun h=>‹¬(x.tick=y.tick/\x.id=y.id/\True)› ⟨h.1,h.2,trivial⟩
   exact ⟨fun w' hw'=>⟨_,rfl,⟨fun h=>by simp at h,fun h=>absurd (by rw [h,hy] at hx;cases hx;exact ⟨rfl,rfl⟩) hne⟩,hw'.le .nil⟩⟩
  ·have he:x=y:=by
    have h1:x.tick=y.tick/\x.id=y.id:=by simp only [and_true] at*;omega
    cases x;cases y;simp only [Evt.mk.injEq];exact h1
   refine VNext.mk (i+1) ⟨by omega,?_⟩ qZ aE aH
   rw [qi,qi,ht,hx,hy,he]
 ·repeat' (conv=>whnf);first|refine VSeq.go ?_|refine oN fun _=>?_
  all_goals (conv=>whnf)
  refine ⟨fun w' hw'=>⟨_,rfl,⟨fun _=>?_,fun _=>rfl⟩,hw'.le .nil⟩⟩
  rw [qe qZ,qe qZ] at ht
  exact ht
theorem outX8_wf:∀x∈outX8,x.wf:=by
 intro x hx
 simp only [outX8,qQ,jq,or_false] at hx
 rcases hx with rfl|rfl<;>simp [Evt.wf,I64]
theorem evX8_wf:∀x∈evX8,x.wf:=by
 intro x hx
 simp only [evX8,qQ,jq,or_false] at hx
 subst hx
 simp [Evt.wf,I64]
theorem wrkX8_wf:wrkX8.wf:=by simp [Wrk.wf,wrkX8,I64]
theorem works8_any (w:World):Calls Tryz.prog 12 #[] w fun e w'=>e=.returned (.bool true)/\St w [] [] w':=by
 have hr:=fun pn cn qs cs (w':World) h p c b o h1 pe ce be oe h3 hce=>chipRun_any ⟨chpW,none,0,netW,pn,cn,qs,cs⟩ w' h [0,1] (by simp [I64]) (by simp) p c b o h1 evX8 evX8_wf pe ce be oe h3 hce 6 (by simp [I64])
 dsimp only at hr
 rw [runW] at hr
 have hen:=fun (w':World)=>Energy_any wrkX8 ⟨1,2,3,4,5⟩ wrkX8_wf (by simp [Prc.wf,I64]) w'
 rw [eneW] at hen
 refine enter (C:=Tryz.cx) (F:=Tryz.fx12) (args:=[]) Tryz.func12 rfl rfl rfl Tryz.ok12 (St.start w []) ?_
 repeat' (conv=>whnf);first|(refine VCall.isF 44 ?_;refine VCall.inl (F:=Tryz.fx44) Tryz.func44 rfl rfl rfl Tryz.ok44 ?_)|(refine VCall.isF 102 ?_;refine VCall.inl (F:=Tryz.fx102) Tryz.func102 rfl rfl rfl Tryz.ok102 ?_)|(refine VCall.isF 45 ?_;refine VCall.inl (F:=Tryz.fx45) Tryz.func45 rfl rfl rfl Tryz.ok45 ?_)|(refine VCall.isF 13 ?_;(refine VCall.genR (fun w' hw'=>hr _ _ _ _ w' ⟨netW_wf,chpW_wf,Nat.zero_le _,⟨0,0,Sl.nil (.inl rfl)⟩,⟨_,0,Sl.own' hw' (l:=netW.ps) (f:=parV) (k:=8) (by repeat (first|exact List.mem_cons_self|apply List.mem_cons_of_mem)) (fun _=>rfl) rfl⟩,⟨_,0,Sl.own' hw' (l:=netW.syns) (f:=synV) (k:=4) (by repeat (first|exact List.mem_cons_self|apply List.mem_cons_of_mem)) (fun _=>rfl) rfl⟩⟩ _ _ _ _ (Sl.own' hw' (l:=[0,1]) (f:=intV) (k:=1) (by repeat (first|exact List.mem_cons_self|apply List.mem_cons_of_mem)) (fun _=>rfl) rfl) _ _ _ _ (Sl.own' hw' (l:=evX8) (f:=evtV) (k:=2) (by repeat (first|exact List.mem_cons_self|apply List.mem_cons_of_mem)) (fun _=>rfl) rfl) (by decide)) ?_;rintro ⟨q1,c1⟩ _;dsimp only))|(refine VCall.isF 17 ?_;(refine VCall.valR (fun w' hw'=>hen w') ?_))|(refine VCall.isF 16 ?_;(refine VCall.genR (v:=fun r=>.bool r) (p:=fun r=>(r=true<->outX8=outX8)) (G:=fun _=>[]) (fun w' hw'=>by obtain ⟨b1,hb1⟩:=Sl.own hw' (f:=evtV) (l:=outX8) (n:=outX8.length) (k:=2) (p:=q1) aT (fun _=>rfl) rfl;exact same8_any outX8 outX8 outX8_wf outX8_wf _ _ _ _ _ _ _ _ w' hb1 (Sl.own' hw' (l:=outX8) (f:=evtV) (k:=2) (by repeat (first|exact List.mem_cons_self|apply List.mem_cons_of_mem)) (fun _=>rfl) rfl) (by decide)) ?_;intro r hr2;have hr2:=hr2.2 rfl;subst hr2))|refine VSeq.go ?_|refine oY fun _=>?_|refine oL ?_|refine oT ?_|refine oV fun _=>?_
 all_goals (conv=>whnf)
 exact ⟨fun w' hw'=>⟨rfl,hw'.le .nil⟩⟩
end Go.Proofs
end

section
namespace Go.Proofs
open Go Go.Vx Go.Gm
structure PlnR8 (X:PlnX) (w:World):Prop where
 net:X.N.wf
 chip:X.C.int
 cap:X.C.dead.length<=X.cd
 dead:∃b o,Sl w intV 1 X.C.dead X.pd X.C.dead.length b o
 ps:∃b o,Sl w parV 8 X.N.ps X.pn X.N.ps.length b o
 syns:∃b o,Sl w synV 4 X.N.syns X.qs X.N.syns.length b o
theorem PlnR8.rd {X:PlnX}{w w':World}{H:HP}(h:PlnR8 X w)(hw':St w [] H w')(hf:X.C.dead.length<=1000000):PlnRd X w':=
 PlnRd.keep ⟨h.net,h.chip.wf hf,h.cap,h.dead,h.ps,h.syns⟩ hw'
structure CsX where
 X:PlnX
 cores:List Int
 pc:Option Addr
 cc:Nat
 l:List Evt
 pe:Option Addr
 ce:Nat
 ticks:Int
def CsX.v (Y:CsX):List Value:=
 [.slice Y.X.pn Y.X.N.ps.length Y.X.cn,.int .i64 Y.X.N.inputs,.slice Y.X.qs Y.X.N.syns.length Y.X.cs,.int .i64 Y.X.C.mesh.wide,.int .i64 Y.X.C.mesh.high,.int .i64 Y.X.C.mesh.room,.int .i64 Y.X.C.nr,.int .i64 Y.X.C.sy,.int .i64 Y.X.C.en,.int .i64 Y.X.C.bits,.slice Y.X.pd Y.X.C.dead.length Y.X.cd,.slice Y.pc Y.cores.length Y.cc,.slice Y.pe Y.l.length Y.ce,.int .i64 Y.ticks]
structure CsRd (Y:CsX) (w:World):Prop where
 X:PlnR8 Y.X w
 hcw:∀k∈Y.cores,I64 k
 cores:∃b o,Sl w intV 1 Y.cores Y.pc Y.cores.length b o
 hlw:∀x∈Y.l,x.wf
 evs:∃b o,Sl w evtV 2 Y.l Y.pe Y.l.length b o
 hce:Y.l.length<=Y.ce
 ti:I64 Y.ticks
theorem PlnR8.keep {X:PlnX}{w w':World}{H:HP}(h:PlnR8 X w)(hw':St w [] H w'):PlnR8 X w':=by
 obtain ⟨h1,h2,h3,⟨b1,o1,a1⟩,⟨b2,o2,a2⟩,⟨b3,o3,a3⟩⟩:=h
 exact ⟨h1,h2,h3,⟨b1,o1,a1.keep hw' (by simp)⟩,⟨b2,o2,a2.keep hw' (by simp)⟩,⟨b3,o3,a3.keep hw' (by simp)⟩⟩
theorem CsRd.keep {Y:CsX}{w w':World}{H:HP}(h:CsRd Y w)(hw':St w [] H w'):CsRd Y w':=by
 obtain ⟨h1,h2,⟨b1,o1,a1⟩,h3,⟨b2,o2,a2⟩,h4,h5⟩:=h
 exact ⟨h1.keep hw',h2,⟨b1,o1,a1.keep hw' (by simp)⟩,h3,⟨b2,o2,a2.keep hw' (by simp)⟩,h4,h5⟩
def Few8 (Y:CsX):Prop:=Y.X.N.ps.length<=20/\Y.X.N.syns.length<=70/\Y.X.C.dead.length<=20/\Y.cores.length<=100/\(Y.l.length<=200\/65536<Y.l.length/\Y.l.length<=65546)/\(Y.ticks<=80\/10000<Y.ticks)
theorem few8_any (Y:CsX)(w:World):
  Calls Tryz.prog 11 #[.agg Y.v.toArray] w fun e w'=>∃r:Bool,e=.returned (.bool r)/\(r=true<->Few8 Y)/\St w [] [] w':=by
 unfold CsX.v Few8
 refine enter (C:=Tryz.cx) (F:=Tryz.fx11) (args:=[_]) Tryz.func11 rfl rfl rfl Tryz.ok11 (St.start w []) ?_
 repeat' (conv=>whnf);first|(refine VNew.mk fun b1=>?_)|refine VSeq.go ?_|refine oS (fun _=>?_) fun _=>?_|refine oL ?_|refine oA ?_
 all_goals (conv=>whnf)
 all_goals first
  |exact ⟨fun w' hw'=>⟨true,rfl,by simp only [true_iff];omega,hw'.le .nil⟩⟩
  |exact ⟨fun w' hw'=>⟨false,rfl,by simp only [QV,false_iff];omega,hw'.le .nil⟩⟩
theorem runs8_any (Y:CsX)(w:World)(hY:CsRd Y w):
  Calls Tryz.prog 19 #[.agg Y.v.toArray] w fun e w'=>∃r:Bool,e=.returned (.bool r)/\(r=true<->Few8 Y/\plErr Y.X.N Y.X.C Y.cores Y.l Y.ticks=0)/\St w [] [] w':=by
 have hf:=fun (w':World)=>few8_any Y w'
 obtain ⟨b1,o1,hc⟩:=hY.cores
 obtain ⟨b2,o2,he⟩:=hY.evs
 have hr:=fun (hF:Few8 Y) (w':World) (hw':PlnRd Y.X w') h h'=>chipRun_any Y.X w' hw' Y.cores hY.hcw (by have:=hF.2.2.2.1;omega) Y.pc Y.cc b1 o1 h Y.l hY.hlw Y.pe Y.ce b2 o2 h' hY.hce Y.ticks hY.ti
 have hX:=hY.X
 have hs:(run8 Y.X.N Y.X.C Y.cores Y.l Y.ticks).2.2=plErr Y.X.N Y.X.C Y.cores Y.l Y.ticks:=by
  unfold run8
  by_cases h:plErr Y.X.N Y.X.C Y.cores Y.l Y.ticks≠0
  ·rw [jk h]
  ·rw [jv h,Qm.1 h]
 rw [hs] at hr
 obtain ⟨R,hR⟩:=gX ((run8 Y.X.N Y.X.C Y.cores Y.l Y.ticks).1)
 obtain ⟨W,hW⟩:=gX ((run8 Y.X.N Y.X.C Y.cores Y.l Y.ticks).2.1)
 obtain ⟨E,hE⟩:=gX (plErr Y.X.N Y.X.C Y.cores Y.l Y.ticks)
 rw [hR,hW,hE] at hr
 rw [hE]
 unfold wrkV PlnX.net chpC at hr
 unfold CsX.v at hf ⊢
 refine enter (C:=Tryz.cx) (F:=Tryz.fx19) (args:=[_]) Tryz.func19 rfl rfl rfl Tryz.ok19 (St.start w []) ?_
 repeat' (conv=>whnf);first|(refine VNew.mk fun b1=>?_)|(refine VCall.isF 11 ?_;(refine VCall.genR (fun w' hw'=>hf w') ?_;rintro r hrr))|(refine VCall.isF 13 ?_;(refine VCall.genR (fun w' hw'=>hr (hrr.1 rfl) w' (hX.rd hw' (by have:=(hrr.1 rfl).2.2.1;omega)) (hc.keep hw' (by simp)) (he.keep hw' (by simp))) ?_;rintro ⟨q,qc⟩ _))|refine VSeq.go ?_|refine oS (fun _=>?_) fun _=>?_|(refine oB (fun h=>?_) (fun h=>?_)<;>subst h)|refine oL ?_|refine oT ?_
 all_goals (conv=>whnf)
 all_goals first
  |exact ⟨fun w' hw'=>⟨true,rfl,by simp only [true_iff];exact ⟨hrr.1 rfl,by omega⟩,hw'.le .nil⟩⟩
  |exact ⟨fun w' hw'=>⟨false,rfl,by simp only [QV,false_iff];rintro ⟨h1,h2⟩;(first|exact absurd (hrr.2 h1) (by decide)|omega),hw'.le .nil⟩⟩
  |exact ⟨fun w' hw'=>⟨_,rfl,by rw [jw];exact ⟨fun h=>⟨hrr.1 rfl,h⟩,fun h=>h.2⟩,hw'.le .nil⟩⟩
end Go.Proofs
namespace Go.Gm
open Go.Proofs
end Go.Gm
namespace Go.Proofs
open Go Go.Vx Go.Gm
end Go.Proofs
end
