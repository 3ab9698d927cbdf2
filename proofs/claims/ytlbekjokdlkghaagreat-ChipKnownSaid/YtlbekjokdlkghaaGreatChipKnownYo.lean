import Derived.Test.YtlbekjokdlkghaaGreatChipKnownYl
set_option linter.unusedVariables false
set_option linter.unusedSimpArgs false
set_option maxHeartbeats 4000000
section
namespace Go.Proofs
open Go Go.Vx Go.Gm
theorem ids8_any (l:List Evt)(hl:∀e∈l,0<=e.tick/\e.tick<=65536)(hlen:l.length<=1000000)(hs:TickAsc l)(t:Int)(ht:0<=t/\t<=65536)(p:Option Addr)(c b o:Nat)(w:World)(h1:Sl w evtV 2 l p l.length b o):
  Calls Tryz.prog 72 #[.slice p l.length c,.int .i64 t] w fun e w'=>∃y:Option Addr×Nat,e=.returned (.slice y.1 (insOf l t).length y.2)/\(0<(insOf l t).length->∃g,y.1=some ⟨g,0,none⟩)/\St w [] [.vec y.1 (insOf l t).length y.2 3 1 (flat intV (insOf l t))] w':=by
 have hlo:=loOf_le l t
 have hiff:=fun {i:Nat} {e:Evt} h=>loOf_iff (t:=t) hs (i:=i) (e:=e) h
 have hcut:=fun {k:Nat} a b c d=>ins_cut (t:=t) hs (k:=k) a b c d
 obtain ⟨lo,hloe⟩:=gX (loOf l t)
 rw [hloe] at hlo hiff hcut
 refine enter (C:=Tryz.cx) (F:=Tryz.fx72) (args:=[_,_]) Tryz.func72 rfl rfl rfl Tryz.ok72 (St.start w []) ?_
 repeat' (conv=>whnf);first|(refine VCall.isF 130 ?_;refine VCall.inl (F:=Tryz.fx130) Tryz.func130 rfl rfl rfl Tryz.ok130 ?_)|refine VSeq.go ?_
 all_goals (conv=>whnf)
 refine VLoop.mk (α:=Nat×Nat) (fun z=>z.1<=lo/\lo<=z.2/\z.2<=l.length) (fun z=>[(1000000,.tuple #[]),(0,.slice p l.length c),(1,.int .i64 t),(2,.func (.func 131) #[] #[]),(6,.int .i64 0),(7,.bool false),(8,.int .i64 (l.length:Int)),(9,.int .i64 (z.1:Int)),(10,.int .i64 (z.2:Int))])
  (fun _=>[]) (fun z=>z.2 - z.1) (0,l.length) ⟨qB _,hlo,qA _⟩ aE aH ?_
 rintro ⟨i,j⟩ ⟨h2,h3,h4⟩
 dsimp only at h2 h3 h4 ⊢
 rcases qy i j with hlt|hge
 ·obtain ⟨e,he⟩:=h1.get (by omega:(i+j) / 2<l.length)
  have hee:=hl e (qz he)
  have hife:=hiff he
  repeat' (conv=>whnf);first|(refine VIx.is ?_;refine VIx.mk (h1.ptr qZ) qZ qZ ?_)|(refine VLd.is ?_;refine VLd.mk (Rd.cast (h1.rd0 (by simp) (fun _=>rfl) he rfl) oE) ?_)|(refine VCall.isF 131 ?_;refine VCall.inl (F:=Tryz.fx131) Tryz.func131 rfl rfl rfl Tryz.ok131 ?_)|(refine VAr.is ?_;refine VAr.u64g qZ qZ fun c hc=>?_;obtain rfl:c=i+j:=qZ)|(refine VShR.is ?_;refine VShR.natU 1 qZ fun c hc hle=>?_;obtain rfl:c=(i+j) / 2:=qZ)|refine VSeq.go ?_|refine oY fun _=>?_|refine oS (fun _=>?_) fun _=>?_|refine oL ?_|refine oV fun _=>?_|refine oA ?_
  all_goals (conv=>whnf)
  ·exact VNext.mk ((i+j) / 2+1,j) ⟨by dsimp only;omega,by dsimp only;omega,by dsimp only;omega⟩ (by dsimp only;omega) aE aH
  ·exact VNext.mk (i,(i+j) / 2) ⟨by dsimp only;omega,by dsimp only;omega,by dsimp only;omega⟩ (by dsimp only;omega) aE aH
 have hi:lo=i:=by omega
 have hj:lo=j:=by omega
 subst hi
 subst hj
 rcases qy lo l.length with hll|hll
 rotate_left
 ·have hle2:lo=l.length:=by omega
  have hfin:=hcut (qA _) hlo (fun i e h5 h6=>absurd h6 qZ) (fun y hy=>by rw [hle2,qf (qA _)] at hy;cases hy)
  rw [jq,QO,QL] at hfin
  repeat' (conv=>whnf);first|refine VSeq.go ?_|refine oN fun _=>?_
  all_goals (conv=>whnf)
  refine VLoop.mk (α:=Nat) (fun _=>True) (fun _=>[(1000000,.tuple #[]),(0,.slice p l.length c),(1,.int .i64 t),(4,.slice none 0 0),(5,.int .i64 (lo:Int)),(7,.slice none 0 0)]) (fun _=>[]) (fun _=>0) 0 trivial aE aH ?_
  rintro _ _
  repeat' (conv=>whnf);first|refine VSeq.go ?_|refine oN fun _=>?_
  all_goals (conv=>whnf)
  rw [<-hfin]
  exact ⟨fun w' hw'=>⟨(none,0),rfl,fun h=>absurd h (by simp),hw'.le (HLe.nilv .nil)⟩⟩
 obtain ⟨e,he⟩:=h1.get hll
 have hee:=hl e (qz he)
 repeat' (conv=>whnf);first|(refine VIx.is ?_;refine VIx.mk (h1.ptr qZ) qZ qZ ?_)|(refine VLd.is ?_;refine VLd.mk (Rd.cast (h1.rd0 (by simp) (fun _=>rfl) he rfl) oE) ?_)|(refine VCall.isF 131 ?_;refine VCall.inl (F:=Tryz.fx131) Tryz.func131 rfl rfl rfl Tryz.ok131 ?_)|refine VSeq.go ?_|refine oY fun _=>?_|refine oN fun _=>?_|refine oS (fun _=>?_) fun _=>?_|refine oL ?_|refine oV fun _=>?_|refine oA ?_
 all_goals (conv=>whnf)
 all_goals
  refine VLoop.mk (α:=Nat×Option Addr×Nat) (fun z=>lo<=z.1/\z.1<=l.length/\(∀(i:Nat) (e:Evt),lo<=i->i<z.1->l[i]? =some e->e.tick=t)/\(lo<z.1->∃g,z.2.1=some ⟨g,0,none⟩))
   (fun z=>[(1000000,.tuple #[]),(0,.slice p l.length c),(1,.int .i64 t),(4,.slice none 0 0),(5,.int .i64 (z.1:Int)),(7,.slice z.2.1 (z.1 - lo) z.2.2)])
   (fun z=>[.vec z.2.1 (z.1 - lo) z.2.2 3 1 (flat intV (((l.drop lo).take (z.1 - lo)).map (·.id)))]) (fun z=>l.length - z.1) (lo,none,0) ⟨Nat.le_refl _,hlo,fun i e h5 h6=>absurd h6 (by dsimp only;omega),fun h=>absurd h (by simp)⟩ (by dsimp only;rw [Nat.sub_self];exact aE) ?_ ?_
  ·dsimp only
   rw [jq]
   exact HLe.nilv (HLe.nil)
  rintro ⟨k,q,qc⟩ ⟨hk1,hk2,hk3,hk4⟩
  dsimp only at hk1 hk2 hk3 hk4 ⊢
  have hxx:∀(x:Evt),l[k]? =some x->0<=x.tick/\x.tick<=65536:=fun x h=>hl x (qz h)
  rcases qy k l.length with hkl|hkl
  ·obtain ⟨x,hx⟩:=h1.get hkl
   have hxe:=hxx x hx
   have hxv:sub (evtV x) 0 1=some [.int .i64 x.tick]:=rfl
   have hxi:sub (evtV x) 1 1=some [.int .i64 x.id]:=rfl
   by_cases hxt:x.tick=t
   ·have hlen2:((l.drop lo).take (k+1 - lo)).map (fun e=>e.id)=((l.drop lo).take (k - lo)).map (fun e=>e.id)++[x.id]:=by
     rw [show k+1 - lo=(k - lo)+1 by omega,qi,Qy,show lo+(k - lo)=k by omega,hx,qW,ql]
     rfl
    have hl3:(((l.drop lo).take (k - lo)).map fun e=>e.id).length=k - lo:=by
     rw [qv,qh,Qs];omega
    repeat' (conv=>whnf);first|(refine VIx.is ?_;refine VIx.mk (h1.ptr qZ) qZ qZ ?_)|(refine VLd.is ?_;refine VLd.mk (Rd.cast (h1.rd (o:=0) (s:=1) (by simp) (fun _=>rfl) hx hxv) oE) ?_)|(refine VLd.is ?_;refine VLd.mk (Rd.cast (h1.rd (o:=1) (s:=1) (by simp) (fun _=>rfl) hx hxi) oE) ?_)|(refine VAp.is ?_;refine VAp.own aT (.at_ (.vec aT rfl)) (by simp [Value.oneCell']) (by (try dsimp only);omega) (by simp only [maxLen];omega) fun p1 c1 hp1=>?_)|refine VSeq.go ?_|refine oY fun _=>?_|refine oV fun _=>?_|refine oA ?_
    all_goals (conv=>whnf)
    refine VNext.mk (k+1,p1,c1) ⟨by dsimp only;omega,by dsimp only;omega,fun i y h5 h6 h7=>?_,fun _=>hp1 qZ⟩ (by dsimp only;omega) (by dsimp only;rw [show k+1 - lo=(k - lo)+1 by omega];exact aE) ?_
    ·rcases qy i k with h8|h8
     ·exact hk3 i y h5 h8 h7
     ·have h9:i=k:=by dsimp only at h6;omega
      subst h9
      rw [hx] at h7
      cases h7
      exact hxt
    ·dsimp only
     rw [hlen2,flat_append,show k+1 - lo=(k - lo)+1 by omega]
     exact aH
   ·have hfin:=hcut hk1 hk2 hk3 (fun y hy=>by rw [hx] at hy;cases hy;exact hxt)
    have hl3:(insOf l t).length=k - lo:=by
     rw [<-hfin,qv,qh,Qs];omega
    repeat' (conv=>whnf);first|(refine VIx.is ?_;refine VIx.mk (h1.ptr qZ) qZ qZ ?_)|(refine VLd.is ?_;refine VLd.mk (Rd.cast (h1.rd (o:=0) (s:=1) (by simp) (fun _=>rfl) hx hxv) oE) ?_)|refine VSeq.go ?_|refine oY fun _=>?_|refine oN fun _=>?_
    all_goals (conv=>whnf)
    rw [hl3,hfin]
    exact ⟨fun w' hw'=>⟨(q,qc),rfl,fun h=>hk4 qZ,hw'⟩⟩
  ·have hke:k=l.length:=by omega
   have hfin:=hcut hk1 hk2 hk3 (fun y hy=>by rw [hke,qf (qA _)] at hy;cases hy)
   have hl3:(insOf l t).length=k - lo:=by
    rw [<-hfin,qv,qh,Qs];omega
   repeat' (conv=>whnf);first|refine VSeq.go ?_|refine oN fun _=>?_
   all_goals (conv=>whnf)
   rw [hl3,hfin]
   exact ⟨fun w' hw'=>⟨(q,qc),rfl,fun h=>hk4 qZ,hw'⟩⟩
end Go.Proofs
end

section
namespace Go.Gm
open Go.Proofs
def par1:Par:=⟨0,0,0,1,0,0,0,0⟩
def net1 (inputs:Int):Net:=⟨[par1],inputs,[]⟩
theorem net1_step (inputs:Int)(t:Nat)(ins:List Int):ringStep (net1 inputs) t (sm0 (net1 inputs)) ins=sm0 (net1 inputs)/\ringSpk (net1 inputs) t (sm0 (net1 inputs))=[]:=by
 have hD:(List.replicate 16 (List.replicate 1 (0:Int)))[t%16]? =some [0]:=by
  rw [QH,jx (Nat.mod_lt _ (by omega))];rfl
 have hF:fire [par1] [⟨0,0⟩] [0]=[(⟨0,0⟩,false)]:=rfl
 have h1:fire (net1 inputs).ps (sm0 (net1 inputs)).sts ((sm0 (net1 inputs)).D[t%16]?.getD [])=[(⟨0,0⟩,false)]:=by
  show fire [par1] [⟨0,0⟩] ((List.replicate 16 (List.replicate 1 (0:Int)))[t%16]?.getD [])=_
  rw [hD]
  exact hF
 have hy:∀l:List Int,yields (wire []) l=[]:=fun l=>by
  unfold yields
  rw [List.flatMap_eq_nil_iff]
  intro x _
  rfl
 have hM:(List.replicate 16 (List.replicate 1 (0:Int))).modify (t%16) (fun l=>List.replicate l.length 0)=List.replicate 16 (List.replicate 1 (0:Int)):=by
  apply qp
  intro i
  rw [qS,QH]
  split
  ·by_cases h:t%16=i<;>simp [h]
  ·simp
 constructor
 ·unfold ringStep
  rw [h1]
  show Sm.mk _ ((yields (wire []) _).foldl _ ((List.replicate 16 (List.replicate 1 (0:Int))).modify (t%16) (fun l=>List.replicate l.length 0)))=_
  rw [hy,hM]
  rfl
 ·unfold ringSpk
  rw [h1]
  rfl
theorem net1_from (inputs:Int):∀(n t:Nat) (l:List Evt),runFrom (net1 inputs) n t (sm0 (net1 inputs)) l []=some []
 |0,_,_=>rfl
 |n+1,t,l=>by
  have h1:=net1_step inputs t ((l.take (atLen t l)).map fun e=>e.id)
  unfold runFrom
  rw [h1.1,h1.2]
  exact net1_from inputs n (t+1) _
theorem net1_run {inputs ticks:Int}{l:List Evt}(h:prepErr (net1 inputs) l ticks 10000=0):runRes (net1 inputs) l ticks=([],0):=by
 unfold runRes
 rw [jz (by omega),net1_from]
theorem net1_bad {inputs ticks:Int}{l:List Evt}(h:prepErr (net1 inputs) l ticks 10000≠0):runRes (net1 inputs) l ticks=([],prepErr (net1 inputs) l ticks 10000):=by
 unfold runRes
 rw [jx h]
theorem rkOut_mono (N:Net)(C:Chp)(cores:List Int)(l:List Evt):∀(d t:Nat),(rkOut N C cores l t).length<=(rkOut N C cores l (t+d)).length
 |0,_=>qA _
 |d+1,t=>by
  have:=rkOut_mono N C cores l d t
  have hs:rkOut N C cores l (t+(d+1))=rkOut N C cores l (t+d)++(rkSpk N C cores l (t+d)).map fun i=>⟨((t+d:Nat):Int),i⟩:=rfl
  rw [hs,qw]
  omega
def overB (N:Net)(C:Chp)(cores:List Int)(l:List Evt)(T:Nat):Prop:=65536<(rkOut N C cores l T).length
end Go.Gm
namespace Go.Proofs
open Go Go.Vx Go.Gm
theorem played_main (X:PlnX)(w:World)(hX:PlnRd X w)(cores:List Int)(hcw:∀k∈cores,I64 k)(p:Option Addr)(c b o:Nat)(h1:Sl w intV 1 cores p cores.length b o)(he:mapErr X.N X.C cores=0)
  (l:List Evt) (hlw:∀x∈l,x.wf) (pe:Option Addr) (ce be oe:Nat) (h3:Sl w evtV 2 l pe l.length be oe) (hce:l.length<=ce) (T:Nat) (hev:prepErr (net1 X.N.inputs) l (T:Int) 10000=0):
  Calls Tryz.prog 47 #[.agg X.net.toArray,.agg (chpC X.C X.pd X.cd).toArray,.slice p cores.length c,.slice pe l.length ce,.int .i64 (T:Int)] w fun e w'=>
   (overB X.N X.C cores l T->e=.returned (.tuple #[.pointer none,.slice none 0 0,.int .i64 8])/\St w [] [] w')/\
   (¬overB X.N X.C cores l T->∃y:MacX×Option Addr×Nat,e=.returned (.tuple #[.pointer (some ⟨y.1.b,0,none⟩),.slice y.2.1 (rkOut X.N X.C cores l T).length y.2.2,.int .i64 0])/\St w [] (.row y.1.b 135 (macC X.N X.C cores y.1 T (rkAt X.N X.C cores l T).2)::[.vec y.2.1 (rkOut X.N X.C cores l T).length y.2.2 67 2 (flat evtV (rkOut X.N X.C cores l T))]) w'):=by
 have hg:=fun (w':World) h h'=>New_good X w' h cores hcw p c b o h' he
 obtain ⟨hA,htabs⟩:=mapErr_asg he
 obtain ⟨hok1,hT,hEv⟩:=prep_zero.1 hev
 have hrr:=net1_run hev
 have hwf1:(net1 X.N.inputs).wf:=by
  refine ⟨fun q hq=>?_,hX.net.inputs,by simp [net1]⟩
  have:q=par1:=by simpa [net1] using hq
  subst this
  unfold par1
  constructor<;>(unfold I64;dsimp only;omega)
 have hrun:=fun (w':World) (g:Nat) (ha:Sl w' parV 8 (net1 X.N.inputs).ps (some ⟨g,0,none⟩) (net1 X.N.inputs).ps.length g 0) h3'=>Run_any (net1 X.N.inputs) hwf1 l hlw (T:Int) (some ⟨g,0,none⟩) 1 g 0 none 0 0 0 pe ce be oe w' ha (.nil (.inl rfl)) h3' hce
 rw [hrr] at hrun
 have hasc:=hEv.asc
 have hTle:T<=10000:=by omega
 have htk:∀e∈l,0<=e.tick/\e.tick<=65536:=fun e he=>by have:=(hEv.range e he).1;omega
 have hfew:=hEv.few
 have hids:=fun (t:Int) (ht:0<=t/\t<=65536) (w':World) h=>ids8_any l htk qZ hasc t ht pe ce be oe w' h
 unfold PlnX.net chpC at hg
 unfold PlnX.net chpC
 refine enter (C:=Tryz.cx) (F:=Tryz.fx47) (args:=[_,_,_,_,_]) Tryz.func47 rfl rfl rfl Tryz.ok47 (St.start w []) ?_
 repeat' (conv=>whnf);first|(refine VCall.isF 32 ?_;(refine VCall.genR (fun w' hw'=>hg w' (hX.keep hw') (h1.keep hw' (by simp))) ?_;rintro z hz))|(refine VCall.isF 28 ?_;(refine VCall.genR (fun w' hw'=>hrun w' _ (Sl.own' (cap:=1) (e:=140) hw' (by exact qg) (fun _=>rfl) rfl) (h3.keep hw' (by simp))) ?_;rintro ⟨rq,rc⟩ _))|refine VSeq.go ?_|refine oN fun _=>?_|refine oL ?_|refine oV fun _=>?_
 all_goals (conv=>whnf)
 refine VLoop.mk (α:=Nat×Mac×Option Addr×Nat) (fun y=>y.1<=T/\MacAt X.N X.C cores (newX X.N X.C cores z) l y.1 y.2.1/\(rkOut X.N X.C cores l y.1).length<=65536/\(0<(rkOut X.N X.C cores l y.1).length->∃g,y.2.2.1=some ⟨g,0,none⟩))
  (fun y=>[(1000000,.tuple #[]),(3,.slice pe l.length ce),(10,.pointer none),(11,.slice none 0 0),(12,.int .i64 0),(13,.pointer (some ⟨z.bm,0,none⟩)),(17,.slice y.2.2.1 (rkOut X.N X.C cores l y.1).length y.2.2.2),(45,.int .i64 (T:Int)),(46,.int .i64 (y.1:Int))])
  (fun y=>.row z.bm 135 (macC X.N X.C cores (newX X.N X.C cores z) (y.1) (y.2.1.w))::(y.2.1.cs.map celE++(.vec y.2.2.1 (rkOut X.N X.C cores l y.1).length y.2.2.2 67 2 (flat evtV (rkOut X.N X.C cores l y.1))::newR X.N X.C cores z))) (fun y=>T - y.1) (0,newM z,none,0) ⟨qB _,new_go hA hz l,qB _,fun h=>absurd h (by simp [rkOut])⟩ aE ?_ ?_
 ·have e0:rkOut X.N X.C cores l 0=[]:=rfl
  dsimp only
  rw [e0]
  dsimp only [List.length_nil,flat_nil]
  refine HLe.trans ?_ (HLe.nilv (e:=67) (size:=2) (.refl _))
  unfold newM
  dsimp only
  change HLe _ (_::_::_::_::((z.cs.map celE++newR X.N X.C cores z)++_))
  rw [qJ]
  exact aH
 rintro ⟨t,m,q,qc⟩ ⟨ht,hm,hlen,hq⟩
 dsimp only at ht hm hlen hq ⊢
 rcases qy t T with hlt|hge
 ·have hspk:=hm.spk
  have hfewS:=hm.spk_few hA
  have hnx:=hm.step hA (by omega:t<10000) hEv
  obtain ⟨ha1,ha2,ha3⟩:=hEv.ins (t:Int)
  have hmt:=hm.tick
  have hstep:=fun (pi:Option Addr) (ci bi oi:Nat) (w1:World) hs1 hin hx1 hb1=>macStep_any X.N X.C cores hA (newX X.N X.C cores z) m hm.go (by rw [hmt];omega) (insOf l (t:Int)) ha3 ha1 (fun k hk=>(ha2 k hk).1) pi ci bi oi w1 hs1 hin hx1 hb1
  rw [hspk] at hstep
  unfold macOwn at hstep
  rw [hmt] at hstep
  have hmt2:(macStep X.N X.C cores m (insOf l (t:Int))).t=t+1:=by show m.t+1=t+1;rw [hmt]
  rw [hmt2] at hstep
  obtain ⟨INS,hINS⟩:=gX (insOf l (t:Int))
  have hids2:=hids (t:Int) qZ
  rw [hINS] at hstep hids2 hnx
  have hro:rkOut X.N X.C cores l (t+1)=rkOut X.N X.C cores l t++(rkSpk X.N X.C cores l t).map fun i=>⟨(t:Int),i⟩:=rfl
  obtain ⟨SP,hSP⟩:=gX (rkSpk X.N X.C cores l t)
  rw [hSP] at hstep hro hfewS
  obtain ⟨m2,hm2⟩:=gX (macStep X.N X.C cores m INS)
  rw [hm2] at hstep hnx
  repeat' (conv=>whnf);first|(refine VCall.isF 72 ?_;(refine VCall.genR (fun w' hw'=>hids2 w' (h3.keep hw' (by simp))) ?_;rintro ⟨iq,ic⟩ hiq;dsimp only at hiq))|(refine VCall.isF 95 ?_;(refine VCall.turnT (α:=Option Addr×Nat) (S:=.row z.bm 135 (macC X.N X.C cores (newX X.N X.C cores z) (t) (m.w))::m.cs.map celE) (fun y=>.slice y.1 SP.length y.2) (fun y=>0<SP.length->∃g,y.1=some ⟨g,0,none⟩) (fun y=>.row z.bm 135 (macC X.N X.C cores (newX X.N X.C cores z) ((t+1)) (m2.w))::(m2.cs.map celE++[.vec y.1 SP.length y.2 3 1 (flat intV SP)])) (by repeat (first|exact Take.nil|(with_reducible apply Take.seg;(focus (exact aS)))|(apply Take.cons;(focus (exact aT)))|(apply Take.last;(focus (exact aS))))) (fun w1 hw1 hs1=>?_) (fun y hy=>?_)))|refine VSeq.go ?_|refine oY fun _=>?_
  all_goals (conv=>whnf)
  ·have hin2:=new_in hA htabs hz (S:=.row z.bm 135 (macC X.N X.C cores (newX X.N X.C cores z) (t) (m.w))::m.cs.map celE) (hw1.le aH)
   obtain ⟨bi,hsl,hbi⟩:=Sl.vecOut (S:=.row z.bm 135 (macC X.N X.C cores (newX X.N X.C cores z) (t) (m.w))::m.cs.map celE) (f:=intV) (k:=1) (l:=INS) (p:=iq) (n:=INS.length) (cap:=ic) (e:=3) hw1 aH (fun _=>rfl) rfl
   exact hstep iq ic bi 0 w1 hs1 hin2 hsl hbi
  ·obtain ⟨sq,sc⟩:=y
   dsimp only at hy ⊢
   refine VLoop.mk (α:=Nat×Option Addr×Nat) (fun y=>y.1<=SP.length/\(0<(rkOut X.N X.C cores l t++(SP.take y.1).map fun i=>(⟨(t:Int),i⟩:Evt)).length->∃g,y.2.1=some ⟨g,0,none⟩))
    (fun y=>[(1000000,.tuple #[]),(3,.slice pe l.length ce),(10,.pointer none),(11,.slice none 0 0),(12,.int .i64 0),(13,.pointer (some ⟨z.bm,0,none⟩)),(17,.slice y.2.1 (rkOut X.N X.C cores l t++(SP.take y.1).map fun i=>(⟨(t:Int),i⟩:Evt)).length y.2.2),(18,.int .i64 (t:Int)),(45,.int .i64 (T:Int)),(46,.int .i64 (t:Int)),(53,.slice sq SP.length sc),(54,.int .i64 (SP.length:Int)),(55,.int .i64 (y.1:Int))])
    (fun y=>.row z.bm 135 (macC X.N X.C cores (newX X.N X.C cores z) ((t+1)) (m2.w))::(m2.cs.map celE++(.vec sq SP.length sc 3 1 (flat intV SP)::.vec y.2.1 (rkOut X.N X.C cores l t++(SP.take y.1).map fun i=>(⟨(t:Int),i⟩:Evt)).length y.2.2 67 2 (flat evtV (rkOut X.N X.C cores l t++(SP.take y.1).map fun i=>(⟨(t:Int),i⟩:Evt)))::newR X.N X.C cores z))) (fun y=>SP.length - y.1) (0,q,qc) ⟨Nat.zero_le _,by rw [List.take_zero,List.map_nil,List.append_nil];exact hq⟩ (by dsimp only;rw [List.take_zero,List.map_nil,List.append_nil];exact aE) ?_ ?_
   ·dsimp only
    rw [QO,QL,qC]
    change HLe _ (_::((m2.cs.map celE++[.vec sq SP.length sc 3 1 (flat intV SP)])++_))
    rw [qJ]
    exact aH
   rintro ⟨j,q2,qc2⟩ ⟨hj,hq2⟩
   dsimp only at hj hq2 ⊢
   rcases qy j SP.length with hjl|hjg
   ·obtain ⟨gs,hgs⟩:=hy qZ
    obtain ⟨kk,hkk⟩:∃kk,SP[j]? =some kk:=⟨_,qq hjl⟩
    have hon:(rkOut X.N X.C cores l t++(SP.take (j+1)).map fun i=>(⟨(t:Int),i⟩:Evt))=(rkOut X.N X.C cores l t++(SP.take j).map fun i=>(⟨(t:Int),i⟩:Evt))++[⟨(t:Int),kk⟩]:=by
     rw [qi,hkk,qW,ql,qJ];rfl
    have hol:(rkOut X.N X.C cores l t++(SP.take j).map fun i=>(⟨(t:Int),i⟩:Evt)).length<=65536+1024:=by
     rw [qw,qv,qh];omega
    obtain ⟨OJ,hOJ⟩:∃OJ,(rkOut X.N X.C cores l t++(SP.take j).map fun i=>(⟨(t:Int),i⟩:Evt))=OJ:=⟨_,rfl⟩
    rw [hOJ] at hon hol hq2 ⊢
    repeat' (conv=>whnf);first|(refine VIx.is ?_;refine VIx.mk hgs qZ qZ ?_)|(refine VLd.is ?_;refine VLd.mk (Rd.cast (Rd.vecQ aT hgs (sub_flat0 (f:=intV) (k:=1) (fun _=>rfl) hkk rfl)) oE) ?_)|(refine VAp.is ?_;refine VAp.own aT (.at_ (.vec aT rfl)) (by simp [Value.oneCell']) (by (try dsimp only);omega) (by simp only [maxLen];omega) fun p1 c1 hp1=>?_)|refine VSeq.go ?_|refine oY fun _=>?_|refine oV fun _=>?_|refine oA ?_
    all_goals (conv=>whnf)
    refine VNext.mk (j+1,p1,c1) ⟨by dsimp only;omega,fun _=>hp1 qZ⟩ (by dsimp only;omega) (by dsimp only;rw [hon,List.length_append,List.length_singleton];exact aE) ?_
    dsimp only
    rw [hon,flat_append,qw,qM]
    exact aH
   ·have hje:j=SP.length:=by omega
    subst hje
    rw [Qk,<-hro] at hq2 ⊢
    have hmono:=rkOut_mono X.N X.C cores l (T - (t+1)) (t+1)
    rw [show t+1+(T - (t+1))=T by omega] at hmono
    have hrl:(rkOut X.N X.C cores l (t+1)).length<=65536+1024:=by rw [hro,qw,qv];omega
    obtain ⟨OJ,hOJ⟩:=gX (rkOut X.N X.C cores l (t+1))
    have hOb:65536<OJ.length->overB X.N X.C cores l T:=fun h=>by unfold overB;rw [<-hOJ] at h;omega
    rw [hOJ] at hq2 hrl ⊢
    repeat' (conv=>whnf);first|refine VSeq.go ?_|refine oN fun _=>?_|refine oS (fun _=>?_) fun _=>?_|refine oA ?_
    all_goals (conv=>whnf)
    ·exact ⟨fun w' hw'=>⟨fun _=>⟨rfl,hw'.le .nil⟩,fun hno=>absurd (hOb qZ) hno⟩⟩
    ·refine VNext.mk (t+1,m2,q2,qc2) ⟨by dsimp only;omega,hnx,by dsimp only;rw [hOJ];omega,by dsimp only;rw [hOJ];exact hq2⟩ (by dsimp only;omega) (by dsimp only;rw [hOJ];exact aE) ?_
     dsimp only
     rw [hOJ]
     exact aH
 have hte:T=t:=by omega
 subst hte
 have hno:¬overB X.N X.C cores l T:=by unfold overB;omega
 have hw2:=hm.wrk
 rw [hw2]
 repeat' (conv=>whnf);first|refine VSeq.go ?_|refine oN fun _=>?_|refine oS (fun _=>?_) fun _=>?_|refine oA ?_
 all_goals (conv=>whnf)
 exact ⟨fun w' hw'=>⟨fun h=>absurd h hno,fun _=>⟨(newX X.N X.C cores z,q,qc),rfl,hw'.le aH⟩⟩⟩
end Go.Proofs
end
