import Derived.Test.YtlbekjokdlkghaaGreatChipMovesMr
import Derived.Test.YtlbekjokdlkghaaGreatChipMovesPg
import Derived.Test.YtlbekjokdlkghaaGreatChipMovesQw
import Derived.Test.YtlbekjokdlkghaaGreatChipMovesKt
import Derived.Test.YtlbekjokdlkghaaGreatChipMovesRul
import Derived.Test.YtlbekjokdlkghaaGreatChipMovesRuh
import Derived.Test.YtlbekjokdlkghaaGreatChipMovesNa
set_option linter.unusedVariables false
set_option linter.unusedSimpArgs false
set_option maxHeartbeats 4000000
section
namespace Go.Gm
def gQ0 (x:Int)(k:Nat):Nat:=(((List.range k).map fun (j:Nat)=>((2 ^ j:Nat):Int)).filter fun b=>decide (b≠16)).countP fun b=>decide (bH9 x b)
theorem gC5 (x:Int)(k:Nat):gQ0 x (k+1)=gQ0 x k+if ((2 ^ k:Nat):Int)≠16/\bH9 x ((2 ^ k:Nat):Int) then 1 else 0:=by
 unfold gQ0
 rw [Qz,ql,Qa,List.countP_append]
 congr 1
 simp only [qI,QA]
 generalize ((2 ^ k:Nat):Int)=b
 by_cases h:b=16
 ·subst h;simp
 ·by_cases h2:bH9 x b<;>simp [h,h2]
theorem gC6 (x:Int):gQ0 x 5=cX5 x:=rfl
theorem kK6 (x:Int)(k:Nat):gQ0 x k<=k:=by
 unfold gQ0
 refine Qb qT (Qb (qD _ _) ?_)
 simp
end Go.Gm
namespace Go.Proofs
open Go Go.Vx Go.Gm
theorem kF8 {a b:Nat}(ha:a<2 ^ 63)(hb:b<2 ^ 63):cP5 .and .i64 (a:Int) (b:Int)=((a&&&b:Nat):Int):=by
 unfold cP5
 dsimp only
 have hbb:IntKind.i64.bits=64:=rfl
 have h1:(BitVec.ofInt IntKind.i64.bits (a:Int)&&&BitVec.ofInt IntKind.i64.bits (b:Int)).toNat=a&&&b:=by
  rw [BitVec.toNat_and]
  have e1:(BitVec.ofInt IntKind.i64.bits (a:Int)).toNat=a:=by rw [BitVec.toNat_ofInt,hbb];omega
  have e2:(BitVec.ofInt IntKind.i64.bits (b:Int)).toNat=b:=by rw [BitVec.toNat_ofInt,hbb];omega
  rw [e1,e2]
 have h2:a&&&b<=a:=Nat.and_le_left
 rw [h1,wrap_i64 qZ qZ]
theorem _root_.Go.Vx.VBit.and {a b:Int}{k:Int->Prop}(ha:0<=a/\a<=4611686018427387904)(hb:0<=b/\b<=4611686018427387904)(hk:k ((a.toNat&&&b.toNat:Nat):Int)):VBit .and .i64 a b k:=by
 refine .mk ?_
 have:=kF8 (a:=a.toNat) (b:=b.toNat) qZ qZ
 rw [Ql ha.1,Ql hb.1] at this
 rw [this]
 exact hk
theorem _root_.Go.Vx.gP0 {a:Int}{k:Int->Prop}(h:0<=a/\a<=1073741824)(hk:k (a*2)):VShL .i64 a 1 k:=by
 refine .mk qZ ?_
 have e:min (1:Int).toNat (IntKind.i64.bits)=1:=rfl
 rw [e]
 have e2:a*2 ^ 1=a*2:=by omega
 rw [e2,wrap_i64 qZ qZ]
 exact hk
theorem hW4 {α:Type}{w0:World}{H:HP}{K:Value->HP->Prop}(o:List Int)(ho:bF7 o)(hol:o.length<=65536)(t1 t2 t3:Value)(po:Option Addr)(co bo oo:Nat)(h1:Sl w0 bQ6 1 o po o.length bo oo)(l b1:Nat)(I:Nat->Nat->α->Prop)(G:α->HP)(x0:α)(h0:I 0 0 x0)
  (hH:HLe (.row b1 169 [t1,t2,t3,.slice po o.length co]::G x0) H)
  (step:∀i k v x,o[i]? =some v->k<5->bH9 v ((2 ^ k:Nat):Int)->I i k x->
   VYield Tryz.cx.P w0 [] (.row b1 169 [t1,t2,t3,.slice po o.length co]::G x) l [.agg #[.int .i64 (i:Int),.int .i64 ((2 ^ k:Nat):Int)]] fun r H'=>(r=.bool true/\∃y,I i (k+1) y/\HLe (.row b1 169 [t1,t2,t3,.slice po o.length co]::G y) H')\/(r=.bool false/\K (.tuple #[]) H'))
  (skip:∀i k v x,o[i]? =some v->k<5->¬bH9 v ((2 ^ k:Nat):Int)->I i k x->I i (k+1) x)
  (next:∀i v x,o[i]? =some v->I i 5 x->I (i+1) 0 x)
  (fin:∀x,I o.length 0 x->K (.tuple #[]) (.row b1 169 [t1,t2,t3,.slice po o.length co]::G x)):
  VCall Tryz.cx.P w0 [] H 178 [.func (.yield l) #[] #[],.pointer (some ⟨b1,0,none⟩)] K:=by
 refine VCall.le hH ?_
 refine VCall.inl (F:=kL4) Tryz.func178 rfl rfl rfl lK8 ?_
 repeat' (conv=>whnf);first|refine VSeq.go ?_|refine oN fun _=>?_|refine oL ?_|refine oA ?_
 all_goals (conv=>whnf)
 refine VLoop.mk (α:=Nat×α) (fun z=>z.1<=o.length/\I z.1 0 z.2) (fun z=>[(1000000,.tuple #[]),(0,.func (.yield l) #[] #[]),(7,.slice po o.length co),(8,.int .i64 (o.length:Int)),(9,.int .i64 (z.1:Int))])
  (fun z=>.row b1 169 [t1,t2,t3,.slice po o.length co]::G z.2) (fun z=>o.length - z.1) (0,x0) ⟨qB _,h0⟩ aE aH ?_
 rintro ⟨i,x⟩ ⟨hi,hI⟩
 dsimp only at hi hI ⊢
 rcases qy i o.length with hlt|hge
 ·obtain ⟨v,hv⟩:=h1.get hlt
  have hvr:=ho v (qz hv)
  repeat' (conv=>whnf);first|(refine VIx.is ?_;refine VIx.mk (h1.ptr qZ) qZ qZ ?_)|(refine VLd.is ?_;refine oC (h1.rd0 oU oR hv rfl) ?_)|refine VSeq.go ?_|refine oY fun _=>?_
  all_goals (conv=>whnf)
  refine VLoop.mk (α:=Nat×α) (fun z=>z.1<=5/\I i z.1 z.2) (fun z=>[(1000000,.tuple #[]),(0,.func (.yield l) #[] #[]),(3,.int .i64 (i:Int)),(4,.int .i64 v),(5,.int .i64 ((2 ^ z.1:Nat):Int)),(7,.slice po o.length co),(8,.int .i64 (o.length:Int)),(9,.int .i64 (i:Int))])
   (fun z=>.row b1 169 [t1,t2,t3,.slice po o.length co]::G z.2) (fun z=>5 - z.1) (0,x) ⟨by dsimp only;omega,hI⟩ aE aH ?_
  rintro ⟨k,x⟩ ⟨hk,hI⟩
  dsimp only at hk hI ⊢
  rcases qy k 5 with hk5|hk5
  ·have hst:=step i k v x hv hk5
   have hsk:=skip i k v x hv hk5
   have hp1:2 ^ (k+1)=2*2 ^ k:=by rw [Nat.pow_succ];omega
   have hp2:2 ^ k<=16:=by
    have:(2:Nat) ^ k<=2 ^ 4:=Nat.pow_le_pow_right qZ qZ
    omega
   obtain ⟨pw,hpw⟩:=gX (2 ^ k)
   have hhas:bH9 v (pw:Int)<->((v.toNat&&&(pw:Int).toNat:Nat):Int)≠0:=by
    unfold bH9
    omega
   rw [hpw] at hst hsk hp1 hp2 ⊢
   have hsl:(pw:Int)*2=((2 ^ (k+1):Nat):Int):=by rw [hp1];omega
   repeat' (conv=>whnf);first|(refine VShL.is ?_;refine gP0 qZ ?_;rw [hsl])|(refine VBit.is ?_;refine VBit.and qZ qZ ?_)|(refine VYield.is ?_;refine VYield.hle (VYield.mono (VYield.weak ?_ (hst (hhas.2 qZ) hI)) fun r H' hr=>?_);(focus (exact aH));rcases hr with ⟨rfl,y,hy,hl⟩|⟨rfl,hK⟩<;>first|refine ⟨_,hl,?_⟩|refine ⟨_,HLe.refl _,?_⟩)|refine VSeq.go ?_|refine oY fun _=>?_|refine oS (fun _=>?_) fun _=>?_
   all_goals (conv=>whnf)
   ·exact VNext.mk (k+1,y) ⟨by dsimp only;omega,hy⟩ (by dsimp only;omega) aE aH
   ·exact hK
   ·exact VNext.mk (k+1,x) ⟨by dsimp only;omega,hsk (fun h=>absurd (hhas.1 h) qZ) hI⟩ (by dsimp only;omega) aE aH
  have hk5':k=5:=by omega
  subst hk5'
  repeat' (conv=>whnf);first|refine VSeq.go ?_|refine oN fun _=>?_|refine oL ?_|refine oA ?_
  all_goals (conv=>whnf)
  exact VNext.mk (i+1,x) ⟨by dsimp only;omega,next i v x hv hI⟩ (by dsimp only;omega) aE aH
 have hil:i=o.length:=by omega
 subst hil
 repeat' (conv=>whnf);first|refine VSeq.go ?_|refine oN fun _=>?_|refine oL ?_|refine oA ?_
 all_goals (conv=>whnf)
 exact fin x hI
end Go.Proofs
end

section
namespace Go.Gm
def gR5 (o:List Int)(i k:Nat):Nat:=bK7 (o.take i)+gQ0 (o[i]?.getD 0) k
theorem dF8 {o:List Int}{i:Nat}{v:Int}(h:o[i]? =some v):bK7 (o.take (i+1))=bK7 (o.take i)+cX5 v:=by
 unfold bK7
 rw [qi,h,qW,ql,List.sum_append]
 simp
theorem hM8 (o:List Int):gR5 o 0 0=0:=rfl
theorem fD6 {o:List Int}{i k:Nat}{v:Int}(h:o[i]? =some v):gR5 o i (k+1)=gR5 o i k+if ((2 ^ k:Nat):Int)≠16/\bH9 v ((2 ^ k:Nat):Int) then 1 else 0:=by
 unfold gR5
 rw [h,qY,gC5];omega
theorem kF0 {o:List Int}{i:Nat}{v:Int}(h:o[i]? =some v):gR5 o i 5=gR5 o (i+1) 0:=by
 unfold gR5
 rw [dF8 h,h,qY,gC6]
 rfl
theorem kF1 (o:List Int):gR5 o o.length 0=bK7 o:=by
 unfold gR5
 rw [Qk]
 rfl
theorem fB2 (o:List Int):bK7 o<=4*o.length:=by
 unfold bK7
 induction o with
 |nil=>simp
 |cons v o ih=>
  rw [qI,List.sum_cons,qR]
  have:cX5 v<=4:=by unfold cX5;exact qT ..
  omega
theorem lQ9 (o:List Int)(i k:Nat):gR5 o i k<=4*o.length+k:=by
 have h1:=fB2 (o.take i)
 have h2:=kK6 (o[i]?.getD 0) k
 rw [qh] at h1
 unfold gR5
 omega
end Go.Gm
namespace Go.Proofs
open Go Go.Vx Go.Gm
theorem gM7 (o:List Int)(ho:bF7 o)(hol:o.length<=65536)(t1 t2 t3:Value)(hone:bK6 [t1,t2,t3]=true)(po:Option Addr)(co bo oo:Nat)(w:World)(h1:Sl w bQ6 1 o po o.length bo oo):
  Calls Tryz.prog 61 #[.agg #[t1,t2,t3,.slice po o.length co]] w fun e w'=>e=.returned (.int .i64 (bK7 o:Int))/\St w [] [] w':=by
 refine enter (C:=Tryz.cx) (F:=mF9) (args:=[_]) Tryz.func61 rfl rfl rfl ok61 (St.start w []) ?_
 repeat' (conv=>whnf);first|(refine VNew.mk fun b3=>?_)|(refine bQ0 113 ?_;refine VCall.inl (F:=kW7) Tryz.func113 rfl rfl rfl kR2 ?_)|(refine VRange.go (ms:=[]) rfl fun hokx hoky l d L hL=>?_)|refine VSeq.go ?_|refine oL ?_|refine oT ?_
 all_goals (conv=>whnf)
 rename_i bx bc
 refine hW4 o ho hol t1 t2 t3 po co bo oo h1 l b3 (α:=Nat) (fun i k n=>n=gR5 o i k) (fun n=>L .ready none::.obj d (.deferred (some []))::.row bc 3 [.int .i64 (n:Int)]::[]) 0 (hM8 o).symm aH ?_ ?_ ?_ ?_
 ·rintro i k v n hv hk hb rfl
  have hnx:=fD6 (k:=k) hv
  have hle:=lQ9 o i k
  have hp2:2 ^ k<=16:=by
   have:(2:Nat) ^ k<=2 ^ 4:=Nat.pow_le_pow_right qZ qZ
   omega
  obtain ⟨n,hn⟩:=gX (gR5 o i k)
  obtain ⟨pw,hpw⟩:=gX (2 ^ k)
  rw [hpw] at hnx hb hp2 ⊢
  rw [hn] at hnx hle ⊢
  refine VYield.go hL hokx hoky aT rfl ?_
  repeat' (conv=>whnf);first|(refine VBegin.is ?_;refine VBegin.mk aT ?_)|(refine VNew.mk fun b4=>?_)|refine VSeq.go ?_|refine oS (fun _=>?_) fun _=>?_|refine oL ?_|refine oT ?_|refine oA ?_
  all_goals (conv=>whnf)
  ·refine VRound.mk aT ?_
   rw [jw ⟨by omega,hb⟩] at hnx
   exact .inl ⟨rfl,n+1,hnx.symm,by exact aH⟩
  ·refine VRound.mk aT ?_
   rw [jk (fun h=>absurd h.1 qZ)] at hnx
   exact .inl ⟨rfl,n,hnx.symm,by exact aH⟩
 ·rintro i k v n hv hk hb rfl
  have hnx:=fD6 (k:=k) hv
  rw [jk (fun h=>hb h.2)] at hnx
  exact hnx.symm
 ·rintro i v n hv rfl
  exact kF0 hv
 ·rintro n rfl
  rw [kF1]
  repeat' (conv=>whnf);first|(refine VEnd.is ?_;refine VEnd.mk aT oU ?_)|(refine VUn.is ?_;refine VUn.mk aT ?_)|refine VSeq.go ?_|refine oL ?_
  all_goals (conv=>whnf)
  exact ⟨fun w' hw'=>⟨rfl,hw'.le .nil⟩⟩
end Go.Proofs
end

section
namespace Go.Gm
def gZ0 (N:Net)(C:Chp)(cores:List Int)(k:Nat):Nat:=((((List.range k).map fun (j:Nat)=>(j:Int)).filter fun key=>decide (∃s∈N.syns,bG1 N s.frm=key)).map fun key=>bK7 (bQ5 N C cores key)).sum
theorem cD2 {N:Net}{key:Int}:(∃s∈N.syns,bG1 N s.frm=key)<->cK1 N N.syns key≠[]:=by
 constructor
 ·rintro ⟨s,hs,hk⟩ he
  have:=cG1.2 ⟨s,hs,hk,rfl⟩
  rw [he] at this
  cases this
 ·intro h
  obtain ⟨t,ht⟩:=List.exists_mem_of_ne_nil _ h
  obtain ⟨s,hs,hk,_⟩:=cG1.1 ht
  exact ⟨s,hs,hk⟩
theorem cG3 (N:Net)(C:Chp)(cores:List Int)(k:Nat):gZ0 N C cores (k+1)=gZ0 N C cores k+if cK1 N N.syns (k:Int)≠[] then bK7 (bQ5 N C cores (k:Int)) else 0:=by
 unfold gZ0
 rw [Qz,ql,Qa,ql,List.sum_append]
 congr 1
 simp only [qI,QA]
 by_cases h:cK1 N N.syns (k:Int)≠[]
 ·rw [jw h,List.filter_cons,jw (decide_eq_true (cD2.2 h))]
  simp
 ·rw [jk h,List.filter_cons,jk (fun h2=>h (cD2.1 (of_decide_eq_true h2)))]
  simp
theorem dW2 {N:Net}{C:Chp}(h:ChpOk C)(cores:List Int)(key:Int):bK7 (bQ5 N C cores key)<=256:=by
 have h1:=fB2 (bQ5 N C cores key)
 have h2:=(bX6 h).2.2
 have h3:(bQ5 N C cores key).length=bX1 C:=bW2 ..
 omega
theorem gH7 {N:Net}{C:Chp}(h:ChpOk C)(cores:List Int):∀k,gZ0 N C cores k<=256*k
 |0=>qA _
 |k+1=>by
  have h1:=gH7 (N:=N) h cores k
  have h2:=dW2 (N:=N) h cores (k:Int)
  rw [cG3]
  split<;>omega
end Go.Gm
namespace Go.Proofs
open Go Go.Vx Go.Gm
theorem gB7 (N:Net)(C:Chp)(cores:List Int):gS1 N C cores=if Gm.planE N C≠0 then Gm.planE N C else lZ5 N C cores:=rfl
theorem fS2 (X:PlnX)(w:World)(hX:PlnRd X w)(he:Gm.planE X.N X.C≠0)(cs:Value)(hone:cs.oneCell'=true):
  Calls Tryz.prog 55 #[.agg X.net.toArray,.agg (bD5 X.C X.pd X.cd).toArray,cs] w fun e w'=>e=.returned (.tuple #[.pointer none,.int .i64 (Gm.planE X.N X.C)])/\St w [] [] w':=by
 have hnp:=fun (w':World) h=>dM1 X w' h he
 obtain ⟨E,hE⟩:=gX (Gm.planE X.N X.C)
 rw [hE] at hnp he ⊢
 unfold PlnX.net bD5 at hnp ⊢
 refine enter (C:=Tryz.cx) (F:=mJ9) (args:=[_,_,_]) Tryz.func55 rfl rfl rfl mY1 (St.start w []) ?_
 repeat' (conv=>whnf);first|(refine bQ0 108 ?_;(refine bQ4 (fun w' hw'=>hnp w' (hX.keep hw')) ?_))|refine VSeq.go ?_|refine oY fun _=>?_|refine oL ?_|refine oV fun _=>?_
 all_goals (conv=>whnf)
 all_goals first
  |exact ⟨fun w' hw'=>⟨rfl,hw'.le .nil⟩⟩
  |(exfalso;omega)
theorem dG1 (X:PlnX)(w:World)(hX:PlnRd X w)(he:Gm.planE X.N X.C=0)(cores:List Int)(hcw:∀k∈cores,I64 k)(hlc:cores.length<=1000000)(p:Option Addr)(c b o:Nat)(h1:Sl w bQ6 1 cores p cores.length b o):
  Calls Tryz.prog 55 #[.agg X.net.toArray,.agg (bD5 X.C X.pd X.cd).toArray,.slice p cores.length c] w fun e w'=>∃x:PlnM,e=.returned (.tuple #[.pointer (some ⟨x.b,0,none⟩),.int .i64 (lZ5 X.N X.C cores)])/\PlnUp X X.N.syns x/\St w [] (fQ3 X x) w':=by
 have hnp:=fun (w':World) h=>dM2 X w' h he
 have hck:=fun (x:PlnM) (w':World)=>gN1 X x cores hcw hlc p c b o w'
 have hok:=cR1 he
 unfold PlnX.net bD5 at hnp ⊢
 refine enter (C:=Tryz.cx) (F:=mJ9) (args:=[_,_,_]) Tryz.func55 rfl rfl rfl mY1 (St.start w []) ?_
 repeat' (conv=>whnf);first|(refine bQ0 108 ?_;(refine bQ2 (fun w' hw'=>hnp w' (hX.keep hw')) ?_;rintro x hup))|(refine bQ0 109 ?_;(refine bQ4 (fun w' hw'=>hck x w' (PlnAt.of hok hup (hX.keep hw') hw' aH) (h1.keep hw' oU)) ?_))|refine VSeq.go ?_|refine oN fun _=>?_|refine oL ?_|refine oV fun _=>?_
 all_goals (conv=>whnf)
 exact ⟨fun w' hw'=>⟨x,rfl,hup,hw'.le aH⟩⟩
end Go.Proofs
end

section
namespace Go.Gm
def bK3 (N:Net)(k:Nat):List Int:=((List.range k).map fun (j:Nat)=>(j:Int)).filter fun key=>decide (∃s∈N.syns,bG1 N s.frm=key)
theorem hH3 (N:Net):bK3 N (bV2 N)=bX0 N:=rfl
theorem dT6 (N:Net):bK3 N 0=[]:=rfl
theorem dT7 (N:Net)(k:Nat):bK3 N (k+1)=bK3 N k++if cK1 N N.syns (k:Int)≠[] then [(k:Int)] else []:=by
 unfold bK3
 rw [Qz,ql,Qa]
 congr 1
 simp only [qI,QA]
 by_cases h:cK1 N N.syns (k:Int)≠[]
 ·rw [jw h,List.filter_cons,jw (decide_eq_true (cD2.2 h))];rfl
 ·rw [jk h,List.filter_cons,jk (fun h2=>h (cD2.1 (of_decide_eq_true h2)))];rfl
theorem bP6 {N:Net}{k:Nat}{x:Int}(h:x∈bK3 N k):0<=x/\x<k:=by
 unfold bK3 at h
 rw [qP,qo] at h
 obtain ⟨⟨j,hj,rfl⟩,_⟩:=h
 rw [qL] at hj
 omega
theorem hH2 (N:Net)(k:Nat):(bK3 N k).Pairwise fun a b=>a<b:=by
 unfold bK3
 refine List.Pairwise.filter _ ?_
 rw [List.pairwise_map]
 exact List.pairwise_lt_range.imp fun h=>by omega
theorem bL4 (N:Net)(k:Nat):(bK3 N k).length<=k:=by
 unfold bK3
 refine Qb (qD _ _) ?_
 simp
def fV0 (T:Int->List Int)(keys:List Int)(en:Int)(r:Nat):List Ety:=
 if ((bW3 T keys r).length:Int)<=en then bW3 T keys r else dQ3 (bW3 T keys r) ((bW3 T keys r).map (·.key))
structure MapM where
 cores:List Int
 slots:List Int
 quant:QR
 rows:List (List RowE)
 tables:List (List Ety)
 waves:List Int
 cost:Int
 load:Int
 steps:Int
def dF4:MapM:=⟨[],[],kC5,[],[],[],0,0,0⟩
def cJ5 (N:Net)(q:List Int):List (Syn×Int):=N.syns.zip q
def bK9 (N:Net)(C:Chp)(cores:List Int):List (List Ety):=(List.range (bX1 C)).map (fV0 (bQ5 N C cores) (bX0 N) C.en)
def bV5 (N:Net)(C:Chp)(cores:List Int):Int:=if gS1 N C cores≠0 then gS1 N C cores else if∃t∈bK9 N C cores,¬(t.length:Int)<=C.en then 15 else 0
def bX4 (N:Net)(C:Chp)(cores:List Int):List (List Int):=bT6 (bQ5 N C cores) C.mesh.room (bX0 N)
def bC5 (N:Net)(C:Chp)(cores:List Int):MapM:=if bV5 N C cores≠0 then dF4 else
 ⟨cores,bM0 cores,bQ9 N C.bits,(List.range (bX1 C)).map fun (k:Nat)=>bM1 N cores (cJ5 N (bQ9 N C.bits).quots) (k:Int),bK9 N C cores,
  (List.range (bV2 N)).map fun (k:Nat)=>bW0 (bX4 N C cores) (k:Int),(bM9 N C cores:Int),(bJ7 ((bX0 N).map (bQ5 N C cores)):Int),(dN7 C.mesh.wide (bQ5 N C cores) (bJ2 N cores) (bX7 N C cores) (bX4 N C cores):Int)⟩
end Go.Gm
end

section
namespace Go.Gm
theorem bV9 {N:Net}{C:Chp}{cores:List Int}{key k:Int}:k∈bX7 N C cores key<->(0<=k/\k<bX1 C)/\∃s∈N.syns,bG1 N s.frm=key/\cores[s.to.toNat]? =some k:=by
 unfold bX7
 rw [qP,jy]
 have:=kK0 (C:=C) (k:=k)
 unfold mV1 at this
 rw [this]
theorem dX0 (N:Net)(C:Chp)(cores:List Int)(key:Int):(bX7 N C cores key).Nodup:=by
 unfold bX7
 refine List.Pairwise.filter _ ?_
 rw [List.pairwise_map]
 exact List.nodup_range.imp fun h e=>h qZ
theorem lQ4 {N:Net}{C:Chp}{cores:List Int}(h:AsgOk N C cores){s:Syn}(hs:s∈N.syns):∃d,cores[s.to.toNat]? =some d/\(0<=d/\d<bX1 C):=by
 have ht:=(h.plan.net.syns s hs).2.1
 have hl:=h.len
 have hlt:s.to.toNat<cores.length:=by omega
 refine ⟨cores[s.to.toNat],qq hlt,?_⟩
 have:=(h.core _ (Qu hlt)).1
 have:=(bX6 h.plan.chip).1
 omega
theorem home_range {N:Net}{C:Chp}{cores:List Int}(h:AsgOk N C cores)(key:Int)(hk:0<=key):0<=bJ2 N cores key/\bJ2 N cores key<bX1 C:=by
 have hn:=bX6 h.plan.chip
 unfold bJ2
 split
 ·have hlt:key.toNat<cores.length:=by have:=h.len;omega
  rw [qq hlt,qY]
  have:=(h.core _ (Qu hlt)).1
  omega
 ·omega
end Go.Gm
end

section
namespace Go.Gm
theorem gB5 {key:Int}(h:0<=key/\key<=65535):fM7 key 65535=key:=by
 unfold fM7
 have e:(65535:Int).toNat=2 ^ 16 - 1:=rfl
 rw [e,Nat.and_two_pow_sub_one_eq_mod]
 omega
theorem cR6 {T:Int->List Int}{r:Nat}{key:Int}(hk:0<=key/\key<=65535)(h0:(T key)[r]?.getD 0≠0):∀{keys:List Int},key∈keys->bH0 (bW3 T keys r) key=some ((T key)[r]?.getD 0)
 |[],h=>by simp at h
 |a::l,h=>by
  by_cases ha:a=key
  ·subst ha
   have e:cC0 T r a=some ⟨a,65535,(T a)[r]?.getD 0⟩:=by unfold cC0;dsimp only;rw [if_neg h0]
   unfold bW3 bH0
   rw [List.filterMap_cons,e]
   dsimp only
   rw [List.find?_cons_of_pos (by rw [jy];exact gB5 hk)]
   rfl
  ·have hl:key∈l:=(qQ.1 h).resolve_left (fun e=>ha e.symm)
   have ih:=cR6 hk h0 hl
   unfold bW3 at ih ⊢
   rw [List.filterMap_cons]
   cases he:cC0 T r a with
   |none=>exact ih
   |some x=>
    have hx:=(cS0 he).1
    unfold bH0 at ih ⊢
    dsimp only
    rw [List.find?_cons_of_neg (by rw [hx,jy,gB5 hk];exact fun e=>ha e.symm)]
    exact ih
theorem dF3 {want:List Ety}{keys:List Int}:∀(n:Nat) (l:List Ety),(∀x∈l,EtyOk x)->cK6 want l keys=true->(∀x∈dQ4 want keys n l,EtyOk x)/\cK6 want (dQ4 want keys n l) keys=true
 |0,l,h1,h2=>⟨h1,h2⟩
 |n+1,l,h1,h2=>by
  unfold dQ4
  cases h:bK2 want l keys with
  |none=>exact ⟨h1,h2⟩
  |some t=>
   obtain ⟨h3,h4⟩:=dQ2 h1 h
   exact dF3 n t h3 h4
theorem fW9 {T:Int->List Int}(hT:∀k,bF7 (T k)){keys:List Int}(hk:∀k∈keys,0<=k/\k<=65535)(en:Int)(r:Nat):(∀x∈fV0 T keys en r,EtyOk x)/\∀key∈keys,(T key)[r]?.getD 0≠0->bH0 (fV0 T keys en r) key=some ((T key)[r]?.getD 0):=by
 have h1:=gV1 hT hk r
 unfold fV0
 split
 ·exact ⟨h1,fun key hm h0=>cR6 (hk key hm) h0 hm⟩
 ·obtain ⟨h2,h3⟩:=dF3 (want:=bW3 T keys r) (keys:=(bW3 T keys r).map (·.key)) (bW3 T keys r).length _ h1 (dC0 _ _)
  refine ⟨h2,fun key hm h0=>?_⟩
  unfold cK6 at h3
  rw [List.all_eq_true] at h3
  have h4:=h3 key (by rw [dN5,qP];exact ⟨hm,by rw [jy];exact h0⟩)
  rw [jy] at h4
  unfold dQ3
  rw [<-h4]
  exact cR6 (hk key hm) h0 hm
theorem hK1 {W:Int}(hW:0<W){t:Int}:∀(n:Nat) (r:Int),bG0 W r t=n->t∈rte W r t
 |0,r,hn=>by
  have:r=t:=(bG6 hW).1 hn
  subst this
  rw [cQ8 W r hW];exact qg
 |n+1,r,hn=>by
  have hne:r≠t:=fun h=>by rw [(bG6 hW).2 h] at hn;omega
  have hd:=bL9 hW hne
  rw [cQ7 hW hne]
  exact qu _ (hK1 hW n _ qZ)
theorem kF9 {x:Int}(h:0<=x/\x<32)(h0:x≠0):∃o,o<5/\bH9 x (bK1 o):=by
 have key:∀n:Nat,n<32->n≠0->∃o:Nat,o<5/\n&&&2 ^ o≠0:=by decide
 obtain ⟨o,h1,h2⟩:=key x.toNat qZ qZ
 exact ⟨o,h1,by unfold bH9 bK1;rw [jf];exact h2⟩
theorem gK8 (W r t:Int):∃o,o<5/\bY2 W r t=bK1 o:=by
 rcases cY6 W r t with h|h|h|h|h
 ·exact ⟨0,by omega,h⟩
 ·exact ⟨1,by omega,h⟩
 ·exact ⟨2,by omega,h⟩
 ·exact ⟨3,by omega,h⟩
 ·exact ⟨4,by omega,h⟩
def bY3 (N:Net)(C:Chp)(cores:List Int)(ks:List Int)(L:Nat):RCtx:=
 ⟨C.mesh,bX1 C,bK9 N C cores,ks.map fun k=>⟨(bJ2 N cores k).toNat,k⟩,L,fun p r=>(bQ5 N C cores (ks[p]?.getD 0))[r]?.getD 0,fun p r=>bG0 C.mesh.wide (bJ2 N cores (ks[p]?.getD 0)) (r:Int)⟩
section
variable {N : Net} {C : Chp} {cores : List Int} {ks : List Int} {L : Nat}
theorem dK8 (hA:AsgOk N C cores){key:Int}(hk:0<=key){r o:Nat}(ho:o<5):bH9 ((bQ5 N C cores key)[r]?.getD 0) (bK1 o)<->∃t∈bX7 N C cores key,(r:Int)∈rte C.mesh.wide (bJ2 N cores key) t/\bY2 C.mesh.wide (r:Int) t=bK1 o:=by
 have hn:=bX6 hA.plan.chip
 have hh:=home_range hA key hk
 have hw:=hA.plan.chip.mesh.wide
 have h:=dS8 (W:=C.mesh.wide) (H:=C.mesh.high) (src:=bJ2 N cores key) qZ qZ (cV0 ho) (q:=(r:Int)) qZ (ts:=bX7 N C cores key) (fun t ht=>by have:=(bV9.1 ht).1;omega)
 unfold hB6 at h
 rw [jf] at h
 exact h
theorem gK6 (hA:AsgOk N C cores){key:Int}(hk:0<=key){r:Nat}:(bQ5 N C cores key)[r]?.getD 0≠0<->∃t∈bX7 N C cores key,(r:Int)∈rte C.mesh.wide (bJ2 N cores key) t:=by
 have hok:bF7 (bQ5 N C cores key):=tree_ok _ _ _ _
 constructor
 ·intro h0
  have hx:0<=(bQ5 N C cores key)[r]?.getD 0/\(bQ5 N C cores key)[r]?.getD 0<32:=by
   cases h:(bQ5 N C cores key)[r]? with
   |none=>rw [h] at h0;exact absurd rfl h0
   |some x=>exact hok x (qz h)
  obtain ⟨o,h1,h2⟩:=kF9 hx h0
  obtain ⟨t,h3,h4,_⟩:=(dK8 hA hk h1).1 h2
  exact ⟨t,h3,h4⟩
 ·rintro ⟨t,h3,h4⟩ h0
  obtain ⟨o,h1,h2⟩:=gK8 C.mesh.wide (r:Int) t
  have:=(dK8 hA hk h1).2 ⟨t,h3,h4,h2⟩
  rw [h0] at this
  exact bM5 _ this
theorem kZ7 {W a b:Int}{o:Nat}(ho:o<4)(h:bZ8 W a (bK1 o)=bZ8 W b (bK1 o)):a=b:=by
 have h4:o=0\/o=1\/o=2\/o=3:=by omega
 rcases h4 with rfl|rfl|rfl|rfl
 ·have e:bK1 0=1:=rfl
  rw [e] at h
  unfold bZ8 at h
  rw [jw rfl,jw rfl] at h
  omega
 ·have e:bK1 1=2:=rfl
  rw [e] at h
  unfold bZ8 at h
  rw [jk qZ,jw rfl,jk qZ,jw rfl] at h
  omega
 ·have e:bK1 2=4:=rfl
  rw [e] at h
  unfold bZ8 at h
  rw [jk qZ,jk qZ,jw rfl,jk qZ,jk qZ,jw rfl] at h
  omega
 ·have e:bK1 3=8:=rfl
  rw [e] at h
  unfold bZ8 at h
  rw [jk qZ,jk qZ,jk qZ,jw rfl,jk qZ,jk qZ,jk qZ,jw rfl] at h
  omega
theorem gT9 {l:List Int}{P:Int->Bool}:(List.range l.length).countP (fun p=>P (l[p]?.getD 0))=l.countP P:=by
 have h:(List.range l.length).map (fun p=>l[p]?.getD 0)=l:=by
  apply qp
  intro i
  rw [qj]
  rcases qy i l.length with hi|hi
  ·rw [qX hi,qV,qq hi,qY]
  ·rw [qf (by rw [Qg];exact hi),qf hi];rfl
 conv=>rhs;rw [<-h]
 rw [List.countP_map]
 rfl
theorem bF0 {key:Int}(h:key∈bX0 N):(0<=key/\key<bV2 N)/\∃s∈N.syns,bG1 N s.frm=key:=by
 unfold bX0 at h
 rw [qP,jy] at h
 obtain ⟨h1,h2⟩:=h
 obtain ⟨k,hk,rfl⟩:=qo.1 h1
 rw [qL] at hk
 exact ⟨⟨by omega,by omega⟩,h2⟩
theorem gQ5 (hA:AsgOk N C cores){key:Int}(h:key∈bX0 N):∃t,t∈bX7 N C cores key:=by
 obtain ⟨_,s,hs,hk⟩:=bF0 h
 obtain ⟨d,h1,h2⟩:=lQ4 hA hs
 exact ⟨d,bV9.2 ⟨h2,s,hs,hk,h1⟩⟩
theorem kB0 (hA:AsgOk N C cores)(hks:∀k∈ks,k∈bX0 N)(hload:∀r o,o<5->bS5 (ks.map (bQ5 N C cores)) ((r:Nat),bK1 o)<=L)(hroom:(L:Int)<=C.mesh.room):RCtxOk (bY3 N C cores ks L):=by
 have hn:=bX6 hA.plan.chip
 have hw:=hA.plan.chip.mesh.wide
 have hlen:(bY3 N C cores ks L).pk.length=ks.length:=qv _
 have hkey:∀p,p<ks.length->ks[p]?.getD 0∈bX0 N:=fun p hp=>hks _ (by rw [qq hp];exact Qu _)
 have hk0:∀p,p<ks.length->0<=ks[p]?.getD 0:=fun p hp=>(bF0 (hkey p hp)).1.1
 have hhome:∀p,p<ks.length->0<=bJ2 N cores (ks[p]?.getD 0)/\bJ2 N cores (ks[p]?.getD 0)<C.mesh.wide*C.mesh.high:=fun p hp=>by have:=home_range hA _ (hk0 p hp);omega
 have hsrc:∀p,p<ks.length->((bY3 N C cores ks L).src p:Int)=bJ2 N cores (ks[p]?.getD 0):=fun p hp=>by
  have:=(hhome p hp).1
  unfold RCtx.src bY3
  dsimp only
  rw [qj,qq hp] at*
  simp only [qV,qY] at*
  omega
 have htg:∀{key t},t∈bX7 N C cores key->0<=t/\t<C.mesh.wide*C.mesh.high:=fun ht=>by have:=(bV9.1 ht).1;omega
 -- a step
 have hstep:∀p r o,p<ks.length->r<bX1 C->o<4->(bY3 N C cores ks L).has p r o->∃t∈bX7 N C cores (ks[p]?.getD 0),(r:Int)∈rte C.mesh.wide (bJ2 N cores (ks[p]?.getD 0)) t/\bY2 C.mesh.wide (r:Int) t=bK1 o/\
   WayStep C.mesh.wide (bJ2 N cores (ks[p]?.getD 0)) (r:Int) (bZ8 C.mesh.wide (r:Int) (bK1 o)) o/\(r:Int)≠t/\(((bY3 N C cores ks L).nx r o:Nat):Int)=bZ8 C.mesh.wide (r:Int) (bK1 o)/\bZ8 C.mesh.wide (r:Int) (bK1 o)<C.mesh.wide*C.mesh.high:=by
  intro p r o hp hr ho hh
  obtain ⟨t,h1,h2,h3⟩:=(dK8 hA (hk0 p hp) qZ).1 hh
  obtain ⟨h4,h5⟩:=hR8 qZ h2 ho h3
  have h6:=dN8 (W:=C.mesh.wide) (H:=C.mesh.high) (r:=(r:Int)) (t:=t) qZ qZ (htg h1)
  rw [h3] at h6
  refine ⟨t,h1,h2,h3,h4,h5,?_,h6.2⟩
  show ((bZ8 C.mesh.wide (r:Int) (bK1 o)).toNat:Int)=_
  omega
 refine ⟨?_,?_,?_,?_,?_,?_,hroom⟩
 ·intro p r hp hr ho
  rw [hlen] at hp
  have hg:=fW9 (T:=bQ5 N C cores) (fun k=>tree_ok _ _ _ _) (keys:=bX0 N) (fun k hk=>by have:=(bF0 hk).1;have:=hA.plan.few;have hi:=hA.plan.net.inputs;unfold bV2 at*;omega) C.en r
  have e1:((bY3 N C cores ks L).tabs[r]?).getD []=fV0 (bQ5 N C cores) (bX0 N) C.en r:=by
   show ((bK9 N C cores)[r]?).getD []=_
   unfold bK9
   rw [qj,qX (show r<bX1 C from hr)]
   rfl
  have e2:((bY3 N C cores ks L).pk[p]?.map (·.key)).getD 0=ks[p]?.getD 0:=by
   show ((ks.map fun k=>(⟨(bJ2 N cores k).toNat,k⟩:Pkt))[p]?.map (·.key)).getD 0=_
   rw [qj,qq hp]
   rfl
  rw [e1,e2]
  exact hg.2 _ (hkey p hp) ho
 ·intro p hp
  rw [hlen] at hp
  have h1:=hsrc p hp
  have h2:=hhome p hp
  obtain ⟨t,ht⟩:=gQ5 hA (hkey p hp)
  refine ⟨by show _<bX1 C;omega,?_,?_⟩
  ·refine (gK6 hA (hk0 p hp)).2 ⟨t,ht,?_⟩
   rw [h1]
   obtain ⟨l,hl⟩:=dJ1 (W:=C.mesh.wide) (r:=bJ2 N cores (ks[p]?.getD 0)) (t:=t) qZ
   rw [hl];exact qg
  ·show bG0 C.mesh.wide _ ((bY3 N C cores ks L).src p:Int)=0
   rw [h1]
   exact (bG6 qZ).2 rfl
 ·intro p r o hp hr ho hh
  rw [hlen] at hp
  obtain ⟨t,h1,h2,h3,h4,h5,h6,h7⟩:=hstep p r o hp hr ho hh
  have h8:=h4.dist
  have h9:=hF8 (W:=C.mesh.wide) (H:=C.mesh.high) (r:=(r:Int)) (t:=t) qZ (by have:r<bX1 C:=hr;omega) (htg h1)
  rw [h3] at h9
  refine ⟨h9,?_,?_,?_,?_⟩
  ·show (bY3 N C cores ks L).nx r o<bX1 C
   omega
  ·refine (gK6 hA (hk0 p hp)).2 ⟨t,h1,?_⟩
   rw [h6,<-h3]
   exact gW7 qZ _ _ rfl h2 h5
  ·show bG0 C.mesh.wide _ ((bY3 N C cores ks L).nx r o:Int)=bG0 C.mesh.wide _ (r:Int)+1
   rw [h6];exact h8.1
  ·intro h
   refine h8.2 ?_
   rw [<-h6,h]
   exact hsrc p hp
 ·intro p r1 o1 r2 o2 hp hr1 hr2 ho1 ho2 hh1 hh2 he
  rw [hlen] at hp
  obtain ⟨t1,a1,a2,a3,a4,a5,a6,a7⟩:=hstep p r1 o1 hp hr1 ho1 hh1
  obtain ⟨t2,b1,b2,b3,b4,b5,b6,b7⟩:=hstep p r2 o2 hp hr2 ho2 hh2
  rw [<-a6] at a4
  rw [<-b6,<-he] at b4
  have:=a4.uniq b4
  exact ⟨by omega,this.2⟩
 ·intro r1 r2 o hr1 hr2 ho hl1 hl2 he
  have h1:=dF0 (W:=C.mesh.wide) (H:=C.mesh.high) (r:=(r1:Int)) qZ (by have:r1<bX1 C:=hr1;omega) ho hl1
  have h2:=dF0 (W:=C.mesh.wide) (H:=C.mesh.high) (r:=(r2:Int)) qZ (by have:r2<bX1 C:=hr2;omega) ho hl2
  have h3:(bZ8 C.mesh.wide (r1:Int) (bK1 o)).toNat=(bZ8 C.mesh.wide (r2:Int) (bK1 o)).toNat:=he
  have:=kZ7 ho (by omega:bZ8 C.mesh.wide (r1:Int) (bK1 o)=bZ8 C.mesh.wide (r2:Int) (bK1 o))
  omega
 ·intro r o ho
  rw [hlen]
  refine Qb (Nat.le_of_eq ?_) (hload r o ho)
  unfold bS5
  rw [List.countP_map]
  have:=gT9 (l:=ks) (P:=fun k=>decide (bH9 ((bQ5 N C cores k)[r]?.getD 0) (bK1 o)))
  rw [show (List.range ks.length).countP (fun p=>decide ((bY3 N C cores ks L).has p r o))=ks.countP (fun k=>decide (bH9 ((bQ5 N C cores k)[r]?.getD 0) (bK1 o))) from this]
  congr 1
theorem gL6 (hA:AsgOk N C cores)(hks:∀k∈ks,k∈bX0 N):∀p r,p<(bY3 N C cores ks L).pk.length->r<(bY3 N C cores ks L).n->(bY3 N C cores ks L).outs p r≠0->r=(bY3 N C cores ks L).src p\/∃r0 o0,r0<(bY3 N C cores ks L).n/\o0<4/\(bY3 N C cores ks L).has p r0 o0/\(bY3 N C cores ks L).nx r0 o0=r:=by
 intro p r hp hr h0
 have hlen:(bY3 N C cores ks L).pk.length=ks.length:=qv _
 rw [hlen] at hp
 have hn:=bX6 hA.plan.chip
 have hw:=hA.plan.chip.mesh.wide
 have hkey:ks[p]?.getD 0∈bX0 N:=hks _ (by rw [qq hp];exact Qu _)
 have hk0:=(bF0 hkey).1.1
 have hhome:=home_range hA _ hk0
 have hsrc:((bY3 N C cores ks L).src p:Int)=bJ2 N cores (ks[p]?.getD 0):=by
  unfold RCtx.src bY3
  dsimp only
  rw [qj,qq hp] at*
  simp only [qV,qY] at*
  omega
 obtain ⟨t,h1,h2⟩:=(gK6 hA hk0).1 h0
 have ht:=(bV9.1 h1).1
 by_cases hrs:(r:Int)=bJ2 N cores (ks[p]?.getD 0)
 ·left;omega
 ·right
  obtain ⟨z,h3,h4,h5⟩:=gW6 qZ _ _ rfl h2 hrs
  have hz:=cM0 (W:=C.mesh.wide) (H:=C.mesh.high) qZ (t:=t) qZ _ _ rfl qZ z h3
  obtain ⟨o,h6,h7⟩:=gK8 C.mesh.wide z t
  have ho4:o<4:=by
   by_cases h8:o=4
   ·subst h8
    exact absurd ((cY5 qZ).1 (h7.trans (rfl:bK1 4=16))) h4
   ·omega
  have ez:((z.toNat:Nat):Int)=z:=Ql hz.1
  refine ⟨z.toNat,o,by show _<bX1 C;omega,ho4,(dK8 hA hk0 h6).2 ⟨t,h1,by rw [ez];exact h3,by rw [ez];exact h7⟩,?_⟩
  show (bZ8 C.mesh.wide ((z.toNat:Nat):Int) (bK1 o)).toNat=r
  rw [ez,<-h7,h5,jf]
theorem dZ7 (hA:AsgOk N C cores){key:Int}(hk:0<=key){r:Nat}:bH9 ((bQ5 N C cores key)[r]?.getD 0) (bK1 4)<->(r:Int)∈bX7 N C cores key:=by
 have hw:=hA.plan.chip.mesh.wide
 rw [dK8 hA hk qZ]
 constructor
 ·rintro ⟨t,h1,h2,h3⟩
  have:=(cY5 qZ).1 (h3.trans (rfl:bK1 4=16))
  rw [this];exact h1
 ·intro h
  refine ⟨(r:Int),h,?_,(cY5 qZ).2 rfl⟩
  exact hK1 qZ _ _ rfl
end
end Go.Gm
end

section
section
set_option linter.unusedVariables false
namespace Go.Proofs
open Go Go.Vx Go.Gm
end Go.Proofs
end
section
namespace Go.Proofs
open Go Go.Vx Go.Gm
end Go.Proofs
end
end

section
namespace Go.Gm
end Go.Gm
namespace Go.Proofs
open Go Go.Vx Go.Gm
end Go.Proofs
end

section
namespace Go.Gm
end Go.Gm
namespace Go.Proofs
open Go Go.Vx Go.Gm
end Go.Proofs
end

section
namespace Go.Proofs
open Go Go.Vx Go.Gm
theorem home_range {N:Net}{C:Chp}{cores:List Int}(h:AsgOk N C cores){key:Int}(hk:0<=key):0<=bJ2 N cores key/\bJ2 N cores key<C.mesh.wide*C.mesh.high:=by
 have hn:=bX6 h.plan.chip
 unfold bJ2
 split
 ·rename_i hlt
  have hl:key.toNat<cores.length:=by rw [h.len];omega
  rw [qq hl,qY]
  exact (h.core _ (Qu hl)).1
 ·omega
end Go.Proofs
end
