import Derived.Test.YtlbekjokdlkghaaGreatChipKnownMr
import Derived.Test.YtlbekjokdlkghaaGreatChipKnownPg
import Derived.Test.YtlbekjokdlkghaaGreatChipKnownQw
import Derived.Test.YtlbekjokdlkghaaGreatChipKnownPw
import Derived.Test.YtlbekjokdlkghaaGreatChipKnownRul
import Derived.Test.YtlbekjokdlkghaaGreatChipKnownRuh
import Derived.Test.YtlbekjokdlkghaaGreatChipKnownNa
set_option linter.unusedVariables false
set_option linter.unusedSimpArgs false
set_option maxHeartbeats 4000000
section
namespace Go.Gm
def linkK (x:Int)(k:Nat):Nat:=(((List.range k).map fun (j:Nat)=>((2 ^ j:Nat):Int)).filter fun b=>decide (b≠16)).countP fun b=>decide (hasB x b)
theorem linkK_next (x:Int)(k:Nat):linkK x (k+1)=linkK x k+if ((2 ^ k:Nat):Int)≠16/\hasB x ((2 ^ k:Nat):Int) then 1 else 0:=by
 unfold linkK
 rw [Qz,ql,Qa,List.countP_append]
 congr 1
 simp only [qI,QL]
 generalize ((2 ^ k:Nat):Int)=b
 by_cases h:b=16
 ·subst h;simp
 ·by_cases h2:hasB x b<;>simp [h,h2]
theorem linkK_five (x:Int):linkK x 5=linkN x:=rfl
theorem linkK_le (x:Int)(k:Nat):linkK x k<=k:=by
 unfold linkK
 refine Qb qT (Qb (qD _ _) ?_)
 simp
end Go.Gm
namespace Go.Proofs
open Go Go.Vx Go.Gm
theorem bits_and {a b:Nat}(ha:a<2 ^ 63)(hb:b<2 ^ 63):bitsI .and .i64 (a:Int) (b:Int)=((a&&&b:Nat):Int):=by
 unfold bitsI
 dsimp only
 have hbb:IntKind.i64.bits=64:=rfl
 have h1:(BitVec.ofInt IntKind.i64.bits (a:Int)&&&BitVec.ofInt IntKind.i64.bits (b:Int)).toNat=a&&&b:=by
  rw [BitVec.toNat_and]
  have e1:(BitVec.ofInt IntKind.i64.bits (a:Int)).toNat=a:=by rw [BitVec.toNat_ofInt,hbb];omega
  have e2:(BitVec.ofInt IntKind.i64.bits (b:Int)).toNat=b:=by rw [BitVec.toNat_ofInt,hbb];omega
  rw [e1,e2]
 have h2:a&&&b<=a:=Nat.and_le_left
 rw [h1,wrap_i64 qZ qZ]
theorem _root_.Go.Vx.VBit.and {a b:Int}{k:Int->Prop}(ha:0<=a/\a<=4611686018427387904)(hb:0<=b/\b<=4611686018427387904)(hk:k ((a.toNat&&&b.toNat:Nat):Int)):VBit .and .i64 a b k:=by
 refine .mk ?_
 have:=bits_and (a:=a.toNat) (b:=b.toNat) qZ qZ
 rw [Ql ha.1,Ql hb.1] at this
 rw [this]
 exact hk
theorem _root_.Go.Vx.VShL.dbl {a:Int}{k:Int->Prop}(h:0<=a/\a<=1073741824)(hk:k (a*2)):VShL .i64 a 1 k:=by
 refine .mk qZ ?_
 have e:min (1:Int).toNat (IntKind.i64.bits)=1:=rfl
 rw [e]
 have e2:a*2 ^ 1=a*2:=by omega
 rw [e2,wrap_i64 qZ qZ]
 exact hk
theorem outs_iter {α:Type}{w0:World}{H:HP}{K:Value->HP->Prop}(o:List Int)(ho:OutsOk o)(hol:o.length<=65536)(t1 t2 t3:Value)(po:Option Addr)(co bo oo:Nat)(h1:Sl w0 intV 1 o po o.length bo oo)(l b1:Nat)(I:Nat->Nat->α->Prop)(G:α->HP)(x0:α)(h0:I 0 0 x0)
  (hH:HLe (.row b1 169 [t1,t2,t3,.slice po o.length co]::G x0) H)
  (step:∀i k v x,o[i]? =some v->k<5->hasB v ((2 ^ k:Nat):Int)->I i k x->
   VYield Tryz.cx.P w0 [] (.row b1 169 [t1,t2,t3,.slice po o.length co]::G x) l [.agg #[.int .i64 (i:Int),.int .i64 ((2 ^ k:Nat):Int)]] fun r H'=>(r=.bool true/\∃y,I i (k+1) y/\HLe (.row b1 169 [t1,t2,t3,.slice po o.length co]::G y) H')\/(r=.bool false/\K (.tuple #[]) H'))
  (skip:∀i k v x,o[i]? =some v->k<5->¬hasB v ((2 ^ k:Nat):Int)->I i k x->I i (k+1) x)
  (next:∀i v x,o[i]? =some v->I i 5 x->I (i+1) 0 x)
  (fin:∀x,I o.length 0 x->K (.tuple #[]) (.row b1 169 [t1,t2,t3,.slice po o.length co]::G x)):
  VCall Tryz.cx.P w0 [] H 178 [.func (.yield l) #[] #[],.pointer (some ⟨b1,0,none⟩)] K:=by
 refine VCall.le hH ?_
 refine VCall.inl (F:=Tryz.fx178) Tryz.func178 rfl rfl rfl Tryz.ok178 ?_
 repeat' (conv=>whnf);first|refine VSeq.go ?_|refine oN fun _=>?_|refine oL ?_|refine oA ?_
 all_goals (conv=>whnf)
 refine VLoop.mk (α:=Nat×α) (fun z=>z.1<=o.length/\I z.1 0 z.2) (fun z=>[(1000000,.tuple #[]),(0,.func (.yield l) #[] #[]),(7,.slice po o.length co),(8,.int .i64 (o.length:Int)),(9,.int .i64 (z.1:Int))])
  (fun z=>.row b1 169 [t1,t2,t3,.slice po o.length co]::G z.2) (fun z=>o.length - z.1) (0,x0) ⟨qB _,h0⟩ aE aH ?_
 rintro ⟨i,x⟩ ⟨hi,hI⟩
 dsimp only at hi hI ⊢
 rcases qy i o.length with hlt|hge
 ·obtain ⟨v,hv⟩:=h1.get hlt
  have hvr:=ho v (qz hv)
  repeat' (conv=>whnf);first|(refine VIx.is ?_;refine VIx.mk (h1.ptr qZ) qZ qZ ?_)|(refine VLd.is ?_;refine VLd.mk (Rd.cast (h1.rd0 (by simp) (fun _=>rfl) hv rfl) oE) ?_)|refine VSeq.go ?_|refine oY fun _=>?_
  all_goals (conv=>whnf)
  refine VLoop.mk (α:=Nat×α) (fun z=>z.1<=5/\I i z.1 z.2) (fun z=>[(1000000,.tuple #[]),(0,.func (.yield l) #[] #[]),(3,.int .i64 (i:Int)),(4,.int .i64 v),(5,.int .i64 ((2 ^ z.1:Nat):Int)),(7,.slice po o.length co),(8,.int .i64 (o.length:Int)),(9,.int .i64 (i:Int))])
   (fun z=>.row b1 169 [t1,t2,t3,.slice po o.length co]::G z.2) (fun z=>5 - z.1) (0,x) ⟨by dsimp only;omega,hI⟩ aE aH ?_
  rintro ⟨k,x⟩ ⟨hk,hI⟩
  dsimp only at hk hI ⊢
  rcases qy k 5 with hk5|hk5
  ·have hst:=step i k v x hv hk5
   have hsk:=skip i k v x hv hk5
   have hp1:2 ^ (k+1)=2*2 ^ k:=by rw [Nat.pow_succ];omega
   have hp2:2 ^ k<=16:=by
    have:(2:Nat) ^ k<=2 ^ 4:=Nat.pow_le_pow_right qZ qZ
    omega
   obtain ⟨pw,hpw⟩:=gX (2 ^ k)
   have hhas:hasB v (pw:Int)<->((v.toNat&&&(pw:Int).toNat:Nat):Int)≠0:=by
    unfold hasB
    omega
   rw [hpw] at hst hsk hp1 hp2 ⊢
   have hsl:(pw:Int)*2=((2 ^ (k+1):Nat):Int):=by rw [hp1];omega
   repeat' (conv=>whnf);first|(refine VShL.is ?_;refine VShL.dbl qZ ?_;rw [hsl])|(refine VBit.is ?_;refine VBit.and qZ qZ ?_)|(refine VYield.is ?_;refine VYield.hle (VYield.mono (VYield.weak ?_ (hst (hhas.2 qZ) hI)) fun r H' hr=>?_);(focus (exact aH));rcases hr with ⟨rfl,y,hy,hl⟩|⟨rfl,hK⟩<;>first|refine ⟨_,hl,?_⟩|refine ⟨_,HLe.refl _,?_⟩)|refine VSeq.go ?_|refine oY fun _=>?_|refine oS (fun _=>?_) fun _=>?_
   all_goals (conv=>whnf)
   ·exact VNext.mk (k+1,y) ⟨by dsimp only;omega,hy⟩ (by dsimp only;omega) aE aH
   ·exact hK
   ·exact VNext.mk (k+1,x) ⟨by dsimp only;omega,hsk (fun h=>absurd (hhas.1 h) qZ) hI⟩ (by dsimp only;omega) aE aH
  have hk5':k=5:=by omega
  subst hk5'
  repeat' (conv=>whnf);first|refine VSeq.go ?_|refine oN fun _=>?_|refine oL ?_|refine oA ?_
  all_goals (conv=>whnf)
  exact VNext.mk (i+1,x) ⟨by dsimp only;omega,next i v x hv hI⟩ (by dsimp only;omega) aE aH
 have hil:i=o.length:=by omega
 subst hil
 repeat' (conv=>whnf);first|refine VSeq.go ?_|refine oN fun _=>?_|refine oL ?_|refine oA ?_
 all_goals (conv=>whnf)
 exact fin x hI
end Go.Proofs
end

section
namespace Go.Gm
def cntK (o:List Int)(i k:Nat):Nat:=linksM (o.take i)+linkK (o[i]?.getD 0) k
theorem linksM_take {o:List Int}{i:Nat}{v:Int}(h:o[i]? =some v):linksM (o.take (i+1))=linksM (o.take i)+linkN v:=by
 unfold linksM
 rw [qi,h,qW,ql,List.sum_append]
 simp
theorem cntK_zero (o:List Int):cntK o 0 0=0:=rfl
theorem cntK_next {o:List Int}{i k:Nat}{v:Int}(h:o[i]? =some v):cntK o i (k+1)=cntK o i k+if ((2 ^ k:Nat):Int)≠16/\hasB v ((2 ^ k:Nat):Int) then 1 else 0:=by
 unfold cntK
 rw [h,qY,linkK_next];omega
theorem cntK_row {o:List Int}{i:Nat}{v:Int}(h:o[i]? =some v):cntK o i 5=cntK o (i+1) 0:=by
 unfold cntK
 rw [linksM_take h,h,qY,linkK_five]
 rfl
theorem cntK_end (o:List Int):cntK o o.length 0=linksM o:=by
 unfold cntK
 rw [Qk]
 rfl
theorem linksM_le (o:List Int):linksM o<=4*o.length:=by
 unfold linksM
 induction o with
 |nil=>simp
 |cons v o ih=>
  rw [qI,List.sum_cons,qR]
  have:linkN v<=4:=by unfold linkN;exact qT ..
  omega
theorem cntK_le (o:List Int)(i k:Nat):cntK o i k<=4*o.length+k:=by
 have h1:=linksM_le (o.take i)
 have h2:=linkK_le (o[i]?.getD 0) k
 rw [qh] at h1
 unfold cntK
 omega
end Go.Gm
namespace Go.Proofs
open Go Go.Vx Go.Gm
theorem plinks_any (o:List Int)(ho:OutsOk o)(hol:o.length<=65536)(t1 t2 t3:Value)(hone:oneAll [t1,t2,t3]=true)(po:Option Addr)(co bo oo:Nat)(w:World)(h1:Sl w intV 1 o po o.length bo oo):
  Calls Tryz.prog 61 #[.agg #[t1,t2,t3,.slice po o.length co]] w fun e w'=>e=.returned (.int .i64 (linksM o:Int))/\St w [] [] w':=by
 refine enter (C:=Tryz.cx) (F:=Tryz.fx61) (args:=[_]) Tryz.func61 rfl rfl rfl Tryz.ok61 (St.start w []) ?_
 repeat' (conv=>whnf);first|(refine VNew.mk fun b3=>?_)|(refine VCall.isF 113 ?_;refine VCall.inl (F:=Tryz.fx113) Tryz.func113 rfl rfl rfl Tryz.ok113 ?_)|(refine VRange.go (ms:=[]) rfl fun hokx hoky l d L hL=>?_)|refine VSeq.go ?_|refine oL ?_|refine oT ?_
 all_goals (conv=>whnf)
 rename_i bx bc
 refine outs_iter o ho hol t1 t2 t3 po co bo oo h1 l b3 (α:=Nat) (fun i k n=>n=cntK o i k) (fun n=>L .ready none::.obj d (.deferred (some []))::.row bc 3 [.int .i64 (n:Int)]::[]) 0 (cntK_zero o).symm aH ?_ ?_ ?_ ?_
 ·rintro i k v n hv hk hb rfl
  have hnx:=cntK_next (k:=k) hv
  have hle:=cntK_le o i k
  have hp2:2 ^ k<=16:=by
   have:(2:Nat) ^ k<=2 ^ 4:=Nat.pow_le_pow_right qZ qZ
   omega
  obtain ⟨n,hn⟩:=gX (cntK o i k)
  obtain ⟨pw,hpw⟩:=gX (2 ^ k)
  rw [hpw] at hnx hb hp2 ⊢
  rw [hn] at hnx hle ⊢
  refine VYield.go hL hokx hoky aT rfl ?_
  repeat' (conv=>whnf);first|(refine VBegin.is ?_;refine VBegin.mk aT ?_)|(refine VNew.mk fun b4=>?_)|refine VSeq.go ?_|refine oS (fun _=>?_) fun _=>?_|refine oL ?_|refine oT ?_|refine oA ?_
  all_goals (conv=>whnf)
  ·refine VRound.mk aT ?_
   rw [jx ⟨by omega,hb⟩] at hnx
   exact .inl ⟨rfl,n+1,hnx.symm,by exact aH⟩
  ·refine VRound.mk aT ?_
   rw [jz (fun h=>absurd h.1 qZ)] at hnx
   exact .inl ⟨rfl,n,hnx.symm,by exact aH⟩
 ·rintro i k v n hv hk hb rfl
  have hnx:=cntK_next (k:=k) hv
  rw [jz (fun h=>hb h.2)] at hnx
  exact hnx.symm
 ·rintro i v n hv rfl
  exact cntK_row hv
 ·rintro n rfl
  rw [cntK_end]
  repeat' (conv=>whnf);first|(refine VEnd.is ?_;refine VEnd.mk aT (by simp) ?_)|(refine VUn.is ?_;refine VUn.mk aT ?_)|refine VSeq.go ?_|refine oL ?_
  all_goals (conv=>whnf)
  exact ⟨fun w' hw'=>⟨rfl,hw'.le .nil⟩⟩
end Go.Proofs
end

section
namespace Go.Gm
def costK (N:Net)(C:Chp)(cores:List Int)(k:Nat):Nat:=((((List.range k).map fun (j:Nat)=>(j:Int)).filter fun key=>decide (∃s∈N.syns,keyM N s.frm=key)).map fun key=>linksM (srcTree N C cores key)).sum
theorem tgt_some {N:Net}{key:Int}:(∃s∈N.syns,keyM N s.frm=key)<->tgtM N N.syns key≠[]:=by
 constructor
 ·rintro ⟨s,hs,hk⟩ he
  have:=mem_tgtM.2 ⟨s,hs,hk,rfl⟩
  rw [he] at this
  cases this
 ·intro h
  obtain ⟨t,ht⟩:=List.exists_mem_of_ne_nil _ h
  obtain ⟨s,hs,hk,_⟩:=mem_tgtM.1 ht
  exact ⟨s,hs,hk⟩
theorem costK_next (N:Net)(C:Chp)(cores:List Int)(k:Nat):costK N C cores (k+1)=costK N C cores k+if tgtM N N.syns (k:Int)≠[] then linksM (srcTree N C cores (k:Int)) else 0:=by
 unfold costK
 rw [Qz,ql,Qa,ql,List.sum_append]
 congr 1
 simp only [qI,QL]
 by_cases h:tgtM N N.syns (k:Int)≠[]
 ·rw [jx h,List.filter_cons,jx (decide_eq_true (tgt_some.2 h))]
  simp
 ·rw [jz h,List.filter_cons,jz (fun h2=>h (tgt_some.1 (of_decide_eq_true h2)))]
  simp
theorem srcLinks_le {N:Net}{C:Chp}(h:ChpOk C)(cores:List Int)(key:Int):linksM (srcTree N C cores key)<=256:=by
 have h1:=linksM_le (srcTree N C cores key)
 have h2:=(nCores_ok h).2.2
 have h3:(srcTree N C cores key).length=nCores C:=tree_length ..
 omega
theorem costK_le {N:Net}{C:Chp}(h:ChpOk C)(cores:List Int):∀k,costK N C cores k<=256*k
 |0=>qA _
 |k+1=>by
  have h1:=costK_le (N:=N) h cores k
  have h2:=srcLinks_le (N:=N) h cores (k:Int)
  rw [costK_next]
  split<;>omega
end Go.Gm
namespace Go.Proofs
open Go Go.Vx Go.Gm
theorem asgE_chk (N:Net)(C:Chp)(cores:List Int):asgE N C cores=if Gm.planE N C≠0 then Gm.planE N C else chkA N C cores:=rfl
theorem planned_bad (X:PlnX)(w:World)(hX:PlnRd X w)(he:Gm.planE X.N X.C≠0)(cs:Value)(hone:cs.oneCell'=true):
  Calls Tryz.prog 55 #[.agg X.net.toArray,.agg (chpC X.C X.pd X.cd).toArray,cs] w fun e w'=>e=.returned (.tuple #[.pointer none,.int .i64 (Gm.planE X.N X.C)])/\St w [] [] w':=by
 have hnp:=fun (w':World) h=>newPlanner_bad X w' h he
 obtain ⟨E,hE⟩:=gX (Gm.planE X.N X.C)
 rw [hE] at hnp he ⊢
 unfold PlnX.net chpC at hnp ⊢
 refine enter (C:=Tryz.cx) (F:=Tryz.fx55) (args:=[_,_,_]) Tryz.func55 rfl rfl rfl Tryz.ok55 (St.start w []) ?_
 repeat' (conv=>whnf);first|(refine VCall.isF 108 ?_;(refine VCall.valR (fun w' hw'=>hnp w' (hX.keep hw')) ?_))|refine VSeq.go ?_|refine oY fun _=>?_|refine oL ?_|refine oV fun _=>?_
 all_goals (conv=>whnf)
 all_goals first
  |exact ⟨fun w' hw'=>⟨rfl,hw'.le .nil⟩⟩
  |(exfalso;omega)
theorem planned_any (X:PlnX)(w:World)(hX:PlnRd X w)(he:Gm.planE X.N X.C=0)(cores:List Int)(hcw:∀k∈cores,I64 k)(hlc:cores.length<=1000000)(p:Option Addr)(c b o:Nat)(h1:Sl w intV 1 cores p cores.length b o):
  Calls Tryz.prog 55 #[.agg X.net.toArray,.agg (chpC X.C X.pd X.cd).toArray,.slice p cores.length c] w fun e w'=>∃x:PlnM,e=.returned (.tuple #[.pointer (some ⟨x.b,0,none⟩),.int .i64 (chkA X.N X.C cores)])/\PlnUp X X.N.syns x/\St w [] (plnH X x) w':=by
 have hnp:=fun (w':World) h=>newPlanner_any X w' h he
 have hck:=fun (x:PlnM) (w':World)=>pcheck_any X x cores hcw hlc p c b o w'
 have hok:=planE_zero he
 unfold PlnX.net chpC at hnp ⊢
 refine enter (C:=Tryz.cx) (F:=Tryz.fx55) (args:=[_,_,_]) Tryz.func55 rfl rfl rfl Tryz.ok55 (St.start w []) ?_
 repeat' (conv=>whnf);first|(refine VCall.isF 108 ?_;(refine VCall.genR (fun w' hw'=>hnp w' (hX.keep hw')) ?_;rintro x hup))|(refine VCall.isF 109 ?_;(refine VCall.valR (fun w' hw'=>hck x w' (PlnAt.of hok hup (hX.keep hw') hw' aH) (h1.keep hw' (by simp))) ?_))|refine VSeq.go ?_|refine oN fun _=>?_|refine oL ?_|refine oV fun _=>?_
 all_goals (conv=>whnf)
 exact ⟨fun w' hw'=>⟨x,rfl,hup,hw'.le aH⟩⟩
end Go.Proofs
end

section
namespace Go.Gm
def keysK (N:Net)(k:Nat):List Int:=((List.range k).map fun (j:Nat)=>(j:Int)).filter fun key=>decide (∃s∈N.syns,keyM N s.frm=key)
theorem keysK_all (N:Net):keysK N (nSrc N)=keysM N:=rfl
theorem keysK_zero (N:Net):keysK N 0=[]:=rfl
theorem keysK_next (N:Net)(k:Nat):keysK N (k+1)=keysK N k++if tgtM N N.syns (k:Int)≠[] then [(k:Int)] else []:=by
 unfold keysK
 rw [Qz,ql,Qa]
 congr 1
 simp only [qI,QL]
 by_cases h:tgtM N N.syns (k:Int)≠[]
 ·rw [jx h,List.filter_cons,jx (decide_eq_true (tgt_some.2 h))];rfl
 ·rw [jz h,List.filter_cons,jz (fun h2=>h (tgt_some.1 (of_decide_eq_true h2)))];rfl
theorem keysK_mem {N:Net}{k:Nat}{x:Int}(h:x∈keysK N k):0<=x/\x<k:=by
 unfold keysK at h
 rw [qP,qo] at h
 obtain ⟨⟨j,hj,rfl⟩,_⟩:=h
 rw [qL] at hj
 omega
theorem keysK_asc (N:Net)(k:Nat):(keysK N k).Pairwise fun a b=>a<b:=by
 unfold keysK
 refine List.Pairwise.filter _ ?_
 rw [List.pairwise_map]
 exact List.pairwise_lt_range.imp fun h=>by omega
theorem keysK_len (N:Net)(k:Nat):(keysK N k).length<=k:=by
 unfold keysK
 refine Qb (qD _ _) ?_
 simp
def tabF (T:Int->List Int)(keys:List Int)(en:Int)(r:Nat):List Ety:=
 if ((tableM T keys r).length:Int)<=en then tableM T keys r else mergeM (tableM T keys r) ((tableM T keys r).map (·.key))
structure MapM where
 cores:List Int
 slots:List Int
 quant:QR
 rows:List (List RowE)
 tables:List (List Ety)
 waves:List Int
 cost:Int
 load:Int
 steps:Int
def mapNone:MapM:=⟨[],[],qNone,[],[],[],0,0,0⟩
def synQs (N:Net)(q:List Int):List (Syn×Int):=N.syns.zip q
def tablesF (N:Net)(C:Chp)(cores:List Int):List (List Ety):=(List.range (nCores C)).map (tabF (srcTree N C cores) (keysM N) C.en)
def mapErr (N:Net)(C:Chp)(cores:List Int):Int:=if asgE N C cores≠0 then asgE N C cores else if∃t∈tablesF N C cores,¬(t.length:Int)<=C.en then 15 else 0
def wavesF (N:Net)(C:Chp)(cores:List Int):List (List Int):=wavesM (srcTree N C cores) C.mesh.room (keysM N)
def mapRes (N:Net)(C:Chp)(cores:List Int):MapM:=if mapErr N C cores≠0 then mapNone else
 ⟨cores,slotsM cores,quantRes N C.bits,(List.range (nCores C)).map fun (k:Nat)=>rowsM N cores (synQs N (quantRes N C.bits).quots) (k:Int),tablesF N C cores,
  (List.range (nSrc N)).map fun (k:Nat)=>waveOf (wavesF N C cores) (k:Int),(costM N C cores:Int),(mostM ((keysM N).map (srcTree N C cores)):Int),(stepsM C.mesh.wide (srcTree N C cores) (homeM N cores) (coresM N C cores) (wavesF N C cores):Int)⟩
end Go.Gm
end

section
namespace Go.Gm
theorem mem_coresM {N:Net}{C:Chp}{cores:List Int}{key k:Int}:k∈coresM N C cores key<->(0<=k/\k<nCores C)/\∃s∈N.syns,keyM N s.frm=key/\cores[s.to.toNat]? =some k:=by
 unfold coresM
 rw [qP,jv]
 have:=mem_allC (C:=C) (k:=k)
 unfold allC at this
 rw [this]
theorem coresM_nodup (N:Net)(C:Chp)(cores:List Int)(key:Int):(coresM N C cores key).Nodup:=by
 unfold coresM
 refine List.Pairwise.filter _ ?_
 rw [List.pairwise_map]
 exact List.nodup_range.imp fun h e=>h (by omega)
theorem core_of {N:Net}{C:Chp}{cores:List Int}(h:AsgOk N C cores){s:Syn}(hs:s∈N.syns):∃d,cores[s.to.toNat]? =some d/\(0<=d/\d<nCores C):=by
 have ht:=(h.plan.net.syns s hs).2.1
 have hl:=h.len
 have hlt:s.to.toNat<cores.length:=by omega
 refine ⟨cores[s.to.toNat],qq hlt,?_⟩
 have:=(h.core _ (Qu hlt)).1
 have:=(nCores_ok h.plan.chip).1
 omega
theorem home_range {N:Net}{C:Chp}{cores:List Int}(h:AsgOk N C cores)(key:Int)(hk:0<=key):0<=homeM N cores key/\homeM N cores key<nCores C:=by
 have hn:=nCores_ok h.plan.chip
 unfold homeM
 split
 ·have hlt:key.toNat<cores.length:=by have:=h.len;omega
  rw [qq hlt,qY]
  have:=(h.core _ (Qu hlt)).1
  omega
 ·omega
end Go.Gm
end

section
namespace Go.Gm
theorem band_all {key:Int}(h:0<=key/\key<=65535):band key 65535=key:=by
 unfold band
 have e:(65535:Int).toNat=2 ^ 16 - 1:=rfl
 rw [e,Nat.and_two_pow_sub_one_eq_mod]
 omega
theorem find_table {T:Int->List Int}{r:Nat}{key:Int}(hk:0<=key/\key<=65535)(h0:(T key)[r]?.getD 0≠0):∀{keys:List Int},key∈keys->findE (tableM T keys r) key=some ((T key)[r]?.getD 0)
 |[],h=>by simp at h
 |a::l,h=>by
  by_cases ha:a=key
  ·subst ha
   have e:etyAt T r a=some ⟨a,65535,(T a)[r]?.getD 0⟩:=by unfold etyAt;dsimp only;rw [if_neg h0]
   unfold tableM findE
   rw [List.filterMap_cons,e]
   dsimp only
   rw [List.find?_cons_of_pos (by rw [jv];exact band_all hk)]
   rfl
  ·have hl:key∈l:=(qQ.1 h).resolve_left (fun e=>ha e.symm)
   have ih:=find_table hk h0 hl
   unfold tableM at ih ⊢
   rw [List.filterMap_cons]
   cases he:etyAt T r a with
   |none=>exact ih
   |some x=>
    have hx:=(etyAt_some he).1
    unfold findE at ih ⊢
    dsimp only
    rw [List.find?_cons_of_neg (by rw [hx,jv,band_all hk];exact fun e=>ha e.symm)]
    exact ih
theorem mergeF_good {want:List Ety}{keys:List Int}:∀(n:Nat) (l:List Ety),(∀x∈l,EtyOk x)->sameE want l keys=true->(∀x∈mergeF want keys n l,EtyOk x)/\sameE want (mergeF want keys n l) keys=true
 |0,l,h1,h2=>⟨h1,h2⟩
 |n+1,l,h1,h2=>by
  unfold mergeF
  cases h:mergeStep want l keys with
  |none=>exact ⟨h1,h2⟩
  |some t=>
   obtain ⟨h3,h4⟩:=mergeStep_ok h1 h
   exact mergeF_good n t h3 h4
theorem tabF_good {T:Int->List Int}(hT:∀k,OutsOk (T k)){keys:List Int}(hk:∀k∈keys,0<=k/\k<=65535)(en:Int)(r:Nat):(∀x∈tabF T keys en r,EtyOk x)/\∀key∈keys,(T key)[r]?.getD 0≠0->findE (tabF T keys en r) key=some ((T key)[r]?.getD 0):=by
 have h1:=table_ok hT hk r
 unfold tabF
 split
 ·exact ⟨h1,fun key hm h0=>find_table (hk key hm) h0 hm⟩
 ·obtain ⟨h2,h3⟩:=mergeF_good (want:=tableM T keys r) (keys:=(tableM T keys r).map (·.key)) (tableM T keys r).length _ h1 (sameE_refl _ _)
  refine ⟨h2,fun key hm h0=>?_⟩
  unfold sameE at h3
  rw [List.all_eq_true] at h3
  have h4:=h3 key (by rw [table_keys,qP];exact ⟨hm,by rw [jv];exact h0⟩)
  rw [jv] at h4
  unfold mergeM
  rw [<-h4]
  exact find_table (hk key hm) h0 hm
theorem rte_end {W:Int}(hW:0<W){t:Int}:∀(n:Nat) (r:Int),distM W r t=n->t∈rte W r t
 |0,r,hn=>by
  have:r=t:=(dist_zero hW).1 hn
  subst this
  rw [rte_self W r hW];exact qg
 |n+1,r,hn=>by
  have hne:r≠t:=fun h=>by rw [(dist_zero hW).2 h] at hn;omega
  have hd:=dist_step hW hne
  rw [rte_step hW hne]
  exact qu _ (rte_end hW n _ (by omega))
theorem bit_some {x:Int}(h:0<=x/\x<32)(h0:x≠0):∃o,o<5/\hasB x (pow2 o):=by
 have key:∀n:Nat,n<32->n≠0->∃o:Nat,o<5/\n&&&2 ^ o≠0:=by decide
 obtain ⟨o,h1,h2⟩:=key x.toNat (by omega) (by omega)
 exact ⟨o,h1,by unfold hasB pow2;rw [jw];exact h2⟩
theorem turn_pow (W r t:Int):∃o,o<5/\turnM W r t=pow2 o:=by
 rcases turn_cases W r t with h|h|h|h|h
 ·exact ⟨0,by omega,h⟩
 ·exact ⟨1,by omega,h⟩
 ·exact ⟨2,by omega,h⟩
 ·exact ⟨3,by omega,h⟩
 ·exact ⟨4,by omega,h⟩
def wayCtx (N:Net)(C:Chp)(cores:List Int)(ks:List Int)(L:Nat):RCtx:=
 ⟨C.mesh,nCores C,tablesF N C cores,ks.map fun k=>⟨(homeM N cores k).toNat,k⟩,L,fun p r=>(srcTree N C cores (ks[p]?.getD 0))[r]?.getD 0,fun p r=>distM C.mesh.wide (homeM N cores (ks[p]?.getD 0)) (r:Int)⟩
section
variable {N : Net} {C : Chp} {cores : List Int} {ks : List Int} {L : Nat}
theorem way_has (hA:AsgOk N C cores){key:Int}(hk:0<=key){r o:Nat}(ho:o<5):hasB ((srcTree N C cores key)[r]?.getD 0) (pow2 o)<->∃t∈coresM N C cores key,(r:Int)∈rte C.mesh.wide (homeM N cores key) t/\turnM C.mesh.wide (r:Int) t=pow2 o:=by
 have hn:=nCores_ok hA.plan.chip
 have hh:=home_range hA key hk
 have hw:=hA.plan.chip.mesh.wide
 have h:=tree_has (W:=C.mesh.wide) (H:=C.mesh.high) (src:=homeM N cores key) (by omega) (by omega) (pow_isOut ho) (q:=(r:Int)) (by omega) (ts:=coresM N C cores key) (fun t ht=>by have:=(mem_coresM.1 ht).1;omega)
 unfold hasR at h
 rw [jw] at h
 exact h
theorem way_nz (hA:AsgOk N C cores){key:Int}(hk:0<=key){r:Nat}:(srcTree N C cores key)[r]?.getD 0≠0<->∃t∈coresM N C cores key,(r:Int)∈rte C.mesh.wide (homeM N cores key) t:=by
 have hok:OutsOk (srcTree N C cores key):=tree_ok _ _ _ _
 constructor
 ·intro h0
  have hx:0<=(srcTree N C cores key)[r]?.getD 0/\(srcTree N C cores key)[r]?.getD 0<32:=by
   cases h:(srcTree N C cores key)[r]? with
   |none=>rw [h] at h0;exact absurd rfl h0
   |some x=>exact hok x (qz h)
  obtain ⟨o,h1,h2⟩:=bit_some hx h0
  obtain ⟨t,h3,h4,_⟩:=(way_has hA hk h1).1 h2
  exact ⟨t,h3,h4⟩
 ·rintro ⟨t,h3,h4⟩ h0
  obtain ⟨o,h1,h2⟩:=turn_pow C.mesh.wide (r:Int) t
  have:=(way_has hA hk h1).2 ⟨t,h3,h4,h2⟩
  rw [h0] at this
  exact hasB_zero _ this
theorem next_inj {W a b:Int}{o:Nat}(ho:o<4)(h:nextM W a (pow2 o)=nextM W b (pow2 o)):a=b:=by
 have h4:o=0\/o=1\/o=2\/o=3:=by omega
 rcases h4 with rfl|rfl|rfl|rfl
 ·have e:pow2 0=1:=rfl
  rw [e] at h
  unfold nextM at h
  rw [jx rfl,jx rfl] at h
  omega
 ·have e:pow2 1=2:=rfl
  rw [e] at h
  unfold nextM at h
  rw [jz (by omega),jx rfl,jz (by omega),jx rfl] at h
  omega
 ·have e:pow2 2=4:=rfl
  rw [e] at h
  unfold nextM at h
  rw [jz (by omega),jz (by omega),jx rfl,jz (by omega),jz (by omega),jx rfl] at h
  omega
 ·have e:pow2 3=8:=rfl
  rw [e] at h
  unfold nextM at h
  rw [jz (by omega),jz (by omega),jz (by omega),jx rfl,jz (by omega),jz (by omega),jz (by omega),jx rfl] at h
  omega
theorem countP_get {l:List Int}{P:Int->Bool}:(List.range l.length).countP (fun p=>P (l[p]?.getD 0))=l.countP P:=by
 have h:(List.range l.length).map (fun p=>l[p]?.getD 0)=l:=by
  apply qp
  intro i
  rw [qj]
  rcases qy i l.length with hi|hi
  ·rw [qX hi,qV,qq hi,qY]
  ·rw [qf (by rw [Qg];exact hi),qf hi];rfl
 conv=>rhs;rw [<-h]
 rw [List.countP_map]
 rfl
theorem keys_src {key:Int}(h:key∈keysM N):(0<=key/\key<nSrc N)/\∃s∈N.syns,keyM N s.frm=key:=by
 unfold keysM at h
 rw [qP,jv] at h
 obtain ⟨h1,h2⟩:=h
 obtain ⟨k,hk,rfl⟩:=qo.1 h1
 rw [qL] at hk
 exact ⟨⟨by omega,by omega⟩,h2⟩
theorem key_way (hA:AsgOk N C cores){key:Int}(h:key∈keysM N):∃t,t∈coresM N C cores key:=by
 obtain ⟨_,s,hs,hk⟩:=keys_src h
 obtain ⟨d,h1,h2⟩:=core_of hA hs
 exact ⟨d,mem_coresM.2 ⟨h2,s,hs,hk,h1⟩⟩
theorem way_ok (hA:AsgOk N C cores)(hks:∀k∈ks,k∈keysM N)(hload:∀r o,o<5->cntM (ks.map (srcTree N C cores)) ((r:Nat),pow2 o)<=L)(hroom:(L:Int)<=C.mesh.room):RCtxOk (wayCtx N C cores ks L):=by
 have hn:=nCores_ok hA.plan.chip
 have hw:=hA.plan.chip.mesh.wide
 have hlen:(wayCtx N C cores ks L).pk.length=ks.length:=qv _
 have hkey:∀p,p<ks.length->ks[p]?.getD 0∈keysM N:=fun p hp=>hks _ (by rw [qq hp];exact Qu _)
 have hk0:∀p,p<ks.length->0<=ks[p]?.getD 0:=fun p hp=>(keys_src (hkey p hp)).1.1
 have hhome:∀p,p<ks.length->0<=homeM N cores (ks[p]?.getD 0)/\homeM N cores (ks[p]?.getD 0)<C.mesh.wide*C.mesh.high:=fun p hp=>by have:=home_range hA _ (hk0 p hp);omega
 have hsrc:∀p,p<ks.length->((wayCtx N C cores ks L).src p:Int)=homeM N cores (ks[p]?.getD 0):=fun p hp=>by
  have:=(hhome p hp).1
  unfold RCtx.src wayCtx
  dsimp only
  rw [qj,qq hp] at*
  simp only [qV,qY] at*
  omega
 have htg:∀{key t},t∈coresM N C cores key->0<=t/\t<C.mesh.wide*C.mesh.high:=fun ht=>by have:=(mem_coresM.1 ht).1;omega
 -- a step
 have hstep:∀p r o,p<ks.length->r<nCores C->o<4->(wayCtx N C cores ks L).has p r o->∃t∈coresM N C cores (ks[p]?.getD 0),(r:Int)∈rte C.mesh.wide (homeM N cores (ks[p]?.getD 0)) t/\turnM C.mesh.wide (r:Int) t=pow2 o/\
   WayStep C.mesh.wide (homeM N cores (ks[p]?.getD 0)) (r:Int) (nextM C.mesh.wide (r:Int) (pow2 o)) o/\(r:Int)≠t/\(((wayCtx N C cores ks L).nx r o:Nat):Int)=nextM C.mesh.wide (r:Int) (pow2 o)/\nextM C.mesh.wide (r:Int) (pow2 o)<C.mesh.wide*C.mesh.high:=by
  intro p r o hp hr ho hh
  obtain ⟨t,h1,h2,h3⟩:=(way_has hA (hk0 p hp) (by omega)).1 hh
  obtain ⟨h4,h5⟩:=way_step (by omega) h2 ho h3
  have h6:=step_range (W:=C.mesh.wide) (H:=C.mesh.high) (r:=(r:Int)) (t:=t) (by omega) (by omega) (htg h1)
  rw [h3] at h6
  refine ⟨t,h1,h2,h3,h4,h5,?_,h6.2⟩
  show ((nextM C.mesh.wide (r:Int) (pow2 o)).toNat:Int)=_
  omega
 refine ⟨?_,?_,?_,?_,?_,?_,hroom⟩
 ·intro p r hp hr ho
  rw [hlen] at hp
  have hg:=tabF_good (T:=srcTree N C cores) (fun k=>tree_ok _ _ _ _) (keys:=keysM N) (fun k hk=>by have:=(keys_src hk).1;have:=hA.plan.few;have hi:=hA.plan.net.inputs;unfold nSrc at*;omega) C.en r
  have e1:((wayCtx N C cores ks L).tabs[r]?).getD []=tabF (srcTree N C cores) (keysM N) C.en r:=by
   show ((tablesF N C cores)[r]?).getD []=_
   unfold tablesF
   rw [qj,qX (show r<nCores C from hr)]
   rfl
  have e2:((wayCtx N C cores ks L).pk[p]?.map (·.key)).getD 0=ks[p]?.getD 0:=by
   show ((ks.map fun k=>(⟨(homeM N cores k).toNat,k⟩:Pkt))[p]?.map (·.key)).getD 0=_
   rw [qj,qq hp]
   rfl
  rw [e1,e2]
  exact hg.2 _ (hkey p hp) ho
 ·intro p hp
  rw [hlen] at hp
  have h1:=hsrc p hp
  have h2:=hhome p hp
  obtain ⟨t,ht⟩:=key_way hA (hkey p hp)
  refine ⟨by show _<nCores C;omega,?_,?_⟩
  ·refine (way_nz hA (hk0 p hp)).2 ⟨t,ht,?_⟩
   rw [h1]
   obtain ⟨l,hl⟩:=rte_head (W:=C.mesh.wide) (r:=homeM N cores (ks[p]?.getD 0)) (t:=t) (by omega)
   rw [hl];exact qg
  ·show distM C.mesh.wide _ ((wayCtx N C cores ks L).src p:Int)=0
   rw [h1]
   exact (dist_zero (by omega)).2 rfl
 ·intro p r o hp hr ho hh
  rw [hlen] at hp
  obtain ⟨t,h1,h2,h3,h4,h5,h6,h7⟩:=hstep p r o hp hr ho hh
  have h8:=h4.dist
  have h9:=lead_turn (W:=C.mesh.wide) (H:=C.mesh.high) (r:=(r:Int)) (t:=t) (by omega) (by have:r<nCores C:=hr;omega) (htg h1)
  rw [h3] at h9
  refine ⟨h9,?_,?_,?_,?_⟩
  ·show (wayCtx N C cores ks L).nx r o<nCores C
   omega
  ·refine (way_nz hA (hk0 p hp)).2 ⟨t,h1,?_⟩
   rw [h6,<-h3]
   exact rte_next (by omega) _ _ rfl h2 h5
  ·show distM C.mesh.wide _ ((wayCtx N C cores ks L).nx r o:Int)=distM C.mesh.wide _ (r:Int)+1
   rw [h6];exact h8.1
  ·intro h
   refine h8.2 ?_
   rw [<-h6,h]
   exact hsrc p hp
 ·intro p r1 o1 r2 o2 hp hr1 hr2 ho1 ho2 hh1 hh2 he
  rw [hlen] at hp
  obtain ⟨t1,a1,a2,a3,a4,a5,a6,a7⟩:=hstep p r1 o1 hp hr1 ho1 hh1
  obtain ⟨t2,b1,b2,b3,b4,b5,b6,b7⟩:=hstep p r2 o2 hp hr2 ho2 hh2
  rw [<-a6] at a4
  rw [<-b6,<-he] at b4
  have:=a4.uniq b4
  exact ⟨by omega,this.2⟩
 ·intro r1 r2 o hr1 hr2 ho hl1 hl2 he
  have h1:=next_lead (W:=C.mesh.wide) (H:=C.mesh.high) (r:=(r1:Int)) (by omega) (by have:r1<nCores C:=hr1;omega) ho hl1
  have h2:=next_lead (W:=C.mesh.wide) (H:=C.mesh.high) (r:=(r2:Int)) (by omega) (by have:r2<nCores C:=hr2;omega) ho hl2
  have h3:(nextM C.mesh.wide (r1:Int) (pow2 o)).toNat=(nextM C.mesh.wide (r2:Int) (pow2 o)).toNat:=he
  have:=next_inj ho (by omega:nextM C.mesh.wide (r1:Int) (pow2 o)=nextM C.mesh.wide (r2:Int) (pow2 o))
  omega
 ·intro r o ho
  rw [hlen]
  refine Qb (Nat.le_of_eq ?_) (hload r o ho)
  unfold cntM
  rw [List.countP_map]
  have:=countP_get (l:=ks) (P:=fun k=>decide (hasB ((srcTree N C cores k)[r]?.getD 0) (pow2 o)))
  rw [show (List.range ks.length).countP (fun p=>decide ((wayCtx N C cores ks L).has p r o))=ks.countP (fun k=>decide (hasB ((srcTree N C cores k)[r]?.getD 0) (pow2 o))) from this]
  congr 1
theorem way_reach (hA:AsgOk N C cores)(hks:∀k∈ks,k∈keysM N):∀p r,p<(wayCtx N C cores ks L).pk.length->r<(wayCtx N C cores ks L).n->(wayCtx N C cores ks L).outs p r≠0->r=(wayCtx N C cores ks L).src p\/∃r0 o0,r0<(wayCtx N C cores ks L).n/\o0<4/\(wayCtx N C cores ks L).has p r0 o0/\(wayCtx N C cores ks L).nx r0 o0=r:=by
 intro p r hp hr h0
 have hlen:(wayCtx N C cores ks L).pk.length=ks.length:=qv _
 rw [hlen] at hp
 have hn:=nCores_ok hA.plan.chip
 have hw:=hA.plan.chip.mesh.wide
 have hkey:ks[p]?.getD 0∈keysM N:=hks _ (by rw [qq hp];exact Qu _)
 have hk0:=(keys_src hkey).1.1
 have hhome:=home_range hA _ hk0
 have hsrc:((wayCtx N C cores ks L).src p:Int)=homeM N cores (ks[p]?.getD 0):=by
  unfold RCtx.src wayCtx
  dsimp only
  rw [qj,qq hp] at*
  simp only [qV,qY] at*
  omega
 obtain ⟨t,h1,h2⟩:=(way_nz hA hk0).1 h0
 have ht:=(mem_coresM.1 h1).1
 by_cases hrs:(r:Int)=homeM N cores (ks[p]?.getD 0)
 ·left;omega
 ·right
  obtain ⟨z,h3,h4,h5⟩:=rte_prev (by omega) _ _ rfl h2 hrs
  have hz:=rte_range (W:=C.mesh.wide) (H:=C.mesh.high) (by omega) (t:=t) (by omega) _ _ rfl (by omega) z h3
  obtain ⟨o,h6,h7⟩:=turn_pow C.mesh.wide z t
  have ho4:o<4:=by
   by_cases h8:o=4
   ·subst h8
    exact absurd ((turn_local (by omega)).1 (h7.trans (rfl:pow2 4=16))) h4
   ·omega
  have ez:((z.toNat:Nat):Int)=z:=Ql hz.1
  refine ⟨z.toNat,o,by show _<nCores C;omega,ho4,(way_has hA hk0 h6).2 ⟨t,h1,by rw [ez];exact h3,by rw [ez];exact h7⟩,?_⟩
  show (nextM C.mesh.wide ((z.toNat:Nat):Int) (pow2 o)).toNat=r
  rw [ez,<-h7,h5,jw]
theorem way_here (hA:AsgOk N C cores){key:Int}(hk:0<=key){r:Nat}:hasB ((srcTree N C cores key)[r]?.getD 0) (pow2 4)<->(r:Int)∈coresM N C cores key:=by
 have hw:=hA.plan.chip.mesh.wide
 rw [way_has hA hk (by omega)]
 constructor
 ·rintro ⟨t,h1,h2,h3⟩
  have:=(turn_local (by omega)).1 (h3.trans (rfl:pow2 4=16))
  rw [this];exact h1
 ·intro h
  refine ⟨(r:Int),h,?_,(turn_local (by omega)).2 rfl⟩
  exact rte_end (by omega) _ _ rfl
end
end Go.Gm
end

section
section
set_option linter.unusedVariables false
namespace Go.Proofs
open Go Go.Vx Go.Gm
end Go.Proofs
end
section
namespace Go.Proofs
open Go Go.Vx Go.Gm
end Go.Proofs
end
end

section
namespace Go.Gm
end Go.Gm
namespace Go.Proofs
open Go Go.Vx Go.Gm
end Go.Proofs
end

section
namespace Go.Gm
end Go.Gm
namespace Go.Proofs
open Go Go.Vx Go.Gm
end Go.Proofs
end

section
namespace Go.Proofs
open Go Go.Vx Go.Gm
theorem home_range {N:Net}{C:Chp}{cores:List Int}(h:AsgOk N C cores){key:Int}(hk:0<=key):0<=homeM N cores key/\homeM N cores key<C.mesh.wide*C.mesh.high:=by
 have hn:=nCores_ok h.plan.chip
 unfold homeM
 split
 ·rename_i hlt
  have hl:key.toNat<cores.length:=by rw [h.len];omega
  rw [qq hl,qY]
  exact (h.core _ (Qu hl)).1
 ·omega
end Go.Proofs
end
