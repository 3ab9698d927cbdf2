import Derived.Test.YtlbekjokdlkghaaGreatChipEnergiesMr
import Derived.Test.YtlbekjokdlkghaaGreatChipEnergiesPg
import Derived.Test.YtlbekjokdlkghaaGreatChipEnergiesQw
import Derived.Test.YtlbekjokdlkghaaGreatChipEnergiesPw
set_option linter.unusedVariables false
set_option linter.unusedSimpArgs false
set_option maxHeartbeats 4000000
section
namespace Go.Gm
def linkK (x:Int)(k:Nat):Nat:=(((List.range k).map fun (j:Nat)=>((2 ^ j:Nat):Int)).filter fun b=>decide (b≠16)).countP fun b=>decide (hasB x b)
theorem linkK_next (x:Int)(k:Nat):linkK x (k+1)=linkK x k+if ((2 ^ k:Nat):Int)≠16∧hasB x ((2 ^ k:Nat):Int) then 1 else 0:=by
 unfold linkK
 rw [List.range_succ,List.map_append,List.filter_append,List.countP_append]
 congr 1
 simp only [List.map_cons,List.map_nil]
 generalize ((2 ^ k:Nat):Int)=b
 by_cases h:b=16
 ·subst h;simp
 ·by_cases h2:hasB x b<;>simp [h,h2]
theorem linkK_five (x:Int):linkK x 5=linkN x:=rfl
theorem linkK_le (x:Int)(k:Nat):linkK x k≤k:=by
 unfold linkK
 refine Nat.le_trans List.countP_le_length (Nat.le_trans (List.length_filter_le _ _) ?_)
 simp
end Go.Gm
namespace Go.Proofs
open Go Go.Vx Go.Gm
theorem bits_and {a b:Nat}(ha:a<2 ^ 63)(hb:b<2 ^ 63):bitsI .and .i64 (a:Int) (b:Int)=((a&&&b:Nat):Int):=by
 unfold bitsI
 dsimp only
 have hbb:IntKind.i64.bits=64:=rfl
 have h1:(BitVec.ofInt IntKind.i64.bits (a:Int)&&&BitVec.ofInt IntKind.i64.bits (b:Int)).toNat=a&&&b:=by
  rw [BitVec.toNat_and]
  have e1:(BitVec.ofInt IntKind.i64.bits (a:Int)).toNat=a:=by rw [BitVec.toNat_ofInt,hbb];omega
  have e2:(BitVec.ofInt IntKind.i64.bits (b:Int)).toNat=b:=by rw [BitVec.toNat_ofInt,hbb];omega
  rw [e1,e2]
 have h2:a&&&b≤a:=Nat.and_le_left
 rw [h1,wrap_i64 qZ qZ]
theorem _root_.Go.Vx.VBit.and {a b:Int}{k:Int→Prop}(ha:0≤a∧a≤4611686018427387904)(hb:0≤b∧b≤4611686018427387904)(hk:k ((a.toNat&&&b.toNat:Nat):Int)):VBit .and .i64 a b k:=by
 refine .mk ?_
 have:=bits_and (a:=a.toNat) (b:=b.toNat) qZ qZ
 rw [Int.toNat_of_nonneg ha.1,Int.toNat_of_nonneg hb.1] at this
 rw [this]
 exact hk
theorem _root_.Go.Vx.VShL.dbl {a:Int}{k:Int→Prop}(h:0≤a∧a≤1073741824)(hk:k (a*2)):VShL .i64 a 1 k:=by
 refine .mk qZ ?_
 have e:min (1:Int).toNat (IntKind.i64.bits)=1:=rfl
 rw [e]
 have e2:a*2 ^ 1=a*2:=by omega
 rw [e2,wrap_i64 qZ qZ]
 exact hk
theorem outs_iter {α:Type}{w0:World}{H:HP}{K:Value→HP→Prop}(o:List Int)(ho:OutsOk o)(hol:o.length≤65536)(t1 t2 t3:Value)(po:Option Addr)(co bo oo:Nat)(h1:Sl w0 intV 1 o po o.length bo oo)(l b1:Nat)(I:Nat→Nat→α→Prop)(G:α→HP)(x0:α)(h0:I 0 0 x0)
  (hH:HLe (.row b1 169 [t1,t2,t3,.slice po o.length co]::G x0) H)
  (step:∀i k v x,o[i]? =some v→k<5→hasB v ((2 ^ k:Nat):Int)→I i k x→
   VYield Tryz.cx.P w0 [] (.row b1 169 [t1,t2,t3,.slice po o.length co]::G x) l [.agg #[.int .i64 (i:Int),.int .i64 ((2 ^ k:Nat):Int)]] fun r H'=>(r=.bool true∧∃y,I i (k+1) y∧HLe (.row b1 169 [t1,t2,t3,.slice po o.length co]::G y) H')∨(r=.bool false∧K (.tuple #[]) H'))
  (skip:∀i k v x,o[i]? =some v→k<5→¬hasB v ((2 ^ k:Nat):Int)→I i k x→I i (k+1) x)
  (next:∀i v x,o[i]? =some v→I i 5 x→I (i+1) 0 x)
  (fin:∀x,I o.length 0 x→K (.tuple #[]) (.row b1 169 [t1,t2,t3,.slice po o.length co]::G x)):
  VCall Tryz.cx.P w0 [] H 178 [.func (.yield l) #[] #[],.pointer (some ⟨b1,0,none⟩)] K:=by
 refine VCall.le hH ?_
 refine VCall.inl (F:=Tryz.fx178) Tryz.func178 rfl rfl rfl Tryz.ok178 ?_
 repeat' (conv=>whnf);first|refine VSeq.go ?_|refine oN fun _=>?_|refine oL ?_|refine oA ?_
 all_goals (conv=>whnf)
 refine VLoop.mk (α:=Nat×α) (fun z=>z.1≤o.length∧I z.1 0 z.2) (fun z=>[(1000000,.tuple #[]),(0,.func (.yield l) #[] #[]),(7,.slice po o.length co),(8,.int .i64 (o.length:Int)),(9,.int .i64 (z.1:Int))])
  (fun z=>.row b1 169 [t1,t2,t3,.slice po o.length co]::G z.2) (fun z=>o.length - z.1) (0,x0) ⟨Nat.zero_le _,h0⟩ aE aH ?_
 rintro ⟨i,x⟩ ⟨hi,hI⟩
 dsimp only at hi hI ⊢
 rcases Nat.lt_or_ge i o.length with hlt|hge
 ·obtain ⟨v,hv⟩:=h1.get hlt
  have hvr:=ho v (List.mem_of_getElem? hv)
  repeat' (conv=>whnf);first|(refine VIx.is ?_;refine VIx.mk (h1.ptr qZ) qZ qZ ?_)|(refine VLd.is ?_;refine VLd.mk (Rd.cast (h1.rd0 (by simp) (fun _=>rfl) hv rfl) oE) ?_)|refine VSeq.go ?_|refine oY fun _=>?_
  all_goals (conv=>whnf)
  refine VLoop.mk (α:=Nat×α) (fun z=>z.1≤5∧I i z.1 z.2) (fun z=>[(1000000,.tuple #[]),(0,.func (.yield l) #[] #[]),(3,.int .i64 (i:Int)),(4,.int .i64 v),(5,.int .i64 ((2 ^ z.1:Nat):Int)),(7,.slice po o.length co),(8,.int .i64 (o.length:Int)),(9,.int .i64 (i:Int))])
   (fun z=>.row b1 169 [t1,t2,t3,.slice po o.length co]::G z.2) (fun z=>5 - z.1) (0,x) ⟨by dsimp only;omega,hI⟩ aE aH ?_
  rintro ⟨k,x⟩ ⟨hk,hI⟩
  dsimp only at hk hI ⊢
  rcases Nat.lt_or_ge k 5 with hk5|hk5
  ·have hst:=step i k v x hv hk5
   have hsk:=skip i k v x hv hk5
   have hp1:2 ^ (k+1)=2*2 ^ k:=by rw [Nat.pow_succ];omega
   have hp2:2 ^ k≤16:=by
    have:(2:Nat) ^ k≤2 ^ 4:=Nat.pow_le_pow_right qZ qZ
    omega
   obtain ⟨pw,hpw⟩:∃pw,2 ^ k=pw:=⟨_,rfl⟩
   have hhas:hasB v (pw:Int)↔((v.toNat&&&(pw:Int).toNat:Nat):Int)≠0:=by
    unfold hasB
    omega
   rw [hpw] at hst hsk hp1 hp2 ⊢
   have hsl:(pw:Int)*2=((2 ^ (k+1):Nat):Int):=by rw [hp1];omega
   repeat' (conv=>whnf);first|(refine VShL.is ?_;refine VShL.dbl qZ ?_;rw [hsl])|(refine VBit.is ?_;refine VBit.and qZ qZ ?_)|(refine VYield.is ?_;refine VYield.hle (VYield.mono (VYield.weak ?_ (hst (hhas.2 qZ) hI)) fun r H' hr=>?_);(focus (exact aH));rcases hr with ⟨rfl,y,hy,hl⟩|⟨rfl,hK⟩<;>first|refine ⟨_,hl,?_⟩|refine ⟨_,HLe.refl _,?_⟩)|refine VSeq.go ?_|refine oY fun _=>?_|refine oS (fun _=>?_) fun _=>?_
   all_goals (conv=>whnf)
   ·exact VNext.mk (k+1,y) ⟨by dsimp only;omega,hy⟩ (by dsimp only;omega) aE aH
   ·exact hK
   ·exact VNext.mk (k+1,x) ⟨by dsimp only;omega,hsk (fun h=>absurd (hhas.1 h) qZ) hI⟩ (by dsimp only;omega) aE aH
  have hk5':k=5:=by omega
  subst hk5'
  repeat' (conv=>whnf);first|refine VSeq.go ?_|refine oN fun _=>?_|refine oL ?_|refine oA ?_
  all_goals (conv=>whnf)
  exact VNext.mk (i+1,x) ⟨by dsimp only;omega,next i v x hv hI⟩ (by dsimp only;omega) aE aH
 have hil:i=o.length:=by omega
 subst hil
 repeat' (conv=>whnf);first|refine VSeq.go ?_|refine oN fun _=>?_|refine oL ?_|refine oA ?_
 all_goals (conv=>whnf)
 exact fin x hI
end Go.Proofs
end

section
namespace Go.Gm
def cntK (o:List Int)(i k:Nat):Nat:=linksM (o.take i)+linkK (o[i]?.getD 0) k
theorem linksM_take {o:List Int}{i:Nat}{v:Int}(h:o[i]? =some v):linksM (o.take (i+1))=linksM (o.take i)+linkN v:=by
 unfold linksM
 rw [List.take_add_one,h,Option.toList_some,List.map_append,List.sum_append]
 simp
theorem cntK_zero (o:List Int):cntK o 0 0=0:=rfl
theorem cntK_next {o:List Int}{i k:Nat}{v:Int}(h:o[i]? =some v):cntK o i (k+1)=cntK o i k+if ((2 ^ k:Nat):Int)≠16∧hasB v ((2 ^ k:Nat):Int) then 1 else 0:=by
 unfold cntK
 rw [h,Option.getD_some,linkK_next];omega
theorem cntK_row {o:List Int}{i:Nat}{v:Int}(h:o[i]? =some v):cntK o i 5=cntK o (i+1) 0:=by
 unfold cntK
 rw [linksM_take h,h,Option.getD_some,linkK_five]
 rfl
theorem cntK_end (o:List Int):cntK o o.length 0=linksM o:=by
 unfold cntK
 rw [List.take_length]
 rfl
theorem linksM_le (o:List Int):linksM o≤4*o.length:=by
 unfold linksM
 induction o with
 |nil=>simp
 |cons v o ih=>
  rw [List.map_cons,List.sum_cons,List.length_cons]
  have:linkN v≤4:=by unfold linkN;exact List.countP_le_length ..
  omega
theorem cntK_le (o:List Int)(i k:Nat):cntK o i k≤4*o.length+k:=by
 have h1:=linksM_le (o.take i)
 have h2:=linkK_le (o[i]?.getD 0) k
 rw [List.length_take] at h1
 unfold cntK
 omega
end Go.Gm
namespace Go.Proofs
open Go Go.Vx Go.Gm
theorem plinks_any (o:List Int)(ho:OutsOk o)(hol:o.length≤65536)(t1 t2 t3:Value)(hone:oneAll [t1,t2,t3]=true)(po:Option Addr)(co bo oo:Nat)(w:World)(h1:Sl w intV 1 o po o.length bo oo):
  Calls Tryz.prog 61 #[.agg #[t1,t2,t3,.slice po o.length co]] w fun e w'=>e=.returned (.int .i64 (linksM o:Int))∧St w [] [] w':=by
 refine enter (C:=Tryz.cx) (F:=Tryz.fx61) (args:=[_]) Tryz.func61 rfl rfl rfl Tryz.ok61 (St.start w []) ?_
 repeat' (conv=>whnf);first|(refine VNew.mk fun b3=>?_)|(refine VCall.isF 113 ?_;refine VCall.inl (F:=Tryz.fx113) Tryz.func113 rfl rfl rfl Tryz.ok113 ?_)|(refine VRange.go (ms:=[]) rfl fun hokx hoky l d L hL=>?_)|refine VSeq.go ?_|refine oL ?_|refine oT ?_
 all_goals (conv=>whnf)
 rename_i bx bc
 refine outs_iter o ho hol t1 t2 t3 po co bo oo h1 l b3 (α:=Nat) (fun i k n=>n=cntK o i k) (fun n=>L .ready none::.obj d (.deferred (some []))::.row bc 3 [.int .i64 (n:Int)]::[]) 0 (cntK_zero o).symm aH ?_ ?_ ?_ ?_
 ·rintro i k v n hv hk hb rfl
  have hnx:=cntK_next (k:=k) hv
  have hle:=cntK_le o i k
  have hp2:2 ^ k≤16:=by
   have:(2:Nat) ^ k≤2 ^ 4:=Nat.pow_le_pow_right qZ qZ
   omega
  obtain ⟨n,hn⟩:∃n,cntK o i k=n:=⟨_,rfl⟩
  obtain ⟨pw,hpw⟩:∃pw,2 ^ k=pw:=⟨_,rfl⟩
  rw [hpw] at hnx hb hp2 ⊢
  rw [hn] at hnx hle ⊢
  refine VYield.go hL hokx hoky aT rfl ?_
  repeat' (conv=>whnf);first|(refine VBegin.is ?_;refine VBegin.mk aT ?_)|(refine VNew.mk fun b4=>?_)|refine VSeq.go ?_|refine oS (fun _=>?_) fun _=>?_|refine oL ?_|refine oT ?_|refine oA ?_
  all_goals (conv=>whnf)
  ·refine VRound.mk aT ?_
   rw [if_pos ⟨by omega,hb⟩] at hnx
   exact .inl ⟨rfl,n+1,hnx.symm,by exact aH⟩
  ·refine VRound.mk aT ?_
   rw [if_neg (fun h=>absurd h.1 qZ)] at hnx
   exact .inl ⟨rfl,n,hnx.symm,by exact aH⟩
 ·rintro i k v n hv hk hb rfl
  have hnx:=cntK_next (k:=k) hv
  rw [if_neg (fun h=>hb h.2)] at hnx
  exact hnx.symm
 ·rintro i v n hv rfl
  exact cntK_row hv
 ·rintro n rfl
  rw [cntK_end]
  repeat' (conv=>whnf);first|(refine VEnd.is ?_;refine VEnd.mk aT (by simp) ?_)|(refine VUn.is ?_;refine VUn.mk aT ?_)|refine VSeq.go ?_|refine oL ?_
  all_goals (conv=>whnf)
  exact ⟨fun w' hw'=>⟨rfl,hw'.le .nil⟩⟩
end Go.Proofs
end

section
namespace Go.Gm
def costK (N:Net)(C:Chp)(cores:List Int)(k:Nat):Nat:=((((List.range k).map fun (j:Nat)=>(j:Int)).filter fun key=>decide (∃s∈N.syns,keyM N s.frm=key)).map fun key=>linksM (srcTree N C cores key)).sum
theorem tgt_some {N:Net}{key:Int}:(∃s∈N.syns,keyM N s.frm=key)↔tgtM N N.syns key≠[]:=by
 constructor
 ·rintro ⟨s,hs,hk⟩ he
  have:=mem_tgtM.2 ⟨s,hs,hk,rfl⟩
  rw [he] at this
  cases this
 ·intro h
  obtain ⟨t,ht⟩:=List.exists_mem_of_ne_nil _ h
  obtain ⟨s,hs,hk,_⟩:=mem_tgtM.1 ht
  exact ⟨s,hs,hk⟩
theorem costK_next (N:Net)(C:Chp)(cores:List Int)(k:Nat):costK N C cores (k+1)=costK N C cores k+if tgtM N N.syns (k:Int)≠[] then linksM (srcTree N C cores (k:Int)) else 0:=by
 unfold costK
 rw [List.range_succ,List.map_append,List.filter_append,List.map_append,List.sum_append]
 congr 1
 simp only [List.map_cons,List.map_nil]
 by_cases h:tgtM N N.syns (k:Int)≠[]
 ·rw [if_pos h,List.filter_cons,if_pos (decide_eq_true (tgt_some.2 h))]
  simp
 ·rw [if_neg h,List.filter_cons,if_neg (fun h2=>h (tgt_some.1 (of_decide_eq_true h2)))]
  simp
theorem srcLinks_le {N:Net}{C:Chp}(h:ChpOk C)(cores:List Int)(key:Int):linksM (srcTree N C cores key)≤256:=by
 have h1:=linksM_le (srcTree N C cores key)
 have h2:=(nCores_ok h).2.2
 have h3:(srcTree N C cores key).length=nCores C:=tree_length ..
 omega
theorem costK_le {N:Net}{C:Chp}(h:ChpOk C)(cores:List Int):∀k,costK N C cores k≤256*k
 |0=>Nat.le_refl _
 |k+1=>by
  have h1:=costK_le (N:=N) h cores k
  have h2:=srcLinks_le (N:=N) h cores (k:Int)
  rw [costK_next]
  split<;>omega
end Go.Gm
namespace Go.Proofs
open Go Go.Vx Go.Gm
theorem asgE_chk (N:Net)(C:Chp)(cores:List Int):asgE N C cores=if Gm.planE N C≠0 then Gm.planE N C else chkA N C cores:=rfl
theorem planned_bad (X:PlnX)(w:World)(hX:PlnRd X w)(he:Gm.planE X.N X.C≠0)(cs:Value)(hone:cs.oneCell'=true):
  Calls Tryz.prog 55 #[.agg X.net.toArray,.agg (chpC X.C X.pd X.cd).toArray,cs] w fun e w'=>e=.returned (.tuple #[.pointer none,.int .i64 (Gm.planE X.N X.C)])∧St w [] [] w':=by
 have hnp:=fun (w':World) h=>newPlanner_bad X w' h he
 obtain ⟨E,hE⟩:∃E,Gm.planE X.N X.C=E:=⟨_,rfl⟩
 rw [hE] at hnp he ⊢
 unfold PlnX.net chpC at hnp ⊢
 refine enter (C:=Tryz.cx) (F:=Tryz.fx55) (args:=[_,_,_]) Tryz.func55 rfl rfl rfl Tryz.ok55 (St.start w []) ?_
 repeat' (conv=>whnf);first|(refine VCall.isF 108 ?_;(refine VCall.valR (fun w' hw'=>hnp w' (hX.keep hw')) ?_))|refine VSeq.go ?_|refine oY fun _=>?_|refine oL ?_|refine oV fun _=>?_
 all_goals (conv=>whnf)
 all_goals first
  |exact ⟨fun w' hw'=>⟨rfl,hw'.le .nil⟩⟩
  |(exfalso;omega)
theorem planned_any (X:PlnX)(w:World)(hX:PlnRd X w)(he:Gm.planE X.N X.C=0)(cores:List Int)(hcw:∀k∈cores,I64 k)(hlc:cores.length≤1000000)(p:Option Addr)(c b o:Nat)(h1:Sl w intV 1 cores p cores.length b o):
  Calls Tryz.prog 55 #[.agg X.net.toArray,.agg (chpC X.C X.pd X.cd).toArray,.slice p cores.length c] w fun e w'=>∃x:PlnM,e=.returned (.tuple #[.pointer (some ⟨x.b,0,none⟩),.int .i64 (chkA X.N X.C cores)])∧PlnUp X X.N.syns x∧St w [] (plnH X x) w':=by
 have hnp:=fun (w':World) h=>newPlanner_any X w' h he
 have hck:=fun (x:PlnM) (w':World)=>pcheck_any X x cores hcw hlc p c b o w'
 have hok:=planE_zero he
 unfold PlnX.net chpC at hnp ⊢
 refine enter (C:=Tryz.cx) (F:=Tryz.fx55) (args:=[_,_,_]) Tryz.func55 rfl rfl rfl Tryz.ok55 (St.start w []) ?_
 repeat' (conv=>whnf);first|(refine VCall.isF 108 ?_;(refine VCall.genR (fun w' hw'=>hnp w' (hX.keep hw')) ?_;rintro x hup))|(refine VCall.isF 109 ?_;(refine VCall.valR (fun w' hw'=>hck x w' (PlnAt.of hok hup (hX.keep hw') hw' aH) (h1.keep hw' (by simp))) ?_))|refine VSeq.go ?_|refine oN fun _=>?_|refine oL ?_|refine oV fun _=>?_
 all_goals (conv=>whnf)
 exact ⟨fun w' hw'=>⟨x,rfl,hup,hw'.le aH⟩⟩
end Go.Proofs
end

section
namespace Go.Gm
def keysK (N:Net)(k:Nat):List Int:=((List.range k).map fun (j:Nat)=>(j:Int)).filter fun key=>decide (∃s∈N.syns,keyM N s.frm=key)
theorem keysK_all (N:Net):keysK N (nSrc N)=keysM N:=rfl
theorem keysK_zero (N:Net):keysK N 0=[]:=rfl
theorem keysK_next (N:Net)(k:Nat):keysK N (k+1)=keysK N k++if tgtM N N.syns (k:Int)≠[] then [(k:Int)] else []:=by
 unfold keysK
 rw [List.range_succ,List.map_append,List.filter_append]
 congr 1
 simp only [List.map_cons,List.map_nil]
 by_cases h:tgtM N N.syns (k:Int)≠[]
 ·rw [if_pos h,List.filter_cons,if_pos (decide_eq_true (tgt_some.2 h))];rfl
 ·rw [if_neg h,List.filter_cons,if_neg (fun h2=>h (tgt_some.1 (of_decide_eq_true h2)))];rfl
theorem keysK_mem {N:Net}{k:Nat}{x:Int}(h:x∈keysK N k):0≤x∧x<k:=by
 unfold keysK at h
 rw [List.mem_filter,List.mem_map] at h
 obtain ⟨⟨j,hj,rfl⟩,_⟩:=h
 rw [List.mem_range] at hj
 omega
theorem keysK_asc (N:Net)(k:Nat):(keysK N k).Pairwise fun a b=>a<b:=by
 unfold keysK
 refine List.Pairwise.filter _ ?_
 rw [List.pairwise_map]
 exact List.pairwise_lt_range.imp fun h=>by omega
theorem keysK_len (N:Net)(k:Nat):(keysK N k).length≤k:=by
 unfold keysK
 refine Nat.le_trans (List.length_filter_le _ _) ?_
 simp
def tabF (T:Int→List Int)(keys:List Int)(en:Int)(r:Nat):List Ety:=
 if ((tableM T keys r).length:Int)≤en then tableM T keys r else mergeM (tableM T keys r) ((tableM T keys r).map (·.key))
structure MapM where
 cores:List Int
 slots:List Int
 quant:QR
 rows:List (List RowE)
 tables:List (List Ety)
 waves:List Int
 cost:Int
 load:Int
 steps:Int
def mapNone:MapM:=⟨[],[],qNone,[],[],[],0,0,0⟩
def synQs (N:Net)(q:List Int):List (Syn×Int):=N.syns.zip q
def tablesF (N:Net)(C:Chp)(cores:List Int):List (List Ety):=(List.range (nCores C)).map (tabF (srcTree N C cores) (keysM N) C.en)
def mapErr (N:Net)(C:Chp)(cores:List Int):Int:=if asgE N C cores≠0 then asgE N C cores else if∃t∈tablesF N C cores,¬(t.length:Int)≤C.en then 15 else 0
def wavesF (N:Net)(C:Chp)(cores:List Int):List (List Int):=wavesM (srcTree N C cores) C.mesh.room (keysM N)
def mapRes (N:Net)(C:Chp)(cores:List Int):MapM:=if mapErr N C cores≠0 then mapNone else
 ⟨cores,slotsM cores,quantRes N C.bits,(List.range (nCores C)).map fun (k:Nat)=>rowsM N cores (synQs N (quantRes N C.bits).quots) (k:Int),tablesF N C cores,
  (List.range (nSrc N)).map fun (k:Nat)=>waveOf (wavesF N C cores) (k:Int),(costM N C cores:Int),(mostM ((keysM N).map (srcTree N C cores)):Int),(stepsM C.mesh.wide (srcTree N C cores) (homeM N cores) (coresM N C cores) (wavesF N C cores):Int)⟩
end Go.Gm
end

section
namespace Go.Gm
theorem mem_coresM {N:Net}{C:Chp}{cores:List Int}{key k:Int}:k∈coresM N C cores key↔(0≤k∧k<nCores C)∧∃s∈N.syns,keyM N s.frm=key∧cores[s.to.toNat]? =some k:=by
 unfold coresM
 rw [List.mem_filter,decide_eq_true_eq]
 have:=mem_allC (C:=C) (k:=k)
 unfold allC at this
 rw [this]
theorem coresM_nodup (N:Net)(C:Chp)(cores:List Int)(key:Int):(coresM N C cores key).Nodup:=by
 unfold coresM
 refine List.Pairwise.filter _ ?_
 rw [List.pairwise_map]
 exact List.nodup_range.imp fun h e=>h (by omega)
theorem core_of {N:Net}{C:Chp}{cores:List Int}(h:AsgOk N C cores){s:Syn}(hs:s∈N.syns):∃d,cores[s.to.toNat]? =some d∧(0≤d∧d<nCores C):=by
 have ht:=(h.plan.net.syns s hs).2.1
 have hl:=h.len
 have hlt:s.to.toNat<cores.length:=by omega
 refine ⟨cores[s.to.toNat],List.getElem?_eq_getElem hlt,?_⟩
 have:=(h.core _ (List.getElem_mem hlt)).1
 have:=(nCores_ok h.plan.chip).1
 omega
theorem home_range {N:Net}{C:Chp}{cores:List Int}(h:AsgOk N C cores)(key:Int)(hk:0≤key):0≤homeM N cores key∧homeM N cores key<nCores C:=by
 have hn:=nCores_ok h.plan.chip
 unfold homeM
 split
 ·have hlt:key.toNat<cores.length:=by have:=h.len;omega
  rw [List.getElem?_eq_getElem hlt,Option.getD_some]
  have:=(h.core _ (List.getElem_mem hlt)).1
  omega
 ·omega
end Go.Gm
end
