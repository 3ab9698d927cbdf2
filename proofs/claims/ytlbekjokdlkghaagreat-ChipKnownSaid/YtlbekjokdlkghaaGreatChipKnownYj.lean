import Derived.Test.YtlbekjokdlkghaaGreatChipKnownYf
import Derived.Test.YtlbekjokdlkghaaGreatChipKnownMm
import Derived.Test.YtlbekjokdlkghaaGreatChipKnownMc
set_option linter.unusedVariables false
set_option linter.unusedSimpArgs false
set_option maxHeartbeats 4000000
section
namespace Go.Proofs
open Go Go.Vx Go.Gm
def rowsL (N:Net)(C:Chp)(cores:List Int):List (List RowE):=(List.range (nCores C)).map fun (k:Nat)=>rowsM N cores (synQs N (quantRes N C.bits).quots) (k:Int)
def wav8 (N:Net)(C:Chp)(cores:List Int):List Int:=(List.range (nSrc N)).map fun (k:Nat)=>waveOf (wavesF N C cores) (k:Int)
def mapV8 (N:Net)(C:Chp)(cores:List Int)(y:MapP):List Value:=
 [.slice y.pc N.ps.length y.cc,.slice y.ps N.ps.length y.cs,.slice y.y.pp N.ps.length y.y.cp,.int .i64 N.inputs,.slice y.y.ps N.syns.length y.y.cs,.slice y.y.pz N.ps.length y.y.cz,.slice y.y.pq N.syns.length y.y.cq,.slice y.y.pe N.ps.length y.y.ce,.bool (quantRes N C.bits).exact,
  .slice y.pr (nCores C) y.cr,.slice y.pt (nCores C) y.ct,.slice y.pw (nSrc N) y.cw,.int .i64 (costM N C cores:Int),.int .i64 (mostM ((keysM N).map (srcTree N C cores)):Int),.int .i64 (stepsF N C cores:Int)]
def mapH8 (N:Net)(C:Chp)(cores:List Int)(y:MapP):HP:=
 .vec y.pc N.ps.length y.cc 3 1 (flat intV cores)::.vec y.ps N.ps.length y.cs 3 1 (flat intV (slotsM cores))::.vec y.pr (nCores C) y.cr 155 1 (flat rrV y.rr)::.vec y.pt (nCores C) y.ct 178 1 (flat erV y.tt)::.vec y.pw (nSrc N) y.cw 3 1 (flat intV (wav8 N C cores))::
 .vec y.y.pp N.ps.length y.y.cp 140 8 (flat parV N.ps)::.vec y.y.ps N.syns.length y.y.cs 154 4 (flat synV (qSyns N C))::.vec y.y.pz N.ps.length y.y.cz 3 1 (flat intV (scalesM N (halfM C.bits)))::.vec y.y.pq N.syns.length y.y.cq 3 1 (flat intV (quantRes N C.bits).quots)::.vec y.y.pe N.ps.length y.y.ce 3 1 (flat intV (quantRes N C.bits).errs)::(y.rr.map rrE++y.tt.map erE)
structure Map8 (N:Net) (C:Chp) (cores:List Int) (y:MapP):Prop where
 rows:y.rr.map (·.l)=rowsL N C cores
 tabs:y.tt.map (·.l)=tablesF N C cores
 okR:∀r∈y.rr,r.ok
 okT:∀r∈y.tt,r.ok
 pr:∃g,y.pr=some ⟨g,0,none⟩
 pt:∃g,y.pt=some ⟨g,0,none⟩
 pw:∃g,y.pw=some ⟨g,0,none⟩
 pz:∃g,y.y.pz=some ⟨g,0,none⟩
theorem mapErr_asg {N:Net}{C:Chp}{cores:List Int}(he:mapErr N C cores=0):AsgOk N C cores/\∀t∈tablesF N C cores,(t.length:Int)<=C.en:=by
 have hasg:asgE N C cores=0:=by
  refine jk fun hn=>hn ?_
  unfold mapErr at he
  rw [jx hn] at he
  exact he
 refine ⟨asgE_zero hasg,fun t ht=>?_⟩
 refine jk fun hb=>?_
 unfold mapErr at he
 rw [jz (by rw [hasg];simp),jx ⟨t,ht,hb⟩] at he
 exact absurd he (by decide)
theorem placeMap8 (X:PlnX)(w:World)(hX:PlnRd X w)(cores:List Int)(hcw:∀k∈cores,I64 k)(p:Option Addr)(c b o:Nat)(h1:Sl w intV 1 cores p cores.length b o)(he:mapErr X.N X.C cores=0):
  Calls Tryz.prog 20 #[.agg X.net.toArray,.agg (chpC X.C X.pd X.cd).toArray,.slice p cores.length c] w fun e w'=>∃y:MapP,e=.returned (.tuple #[.agg (mapV8 X.N X.C cores y).toArray,.int .i64 0])/\Map8 X.N X.C cores y/\St w [] (mapH8 X.N X.C cores y) w':=by
 obtain ⟨hA,htabs⟩:=mapErr_asg he
 have hOk:=hA.plan.net
 have hbits:=hA.plan.chip.bits
 have hq0:qErr X.N X.C.bits=0:=by
  unfold qErr
  rw [netchk_zero.2 hOk,jz (by simp),jz qZ]
 have hcl:=hA.len
 have hcfew:=hOk.few
 have hcsome:=hOk.some
 obtain ⟨hcells,hn1,hn64⟩:=nCores_ok hA.plan.chip
 have hmr:mapRes X.N X.C cores=⟨cores,slotsM cores,quantRes X.N X.C.bits,rowsL X.N X.C cores,tablesF X.N X.C cores,wav8 X.N X.C cores,(costM X.N X.C cores:Int),(mostM ((keysM X.N).map (srcTree X.N X.C cores)):Int),(stepsF X.N X.C cores:Int)⟩:=by
  unfold mapRes
  rw [jz (by rw [he];simp)]
  rfl
 have hqr:quantRes X.N X.C.bits=⟨X.N.ps,X.N.inputs,qSyns X.N X.C,scalesM X.N (halfM X.C.bits),(quantRes X.N X.C.bits).quots,(quantRes X.N X.C.bits).errs,(quantRes X.N X.C.bits).exact⟩:=by
  unfold quantRes
  rw [jz qZ]
  rfl
 have hql:(quantRes X.N X.C.bits).quots.length=X.N.syns.length:=by rw [quots_ok hA,qv]
 have hqe:(quantRes X.N X.C.bits).errs.length=X.N.ps.length:=by
  unfold quantRes
  rw [jz qZ]
  unfold quantM
  simp
 have hzl:(scalesM X.N (halfM X.C.bits)).length=X.N.ps.length:=by unfold scalesM;simp
 have hsl:(qSyns X.N X.C).length=X.N.syns.length:=qv _
 have hsll:(slotsM cores).length=X.N.ps.length:=by unfold slotsM;rw [qv,Qg,hcl]
 have hwl:(wav8 X.N X.C cores).length=nSrc X.N:=by unfold wav8;simp
 have htl:(tablesF X.N X.C cores).length=nCores X.C:=by unfold tablesF;rw [qv,Qg]
 have g1:=placeMap_any X w hX cores hcw qZ p c b o h1
 rw [hmr,he] at g1
 refine g1.mono fun e w'' ⟨y,e1,hy,e3⟩=>?_
 have hrl:y.rr.length=nCores X.C:=by
  have:=congrArg List.length hy.rows
  unfold rowsL at this
  simpa using this
 have htl2:y.tt.length=nCores X.C:=by
  have:=congrArg List.length hy.tables
  rw [qv] at this
  rw [this];exact htl
 have hV:mapV y ⟨cores,slotsM cores,quantRes X.N X.C.bits,rowsL X.N X.C cores,tablesF X.N X.C cores,wav8 X.N X.C cores,(costM X.N X.C cores:Int),(mostM ((keysM X.N).map (srcTree X.N X.C cores)):Int),(stepsF X.N X.C cores:Int)⟩=mapV8 X.N X.C cores y:=by
  unfold mapV mapV8 quantC
  rw [hqr]
  dsimp only
  rw [hql,hqe,hzl,hsl,hsll,hwl,hrl,htl2,hcl]
  rfl
 have hH:mapH y ⟨cores,slotsM cores,quantRes X.N X.C.bits,rowsL X.N X.C cores,tablesF X.N X.C cores,wav8 X.N X.C cores,(costM X.N X.C cores:Int),(mostM ((keysM X.N).map (srcTree X.N X.C cores)):Int),(stepsF X.N X.C cores:Int)⟩=mapH8 X.N X.C cores y:=by
  unfold mapH mapH8 quantH
  rw [hqr]
  dsimp only
  rw [hql,hqe,hzl,hsl,hsll,hwl,hrl,htl2,hcl]
  rfl
 rw [hV] at e1
 rw [hH] at e3
 have hvf:=fun (x:Ent) hx=>e3.own x hx
 have hns:0<nSrc X.N:=by unfold nSrc;omega
 refine ⟨y,e1,⟨hy.rows,hy.tables,hy.okR,hy.okT,?_,?_,?_,?_⟩,e3⟩
 ·exact (vec_facts (hvf (.vec y.pr (nCores X.C) y.cr 155 1 (flat rrV y.rr)) (by simp [mapH8]))).2.1 qZ
 ·exact (vec_facts (hvf (.vec y.pt (nCores X.C) y.ct 178 1 (flat erV y.tt)) (by simp [mapH8]))).2.1 qZ
 ·exact (vec_facts (hvf (.vec y.pw (nSrc X.N) y.cw 3 1 (flat intV (wav8 X.N X.C cores))) (by simp [mapH8]))).2.1 hns
 ·exact (vec_facts (hvf (.vec y.y.pz X.N.ps.length y.y.cz 3 1 (flat intV (scalesM X.N (halfM X.C.bits)))) (by simp [mapH8]))).2.1 qZ
end Go.Proofs
end

section
namespace Go.Gm
open Go.Proofs
structure KRow where
 key:Int
 p:Option Addr
 cap:Nat
 l:List RowE
def kl:List KRow->Int->List RowE
 |[],_=>[]
 |r::R,k=>if r.key=k then r.l else kl R k
theorem linksT_le (l:List Int)(i:Nat):linksM (l.take i)<=4*l.length:=by
 have h1:∀l:List Int,linksM l<=4*l.length:=fun l=>by
  induction l with
  |nil=>simp [linksM]
  |cons x l ih=>
   have h2:linkN x<=4:=qT (p:=fun b=>decide (hasB x b)) (l:=([1,2,4,8]:List Int))
   unfold linksM at ih ⊢
   rw [qI,List.sum_cons,qR]
   omega
 have h2:=h1 (l.take i)
 rw [qh] at h2
 omega
structure CorM where
 b:Nat
 mb:Nat
 p:Option Addr
 c:Nat
 l:List Nat
 R:List KRow
theorem cells_snoc {cores:List Int}{bs:List Nat}{b:Nat}{k:Int}(hk:cores[bs.length]? =some k)(r:Int):(cellsTo cores (bs.length+1) r).map (fun i=>((bs++[b])[i]?).getD 0)=(cellsTo cores bs.length r).map (fun i=>(bs[i]?).getD 0)++if k=r then [b] else []:=by
 rw [cellsTo_next cores hk,ql]
 congr 1
 ·refine List.map_congr_left fun i hi=>?_
  rw [List.getElem?_append_left (cellsTo_lt hi).1]
 ·by_cases h:k=r
  ·rw [jx h,jx h,qU,Qr (qA _),jq];rfl
  ·rw [jz h,jz h];rfl
def tgPairs (rows:List (List RowE))(k j:Nat):List (Int×RowE):=((List.range k).flatMap fun (i:Nat)=>((rows[i]?).getD []).map fun r=>((i:Int),r))++(((rows[k]?).getD []).take j).map fun r=>((k:Int),r)
def tgOf (P:List (Int×RowE))(key:Int):List Int:=(P.filter fun x=>decide (x.2.key=key)).map (·.1)
def tgAll (P:List (Int×RowE))(n:Nat):List (List Int):=(List.range n).map fun (q:Nat)=>tgOf P (q:Int)
theorem tgPairs_next {rows:List (List RowE)}{k j:Nat}{l:List RowE}{r:RowE}(hl:rows[k]? =some l)(hr:l[j]? =some r):tgPairs rows k (j+1)=tgPairs rows k j++[((k:Int),r)]:=by
 unfold tgPairs
 rw [hl,qY,qi,hr,qW,ql,<-qJ]
 rfl
theorem tgPairs_row {rows:List (List RowE)}{k:Nat}{l:List RowE}(hl:rows[k]? =some l):tgPairs rows k l.length=tgPairs rows (k+1) 0:=by
 unfold tgPairs
 rw [hl,qY,Qk,Qz,QK,List.flatMap_singleton,hl,qY,QO,QL,qC]
theorem tgOf_snoc (P:List (Int×RowE))(k:Int)(r:RowE)(key:Int):tgOf (P++[(k,r)]) key=tgOf P key++if r.key=key then [k] else []:=by
 unfold tgOf
 rw [Qa,ql]
 congr 1
 by_cases h:r.key=key<;>simp [h]
theorem tgAll_len (P:List (Int×RowE))(n:Nat):(tgAll P n).length=n:=by unfold tgAll;simp
theorem tgAll_get {P:List (Int×RowE)}{n q:Nat}(h:q<n):(tgAll P n)[q]? =some (tgOf P (q:Int)):=by
 unfold tgAll
 rw [qj,qX h];rfl
theorem tgAll_next {P:List (Int×RowE)}{n q:Nat}(h:q<n)(k:Int)(r:RowE)(hr:r.key=(q:Int)):tgAll (P++[(k,r)]) n=(tgAll P n).set q (tgOf P (q:Int)++[k]):=by
 apply qp
 intro i
 rcases qy i n with hi|hi
 ·rw [tgAll_get hi,tgOf_snoc]
  by_cases h1:q=i
  ·subst h1
   rw [jx hr,QZ (by rw [tgAll_len];exact hi)]
  ·rw [jz (by omega),qC,List.getElem?_set_ne h1,tgAll_get hi]
 ·rw [qf (by rw [tgAll_len];exact hi),qf (by rw [QF,tgAll_len];exact hi)]
section
variable {N : Net} {C : Chp} {cores : List Int}
theorem rowsL_get {k:Nat}(h:k<nCores C):(rowsL N C cores)[k]? =some (rowsM N cores (synQs N (quantRes N C.bits).quots) (k:Int)):=by
 unfold rowsL
 rw [qj,qX h];rfl
theorem rowsL_len (N:Net)(C:Chp)(cores:List Int):(rowsL N C cores).length=nCores C:=by unfold rowsL;simp
theorem rowsM_eq (hA:AsgOk N C cores)(k:Int):rowsM N cores (synQs N (quantRes N C.bits).quots) k=(N.syns.filter fun s=>decide (cores[s.to.toNat]? =some k)).map fun s=>rowOf N cores s (quotS (scalesM N (halfM C.bits)) s):=by
 unfold rowsM synQs
 rw [quots_ok hA]
 have h1:∀(l:List Syn) (f:Syn->Int),l.zip (l.map f)=l.map fun s=>(s,f s):=fun l f=>by
  induction l with
  |nil=>rfl
  |cons a l ih=>rw [qI,List.zip_cons_cons,qI,ih]
 rw [h1,List.filter_map,List.map_map]
 rfl
theorem rowsM_mem (hA:AsgOk N C cores){k:Int}{r:RowE}(h:r∈rowsM N cores (synQs N (quantRes N C.bits).quots) k):∃s∈N.syns,cores[s.to.toNat]? =some k/\r=rowOf N cores s (quotS (scalesM N (halfM C.bits)) s):=by
 rw [rowsM_eq hA] at h
 obtain ⟨s,hs,rfl⟩:=qo.1 h
 rw [qP,jv] at hs
 exact ⟨s,hs.1,hs.2,rfl⟩
theorem pairs_all (hA:AsgOk N C cores):tgPairs (rowsL N C cores) (nCores C) 0=(List.range (nCores C)).flatMap fun (k:Nat)=>(rowsM N cores (synQs N (quantRes N C.bits).quots) (k:Int)).map fun r=>((k:Int),r):=by
 unfold tgPairs
 rw [QO,QL,qC,QG,QG]
 congr 1
 refine List.map_congr_left fun k hk=>?_
 rw [rowsL_get (qL.1 hk)];rfl
theorem tg_mem (hA:AsgOk N C cores){t key:Int}:t∈tgOf (tgPairs (rowsL N C cores) (nCores C) 0) key<->t∈coresM N C cores key:=by
 have hn:=nCores_ok hA.plan.chip
 rw [mem_coresM,pairs_all hA]
 unfold tgOf
 constructor
 ·intro h
  obtain ⟨⟨a,r⟩,h1,rfl⟩:=qo.1 h
  rw [qP,jv] at h1
  obtain ⟨h1,h2⟩:=h1
  obtain ⟨k,hk,h3⟩:=QY.1 h1
  obtain ⟨r2,h4,h5⟩:=qo.1 h3
  simp only [Prod.mk.injEq] at h5
  obtain ⟨rfl,rfl⟩:=h5
  obtain ⟨s,hs,hc,rfl⟩:=rowsM_mem hA h4
  have:=qL.1 hk
  exact ⟨⟨by omega,by omega⟩,s,hs,h2,hc⟩
 ·rintro ⟨h1,s,hs,h2,h3⟩
  refine qo.2 ⟨(t,rowOf N cores s (quotS (scalesM N (halfM C.bits)) s)),?_,rfl⟩
  rw [qP,jv]
  refine ⟨QY.2 ⟨t.toNat,qL.2 (by omega),qo.2 ⟨rowOf N cores s (quotS (scalesM N (halfM C.bits)) s),?_,by rw [Ql h1.1]⟩⟩,h2⟩
  rw [Ql h1.1,rowsM_eq hA]
  exact qo.2 ⟨s,by rw [qP,jv];exact ⟨hs,h3⟩,rfl⟩
theorem pairs_len (hA:AsgOk N C cores):∀n:Nat,((List.range n).flatMap fun (k:Nat)=>(rowsM N cores (synQs N (quantRes N C.bits).quots) (k:Int)).map fun r=>((k:Int),r)).length<=N.syns.length:=fun n=>by
 have h1:=keys_perm (fun s:Syn=>cores[s.to.toNat]?.getD (-1)) N.syns (S:=(List.range n).map fun (k:Nat)=>(k:Int)) (List.Pairwise.map _ (fun a b h e=>h (by omega)) List.nodup_range)
 have h2:=h1.length_eq
 have h3:=qD (fun s:Syn=>decide (cores[s.to.toNat]?.getD (-1)∈(List.range n).map fun (k:Nat)=>(k:Int))) N.syns
 rw [<-h2] at h3
 refine Qb (Nat.le_of_eq ?_) h3
 rw [List.length_flatMap,List.flatMap_map,List.length_flatMap]
 congr 1
 refine List.map_congr_left fun k hk=>?_
 rw [qv,rowsM_eq hA,qv]
 congr 1
 refine List.filter_congr fun s _=>?_
 cases hc:cores[s.to.toNat]? with
 |none=>have h4:¬(-1:Int)=(k:Int):=by omega
        simp [h4]
 |some d=>simp
theorem pairsTo_len (hA:AsgOk N C cores){k j:Nat}(hk:k<=nCores C):(tgPairs (rowsL N C cores) k j).length<=N.syns.length:=by
 rcases qy k (nCores C) with hlt|hge
 ·refine Qb ?_ (pairs_len hA (k+1))
  have h1:((List.range k).flatMap fun (i:Nat)=>(((rowsL N C cores)[i]?).getD []).map fun r=>((i:Int),r))=(List.range k).flatMap fun (k:Nat)=>(rowsM N cores (synQs N (quantRes N C.bits).quots) (k:Int)).map fun r=>((k:Int),r):=by
   rw [QG,QG]
   congr 1
   refine List.map_congr_left fun i hi=>?_
   rw [rowsL_get (by have:=qL.1 hi;omega)];rfl
  unfold tgPairs
  rw [h1,rowsL_get hlt,qY,Qz,QK,List.flatMap_singleton,qw,qw,qv,qv,qh]
  omega
 ·have:k=nCores C:=by omega
  subst this
  have h1:tgPairs (rowsL N C cores) (nCores C) j=tgPairs (rowsL N C cores) (nCores C) 0:=by
   unfold tgPairs
   rw [qf (by rw [rowsL_len];exact qA _)]
   simp
  rw [h1,pairs_all hA]
  exact pairs_len hA _
theorem tgOf_len (P:List (Int×RowE))(key:Int):(tgOf P key).length<=P.length:=by
 unfold tgOf
 rw [qv]
 exact qD _ _
def srcTo (N:Net)(C:Chp)(cores:List Int)(k:Nat):List SrcM:=(keysK N k).map (srcAt N C cores)
theorem keysK_nextE (N:Net)(k:Nat):keysK N (k+1)=keysK N k++if (∃s∈N.syns,keyM N s.frm=(k:Int)) then [(k:Int)] else []:=by
 unfold keysK
 rw [Qz,ql,Qa]
 congr 1
 by_cases h:∃s∈N.syns,keyM N s.frm=(k:Int)<;>simp [h]
theorem tg_nil (hA:AsgOk N C cores)(k:Int):tgOf (tgPairs (rowsL N C cores) (nCores C) 0) k=[]<->¬∃s∈N.syns,keyM N s.frm=k:=by
 have hn:=nCores_ok hA.plan.chip
 constructor
 ·rintro h ⟨s,hs,hk⟩
  obtain ⟨t,ht⟩:∃t,t∈coresM N C cores k:=by
   have hr:=key_range hA.plan.net hs
   refine key_way hA ?_
   unfold keysM
   rw [qP,jv]
   exact ⟨qo.2 ⟨k.toNat,qL.2 (by omega),by omega⟩,s,hs,hk⟩
  have h2:=(tg_mem hA).2 ht
  rw [h] at h2
  cases h2
 ·intro h
  rw [List.eq_nil_iff_forall_not_mem]
  intro t ht
  obtain ⟨_,s,hs,hk,_⟩:=mem_coresM.1 ((tg_mem hA).1 ht)
  exact h ⟨s,hs,hk⟩
theorem tg_tree (hA:AsgOk N C cores){k:Int}(hk:0<=k):treeM C.mesh.wide (nCores C) (homeM N cores k) (tgOf (tgPairs (rowsL N C cores) (nCores C) 0) k)=srcTree N C cores k:=by
 have hw:=hA.plan.chip.mesh.wide
 have h1:=mhome_range hA hk
 unfold srcTree nCores
 exact tree_same (by omega) h1 (fun t ht=>core_range hA ((tg_mem hA).1 ht)) fun t=>tg_mem hA
end
end Go.Gm
namespace Go.Proofs
open Go Go.Vx Go.Gm
def krV (r:KRow):Value:=.slice r.p r.l.length r.cap
def krE (r:KRow):Ent:=.vec r.p r.l.length r.cap 158 4 (flat rwV r.l)
def krM (r:KRow):Int×Value:=(r.key,krV r)
theorem krow_cases (R:List KRow)(s:RowE):
  (∃(j:Nat) (r:KRow),R[j]? =some r/\mfind (R.map krM) s.key=some (krV r)/\kl R s.key=r.l/\r.key=s.key/\
   ∀r':KRow,r'.key=s.key->mset (R.map krM) s.key (krV r')=(R.set j r').map krM/\∀k,kl (R.set j r') k=if s.key=k then r'.l else kl R k)\/
  (mfind (R.map krM) s.key=none/\kl R s.key=[]/\
   ∀r':KRow,r'.key=s.key->mset (R.map krM) s.key (krV r')=(R++[r']).map krM/\∀k,kl (R++[r']) k=if s.key=k then r'.l else kl R k):=by
 induction R with
 |nil=>right;refine ⟨rfl,rfl,fun r' h1=>⟨by simp [mset,krM,h1],fun k=>by simp [kl,h1]⟩⟩
 |cons z R ih=>
  by_cases h:z.key=s.key
  ·left
   refine ⟨0,z,rfl,by simp [mfind,krM,h],by simp [kl,h],h,fun r' h1=>⟨by simp [mset,krM,h,h1],fun k=>?_⟩⟩
   simp only [List.set_cons_zero,kl,h1,h]
   by_cases hk:s.key=k<;>simp [hk]
  ·rcases ih with ⟨j,r,g1,g2,g3,g4,g5⟩|⟨g2,g3,g5⟩
   ·left
    refine ⟨j+1,r,by simpa using g1,by simpa [mfind,krM,h] using g2,by simpa [kl,h] using g3,g4,fun r' h1=>?_⟩
    obtain ⟨k1,k2⟩:=g5 r' h1
    constructor
    ·simp only [qI,mset,krM,h,if_false,List.set_cons_succ] at k1 ⊢
     rw [k1]
    ·intro k
     simp only [List.set_cons_succ,kl,k2 k]
     by_cases hk:z.key=k
     ·have:¬s.key=k:=fun e=>h (hk.trans e.symm)
      simp [hk,this]
     ·simp [hk]
   ·right
    refine ⟨by simpa [mfind,krM,h] using g2,by simpa [kl,h] using g3,fun r' h1=>?_⟩
    obtain ⟨k1,k2⟩:=g5 r' h1
    constructor
    ·simp only [qI,mset,krM,h,if_false,Qw] at k1 ⊢
     rw [k1]
    ·intro k
     simp only [Qw,kl,k2 k]
     by_cases hk:z.key=k
     ·have:¬s.key=k:=fun e=>h (hk.trans e.symm)
      simp [hk,this]
     ·simp [hk]
theorem krE_snoc (k:Int)(p:Option Addr)(c:Nat)(l:List RowE)(x:RowE):krE ⟨k,p,c,l++[x]⟩=.vec p (l.length+1) c 158 4 (flat rwV l++[.int .i64 x.key,.int .i64 x.slot,.int .i64 x.wt,.int .i64 x.dl]):=by
 unfold krE
 rw [qw,flat_append]
 rfl
theorem krV_snoc (k:Int)(p:Option Addr)(c:Nat)(l:List RowE)(x:RowE):krV ⟨k,p,c,l++[x]⟩=.slice p (l.length+1) c:=by
 unfold krV
 rw [qw];rfl
def corR (c:CorM):Ent:=.row c.b 211 [.slice c.p c.l.length c.c,.map (some c.mb)]
def corV (c:CorM):Ent:=.vec c.p c.l.length c.c 212 1 (flat cpV c.l)
def corM (c:CorM):Ent:=.map c.mb (c.R.map krM)
def corK (c:CorM):HP:=c.R.map krE
theorem krE_one (k:Int)(p:Option Addr)(c:Nat)(x:RowE):krE ⟨k,p,c,[x]⟩=.vec p 1 c 158 4 [.int .i64 x.key,.int .i64 x.slot,.int .i64 x.wt,.int .i64 x.dl]:=rfl
theorem corR_mk (b mb:Nat)(p:Option Addr)(c:Nat)(l:List Nat)(R:List KRow):corR ⟨b,mb,p,c,l,R⟩=.row b 211 [.slice p l.length c,.map (some mb)]:=rfl
theorem corV_mk (b mb:Nat)(p:Option Addr)(c:Nat)(l:List Nat)(R:List KRow):corV ⟨b,mb,p,c,l,R⟩=.vec p l.length c 212 1 (flat cpV l):=rfl
theorem corM_mk (b mb:Nat)(p:Option Addr)(c:Nat)(l:List Nat)(R:List KRow):corM ⟨b,mb,p,c,l,R⟩=.map mb (R.map krM):=rfl
theorem corK_mk (b mb:Nat)(p:Option Addr)(c:Nat)(l:List Nat)(R:List KRow):corK ⟨b,mb,p,c,l,R⟩=R.map krE:=rfl
theorem corM_set {K:List CorM}{r:Nat}{k k':CorM}(h:K[r]? =some k)(hb:k'.mb=k.mb)(hR:k'.R=k.R):(K.set r k').map corM=K.map corM:=by
 rw [List.map_set]
 refine List.set_getElem?_self' ?_
 rw [qj,h,qV]
 unfold corM
 rw [hb,hR]
theorem corK_set {K:List CorM}{r:Nat}{k k':CorM}(h:K[r]? =some k)(hR:k'.R=k.R):(K.set r k').flatMap corK=K.flatMap corK:=by
 rw [QG,QG,List.map_set]
 congr 1
 refine List.set_getElem?_self' ?_
 rw [qj,h,qV]
 unfold corK
 rw [hR]
theorem corB_set {K:List CorM}{r:Nat}{k k':CorM}(h:K[r]? =some k)(hb:k'.b=k.b):(K.set r k').map (·.b)=K.map (·.b):=by
 rw [List.map_set]
 refine List.set_getElem?_self' ?_
 rw [qj,h,qV,hb]
theorem nilvs_mid {A B H:HP}{e size n:Nat}(h:HLe (A++B) H):HLe (A++(List.replicate n (.vec none 0 0 e size [])++B)) H:=HLe.permL (HLe.nilvs h n) (List.perm_append_comm_assoc ..)
def kmF:Nat->List Nat->List (Int×Value)
 |_,[]=>[]
 |n,b::l=>((n:Int),.pointer (some ⟨b,0,none⟩))::kmF (n+1) l
theorem kmF_none:∀(l:List Nat) (n:Nat) (q:Int),q<(n:Int)\/(n:Int)+l.length<=q->mfind (kmF n l) q=none
 |[],_,_,_=>rfl
 |b::l,n,q,h=>by
  rw [qR] at h
  unfold kmF mfind
  rw [if_neg (by dsimp only;omega)]
  exact kmF_none l (n+1) q qZ
theorem kmF_get:∀(l:List Nat) (n i:Nat) (b:Nat),l[i]? =some b->mfind (kmF n l) ((n+i:Nat):Int)=some (.pointer (some ⟨b,0,none⟩))
 |[],_,_,_,h=>by simp at h
 |a::l,n,0,b,h=>by
  simp only [QX,qK] at h
  subst h
  unfold kmF mfind
  rw [jx (by simp)]
 |a::l,n,i+1,b,h=>by
  simp only [Qv] at h
  unfold kmF mfind
  rw [if_neg (by dsimp only;omega)]
  have:=kmF_get l (n+1) i b h
  rw [show n+(i+1)=n+1+i by omega]
  exact this
theorem mset_new:∀{m:List (Int×Value)} {j:Int} {v:Value},mfind m j=none->mset m j v=m++[(j,v)]
 |[],_,_,_=>rfl
 |p::r,j,v,h=>by
  unfold mfind at h
  unfold mset
  by_cases hp:p.1=j
  ·rw [jx hp] at h;cases h
  ·rw [jz hp] at h ⊢
   rw [mset_new h];rfl
theorem kmF_snoc:∀(l:List Nat) (n:Nat) (b:Nat),kmF n (l++[b])=kmF n l++[(((n+l.length:Nat):Int),.pointer (some ⟨b,0,none⟩))]
 |[],n,b=>rfl
 |a::l,n,b=>by
  rw [Qw]
  unfold kmF
  rw [kmF_snoc l (n+1) b,qR,show n+1+l.length=n+(l.length+1) by omega]
  rfl
theorem kmF_set (l:List Nat)(b:Nat):mset (kmF 0 l) (l.length:Int) (.pointer (some ⟨b,0,none⟩))=kmF 0 (l++[b]):=by
 rw [mset_new (kmF_none l 0 _ qZ),kmF_snoc,Qo]
theorem celE_new (b:Nat)(i:Int)(q:Par)(z:Int):celE ⟨b,i,q,z,⟨0,0⟩,List.replicate 16 0⟩=.row b 215 [.int .i64 i,.int .i64 q.lk,.int .i64 q.lv,.int .i64 q.bias,.int .i64 q.th,.int .i64 q.rk,.int .i64 q.rs,.int .i64 q.fl,.int .i64 q.rest,.int .i64 z,.int .i64 0,.int .i64 0,.int .i64 0,.int .i64 0,.int .i64 0,.int .i64 0,.int .i64 0,.int .i64 0,.int .i64 0,.int .i64 0,.int .i64 0,.int .i64 0,.int .i64 0,.int .i64 0,.int .i64 0,.int .i64 0,.int .i64 0,.int .i64 0]:=rfl
end Go.Proofs
end
