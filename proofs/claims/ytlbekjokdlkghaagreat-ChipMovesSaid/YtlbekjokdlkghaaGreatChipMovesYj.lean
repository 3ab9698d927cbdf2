import Derived.Test.YtlbekjokdlkghaaGreatChipMovesYf
import Derived.Test.YtlbekjokdlkghaaGreatChipMovesMm
import Derived.Test.YtlbekjokdlkghaaGreatChipMovesMc
set_option linter.unusedVariables false
set_option linter.unusedSimpArgs false
set_option maxHeartbeats 4000000
section
namespace Go.Proofs
open Go Go.Vx Go.Gm
def cQ9 (N:Net)(C:Chp)(cores:List Int):List (List RowE):=(List.range (bX1 C)).map fun (k:Nat)=>bM1 N cores (cJ5 N (bQ9 N C.bits).quots) (k:Int)
def hS0 (N:Net)(C:Chp)(cores:List Int):List Int:=(List.range (bV2 N)).map fun (k:Nat)=>bW0 (bX4 N C cores) (k:Int)
def hG4 (N:Net)(C:Chp)(cores:List Int)(y:MapP):List Value:=
 [.slice y.pc N.ps.length y.cc,.slice y.ps N.ps.length y.cs,.slice y.y.pp N.ps.length y.y.cp,.int .i64 N.inputs,.slice y.y.ps N.syns.length y.y.cs,.slice y.y.pz N.ps.length y.y.cz,.slice y.y.pq N.syns.length y.y.cq,.slice y.y.pe N.ps.length y.y.ce,.bool (bQ9 N C.bits).exact,
  .slice y.pr (bX1 C) y.cr,.slice y.pt (bX1 C) y.ct,.slice y.pw (bV2 N) y.cw,.int .i64 (bM9 N C cores:Int),.int .i64 (bJ7 ((bX0 N).map (bQ5 N C cores)):Int),.int .i64 (bW4 N C cores:Int)]
def fX1 (N:Net)(C:Chp)(cores:List Int)(y:MapP):HP:=
 .vec y.pc N.ps.length y.cc 3 1 (bQ1 bQ6 cores)::.vec y.ps N.ps.length y.cs 3 1 (bQ1 bQ6 (bM0 cores))::.vec y.pr (bX1 C) y.cr 155 1 (bQ1 rrV y.rr)::.vec y.pt (bX1 C) y.ct 178 1 (bQ1 erV y.tt)::.vec y.pw (bV2 N) y.cw 3 1 (bQ1 bQ6 (hS0 N C cores))::
 .vec y.y.pp N.ps.length y.y.cp 140 8 (bQ1 bH3 N.ps)::.vec y.y.ps N.syns.length y.y.cs 154 4 (bQ1 bP1 (bJ6 N C))::.vec y.y.pz N.ps.length y.y.cz 3 1 (bQ1 bQ6 (bX2 N (bW6 C.bits)))::.vec y.y.pq N.syns.length y.y.cq 3 1 (bQ1 bQ6 (bQ9 N C.bits).quots)::.vec y.y.pe N.ps.length y.y.ce 3 1 (bQ1 bQ6 (bQ9 N C.bits).errs)::(y.rr.map rrE++y.tt.map erE)
structure Map8 (N:Net) (C:Chp) (cores:List Int) (y:MapP):Prop where
 rows:y.rr.map (·.l)=cQ9 N C cores
 tabs:y.tt.map (·.l)=bK9 N C cores
 okR:∀r∈y.rr,r.ok
 okT:∀r∈y.tt,r.ok
 pr:∃g,y.pr=some ⟨g,0,none⟩
 pt:∃g,y.pt=some ⟨g,0,none⟩
 pw:∃g,y.pw=some ⟨g,0,none⟩
 pz:∃g,y.y.pz=some ⟨g,0,none⟩
theorem bN5 {N:Net}{C:Chp}{cores:List Int}(he:bV5 N C cores=0):AsgOk N C cores/\∀t∈bK9 N C cores,(t.length:Int)<=C.en:=by
 have hasg:gS1 N C cores=0:=by
  refine jg fun hn=>hn ?_
  unfold bV5 at he
  rw [jw hn] at he
  exact he
 refine ⟨fM8 hasg,fun t ht=>?_⟩
 refine jg fun hb=>?_
 unfold bV5 at he
 rw [jk (by rw [hasg];simp),jw ⟨t,ht,hb⟩] at he
 exact absurd he (by decide)
theorem hV8 (X:PlnX)(w:World)(hX:PlnRd X w)(cores:List Int)(hcw:∀k∈cores,I64 k)(p:Option Addr)(c b o:Nat)(h1:Sl w bQ6 1 cores p cores.length b o)(he:bV5 X.N X.C cores=0):
  Calls Tryz.prog 20 #[.agg X.net.toArray,.agg (bD5 X.C X.pd X.cd).toArray,.slice p cores.length c] w fun e w'=>∃y:MapP,e=.returned (.tuple #[.agg (hG4 X.N X.C cores y).toArray,.int .i64 0])/\Map8 X.N X.C cores y/\St w [] (fX1 X.N X.C cores y) w':=by
 obtain ⟨hA,htabs⟩:=bN5 he
 have hOk:=hA.plan.net
 have hbits:=hA.plan.chip.bits
 have hq0:fN8 X.N X.C.bits=0:=by
  unfold fN8
  rw [bJ4.2 hOk,jk oU,jk qZ]
 have hcl:=hA.len
 have hcfew:=hOk.few
 have hcsome:=hOk.some
 obtain ⟨hcells,hn1,hn64⟩:=bX6 hA.plan.chip
 have hmr:bC5 X.N X.C cores=⟨cores,bM0 cores,bQ9 X.N X.C.bits,cQ9 X.N X.C cores,bK9 X.N X.C cores,hS0 X.N X.C cores,(bM9 X.N X.C cores:Int),(bJ7 ((bX0 X.N).map (bQ5 X.N X.C cores)):Int),(bW4 X.N X.C cores:Int)⟩:=by
  unfold bC5
  rw [jk (by rw [he];simp)]
  rfl
 have hqr:bQ9 X.N X.C.bits=⟨X.N.ps,X.N.inputs,bJ6 X.N X.C,bX2 X.N (bW6 X.C.bits),(bQ9 X.N X.C.bits).quots,(bQ9 X.N X.C.bits).errs,(bQ9 X.N X.C.bits).exact⟩:=by
  unfold bQ9
  rw [jk qZ]
  rfl
 have hql:(bQ9 X.N X.C.bits).quots.length=X.N.syns.length:=by rw [fQ2 hA,qv]
 have hqe:(bQ9 X.N X.C.bits).errs.length=X.N.ps.length:=by
  unfold bQ9
  rw [jk qZ]
  unfold hV4
  simp
 have hzl:(bX2 X.N (bW6 X.C.bits)).length=X.N.ps.length:=by unfold bX2;simp
 have hsl:(bJ6 X.N X.C).length=X.N.syns.length:=qv _
 have hsll:(bM0 cores).length=X.N.ps.length:=by unfold bM0;rw [qv,Qg,hcl]
 have hwl:(hS0 X.N X.C cores).length=bV2 X.N:=by unfold hS0;simp
 have htl:(bK9 X.N X.C cores).length=bX1 X.C:=by unfold bK9;rw [qv,Qg]
 have g1:=cL8 X w hX cores hcw qZ p c b o h1
 rw [hmr,he] at g1
 refine g1.mono fun e w'' ⟨y,e1,hy,e3⟩=>?_
 have hrl:y.rr.length=bX1 X.C:=by
  have:=congrArg List.length hy.rows
  unfold cQ9 at this
  simpa using this
 have htl2:y.tt.length=bX1 X.C:=by
  have:=congrArg List.length hy.tables
  rw [qv] at this
  rw [this];exact htl
 have hV:kR8 y ⟨cores,bM0 cores,bQ9 X.N X.C.bits,cQ9 X.N X.C cores,bK9 X.N X.C cores,hS0 X.N X.C cores,(bM9 X.N X.C cores:Int),(bJ7 ((bX0 X.N).map (bQ5 X.N X.C cores)):Int),(bW4 X.N X.C cores:Int)⟩=hG4 X.N X.C cores y:=by
  unfold kR8 hG4 cF6
  rw [hqr]
  dsimp only
  rw [hql,hqe,hzl,hsl,hsll,hwl,hrl,htl2,hcl]
  rfl
 have hH:lV9 y ⟨cores,bM0 cores,bQ9 X.N X.C.bits,cQ9 X.N X.C cores,bK9 X.N X.C cores,hS0 X.N X.C cores,(bM9 X.N X.C cores:Int),(bJ7 ((bX0 X.N).map (bQ5 X.N X.C cores)):Int),(bW4 X.N X.C cores:Int)⟩=fX1 X.N X.C cores y:=by
  unfold lV9 fX1 cM4
  rw [hqr]
  dsimp only
  rw [hql,hqe,hzl,hsl,hsll,hwl,hrl,htl2,hcl]
  rfl
 rw [hV] at e1
 rw [hH] at e3
 have hvf:=fun (x:Ent) hx=>e3.own x hx
 have hns:0<bV2 X.N:=by unfold bV2;omega
 refine ⟨y,e1,⟨hy.rows,hy.tables,hy.okR,hy.okT,?_,?_,?_,?_⟩,e3⟩
 ·exact (bB9 (hvf (.vec y.pr (bX1 X.C) y.cr 155 1 (bQ1 rrV y.rr)) (by simp [fX1]))).2.1 qZ
 ·exact (bB9 (hvf (.vec y.pt (bX1 X.C) y.ct 178 1 (bQ1 erV y.tt)) (by simp [fX1]))).2.1 qZ
 ·exact (bB9 (hvf (.vec y.pw (bV2 X.N) y.cw 3 1 (bQ1 bQ6 (hS0 X.N X.C cores))) (by simp [fX1]))).2.1 hns
 ·exact (bB9 (hvf (.vec y.y.pz X.N.ps.length y.y.cz 3 1 (bQ1 bQ6 (bX2 X.N (bW6 X.C.bits)))) (by simp [fX1]))).2.1 qZ
end Go.Proofs
end

section
namespace Go.Gm
open Go.Proofs
structure KRow where
 key:Int
 p:Option Addr
 cap:Nat
 l:List RowE
def kl:List KRow->Int->List RowE
 |[],_=>[]
 |r::R,k=>if r.key=k then r.l else kl R k
theorem hF2 (l:List Int)(i:Nat):bK7 (l.take i)<=4*l.length:=by
 have h1:∀l:List Int,bK7 l<=4*l.length:=fun l=>by
  induction l with
  |nil=>simp [bK7]
  |cons x l ih=>
   have h2:cX5 x<=4:=qT (p:=fun b=>decide (bH9 x b)) (l:=([1,2,4,8]:List Int))
   unfold bK7 at ih ⊢
   rw [qI,List.sum_cons,qR]
   omega
 have h2:=h1 (l.take i)
 rw [qh] at h2
 omega
structure CorM where
 b:Nat
 mb:Nat
 p:Option Addr
 c:Nat
 l:List Nat
 R:List KRow
theorem gR9 {cores:List Int}{bs:List Nat}{b:Nat}{k:Int}(hk:cores[bs.length]? =some k)(r:Int):(bP8 cores (bs.length+1) r).map (fun i=>((bs++[b])[i]?).getD 0)=(bP8 cores bs.length r).map (fun i=>(bs[i]?).getD 0)++if k=r then [b] else []:=by
 rw [cW9 cores hk,ql]
 congr 1
 ·refine List.map_congr_left fun i hi=>?_
  rw [QY (gS0 hi).1]
 ·by_cases h:k=r
  ·rw [jw h,jw h,qU,Qr (qA _),jx];rfl
  ·rw [jk h,jk h];rfl
def bK0 (rows:List (List RowE))(k j:Nat):List (Int×RowE):=((List.range k).flatMap fun (i:Nat)=>((rows[i]?).getD []).map fun r=>((i:Int),r))++(((rows[k]?).getD []).take j).map fun r=>((k:Int),r)
def fT2 (P:List (Int×RowE))(key:Int):List Int:=(P.filter fun x=>decide (x.2.key=key)).map (·.1)
def dL3 (P:List (Int×RowE))(n:Nat):List (List Int):=(List.range n).map fun (q:Nat)=>fT2 P (q:Int)
theorem fW8 {rows:List (List RowE)}{k j:Nat}{l:List RowE}{r:RowE}(hl:rows[k]? =some l)(hr:l[j]? =some r):bK0 rows k (j+1)=bK0 rows k j++[((k:Int),r)]:=by
 unfold bK0
 rw [hl,qY,qi,hr,qW,ql,<-qJ]
 rfl
theorem fT1 {rows:List (List RowE)}{k:Nat}{l:List RowE}(hl:rows[k]? =some l):bK0 rows k l.length=bK0 rows (k+1) 0:=by
 unfold bK0
 rw [hl,qY,Qk,Qz,QK,List.flatMap_singleton,hl,qY,QU,QA,qC]
theorem hX1 (P:List (Int×RowE))(k:Int)(r:RowE)(key:Int):fT2 (P++[(k,r)]) key=fT2 P key++if r.key=key then [k] else []:=by
 unfold fT2
 rw [Qa,ql]
 congr 1
 by_cases h:r.key=key<;>simp [h]
theorem cK2 (P:List (Int×RowE))(n:Nat):(dL3 P n).length=n:=by unfold dL3;simp
theorem cD3 {P:List (Int×RowE)}{n q:Nat}(h:q<n):(dL3 P n)[q]? =some (fT2 P (q:Int)):=by
 unfold dL3
 rw [qj,qX h];rfl
theorem gP8 {P:List (Int×RowE)}{n q:Nat}(h:q<n)(k:Int)(r:RowE)(hr:r.key=(q:Int)):dL3 (P++[(k,r)]) n=(dL3 P n).set q (fT2 P (q:Int)++[k]):=by
 apply qp
 intro i
 rcases qy i n with hi|hi
 ·rw [cD3 hi,hX1]
  by_cases h1:q=i
  ·subst h1
   rw [jw hr,QZ (by rw [cK2];exact hi)]
  ·rw [jk qZ,qC,List.getElem?_set_ne h1,cD3 hi]
 ·rw [qf (by rw [cK2];exact hi),qf (by rw [QH,cK2];exact hi)]
section
variable {N : Net} {C : Chp} {cores : List Int}
theorem cK8 {k:Nat}(h:k<bX1 C):(cQ9 N C cores)[k]? =some (bM1 N cores (cJ5 N (bQ9 N C.bits).quots) (k:Int)):=by
 unfold cQ9
 rw [qj,qX h];rfl
theorem fY7 (N:Net)(C:Chp)(cores:List Int):(cQ9 N C cores).length=bX1 C:=by unfold cQ9;simp
theorem dJ2 (hA:AsgOk N C cores)(k:Int):bM1 N cores (cJ5 N (bQ9 N C.bits).quots) k=(N.syns.filter fun s=>decide (cores[s.to.toNat]? =some k)).map fun s=>cM1 N cores s (bL1 (bX2 N (bW6 C.bits)) s):=by
 unfold bM1 cJ5
 rw [fQ2 hA]
 have h1:∀(l:List Syn) (f:Syn->Int),l.zip (l.map f)=l.map fun s=>(s,f s):=fun l f=>by
  induction l with
  |nil=>rfl
  |cons a l ih=>rw [qI,List.zip_cons_cons,qI,ih]
 rw [h1,List.filter_map,List.map_map]
 rfl
theorem fY6 (hA:AsgOk N C cores){k:Int}{r:RowE}(h:r∈bM1 N cores (cJ5 N (bQ9 N C.bits).quots) k):∃s∈N.syns,cores[s.to.toNat]? =some k/\r=cM1 N cores s (bL1 (bX2 N (bW6 C.bits)) s):=by
 rw [dJ2 hA] at h
 obtain ⟨s,hs,rfl⟩:=qo.1 h
 rw [qP,jy] at hs
 exact ⟨s,hs.1,hs.2,rfl⟩
theorem fF3 (hA:AsgOk N C cores):bK0 (cQ9 N C cores) (bX1 C) 0=(List.range (bX1 C)).flatMap fun (k:Nat)=>(bM1 N cores (cJ5 N (bQ9 N C.bits).quots) (k:Int)).map fun r=>((k:Int),r):=by
 unfold bK0
 rw [QU,QA,qC,QF,QF]
 congr 1
 refine List.map_congr_left fun k hk=>?_
 rw [cK8 (qL.1 hk)];rfl
theorem fW7 (hA:AsgOk N C cores){t key:Int}:t∈fT2 (bK0 (cQ9 N C cores) (bX1 C) 0) key<->t∈bX7 N C cores key:=by
 have hn:=bX6 hA.plan.chip
 rw [bV9,fF3 hA]
 unfold fT2
 constructor
 ·intro h
  obtain ⟨⟨a,r⟩,h1,rfl⟩:=qo.1 h
  rw [qP,jy] at h1
  obtain ⟨h1,h2⟩:=h1
  obtain ⟨k,hk,h3⟩:=QG.1 h1
  obtain ⟨r2,h4,h5⟩:=qo.1 h3
  simp only [Prod.mk.injEq] at h5
  obtain ⟨rfl,rfl⟩:=h5
  obtain ⟨s,hs,hc,rfl⟩:=fY6 hA h4
  have:=qL.1 hk
  exact ⟨⟨by omega,by omega⟩,s,hs,h2,hc⟩
 ·rintro ⟨h1,s,hs,h2,h3⟩
  refine qo.2 ⟨(t,cM1 N cores s (bL1 (bX2 N (bW6 C.bits)) s)),?_,rfl⟩
  rw [qP,jy]
  refine ⟨QG.2 ⟨t.toNat,qL.2 qZ,qo.2 ⟨cM1 N cores s (bL1 (bX2 N (bW6 C.bits)) s),?_,by rw [Ql h1.1]⟩⟩,h2⟩
  rw [Ql h1.1,dJ2 hA]
  exact qo.2 ⟨s,by rw [qP,jy];exact ⟨hs,h3⟩,rfl⟩
theorem fF2 (hA:AsgOk N C cores):∀n:Nat,((List.range n).flatMap fun (k:Nat)=>(bM1 N cores (cJ5 N (bQ9 N C.bits).quots) (k:Int)).map fun r=>((k:Int),r)).length<=N.syns.length:=fun n=>by
 have h1:=cW1 (fun s:Syn=>cores[s.to.toNat]?.getD (-1)) N.syns (S:=(List.range n).map fun (k:Nat)=>(k:Int)) (List.Pairwise.map _ (fun a b h e=>h qZ) List.nodup_range)
 have h2:=h1.length_eq
 have h3:=qD (fun s:Syn=>decide (cores[s.to.toNat]?.getD (-1)∈(List.range n).map fun (k:Nat)=>(k:Int))) N.syns
 rw [<-h2] at h3
 refine Qb (Nat.le_of_eq ?_) h3
 rw [List.length_flatMap,List.flatMap_map,List.length_flatMap]
 congr 1
 refine List.map_congr_left fun k hk=>?_
 rw [qv,dJ2 hA,qv]
 congr 1
 refine List.filter_congr fun s _=>?_
 cases hc:cores[s.to.toNat]? with
 |none=>have h4:¬(-1:Int)=(k:Int):=by omega
        simp [h4]
 |some d=>simp
theorem fS3 (hA:AsgOk N C cores){k j:Nat}(hk:k<=bX1 C):(bK0 (cQ9 N C cores) k j).length<=N.syns.length:=by
 rcases qy k (bX1 C) with hlt|hge
 ·refine Qb ?_ (fF2 hA (k+1))
  have h1:((List.range k).flatMap fun (i:Nat)=>(((cQ9 N C cores)[i]?).getD []).map fun r=>((i:Int),r))=(List.range k).flatMap fun (k:Nat)=>(bM1 N cores (cJ5 N (bQ9 N C.bits).quots) (k:Int)).map fun r=>((k:Int),r):=by
   rw [QF,QF]
   congr 1
   refine List.map_congr_left fun i hi=>?_
   rw [cK8 (by have:=qL.1 hi;omega)];rfl
  unfold bK0
  rw [h1,cK8 hlt,qY,Qz,QK,List.flatMap_singleton,qw,qw,qv,qv,qh]
  omega
 ·have:k=bX1 C:=by omega
  subst this
  have h1:bK0 (cQ9 N C cores) (bX1 C) j=bK0 (cQ9 N C cores) (bX1 C) 0:=by
   unfold bK0
   rw [qf (by rw [fY7];exact qA _)]
   simp
  rw [h1,fF3 hA]
  exact fF2 hA _
theorem gV0 (P:List (Int×RowE))(key:Int):(fT2 P key).length<=P.length:=by
 unfold fT2
 rw [qv]
 exact qD _ _
def cT3 (N:Net)(C:Chp)(cores:List Int)(k:Nat):List SrcM:=(bK3 N k).map (hZ7 N C cores)
theorem gQ4 (N:Net)(k:Nat):bK3 N (k+1)=bK3 N k++if (∃s∈N.syns,bG1 N s.frm=(k:Int)) then [(k:Int)] else []:=by
 unfold bK3
 rw [Qz,ql,Qa]
 congr 1
 by_cases h:∃s∈N.syns,bG1 N s.frm=(k:Int)<;>simp [h]
theorem lJ3 (hA:AsgOk N C cores)(k:Int):fT2 (bK0 (cQ9 N C cores) (bX1 C) 0) k=[]<->¬∃s∈N.syns,bG1 N s.frm=k:=by
 have hn:=bX6 hA.plan.chip
 constructor
 ·rintro h ⟨s,hs,hk⟩
  obtain ⟨t,ht⟩:∃t,t∈bX7 N C cores k:=by
   have hr:=bL5 hA.plan.net hs
   refine gQ5 hA ?_
   unfold bX0
   rw [qP,jy]
   exact ⟨qo.2 ⟨k.toNat,qL.2 qZ,by omega⟩,s,hs,hk⟩
  have h2:=(fW7 hA).2 ht
  rw [h] at h2
  cases h2
 ·intro h
  rw [List.eq_nil_iff_forall_not_mem]
  intro t ht
  obtain ⟨_,s,hs,hk,_⟩:=bV9.1 ((fW7 hA).1 ht)
  exact h ⟨s,hs,hk⟩
theorem kN1 (hA:AsgOk N C cores){k:Int}(hk:0<=k):dV7 C.mesh.wide (bX1 C) (bJ2 N cores k) (fT2 (bK0 (cQ9 N C cores) (bX1 C) 0) k)=bQ5 N C cores k:=by
 have hw:=hA.plan.chip.mesh.wide
 have h1:=bC4 hA hk
 unfold bQ5 bX1
 exact hQ4 qZ h1 (fun t ht=>cG4 hA ((fW7 hA).1 ht)) fun t=>fW7 hA
end
end Go.Gm
namespace Go.Proofs
open Go Go.Vx Go.Gm
def krV (r:KRow):Value:=.slice r.p r.l.length r.cap
def krE (r:KRow):Ent:=.vec r.p r.l.length r.cap 158 4 (bQ1 rwV r.l)
def krM (r:KRow):Int×Value:=(r.key,krV r)
theorem gC7 (R:List KRow)(s:RowE):
  (∃(j:Nat) (r:KRow),R[j]? =some r/\bZ4 (R.map krM) s.key=some (krV r)/\kl R s.key=r.l/\r.key=s.key/\
   ∀r':KRow,r'.key=s.key->cB4 (R.map krM) s.key (krV r')=(R.set j r').map krM/\∀k,kl (R.set j r') k=if s.key=k then r'.l else kl R k)\/
  (bZ4 (R.map krM) s.key=none/\kl R s.key=[]/\
   ∀r':KRow,r'.key=s.key->cB4 (R.map krM) s.key (krV r')=(R++[r']).map krM/\∀k,kl (R++[r']) k=if s.key=k then r'.l else kl R k):=by
 induction R with
 |nil=>right;refine ⟨rfl,rfl,fun r' h1=>⟨by simp [cB4,krM,h1],fun k=>by simp [kl,h1]⟩⟩
 |cons z R ih=>
  by_cases h:z.key=s.key
  ·left
   refine ⟨0,z,rfl,by simp [bZ4,krM,h],by simp [kl,h],h,fun r' h1=>⟨by simp [cB4,krM,h,h1],fun k=>?_⟩⟩
   simp only [List.set_cons_zero,kl,h1,h]
   by_cases hk:s.key=k<;>simp [hk]
  ·rcases ih with ⟨j,r,g1,g2,g3,g4,g5⟩|⟨g2,g3,g5⟩
   ·left
    refine ⟨j+1,r,by simpa using g1,by simpa [bZ4,krM,h] using g2,by simpa [kl,h] using g3,g4,fun r' h1=>?_⟩
    obtain ⟨k1,k2⟩:=g5 r' h1
    constructor
    ·simp only [qI,cB4,krM,h,if_false,List.set_cons_succ] at k1 ⊢
     rw [k1]
    ·intro k
     simp only [List.set_cons_succ,kl,k2 k]
     by_cases hk:z.key=k
     ·have:¬s.key=k:=fun e=>h (hk.trans e.symm)
      simp [hk,this]
     ·simp [hk]
   ·right
    refine ⟨by simpa [bZ4,krM,h] using g2,by simpa [kl,h] using g3,fun r' h1=>?_⟩
    obtain ⟨k1,k2⟩:=g5 r' h1
    constructor
    ·simp only [qI,cB4,krM,h,if_false,Qw] at k1 ⊢
     rw [k1]
    ·intro k
     simp only [Qw,kl,k2 k]
     by_cases hk:z.key=k
     ·have:¬s.key=k:=fun e=>h (hk.trans e.symm)
      simp [hk,this]
     ·simp [hk]
theorem kK9 (k:Int)(p:Option Addr)(c:Nat)(l:List RowE)(x:RowE):krE ⟨k,p,c,l++[x]⟩=.vec p (l.length+1) c 158 4 (bQ1 rwV l++[.int .i64 x.key,.int .i64 x.slot,.int .i64 x.wt,.int .i64 x.dl]):=by
 unfold krE
 rw [qw,bQ7]
 rfl
theorem kK8 (k:Int)(p:Option Addr)(c:Nat)(l:List RowE)(x:RowE):krV ⟨k,p,c,l++[x]⟩=.slice p (l.length+1) c:=by
 unfold krV
 rw [qw];rfl
def fV4 (c:CorM):Ent:=.row c.b 211 [.slice c.p c.l.length c.c,.map (some c.mb)]
def fV3 (c:CorM):Ent:=.vec c.p c.l.length c.c 212 1 (bQ1 cpV c.l)
def fV5 (c:CorM):Ent:=.map c.mb (c.R.map krM)
def fD0 (c:CorM):HP:=c.R.map krE
theorem kS1 (k:Int)(p:Option Addr)(c:Nat)(x:RowE):krE ⟨k,p,c,[x]⟩=.vec p 1 c 158 4 [.int .i64 x.key,.int .i64 x.slot,.int .i64 x.wt,.int .i64 x.dl]:=rfl
theorem hM3 (b mb:Nat)(p:Option Addr)(c:Nat)(l:List Nat)(R:List KRow):fV4 ⟨b,mb,p,c,l,R⟩=.row b 211 [.slice p l.length c,.map (some mb)]:=rfl
theorem hM2 (b mb:Nat)(p:Option Addr)(c:Nat)(l:List Nat)(R:List KRow):fV3 ⟨b,mb,p,c,l,R⟩=.vec p l.length c 212 1 (bQ1 cpV l):=rfl
theorem lQ5 (b mb:Nat)(p:Option Addr)(c:Nat)(l:List Nat)(R:List KRow):fV5 ⟨b,mb,p,c,l,R⟩=.map mb (R.map krM):=rfl
theorem lQ6 (b mb:Nat)(p:Option Addr)(c:Nat)(l:List Nat)(R:List KRow):fD0 ⟨b,mb,p,c,l,R⟩=R.map krE:=rfl
theorem kG3 {K:List CorM}{r:Nat}{k k':CorM}(h:K[r]? =some k)(hb:k'.mb=k.mb)(hR:k'.R=k.R):(K.set r k').map fV5=K.map fV5:=by
 rw [List.map_set]
 refine bJ5 ?_
 rw [qj,h,qV]
 unfold fV5
 rw [hb,hR]
theorem kG4 {K:List CorM}{r:Nat}{k k':CorM}(h:K[r]? =some k)(hR:k'.R=k.R):(K.set r k').flatMap fD0=K.flatMap fD0:=by
 rw [QF,QF,List.map_set]
 congr 1
 refine bJ5 ?_
 rw [qj,h,qV]
 unfold fD0
 rw [hR]
theorem kG5 {K:List CorM}{r:Nat}{k k':CorM}(h:K[r]? =some k)(hb:k'.b=k.b):(K.set r k').map (·.b)=K.map (·.b):=by
 rw [List.map_set]
 refine bJ5 ?_
 rw [qj,h,qV,hb]
theorem hY4 {A B H:HP}{e size n:Nat}(h:HLe (A++B) H):HLe (A++(List.replicate n (.vec none 0 0 e size [])++B)) H:=HLe.permL (cQ2 h n) (List.perm_append_comm_assoc ..)
def kmF:Nat->List Nat->List (Int×Value)
 |_,[]=>[]
 |n,b::l=>((n:Int),.pointer (some ⟨b,0,none⟩))::kmF (n+1) l
theorem gF0:∀(l:List Nat) (n:Nat) (q:Int),q<(n:Int)\/(n:Int)+l.length<=q->bZ4 (kmF n l) q=none
 |[],_,_,_=>rfl
 |b::l,n,q,h=>by
  rw [qR] at h
  unfold kmF bZ4
  rw [if_neg (by dsimp only;omega)]
  exact gF0 l (n+1) q qZ
theorem gQ3:∀(l:List Nat) (n i:Nat) (b:Nat),l[i]? =some b->bZ4 (kmF n l) ((n+i:Nat):Int)=some (.pointer (some ⟨b,0,none⟩))
 |[],_,_,_,h=>by simp at h
 |a::l,n,0,b,h=>by
  simp only [QX,qK] at h
  subst h
  unfold kmF bZ4
  rw [jw oU]
 |a::l,n,i+1,b,h=>by
  simp only [Qv] at h
  unfold kmF bZ4
  rw [if_neg (by dsimp only;omega)]
  have:=gQ3 l (n+1) i b h
  rw [show n+(i+1)=n+1+i by omega]
  exact this
theorem gY6:∀{m:List (Int×Value)} {j:Int} {v:Value},bZ4 m j=none->cB4 m j v=m++[(j,v)]
 |[],_,_,_=>rfl
 |p::r,j,v,h=>by
  unfold bZ4 at h
  unfold cB4
  by_cases hp:p.1=j
  ·rw [jw hp] at h;cases h
  ·rw [jk hp] at h ⊢
   rw [gY6 h];rfl
theorem gG9:∀(l:List Nat) (n:Nat) (b:Nat),kmF n (l++[b])=kmF n l++[(((n+l.length:Nat):Int),.pointer (some ⟨b,0,none⟩))]
 |[],n,b=>rfl
 |a::l,n,b=>by
  rw [Qw]
  unfold kmF
  rw [gG9 l (n+1) b,qR,show n+1+l.length=n+(l.length+1) by omega]
  rfl
theorem kS2 (l:List Nat)(b:Nat):cB4 (kmF 0 l) (l.length:Int) (.pointer (some ⟨b,0,none⟩))=kmF 0 (l++[b]):=by
 rw [gY6 (gF0 l 0 _ qZ),gG9,Qo]
theorem kF5 (b:Nat)(i:Int)(q:Par)(z:Int):bB6 ⟨b,i,q,z,⟨0,0⟩,List.replicate 16 0⟩=.row b 215 [.int .i64 i,.int .i64 q.lk,.int .i64 q.lv,.int .i64 q.bias,.int .i64 q.th,.int .i64 q.rk,.int .i64 q.rs,.int .i64 q.fl,.int .i64 q.rest,.int .i64 z,.int .i64 0,.int .i64 0,.int .i64 0,.int .i64 0,.int .i64 0,.int .i64 0,.int .i64 0,.int .i64 0,.int .i64 0,.int .i64 0,.int .i64 0,.int .i64 0,.int .i64 0,.int .i64 0,.int .i64 0,.int .i64 0,.int .i64 0,.int .i64 0]:=rfl
end Go.Proofs
end
