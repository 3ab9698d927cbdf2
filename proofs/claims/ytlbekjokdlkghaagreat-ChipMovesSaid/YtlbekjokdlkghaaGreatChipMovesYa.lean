import Derived.Test.YtlbekjokdlkghaaGreatChipMovesTa
import Derived.Test.YtlbekjokdlkghaaGreatChipMovesMl
import Derived.Test.YtlbekjokdlkghaaGreatChipMovesPz
import Derived.Test.YtlbekjokdlkghaaGreatChipMovesMz
set_option linter.unusedVariables false
set_option linter.unusedSimpArgs false
set_option maxHeartbeats 4000000
section
namespace Go.Proofs
open Go Go.Vx Go.Gm
end Go.Proofs
end

section
namespace Go.Gm
end Go.Gm
namespace Go.Proofs
open Go Go.Vx Go.Gm
end Go.Proofs
end

section
namespace Go.Gm
theorem fW1 (T:Int->List Int)(room:Int)(ws:List (List Int))(key:Int):(bB8 T room ws key).flatten.Perm (ws.flatten++[key]):=by
 rw [cY4]
 have hle:=cD1 T room ws key
 generalize bH7 T room ws key=k at hle ⊢
 split
 ·rename_i hlt
  rw [qq hlt,qY,List.set_eq_take_append_cons_drop,jw hlt]
  have e:ws=ws.take k++ws[k]::ws.drop (k+1):=by rw [<-qG hlt,QJ]
  have e2:ws.flatten=(ws.take k).flatten++(ws[k]++(ws.drop (k+1)).flatten):=by
   conv=>lhs;rw [e]
   rw [List.flatten_append,List.flatten_cons]
  rw [e2,List.flatten_append,List.flatten_cons,qJ,qJ,qJ]
  exact QN _ (QN _ List.perm_append_comm)
 ·rw [List.flatten_append];simp
theorem dN2 (T:Int->List Int)(room:Int)(keys:List Int):(bT6 T room keys).flatten.Perm keys:=by
 have h:∀(keys:List Int) (ws:List (List Int)),(keys.foldl (bB8 T room) ws).flatten.Perm (ws.flatten++keys):=by
  intro keys
  induction keys with
  |nil=>intro ws;simp
  |cons k l ih=>
   intro ws
   rw [Qp]
   refine (ih _).trans ?_
   have:=(fW1 T room ws k).append_right l
   rw [qJ] at this
   exact this
 exact h keys []
end Go.Gm
end

section
namespace Go.Gm
theorem fP0 {ws:List (List Int)}(hn:ws.flatten.Nodup):∀{i j:Nat} {a b:List Int} {k:Int},ws[i]? =some a->ws[j]? =some b->k∈a->k∈b->i=j:=by
 induction ws with
 |nil=>intro i j a b k h;cases h
 |cons x l ih=>
  rw [List.flatten_cons,Qe] at hn
  obtain ⟨h1,h2,h3⟩:=hn
  intro i j a b k hi hj ha hb
  rcases i with _|i<;>rcases j with _|j
  ·rfl
  ·simp only [QX,qK] at hi
   rw [Qv] at hj
   subst hi
   exact absurd rfl (h3 k ha k (List.mem_flatten.2 ⟨b,qz hj,hb⟩))
  ·simp only [QX,qK] at hj
   rw [Qv] at hi
   subst hj
   exact absurd rfl (h3 k hb k (List.mem_flatten.2 ⟨a,qz hi,ha⟩))
  ·rw [Qv] at hi hj
   rw [ih h2 hi hj ha hb]
theorem cT1 {ws:List (List Int)}(hn:ws.flatten.Nodup){k:Int}{w:Nat}:bW0 ws k=(w:Int)<->∃l,ws[w]? =some l/\k∈l:=by
 unfold bW0
 cases h:ws.findIdx? fun w=>decide (k∈w) with
 |none=>
  rw [List.findIdx?_eq_none_iff] at h
  constructor
  ·intro he;dsimp only at he;omega
  ·rintro ⟨l,h1,h2⟩
   have:=h l (qz h1)
   rw [decide_eq_false_iff_not] at this
   exact absurd h2 this
 |some j=>
  rw [List.findIdx?_eq_some_iff_getElem] at h
  obtain ⟨h1,h2,h3⟩:=h
  rw [jy] at h2
  have hj:ws[j]? =some ws[j]:=qq h1
  constructor
  ·intro he
   have:j=w:=by dsimp only at he;omega
   subst this
   exact ⟨_,hj,h2⟩
  ·rintro ⟨l,h4,h5⟩
   have:=fP0 hn hj h4 h2 h5
   dsimp only;omega
theorem gL7 (ws:List (List Int))(k:Int): -1<=bW0 ws k/\bW0 ws k<ws.length:=by
 unfold bW0
 cases h:ws.findIdx? fun w=>decide (k∈w) with
 |none=>dsimp only;omega
 |some j=>
  rw [List.findIdx?_eq_some_iff_getElem] at h
  have:=h.1
  dsimp only;omega
theorem dV0 {T:Int->List Int}{room:Int}(h1:1<=room):∀(keys:List Int) (ws:List (List Int)),(∀w∈ws,(bJ7 (w.map T):Int)<=room)->∀w∈keys.foldl (bB8 T room) ws,(bJ7 (w.map T):Int)<=room
 |[],ws,h=>h
 |key::l,ws,h=>by
  refine dV0 h1 l _ ?_
  intro w hw
  unfold bB8 at hw
  split at hw
  ·rename_i k hk
   rw [List.findIdx?_eq_some_iff_getElem] at hk
   obtain ⟨a1,a2,_⟩:=hk
   obtain ⟨i,hi⟩:=jh hw
   rw [qS] at hi
   split at hi
   ·rename_i hki
    subst hki
    rw [qq a1] at hi
    cases hi
    rw [ql]
    exact (hX3 (h _ (Qu _)) h1).1 a2
   ·cases hx:ws[i]? with
    |none=>rw [hx] at hi;cases hi
    |some x=>
     rw [hx] at hi
     cases hi
     exact h _ (qz hx)
  ·rcases qH.1 hw with hw|hw
   ·exact h w hw
   ·rw [qt] at hw
    subst hw
    rcases (bP4 ([key].map T)).ex with he|⟨o,ho,he⟩
    ·omega
    ·have:bS5 ([key].map T) o<=1:=qT
     omega
theorem fC5 {T:Int->List Int}{room:Int}:∀(keys:List Int) (ws:List (List Int)),(∀w∈ws,w≠[])->∀w∈keys.foldl (bB8 T room) ws,w≠[]
 |[],ws,h=>h
 |key::l,ws,h=>by
  refine fC5 l _ ?_
  intro w hw
  unfold bB8 at hw
  split at hw
  ·obtain ⟨i,hi⟩:=jh hw
   rw [qS] at hi
   split at hi
   ·rename_i k hk hki
    cases hx:ws[i]? with
    |none=>rw [hx] at hi;cases hi
    |some x=>
     rw [hx] at hi
     cases hi
     simp
   ·cases hx:ws[i]? with
    |none=>rw [hx] at hi;cases hi
    |some x=>
     rw [hx] at hi
     cases hi
     exact h _ (qz hx)
  ·rcases qH.1 hw with hw|hw
   ·exact h w hw
   ·rw [qt] at hw;subst hw;simp
section
variable {N : Net} {C : Chp} {cores : List Int}
def wvT (N:Net)(C:Chp)(cores:List Int)(w:Nat):List Int:=((bX4 N C cores)[w]?).getD []
def wvK (N:Net)(C:Chp)(cores:List Int)(w:Nat):List Int:=((List.range (bV2 N)).map fun (k:Nat)=>(k:Int)).filter fun k=>decide (bW0 (bX4 N C cores) k=(w:Int))
def wvL (N:Net)(C:Chp)(cores:List Int)(w:Nat):Nat:=bJ7 ((wvT N C cores w).map (bQ5 N C cores))
def wvC (N:Net)(C:Chp)(cores:List Int)(w:Nat):RCtx:=bY3 N C cores (wvK N C cores w) (wvL N C cores w)
def wvD (N:Net)(C:Chp)(cores:List Int)(w:Nat):Nat:=bW9 C.mesh.wide (bJ2 N cores) (bX7 N C cores) (wvT N C cores w)
theorem bN7 (N:Net)(C:Chp)(cores:List Int):(bX4 N C cores).flatten.Nodup:=(dN2 _ _ _).nodup_iff.2 (cB9 N)
theorem bD8 {key:Int}:(∃l∈bX4 N C cores,key∈l)<->key∈bX0 N:=cG0 _
theorem cH2 {w:Nat}{k:Int}:k∈wvK N C cores w<->∃l,(bX4 N C cores)[w]? =some l/\k∈l:=by
 unfold wvK
 rw [qP,jy,cT1 (bN7 N C cores)]
 constructor
 ·exact fun h=>h.2
 ·rintro ⟨l,h1,h2⟩
  refine ⟨?_,l,h1,h2⟩
  have:=(bF0 (bD8.1 ⟨l,qz h1,h2⟩)).1
  exact qo.2 ⟨k.toNat,qL.2 qZ,by omega⟩
theorem gK5 {w:Nat}{k:Int}(h:k∈wvK N C cores w):k∈bX0 N:=by
 obtain ⟨l,h1,h2⟩:=cH2.1 h
 exact bD8.1 ⟨l,qz h1,h2⟩
theorem fV6 (w:Nat):(wvK N C cores w).Nodup:=List.Pairwise.filter _ (List.Pairwise.map _ (fun a b h e=>h qZ) List.nodup_range)
theorem gK4 {w:Nat}{l:List Int}(hl:(bX4 N C cores)[w]? =some l):(wvK N C cores w).Perm l:=by
 have hn:l.Nodup:=by
  exact (bN7 N C cores).sublist (List.sublist_flatten_of_mem (qz hl))
 refine (List.perm_ext_iff_of_nodup (fV6 w) hn).2 fun k=>?_
 rw [cH2]
 constructor
 ·rintro ⟨l',h1,h2⟩
  rw [hl] at h1;cases h1;exact h2
 ·exact fun h=>⟨l,hl,h⟩
theorem reach_le {W:Int}{home:Int->Int}{tg:Int->List Int}{l:List Int}{key t:Int}(hk:key∈l)(ht:t∈tg key):bG0 W (home key) t<=bW9 W home tg l:=
 (bL7 _ 0).2.1 _ (QG.2 ⟨key,hk,qo.2 ⟨t,ht,rfl⟩⟩)
theorem hR9 {W:Int}(hW:0<W){src t r:Int}(h:r∈rte W src t):bG0 W src r<=bG0 W src t:=by
 obtain ⟨a,b,h1⟩:=at2 hW src
 obtain ⟨c,d,h2⟩:=at2 hW t
 obtain ⟨x,y,h3⟩:=at2 hW r
 have:=hJ9 hW h2 _ src rfl h1 h3 h
 rw [cZ3 h1 h3,cZ3 h1 h2]
 unfold dG9 hR3 at this
 omega
theorem lZ9 (hA:AsgOk N C cores){w:Nat}(hw:w<(bX4 N C cores).length):RCtxOk (wvC N C cores w)/\wvL N C cores w<=64/\wvD N C cores w<=14:=by
 obtain ⟨l,hl⟩:∃l,(bX4 N C cores)[w]? =some l:=⟨_,qq hw⟩
 have hT:wvT N C cores w=l:=by unfold wvT;rw [hl];rfl
 have hrm:=hA.plan.chip.mesh.room
 have hr:(wvL N C cores w:Int)<=C.mesh.room:=by
  unfold wvL
  rw [hT]
  exact dV0 hrm.1 (bX0 N) [] oU l (qz hl)
 refine ⟨kB0 hA (fun k hk=>gK5 hk) (fun r o ho=>?_) hr,by omega,?_⟩
 ·unfold wvL
  rw [hT]
  have h1:bS5 ((wvK N C cores w).map (bQ5 N C cores)) ((r:Nat),bK1 o)=bS5 (l.map (bQ5 N C cores)) ((r:Nat),bK1 o):=by
   unfold bS5
   exact ((gK4 hl).map _).countP_eq _
  rw [h1]
  exact (bP4 _).le _ ⟨by dsimp only;omega,cV0 ho⟩
 ·have hn:=bX6 hA.plan.chip
  have hw2:=hA.plan.chip.mesh.wide
  have hh:=hA.plan.chip.mesh.high
  unfold wvD
  rw [hT]
  unfold bW9
  rcases (bL7 (l.flatMap fun key=>(bX7 N C cores key).map fun t=>bG0 C.mesh.wide (bJ2 N cores key) t) 0).2.2 with h|h
  ·omega
  ·obtain ⟨key,h1,h2⟩:=QG.1 h
   obtain ⟨t,h3,h4⟩:=qo.1 h2
   rw [<-h4]
   have hk:=(bF0 (bD8.1 ⟨l,qz hl,h1⟩)).1.1
   have h5:=home_range hA key hk
   have h6:=(bV9.1 h3).1
   have:=hD6 (W:=C.mesh.wide) (H:=C.mesh.high) (r:=bJ2 N cores key) (t:=t) qZ qZ qZ
   omega
end
end Go.Gm
end

section
namespace Go.Gm
theorem kG1 (t:Nat){l1 l2:List Syn}(h:l1.Perm l2):∀D,l1.foldl (fJ1 t) D=l2.foldl (fJ1 t) D:=by
 induction h with
 |nil=>intro D;rfl
 |cons a _ ih=>intro D;exact ih _
 |swap a b l=>intro D;show l.foldl (fJ1 t) _=l.foldl (fJ1 t) _;rw [hD5]
 |trans _ _ ih1 ih2=>intro D;rw [ih1,ih2]
theorem dQ8 {α:Type}(p:α->Bool):∀l:List α,(l.filter p++l.filter fun x=> !p x).Perm l
 |[]=>.refl _
 |a::l=>by
  have ih:=dQ8 p l
  by_cases h:p a=true
  ·rw [List.filter_cons_of_pos h,List.filter_cons_of_neg (by simp [h])]
   exact ih.cons a
  ·rw [List.filter_cons_of_neg h,List.filter_cons_of_pos (by simp [h])]
   exact List.perm_middle.trans (ih.cons a)
theorem cW1 {α β:Type}[DecidableEq β](g:α->β)(L:List α):∀{S:List β},S.Nodup->(S.flatMap fun a=>L.filter fun s=>decide (g s=a)).Perm (L.filter fun s=>decide (g s∈S))
 |[],_=>by simp
 |a::S,h=>by
  rw [QC] at h
  rw [Qf]
  refine (QN _ (cW1 g L h.2)).trans ?_
  refine List.Perm.trans ?_ (dQ8 (fun s=>decide (g s=a)) (L.filter fun s=>decide (g s∈a::S)))
  rw [List.filter_filter,List.filter_filter]
  refine List.Perm.of_eq ?_
  congr 1
  ·refine List.filter_congr fun s _=>?_
   by_cases h1:g s=a<;>simp [h1]
  ·refine List.filter_congr fun s _=>?_
   by_cases h1:g s=a
   ·subst h1
    simp [h.1]
   ·simp [h1]
theorem dQ7 {α β:Type}{f:α->List β}{l1 l2:List α}(h:l1.Perm l2):(l1.flatMap f).Perm (l2.flatMap f):=by
 induction h with
 |nil=>exact .refl _
 |cons a _ ih=>rw [Qf,Qf];exact QN _ ih
 |swap a b l=>
  simp only [Qf]
  rw [<-qJ,<-qJ]
  exact List.perm_append_comm.append_right _
 |trans _ _ ih1 ih2=>exact ih1.trans ih2
theorem cZ1 {α β:Type}{f g:α->List β}:∀{l:List α},(∀a∈l,(f a).Perm (g a))->(l.flatMap f).Perm (l.flatMap g)
 |[],_=>.refl _
 |a::l,h=>by
  rw [Qf,Qf]
  exact (h a qg).append (cZ1 fun x hx=>h x (qu _ hx))
section
variable {N : Net} {C : Chp} {cores : List Int}
def bN8 (N:Net)(cores:List Int)(L:List Syn)(key r:Int):List Syn:=L.filter fun s=>decide (bG1 N s.frm=key/\cores[s.to.toNat]? =some r)
theorem fC8 (hA:AsgOk N C cores){L:List Syn}(hL:∀s∈L,0<=s.to/\s.to<N.ps.length)(hLN:∀s∈L,∃x∈N.syns,bG1 N x.frm=bG1 N s.frm/\x.to=s.to)(key:Int):((bX7 N C cores key).flatMap fun r=>bN8 N cores L key r).Perm (L.filter fun s=>decide (bG1 N s.frm=key)):=by
 have h1:=cW1 (fun s:Syn=>cores[s.to.toNat]?.getD (-1)) (L.filter fun s=>decide (bG1 N s.frm=key)) (dX0 N C cores key)
 have hl:=hA.len
 have hget:∀s∈L,∃d,cores[s.to.toNat]? =some d/\d∈cores:=fun s hs=>by
  have:=hL s hs
  exact ⟨cores[s.to.toNat]'qZ,qq _,Qu _⟩
 have e1:∀r∈bX7 N C cores key,bN8 N cores L key r=(L.filter fun s=>decide (bG1 N s.frm=key)).filter fun s=>decide (cores[s.to.toNat]?.getD (-1)=r):=fun r _=>by
  unfold bN8
  rw [List.filter_filter]
  refine List.filter_congr fun s hs=>?_
  obtain ⟨d,hd,_⟩:=hget s hs
  rw [hd]
  by_cases h2:bG1 N s.frm=key<;>simp [h2]
 have e2:((bX7 N C cores key).flatMap fun r=>bN8 N cores L key r)=(bX7 N C cores key).flatMap fun r=>(L.filter fun s=>decide (bG1 N s.frm=key)).filter fun s=>decide (cores[s.to.toNat]?.getD (-1)=r):=by
  rw [QF,QF]
  congr 1
  exact List.map_congr_left e1
 rw [e2]
 refine h1.trans (List.Perm.of_eq ?_)
 rw [List.filter_eq_self]
 intro s hs
 rw [qP,jy] at hs
 obtain ⟨hs,hk⟩:=hs
 obtain ⟨d,hd,hdc⟩:=hget s hs
 rw [jy,hd,qY,bV9]
 have hn:=bX6 hA.plan.chip
 have hdr:=(hA.core d hdc).1
 obtain ⟨x,hx,hxk,hxt⟩:=hLN s hs
 exact ⟨⟨hdr.1,by omega⟩,x,hx,hxk.trans hk,by rw [hxt];exact hd⟩
def bF4 (N:Net)(cores:List Int)(L:List Syn)(ks:List Int)(A:List (Nat×Nat×Nat)):List Syn:=A.flatMap fun a=>bN8 N cores L (ks[a.1]?.getD 0) (a.2.1:Int)
theorem fN0 (hA:AsgOk N C cores){L:List Syn}(hL:∀s∈L,0<=s.to/\s.to<N.ps.length)(hLN:∀s∈L,∃x∈N.syns,bG1 N x.frm=bG1 N s.frm/\x.to=s.to){ks:List Int}(hks:∀k∈ks,k∈bX0 N){l:Nat}{st:RunZ}(hd:RunDone (bY3 N C cores ks l) st):(bF4 N cores L ks st.arr).Perm (ks.flatMap fun key=>L.filter fun s=>decide (bG1 N s.frm=key)):=by
 have hlen:(bY3 N C cores ks l).pk.length=ks.length:=qv _
 have hn:=bX6 hA.plan.chip
 have hkey:∀p,p<ks.length->ks[p]?.getD 0∈bX0 N:=fun p hp=>hks _ (by rw [qq hp];exact Qu _)
 -- pairs
 have hP:(st.arr.map fun x=>(x.1,x.2.1)).Perm ((List.range ks.length).flatMap fun p=>(bX7 N C cores (ks[p]?.getD 0)).map fun r=>(p,r.toNat)):=by
  refine (List.perm_ext_iff_of_nodup hd.an ?_).2 ?_
  ·have:∀m:Nat,((List.range m).flatMap fun p=>(bX7 N C cores (ks[p]?.getD 0)).map fun r=>(p,r.toNat)).Nodup:=by
    intro m
    induction m with
    |zero=>simp
    |succ m ih=>
     rw [Qz,QK,List.flatMap_singleton,Qe]
     refine ⟨ih,?_,?_⟩
     ·refine List.Pairwise.map _ (R:=fun a b=>a∈bX7 N C cores (ks[m]?.getD 0)/\b∈bX7 N C cores (ks[m]?.getD 0)/\a≠b) (fun a b hab e=>?_) ?_
      ·have h1:=(bV9.1 hab.1).1
       have h2:=(bV9.1 hab.2.1).1
       simp only [Prod.mk.injEq,true_and] at e
       exact hab.2.2 qZ
      ·exact (List.pairwise_iff_forall_sublist.2 fun hs=>⟨hs.subset qg,hs.subset (qu _ qg),List.pairwise_iff_forall_sublist.1 (dX0 N C cores (ks[m]?.getD 0)) hs⟩)
     ·rintro a ha b hb rfl
      obtain ⟨p,hp,h1⟩:=QG.1 ha
      obtain ⟨r,_,rfl⟩:=qo.1 h1
      obtain ⟨r2,_,h2⟩:=qo.1 hb
      rw [qL] at hp
      simp only [Prod.mk.injEq] at h2
      omega
   exact this _
  ·rintro ⟨p,r⟩
   constructor
   ·intro h
    obtain ⟨⟨a,b,t⟩,h1,h2⟩:=qo.1 h
    simp only [Prod.mk.injEq] at h2
    obtain ⟨rfl,rfl⟩:=h2
    obtain ⟨h3,h4,h5,h6⟩:=hd.ar a b t h1
    rw [hlen] at h3
    refine QG.2 ⟨a,qL.2 h3,qo.2 ⟨(b:Int),?_,by simp⟩⟩
    exact (dZ7 hA (bF0 (hkey a h3)).1.1).1 h5
   ·intro h
    obtain ⟨a,h1,h2⟩:=QG.1 h
    obtain ⟨b,h3,h4⟩:=qo.1 h2
    simp only [Prod.mk.injEq] at h4
    obtain ⟨rfl,rfl⟩:=h4
    rw [qL] at h1
    have hb:=(bV9.1 h3).1
    obtain ⟨t,ht⟩:=hd.aa a b.toNat qZ (by show _<bX1 C;omega) ((dZ7 hA (bF0 (hkey a h1)).1.1).2 (by rw [Ql hb.1];exact h3))
    exact qo.2 ⟨(a,b.toNat,t),ht,rfl⟩
 have e1:bF4 N cores L ks st.arr=(st.arr.map fun x=>(x.1,x.2.1)).flatMap fun y=>bN8 N cores L (ks[y.1]?.getD 0) (y.2:Int):=by
  unfold bF4
  rw [List.flatMap_map]
 rw [e1]
 refine (dQ7 hP).trans ?_
 rw [List.flatMap_assoc]
 have e2:ks.flatMap (fun key=>L.filter fun s=>decide (bG1 N s.frm=key))=(List.range ks.length).flatMap fun p=>L.filter fun s=>decide (bG1 N s.frm=ks[p]?.getD 0):=by
  have h:(List.range ks.length).map (fun p=>ks[p]?.getD 0)=ks:=by
   apply qp
   intro i
   rw [qj]
   rcases qy i ks.length with hi|hi
   ·rw [qX hi,qV,qq hi,qY]
   ·rw [qf (by rw [Qg];exact hi),qf hi];rfl
  conv=>lhs;rw [<-h]
  rw [List.flatMap_map]
 rw [e2]
 refine cZ1 fun p hp=>?_
 rw [List.flatMap_map]
 refine List.Perm.trans (List.Perm.of_eq ?_) (fC8 hA hL hLN (ks[p]?.getD 0))
 rw [QF,QF]
 congr 1
 refine List.map_congr_left fun r hr=>?_
 have:=(bV9.1 hr).1
 rw [Ql this.1]
end
section
variable {N : Net} {C : Chp} {cores : List Int}
def bF8 (N:Net)(C:Chp)(cores:List Int)(sends:Int->Bool)(w:Nat):List Int:=(wvK N C cores w).filter sends
def gW4 (N:Net)(C:Chp)(cores:List Int)(sends:Int->Bool)(w:Nat):RCtx:=bY3 N C cores (bF8 N C cores sends w) (wvL N C cores w)
def cF4 (N:Net)(C:Chp)(cores:List Int)(sends:Int->Bool)(T w:Nat):RunZ:=cL6 C.mesh (bK9 N C cores) (gW4 N C cores sends w).pk (bX1 C) T
theorem bC0 {sends:Int->Bool}{w:Nat}{k:Int}(h:k∈bF8 N C cores sends w):k∈bX0 N/\sends k=true:=by
 unfold bF8 at h
 rw [qP] at h
 exact ⟨gK5 h.1,h.2⟩
theorem kB6 (hA:AsgOk N C cores)(sends:Int->Bool){w:Nat}(hw:w<(bX4 N C cores).length):RCtxOk (gW4 N C cores sends w):=by
 obtain ⟨l,hl⟩:∃l,(bX4 N C cores)[w]? =some l:=⟨_,qq hw⟩
 have hT:wvT N C cores w=l:=by unfold wvT;rw [hl];rfl
 have hrm:=hA.plan.chip.mesh.room
 have hr:(wvL N C cores w:Int)<=C.mesh.room:=by
  unfold wvL
  rw [hT]
  exact dV0 hrm.1 (bX0 N) [] oU l (qz hl)
 refine kB0 hA (fun k hk=>(bC0 hk).1) (fun r o ho=>?_) hr
 have h1:bS5 ((bF8 N C cores sends w).map (bQ5 N C cores)) ((r:Nat),bK1 o)<=bS5 (l.map (bQ5 N C cores)) ((r:Nat),bK1 o):=by
  unfold bS5
  have h2:(((wvK N C cores w).map (bQ5 N C cores)).countP fun t=>decide (bH9 (t[((r:Nat):Int).toNat]?.getD 0) (bK1 o)))=((l.map (bQ5 N C cores)).countP fun t=>decide (bH9 (t[((r:Nat):Int).toNat]?.getD 0) (bK1 o))):=((gK4 hl).map _).countP_eq _
  refine Qb ?_ (Nat.le_of_eq h2)
  exact List.Sublist.countP_le (List.Sublist.map _ List.filter_sublist)
 refine Qb h1 ?_
 unfold wvL
 rw [hT]
 exact (bP4 _).le _ ⟨by dsimp only;omega,cV0 ho⟩
theorem gW3 (hA:AsgOk N C cores)(sends:Int->Bool){w:Nat}(hw:w<(bX4 N C cores).length){T:Nat}(hT:(wvD N C cores w+1)*wvL N C cores w<=T)(hT0:0<T):RunDone (gW4 N C cores sends w) (cF4 N C cores sends T w):=by
 obtain ⟨l,hl⟩:∃l,(bX4 N C cores)[w]? =some l:=⟨_,qq hw⟩
 have hT2:wvT N C cores w=l:=by unfold wvT;rw [hl];rfl
 have hlen:(gW4 N C cores sends w).pk.length=(bF8 N C cores sends w).length:=qv _
 refine kQ6 (kB6 hA sends hw) (D:=wvD N C cores w) (T:=T) (fun p r hp hr h0=>?_) (gL6 hA fun k hk=>(bC0 hk).1) hT hT0
 rw [hlen] at hp
 have hkm:(bF8 N C cores sends w)[p]?.getD 0∈bF8 N C cores sends w:=by rw [qq hp];exact Qu _
 have hk0:=(bF0 (bC0 hkm).1).1.1
 obtain ⟨t,h4,h5⟩:=(gK6 hA hk0).1 h0
 have hw2:=hA.plan.chip.mesh.wide
 refine Qb (hR9 qZ h5) ?_
 unfold wvD
 rw [hT2]
 have hkw:(bF8 N C cores sends w)[p]?.getD 0∈wvK N C cores w:=(qP.1 hkm).1
 obtain ⟨l',h6,h7⟩:=cH2.1 hkw
 rw [hl] at h6;cases h6
 exact reach_le h7 h4
theorem gW0 (sends:Int->Bool):((List.range (bX4 N C cores).length).flatMap fun w=>bF8 N C cores sends w).Perm ((bX0 N).filter sends):=by
 refine (List.perm_ext_iff_of_nodup ?_ (List.Pairwise.filter _ (cB9 N))).2 fun k=>?_
 ·have:∀m:Nat,((List.range m).flatMap fun w=>bF8 N C cores sends w).Nodup:=by
   intro m
   induction m with
   |zero=>simp
   |succ m ih=>
    rw [Qz,QK,List.flatMap_singleton,Qe]
    refine ⟨ih,List.Pairwise.filter _ (fV6 m),?_⟩
    rintro a ha b hb rfl
    obtain ⟨w,hw,h1⟩:=QG.1 ha
    rw [qL] at hw
    obtain ⟨l1,h2,h3⟩:=cH2.1 (qP.1 h1).1
    obtain ⟨l2,h4,h5⟩:=cH2.1 (qP.1 hb).1
    have:=fP0 (bN7 N C cores) h2 h4 h3 h5
    omega
  exact this _
 ·rw [qP,QG]
  constructor
  ·rintro ⟨w,_,h⟩
   exact bC0 h
  ·rintro ⟨h1,h2⟩
   obtain ⟨l,h3,h4⟩:=bD8.2 h1
   obtain ⟨w,hw⟩:=jh h3
   refine ⟨w,qL.2 (qx.1 hw).1,?_⟩
   unfold bF8
   rw [qP]
   exact ⟨cH2.2 ⟨l,hw,h4⟩,h2⟩
def gK9 (N:Net)(C:Chp)(cores:List Int)(L:List Syn)(sends:Int->Bool)(T:Nat):List Syn:=(List.range (bX4 N C cores).length).flatMap fun w=>bF4 N cores L (bF8 N C cores sends w) (cF4 N C cores sends T w).arr
theorem dL1 (hA:AsgOk N C cores){L:List Syn}(hL:∀s∈L,0<=s.to/\s.to<N.ps.length)(hLN:∀s∈L,∃x∈N.syns,bG1 N x.frm=bG1 N s.frm/\x.to=s.to)(sends:Int->Bool){T:Nat}(hT:∀w,w<(bX4 N C cores).length->(wvD N C cores w+1)*wvL N C cores w<=T)(hT0:0<T)
  {srcs:List Int} (hn:srcs.Nodup) (hsrc:∀s∈L,sends (bG1 N s.frm)=true<->s.frm∈srcs):(gK9 N C cores L sends T).Perm (bK5 (cJ7 L) srcs):=by
 have h1:(gK9 N C cores L sends T).Perm ((List.range (bX4 N C cores).length).flatMap fun w=>(bF8 N C cores sends w).flatMap fun key=>L.filter fun s=>decide (bG1 N s.frm=key)):=by
  refine cZ1 fun w hw=>?_
  rw [qL] at hw
  exact fN0 hA hL hLN (fun k hk=>(bC0 hk).1) (gW3 hA sends hw (hT w hw) hT0)
 refine h1.trans ?_
 rw [<-List.flatMap_assoc]
 refine (dQ7 (gW0 sends)).trans ?_
 refine (cW1 (fun s:Syn=>bG1 N s.frm) L (List.Pairwise.filter _ (cB9 N))).trans ?_
 have h2:=cW1 (fun s:Syn=>s.frm) L hn
 have h3:bK5 (cJ7 L) srcs=srcs.flatMap fun a=>L.filter fun s=>decide (s.frm=a):=by
  unfold bK5
  rw [QF,QF]
  congr 1
  exact List.map_congr_left fun a _=>cY2 L a
 rw [h3]
 refine List.Perm.trans (List.Perm.of_eq ?_) h2.symm
 refine List.filter_congr fun s hs=>?_
 have h4:=hsrc s hs
 obtain ⟨x,hx,hxk,_⟩:=hLN s hs
 have h5:bG1 N s.frm∈bX0 N:=by
  have hr:=bL5 hA.plan.net hx
  rw [hxk] at hr
  unfold bX0
  rw [qP,jy]
  exact ⟨qo.2 ⟨(bG1 N s.frm).toNat,qL.2 qZ,by omega⟩,x,hx,hxk⟩
 by_cases h6:s.frm∈srcs
 ·have:bG1 N s.frm∈(bX0 N).filter sends:=qP.2 ⟨h5,h4.2 h6⟩
  simp [h6,this]
 ·have:bG1 N s.frm∉(bX0 N).filter sends:=fun h7=>h6 (h4.1 (qP.1 h7).2)
  simp only [h6,this]
end
end Go.Gm
end
