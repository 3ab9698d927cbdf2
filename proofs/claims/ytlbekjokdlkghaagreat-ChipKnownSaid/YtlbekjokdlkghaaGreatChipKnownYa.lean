import Derived.Test.YtlbekjokdlkghaaGreatChipKnownTa
import Derived.Test.YtlbekjokdlkghaaGreatChipKnownMl
import Derived.Test.YtlbekjokdlkghaaGreatChipKnownPz
import Derived.Test.YtlbekjokdlkghaaGreatChipKnownMz
set_option linter.unusedVariables false
set_option linter.unusedSimpArgs false
set_option maxHeartbeats 4000000
section
namespace Go.Proofs
open Go Go.Vx Go.Gm
end Go.Proofs
end

section
namespace Go.Gm
end Go.Gm
namespace Go.Proofs
open Go Go.Vx Go.Gm
end Go.Proofs
end

section
namespace Go.Gm
theorem waveAdd_perm (T:Int->List Int)(room:Int)(ws:List (List Int))(key:Int):(waveAdd T room ws key).flatten.Perm (ws.flatten++[key]):=by
 rw [waveAdd_eq]
 have hle:=waveIx_le T room ws key
 generalize waveIx T room ws key=k at hle ⊢
 split
 ·rename_i hlt
  rw [qq hlt,qY,List.set_eq_take_append_cons_drop,jx hlt]
  have e:ws=ws.take k++ws[k]::ws.drop (k+1):=by rw [<-qG hlt,QJ]
  have e2:ws.flatten=(ws.take k).flatten++(ws[k]++(ws.drop (k+1)).flatten):=by
   conv=>lhs;rw [e]
   rw [List.flatten_append,List.flatten_cons]
  rw [e2,List.flatten_append,List.flatten_cons,qJ,qJ,qJ]
  exact QM _ (QM _ List.perm_append_comm)
 ·rw [List.flatten_append];simp
theorem waves_perm (T:Int->List Int)(room:Int)(keys:List Int):(wavesM T room keys).flatten.Perm keys:=by
 have h:∀(keys:List Int) (ws:List (List Int)),(keys.foldl (waveAdd T room) ws).flatten.Perm (ws.flatten++keys):=by
  intro keys
  induction keys with
  |nil=>intro ws;simp
  |cons k l ih=>
   intro ws
   rw [Qp]
   refine (ih _).trans ?_
   have:=(waveAdd_perm T room ws k).append_right l
   rw [qJ] at this
   exact this
 exact h keys []
end Go.Gm
end

section
namespace Go.Gm
theorem flat_uniq {ws:List (List Int)}(hn:ws.flatten.Nodup):∀{i j:Nat} {a b:List Int} {k:Int},ws[i]? =some a->ws[j]? =some b->k∈a->k∈b->i=j:=by
 induction ws with
 |nil=>intro i j a b k h;cases h
 |cons x l ih=>
  rw [List.flatten_cons,Qe] at hn
  obtain ⟨h1,h2,h3⟩:=hn
  intro i j a b k hi hj ha hb
  rcases i with _|i<;>rcases j with _|j
  ·rfl
  ·simp only [QX,qK] at hi
   rw [Qv] at hj
   subst hi
   exact absurd rfl (h3 k ha k (List.mem_flatten.2 ⟨b,qz hj,hb⟩))
  ·simp only [QX,qK] at hj
   rw [Qv] at hi
   subst hj
   exact absurd rfl (h3 k hb k (List.mem_flatten.2 ⟨a,qz hi,ha⟩))
  ·rw [Qv] at hi hj
   rw [ih h2 hi hj ha hb]
theorem waveOf_iff {ws:List (List Int)}(hn:ws.flatten.Nodup){k:Int}{w:Nat}:waveOf ws k=(w:Int)<->∃l,ws[w]? =some l/\k∈l:=by
 unfold waveOf
 cases h:ws.findIdx? fun w=>decide (k∈w) with
 |none=>
  rw [List.findIdx?_eq_none_iff] at h
  constructor
  ·intro he;dsimp only at he;omega
  ·rintro ⟨l,h1,h2⟩
   have:=h l (qz h1)
   rw [decide_eq_false_iff_not] at this
   exact absurd h2 this
 |some j=>
  rw [List.findIdx?_eq_some_iff_getElem] at h
  obtain ⟨h1,h2,h3⟩:=h
  rw [jv] at h2
  have hj:ws[j]? =some ws[j]:=qq h1
  constructor
  ·intro he
   have:j=w:=by dsimp only at he;omega
   subst this
   exact ⟨_,hj,h2⟩
  ·rintro ⟨l,h4,h5⟩
   have:=flat_uniq hn hj h4 h2 h5
   dsimp only;omega
theorem waveOf_ge (ws:List (List Int))(k:Int): -1<=waveOf ws k/\waveOf ws k<ws.length:=by
 unfold waveOf
 cases h:ws.findIdx? fun w=>decide (k∈w) with
 |none=>dsimp only;omega
 |some j=>
  rw [List.findIdx?_eq_some_iff_getElem] at h
  have:=h.1
  dsimp only;omega
theorem wave_room {T:Int->List Int}{room:Int}(h1:1<=room):∀(keys:List Int) (ws:List (List Int)),(∀w∈ws,(mostM (w.map T):Int)<=room)->∀w∈keys.foldl (waveAdd T room) ws,(mostM (w.map T):Int)<=room
 |[],ws,h=>h
 |key::l,ws,h=>by
  refine wave_room h1 l _ ?_
  intro w hw
  unfold waveAdd at hw
  split at hw
  ·rename_i k hk
   rw [List.findIdx?_eq_some_iff_getElem] at hk
   obtain ⟨a1,a2,_⟩:=hk
   obtain ⟨i,hi⟩:=jy hw
   rw [qS] at hi
   split at hi
   ·rename_i hki
    subst hki
    rw [qq a1] at hi
    cases hi
    rw [ql]
    exact (takes_iff (h _ (Qu _)) h1).1 a2
   ·cases hx:ws[i]? with
    |none=>rw [hx] at hi;cases hi
    |some x=>
     rw [hx] at hi
     cases hi
     exact h _ (qz hx)
  ·rcases qH.1 hw with hw|hw
   ·exact h w hw
   ·rw [qt] at hw
    subst hw
    rcases (mostM_is ([key].map T)).ex with he|⟨o,ho,he⟩
    ·omega
    ·have:cntM ([key].map T) o<=1:=qT
     omega
theorem wave_ne {T:Int->List Int}{room:Int}:∀(keys:List Int) (ws:List (List Int)),(∀w∈ws,w≠[])->∀w∈keys.foldl (waveAdd T room) ws,w≠[]
 |[],ws,h=>h
 |key::l,ws,h=>by
  refine wave_ne l _ ?_
  intro w hw
  unfold waveAdd at hw
  split at hw
  ·obtain ⟨i,hi⟩:=jy hw
   rw [qS] at hi
   split at hi
   ·rename_i k hk hki
    cases hx:ws[i]? with
    |none=>rw [hx] at hi;cases hi
    |some x=>
     rw [hx] at hi
     cases hi
     simp
   ·cases hx:ws[i]? with
    |none=>rw [hx] at hi;cases hi
    |some x=>
     rw [hx] at hi
     cases hi
     exact h _ (qz hx)
  ·rcases qH.1 hw with hw|hw
   ·exact h w hw
   ·rw [qt] at hw;subst hw;simp
section
variable {N : Net} {C : Chp} {cores : List Int}
def wvT (N:Net)(C:Chp)(cores:List Int)(w:Nat):List Int:=((wavesF N C cores)[w]?).getD []
def wvK (N:Net)(C:Chp)(cores:List Int)(w:Nat):List Int:=((List.range (nSrc N)).map fun (k:Nat)=>(k:Int)).filter fun k=>decide (waveOf (wavesF N C cores) k=(w:Int))
def wvL (N:Net)(C:Chp)(cores:List Int)(w:Nat):Nat:=mostM ((wvT N C cores w).map (srcTree N C cores))
def wvC (N:Net)(C:Chp)(cores:List Int)(w:Nat):RCtx:=wayCtx N C cores (wvK N C cores w) (wvL N C cores w)
def wvD (N:Net)(C:Chp)(cores:List Int)(w:Nat):Nat:=reachM C.mesh.wide (homeM N cores) (coresM N C cores) (wvT N C cores w)
theorem waves_nodup (N:Net)(C:Chp)(cores:List Int):(wavesF N C cores).flatten.Nodup:=(waves_perm _ _ _).nodup_iff.2 (keysM_nodup N)
theorem waves_mem {key:Int}:(∃l∈wavesF N C cores,key∈l)<->key∈keysM N:=mem_wavesM _
theorem wvK_mem {w:Nat}{k:Int}:k∈wvK N C cores w<->∃l,(wavesF N C cores)[w]? =some l/\k∈l:=by
 unfold wvK
 rw [qP,jv,waveOf_iff (waves_nodup N C cores)]
 constructor
 ·exact fun h=>h.2
 ·rintro ⟨l,h1,h2⟩
  refine ⟨?_,l,h1,h2⟩
  have:=(keys_src (waves_mem.1 ⟨l,qz h1,h2⟩)).1
  exact qo.2 ⟨k.toNat,qL.2 (by omega),by omega⟩
theorem wvK_keys {w:Nat}{k:Int}(h:k∈wvK N C cores w):k∈keysM N:=by
 obtain ⟨l,h1,h2⟩:=wvK_mem.1 h
 exact waves_mem.1 ⟨l,qz h1,h2⟩
theorem wvK_nodup (w:Nat):(wvK N C cores w).Nodup:=List.Pairwise.filter _ (List.Pairwise.map _ (fun a b h e=>h (by omega)) List.nodup_range)
theorem wvK_perm {w:Nat}{l:List Int}(hl:(wavesF N C cores)[w]? =some l):(wvK N C cores w).Perm l:=by
 have hn:l.Nodup:=by
  exact (waves_nodup N C cores).sublist (List.sublist_flatten_of_mem (qz hl))
 refine (List.perm_ext_iff_of_nodup (wvK_nodup w) hn).2 fun k=>?_
 rw [wvK_mem]
 constructor
 ·rintro ⟨l',h1,h2⟩
  rw [hl] at h1;cases h1;exact h2
 ·exact fun h=>⟨l,hl,h⟩
theorem reach_le {W:Int}{home:Int->Int}{tg:Int->List Int}{l:List Int}{key t:Int}(hk:key∈l)(ht:t∈tg key):distM W (home key) t<=reachM W home tg l:=
 (foldl_maxN _ 0).2.1 _ (QY.2 ⟨key,hk,qo.2 ⟨t,ht,rfl⟩⟩)
theorem way_dist {W:Int}(hW:0<W){src t r:Int}(h:r∈rte W src t):distM W src r<=distM W src t:=by
 obtain ⟨a,b,h1⟩:=at2 hW src
 obtain ⟨c,d,h2⟩:=at2 hW t
 obtain ⟨x,y,h3⟩:=at2 hW r
 have:=rte_on hW h2 _ src rfl h1 h3 h
 rw [dist_at h1 h3,dist_at h1 h2]
 unfold onWay betw at this
 omega
theorem wv_ok (hA:AsgOk N C cores){w:Nat}(hw:w<(wavesF N C cores).length):RCtxOk (wvC N C cores w)/\wvL N C cores w<=64/\wvD N C cores w<=14:=by
 obtain ⟨l,hl⟩:∃l,(wavesF N C cores)[w]? =some l:=⟨_,qq hw⟩
 have hT:wvT N C cores w=l:=by unfold wvT;rw [hl];rfl
 have hrm:=hA.plan.chip.mesh.room
 have hr:(wvL N C cores w:Int)<=C.mesh.room:=by
  unfold wvL
  rw [hT]
  exact wave_room hrm.1 (keysM N) [] (by simp) l (qz hl)
 refine ⟨way_ok hA (fun k hk=>wvK_keys hk) (fun r o ho=>?_) hr,by omega,?_⟩
 ·unfold wvL
  rw [hT]
  have h1:cntM ((wvK N C cores w).map (srcTree N C cores)) ((r:Nat),pow2 o)=cntM (l.map (srcTree N C cores)) ((r:Nat),pow2 o):=by
   unfold cntM
   exact ((wvK_perm hl).map _).countP_eq _
  rw [h1]
  exact (mostM_is _).le _ ⟨by dsimp only;omega,pow_isOut ho⟩
 ·have hn:=nCores_ok hA.plan.chip
  have hw2:=hA.plan.chip.mesh.wide
  have hh:=hA.plan.chip.mesh.high
  unfold wvD
  rw [hT]
  unfold reachM
  rcases (foldl_maxN (l.flatMap fun key=>(coresM N C cores key).map fun t=>distM C.mesh.wide (homeM N cores key) t) 0).2.2 with h|h
  ·omega
  ·obtain ⟨key,h1,h2⟩:=QY.1 h
   obtain ⟨t,h3,h4⟩:=qo.1 h2
   rw [<-h4]
   have hk:=(keys_src (waves_mem.1 ⟨l,qz hl,h1⟩)).1.1
   have h5:=home_range hA key hk
   have h6:=(mem_coresM.1 h3).1
   have:=dist_le (W:=C.mesh.wide) (H:=C.mesh.high) (r:=homeM N cores key) (t:=t) (by omega) (by omega) (by omega)
   omega
end
end Go.Gm
end

section
namespace Go.Gm
theorem due_perm (t:Nat){l1 l2:List Syn}(h:l1.Perm l2):∀D,l1.foldl (due1 t) D=l2.foldl (due1 t) D:=by
 induction h with
 |nil=>intro D;rfl
 |cons a _ ih=>intro D;exact ih _
 |swap a b l=>intro D;show l.foldl (due1 t) _=l.foldl (due1 t) _;rw [due1_comm]
 |trans _ _ ih1 ih2=>intro D;rw [ih1,ih2]
theorem filter_split {α:Type}(p:α->Bool):∀l:List α,(l.filter p++l.filter fun x=> !p x).Perm l
 |[]=>.refl _
 |a::l=>by
  have ih:=filter_split p l
  by_cases h:p a=true
  ·rw [List.filter_cons_of_pos h,List.filter_cons_of_neg (by simp [h])]
   exact ih.cons a
  ·rw [List.filter_cons_of_neg h,List.filter_cons_of_pos (by simp [h])]
   exact List.perm_middle.trans (ih.cons a)
theorem keys_perm {α β:Type}[DecidableEq β](g:α->β)(L:List α):∀{S:List β},S.Nodup->(S.flatMap fun a=>L.filter fun s=>decide (g s=a)).Perm (L.filter fun s=>decide (g s∈S))
 |[],_=>by simp
 |a::S,h=>by
  rw [QN] at h
  rw [Qf]
  refine (QM _ (keys_perm g L h.2)).trans ?_
  refine List.Perm.trans ?_ (filter_split (fun s=>decide (g s=a)) (L.filter fun s=>decide (g s∈a::S)))
  rw [List.filter_filter,List.filter_filter]
  refine List.Perm.of_eq ?_
  congr 1
  ·refine List.filter_congr fun s _=>?_
   by_cases h1:g s=a<;>simp [h1]
  ·refine List.filter_congr fun s _=>?_
   by_cases h1:g s=a
   ·subst h1
    simp [h.1]
   ·simp [h1]
theorem flatMap_perm {α β:Type}{f:α->List β}{l1 l2:List α}(h:l1.Perm l2):(l1.flatMap f).Perm (l2.flatMap f):=by
 induction h with
 |nil=>exact .refl _
 |cons a _ ih=>rw [Qf,Qf];exact QM _ ih
 |swap a b l=>
  simp only [Qf]
  rw [<-qJ,<-qJ]
  exact List.perm_append_comm.append_right _
 |trans _ _ ih1 ih2=>exact ih1.trans ih2
theorem flatMap_perm2 {α β:Type}{f g:α->List β}:∀{l:List α},(∀a∈l,(f a).Perm (g a))->(l.flatMap f).Perm (l.flatMap g)
 |[],_=>.refl _
 |a::l,h=>by
  rw [Qf,Qf]
  exact (h a qg).append (flatMap_perm2 fun x hx=>h x (qu _ hx))
section
variable {N : Net} {C : Chp} {cores : List Int}
def toCore (N:Net)(cores:List Int)(L:List Syn)(key r:Int):List Syn:=L.filter fun s=>decide (keyM N s.frm=key/\cores[s.to.toNat]? =some r)
theorem toCore_perm (hA:AsgOk N C cores){L:List Syn}(hL:∀s∈L,0<=s.to/\s.to<N.ps.length)(hLN:∀s∈L,∃x∈N.syns,keyM N x.frm=keyM N s.frm/\x.to=s.to)(key:Int):((coresM N C cores key).flatMap fun r=>toCore N cores L key r).Perm (L.filter fun s=>decide (keyM N s.frm=key)):=by
 have h1:=keys_perm (fun s:Syn=>cores[s.to.toNat]?.getD (-1)) (L.filter fun s=>decide (keyM N s.frm=key)) (coresM_nodup N C cores key)
 have hl:=hA.len
 have hget:∀s∈L,∃d,cores[s.to.toNat]? =some d/\d∈cores:=fun s hs=>by
  have:=hL s hs
  exact ⟨cores[s.to.toNat]'(by omega),qq _,Qu _⟩
 have e1:∀r∈coresM N C cores key,toCore N cores L key r=(L.filter fun s=>decide (keyM N s.frm=key)).filter fun s=>decide (cores[s.to.toNat]?.getD (-1)=r):=fun r _=>by
  unfold toCore
  rw [List.filter_filter]
  refine List.filter_congr fun s hs=>?_
  obtain ⟨d,hd,_⟩:=hget s hs
  rw [hd]
  by_cases h2:keyM N s.frm=key<;>simp [h2]
 have e2:((coresM N C cores key).flatMap fun r=>toCore N cores L key r)=(coresM N C cores key).flatMap fun r=>(L.filter fun s=>decide (keyM N s.frm=key)).filter fun s=>decide (cores[s.to.toNat]?.getD (-1)=r):=by
  rw [QG,QG]
  congr 1
  exact List.map_congr_left e1
 rw [e2]
 refine h1.trans (List.Perm.of_eq ?_)
 rw [List.filter_eq_self]
 intro s hs
 rw [qP,jv] at hs
 obtain ⟨hs,hk⟩:=hs
 obtain ⟨d,hd,hdc⟩:=hget s hs
 rw [jv,hd,qY,mem_coresM]
 have hn:=nCores_ok hA.plan.chip
 have hdr:=(hA.core d hdc).1
 obtain ⟨x,hx,hxk,hxt⟩:=hLN s hs
 exact ⟨⟨hdr.1,by omega⟩,x,hx,hxk.trans hk,by rw [hxt];exact hd⟩
def arrAdds (N:Net)(cores:List Int)(L:List Syn)(ks:List Int)(A:List (Nat×Nat×Nat)):List Syn:=A.flatMap fun a=>toCore N cores L (ks[a.1]?.getD 0) (a.2.1:Int)
theorem arrAdds_perm (hA:AsgOk N C cores){L:List Syn}(hL:∀s∈L,0<=s.to/\s.to<N.ps.length)(hLN:∀s∈L,∃x∈N.syns,keyM N x.frm=keyM N s.frm/\x.to=s.to){ks:List Int}(hks:∀k∈ks,k∈keysM N){l:Nat}{st:RunZ}(hd:RunDone (wayCtx N C cores ks l) st):(arrAdds N cores L ks st.arr).Perm (ks.flatMap fun key=>L.filter fun s=>decide (keyM N s.frm=key)):=by
 have hlen:(wayCtx N C cores ks l).pk.length=ks.length:=qv _
 have hn:=nCores_ok hA.plan.chip
 have hkey:∀p,p<ks.length->ks[p]?.getD 0∈keysM N:=fun p hp=>hks _ (by rw [qq hp];exact Qu _)
 -- pairs
 have hP:(st.arr.map fun x=>(x.1,x.2.1)).Perm ((List.range ks.length).flatMap fun p=>(coresM N C cores (ks[p]?.getD 0)).map fun r=>(p,r.toNat)):=by
  refine (List.perm_ext_iff_of_nodup hd.an ?_).2 ?_
  ·have:∀m:Nat,((List.range m).flatMap fun p=>(coresM N C cores (ks[p]?.getD 0)).map fun r=>(p,r.toNat)).Nodup:=by
    intro m
    induction m with
    |zero=>simp
    |succ m ih=>
     rw [Qz,QK,List.flatMap_singleton,Qe]
     refine ⟨ih,?_,?_⟩
     ·refine List.Pairwise.map _ (R:=fun a b=>a∈coresM N C cores (ks[m]?.getD 0)/\b∈coresM N C cores (ks[m]?.getD 0)/\a≠b) (fun a b hab e=>?_) ?_
      ·have h1:=(mem_coresM.1 hab.1).1
       have h2:=(mem_coresM.1 hab.2.1).1
       simp only [Prod.mk.injEq,true_and] at e
       exact hab.2.2 (by omega)
      ·exact (List.pairwise_iff_forall_sublist.2 fun hs=>⟨hs.subset qg,hs.subset (qu _ qg),List.pairwise_iff_forall_sublist.1 (coresM_nodup N C cores (ks[m]?.getD 0)) hs⟩)
     ·rintro a ha b hb rfl
      obtain ⟨p,hp,h1⟩:=QY.1 ha
      obtain ⟨r,_,rfl⟩:=qo.1 h1
      obtain ⟨r2,_,h2⟩:=qo.1 hb
      rw [qL] at hp
      simp only [Prod.mk.injEq] at h2
      omega
   exact this _
  ·rintro ⟨p,r⟩
   constructor
   ·intro h
    obtain ⟨⟨a,b,t⟩,h1,h2⟩:=qo.1 h
    simp only [Prod.mk.injEq] at h2
    obtain ⟨rfl,rfl⟩:=h2
    obtain ⟨h3,h4,h5,h6⟩:=hd.ar a b t h1
    rw [hlen] at h3
    refine QY.2 ⟨a,qL.2 h3,qo.2 ⟨(b:Int),?_,by simp⟩⟩
    exact (way_here hA (keys_src (hkey a h3)).1.1).1 h5
   ·intro h
    obtain ⟨a,h1,h2⟩:=QY.1 h
    obtain ⟨b,h3,h4⟩:=qo.1 h2
    simp only [Prod.mk.injEq] at h4
    obtain ⟨rfl,rfl⟩:=h4
    rw [qL] at h1
    have hb:=(mem_coresM.1 h3).1
    obtain ⟨t,ht⟩:=hd.aa a b.toNat (by omega) (by show _<nCores C;omega) ((way_here hA (keys_src (hkey a h1)).1.1).2 (by rw [Ql hb.1];exact h3))
    exact qo.2 ⟨(a,b.toNat,t),ht,rfl⟩
 have e1:arrAdds N cores L ks st.arr=(st.arr.map fun x=>(x.1,x.2.1)).flatMap fun y=>toCore N cores L (ks[y.1]?.getD 0) (y.2:Int):=by
  unfold arrAdds
  rw [List.flatMap_map]
 rw [e1]
 refine (flatMap_perm hP).trans ?_
 rw [List.flatMap_assoc]
 have e2:ks.flatMap (fun key=>L.filter fun s=>decide (keyM N s.frm=key))=(List.range ks.length).flatMap fun p=>L.filter fun s=>decide (keyM N s.frm=ks[p]?.getD 0):=by
  have h:(List.range ks.length).map (fun p=>ks[p]?.getD 0)=ks:=by
   apply qp
   intro i
   rw [qj]
   rcases qy i ks.length with hi|hi
   ·rw [qX hi,qV,qq hi,qY]
   ·rw [qf (by rw [Qg];exact hi),qf hi];rfl
  conv=>lhs;rw [<-h]
  rw [List.flatMap_map]
 rw [e2]
 refine flatMap_perm2 fun p hp=>?_
 rw [List.flatMap_map]
 refine List.Perm.trans (List.Perm.of_eq ?_) (toCore_perm hA hL hLN (ks[p]?.getD 0))
 rw [QG,QG]
 congr 1
 refine List.map_congr_left fun r hr=>?_
 have:=(mem_coresM.1 hr).1
 rw [Ql this.1]
end
section
variable {N : Net} {C : Chp} {cores : List Int}
def sndK (N:Net)(C:Chp)(cores:List Int)(sends:Int->Bool)(w:Nat):List Int:=(wvK N C cores w).filter sends
def sndC (N:Net)(C:Chp)(cores:List Int)(sends:Int->Bool)(w:Nat):RCtx:=wayCtx N C cores (sndK N C cores sends w) (wvL N C cores w)
def sndS (N:Net)(C:Chp)(cores:List Int)(sends:Int->Bool)(T w:Nat):RunZ:=runM C.mesh (tablesF N C cores) (sndC N C cores sends w).pk (nCores C) T
theorem sndK_keys {sends:Int->Bool}{w:Nat}{k:Int}(h:k∈sndK N C cores sends w):k∈keysM N/\sends k=true:=by
 unfold sndK at h
 rw [qP] at h
 exact ⟨wvK_keys h.1,h.2⟩
theorem snd_ok (hA:AsgOk N C cores)(sends:Int->Bool){w:Nat}(hw:w<(wavesF N C cores).length):RCtxOk (sndC N C cores sends w):=by
 obtain ⟨l,hl⟩:∃l,(wavesF N C cores)[w]? =some l:=⟨_,qq hw⟩
 have hT:wvT N C cores w=l:=by unfold wvT;rw [hl];rfl
 have hrm:=hA.plan.chip.mesh.room
 have hr:(wvL N C cores w:Int)<=C.mesh.room:=by
  unfold wvL
  rw [hT]
  exact wave_room hrm.1 (keysM N) [] (by simp) l (qz hl)
 refine way_ok hA (fun k hk=>(sndK_keys hk).1) (fun r o ho=>?_) hr
 have h1:cntM ((sndK N C cores sends w).map (srcTree N C cores)) ((r:Nat),pow2 o)<=cntM (l.map (srcTree N C cores)) ((r:Nat),pow2 o):=by
  unfold cntM
  have h2:(((wvK N C cores w).map (srcTree N C cores)).countP fun t=>decide (hasB (t[((r:Nat):Int).toNat]?.getD 0) (pow2 o)))=((l.map (srcTree N C cores)).countP fun t=>decide (hasB (t[((r:Nat):Int).toNat]?.getD 0) (pow2 o))):=((wvK_perm hl).map _).countP_eq _
  refine Qb ?_ (Nat.le_of_eq h2)
  exact List.Sublist.countP_le (List.Sublist.map _ List.filter_sublist)
 refine Qb h1 ?_
 unfold wvL
 rw [hT]
 exact (mostM_is _).le _ ⟨by dsimp only;omega,pow_isOut ho⟩
theorem snd_done (hA:AsgOk N C cores)(sends:Int->Bool){w:Nat}(hw:w<(wavesF N C cores).length){T:Nat}(hT:(wvD N C cores w+1)*wvL N C cores w<=T)(hT0:0<T):RunDone (sndC N C cores sends w) (sndS N C cores sends T w):=by
 obtain ⟨l,hl⟩:∃l,(wavesF N C cores)[w]? =some l:=⟨_,qq hw⟩
 have hT2:wvT N C cores w=l:=by unfold wvT;rw [hl];rfl
 have hlen:(sndC N C cores sends w).pk.length=(sndK N C cores sends w).length:=qv _
 refine run_done (snd_ok hA sends hw) (D:=wvD N C cores w) (T:=T) (fun p r hp hr h0=>?_) (way_reach hA fun k hk=>(sndK_keys hk).1) hT hT0
 rw [hlen] at hp
 have hkm:(sndK N C cores sends w)[p]?.getD 0∈sndK N C cores sends w:=by rw [qq hp];exact Qu _
 have hk0:=(keys_src (sndK_keys hkm).1).1.1
 obtain ⟨t,h4,h5⟩:=(way_nz hA hk0).1 h0
 have hw2:=hA.plan.chip.mesh.wide
 refine Qb (way_dist (by omega) h5) ?_
 unfold wvD
 rw [hT2]
 have hkw:(sndK N C cores sends w)[p]?.getD 0∈wvK N C cores w:=(qP.1 hkm).1
 obtain ⟨l',h6,h7⟩:=wvK_mem.1 hkw
 rw [hl] at h6;cases h6
 exact reach_le h7 h4
theorem snd_perm (sends:Int->Bool):((List.range (wavesF N C cores).length).flatMap fun w=>sndK N C cores sends w).Perm ((keysM N).filter sends):=by
 refine (List.perm_ext_iff_of_nodup ?_ (List.Pairwise.filter _ (keysM_nodup N))).2 fun k=>?_
 ·have:∀m:Nat,((List.range m).flatMap fun w=>sndK N C cores sends w).Nodup:=by
   intro m
   induction m with
   |zero=>simp
   |succ m ih=>
    rw [Qz,QK,List.flatMap_singleton,Qe]
    refine ⟨ih,List.Pairwise.filter _ (wvK_nodup m),?_⟩
    rintro a ha b hb rfl
    obtain ⟨w,hw,h1⟩:=QY.1 ha
    rw [qL] at hw
    obtain ⟨l1,h2,h3⟩:=wvK_mem.1 (qP.1 h1).1
    obtain ⟨l2,h4,h5⟩:=wvK_mem.1 (qP.1 hb).1
    have:=flat_uniq (waves_nodup N C cores) h2 h4 h3 h5
    omega
  exact this _
 ·rw [qP,QY]
  constructor
  ·rintro ⟨w,_,h⟩
   exact sndK_keys h
  ·rintro ⟨h1,h2⟩
   obtain ⟨l,h3,h4⟩:=waves_mem.2 h1
   obtain ⟨w,hw⟩:=jy h3
   refine ⟨w,qL.2 (qx.1 hw).1,?_⟩
   unfold sndK
   rw [qP]
   exact ⟨wvK_mem.2 ⟨l,hw,h4⟩,h2⟩
def tickAdds (N:Net)(C:Chp)(cores:List Int)(L:List Syn)(sends:Int->Bool)(T:Nat):List Syn:=(List.range (wavesF N C cores).length).flatMap fun w=>arrAdds N cores L (sndK N C cores sends w) (sndS N C cores sends T w).arr
theorem tickAdds_perm (hA:AsgOk N C cores){L:List Syn}(hL:∀s∈L,0<=s.to/\s.to<N.ps.length)(hLN:∀s∈L,∃x∈N.syns,keyM N x.frm=keyM N s.frm/\x.to=s.to)(sends:Int->Bool){T:Nat}(hT:∀w,w<(wavesF N C cores).length->(wvD N C cores w+1)*wvL N C cores w<=T)(hT0:0<T)
  {srcs:List Int} (hn:srcs.Nodup) (hsrc:∀s∈L,sends (keyM N s.frm)=true<->s.frm∈srcs):(tickAdds N C cores L sends T).Perm (yields (wire L) srcs):=by
 have h1:(tickAdds N C cores L sends T).Perm ((List.range (wavesF N C cores).length).flatMap fun w=>(sndK N C cores sends w).flatMap fun key=>L.filter fun s=>decide (keyM N s.frm=key)):=by
  refine flatMap_perm2 fun w hw=>?_
  rw [qL] at hw
  exact arrAdds_perm hA hL hLN (fun k hk=>(sndK_keys hk).1) (snd_done hA sends hw (hT w hw) hT0)
 refine h1.trans ?_
 rw [<-List.flatMap_assoc]
 refine (flatMap_perm (snd_perm sends)).trans ?_
 refine (keys_perm (fun s:Syn=>keyM N s.frm) L (List.Pairwise.filter _ (keysM_nodup N))).trans ?_
 have h2:=keys_perm (fun s:Syn=>s.frm) L hn
 have h3:yields (wire L) srcs=srcs.flatMap fun a=>L.filter fun s=>decide (s.frm=a):=by
  unfold yields
  rw [QG,QG]
  congr 1
  exact List.map_congr_left fun a _=>wfind_wire L a
 rw [h3]
 refine List.Perm.trans (List.Perm.of_eq ?_) h2.symm
 refine List.filter_congr fun s hs=>?_
 have h4:=hsrc s hs
 obtain ⟨x,hx,hxk,_⟩:=hLN s hs
 have h5:keyM N s.frm∈keysM N:=by
  have hr:=key_range hA.plan.net hx
  rw [hxk] at hr
  unfold keysM
  rw [qP,jv]
  exact ⟨qo.2 ⟨(keyM N s.frm).toNat,qL.2 (by omega),by omega⟩,x,hx,hxk⟩
 by_cases h6:s.frm∈srcs
 ·have:keyM N s.frm∈(keysM N).filter sends:=qP.2 ⟨h5,h4.2 h6⟩
  simp [h6,this]
 ·have:keyM N s.frm∉(keysM N).filter sends:=fun h7=>h6 (h4.1 (qP.1 h7).2)
  simp only [h6,this]
end
end Go.Gm
end
