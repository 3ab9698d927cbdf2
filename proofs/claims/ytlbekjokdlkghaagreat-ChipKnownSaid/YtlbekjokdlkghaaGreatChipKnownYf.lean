import Derived.Test.YtlbekjokdlkghaaGreatChipKnownCc
import Derived.Test.YtlbekjokdlkghaaGreatChipKnownRum
import Derived.Test.YtlbekjokdlkghaaGreatChipKnownMl
set_option linter.unusedVariables false
set_option linter.unusedSimpArgs false
set_option maxHeartbeats 4000000
section
namespace Go.Gm
open Go.Proofs
structure PRow where
 p:Option Addr
 c:Nat
 ks:List Int
def PRow.ok (r:PRow):Prop:=0<r.ks.length->∃g,r.p=some ⟨g,0,none⟩
def pkOf (N:Net)(cores:List Int)(ks:List Int):List Pkt:=ks.map fun k=>⟨(homeM N cores k).toNat,k⟩
def wvN (ws:List (List Int))(n:Nat)(ks:List Int):List (List Int):=(List.range n).map fun (w:Nat)=>ks.filter fun k=>decide (waveOf ws k=(w:Int))
theorem wvN_len (ws:List (List Int))(n:Nat)(ks:List Int):(wvN ws n ks).length=n:=by unfold wvN;simp
theorem wvN_get {ws:List (List Int)}{n:Nat}{ks:List Int}{w:Nat}(h:w<n):(wvN ws n ks)[w]? =some (ks.filter fun k=>decide (waveOf ws k=(w:Int))):=by
 unfold wvN
 rw [qj,qX h];rfl
theorem wvN_more {ws:List (List Int)}{n:Nat}{ks:List Int}(h:∀k∈ks,waveOf ws k<(n:Int)):wvN ws (n+1) ks=wvN ws n ks++[[]]:=by
 unfold wvN
 rw [Qz,ql,qU]
 congr 2
 rw [List.filter_eq_nil_iff]
 intro k hk
 have:=h k hk
 simp;omega
theorem wvN_add {ws:List (List Int)}{n:Nat}{ks:List Int}{k:Int}{v:Nat}(hv:waveOf ws k=(v:Int))(h:v<n):wvN ws n (ks++[k])=(wvN ws n ks).set v ((ks.filter fun k=>decide (waveOf ws k=(v:Int)))++[k]):=by
 apply qp
 intro i
 rcases qy i n with hi|hi
 ·rw [wvN_get hi]
  by_cases h1:v=i
  ·subst h1
   rw [QZ (by rw [wvN_len];exact hi),Qa]
   congr 2
   simp [hv]
  ·rw [List.getElem?_set_ne h1,wvN_get hi,Qa]
   congr 1
   have:¬(v:Int)=(i:Int):=by omega
   simp [hv,this]
 ·rw [qf (by rw [wvN_len];exact hi),qf (by rw [QF,wvN_len];exact hi)]
theorem snd_filter (N:Net)(C:Chp)(cores:List Int)(sends:Int->Bool)(w:Nat):((keysM N).filter sends).filter (fun k=>decide (waveOf (wavesF N C cores) k=(w:Int)))=sndK N C cores sends w:=by
 unfold sndK wvK keysM
 rw [List.filter_filter,List.filter_filter,List.filter_filter]
 refine List.filter_congr fun k hk=>?_
 by_cases h1:waveOf (wavesF N C cores) k=(w:Int)
 ·obtain ⟨l,h2,h3⟩:=(waveOf_iff (waves_nodup N C cores)).1 h1
  have h4:=(waves_mem (N:=N) (C:=C) (cores:=cores) (key:=k)).1 ⟨l,qz h2,h3⟩
  unfold keysM at h4
  rw [qP,jv] at h4
  have h5:=h4.2
  simp only [h1,h5,decide_true,Bool.true_and,Bool.and_true]
 ·simp [h1]
theorem hops_snoc (N:Net)(C:Chp)(cores:List Int)(ks:List Int)(k:Int):hopsOf N C cores (ks++[k])=hopsOf N C cores ks+linksM (srcTree N C cores k):=by
 unfold hopsOf
 rw [ql,List.sum_append,qU,List.sum_singleton]
theorem links_le {N:Net}{C:Chp}{cores:List Int}(hA:AsgOk N C cores)(k:Int):linksM (srcTree N C cores k)<=256:=by
 have hn:=nCores_ok hA.plan.chip
 have h1:∀l:List Int,linksM l<=4*l.length:=fun l=>by
  induction l with
  |nil=>simp [linksM]
  |cons x l ih=>
   have h2:linkN x<=4:=by
    have:=qT (p:=fun b=>decide (hasB x b)) (l:=([1,2,4,8]:List Int))
    exact this
   unfold linksM at ih ⊢
   rw [qI,List.sum_cons,qR]
   omega
 have h2:=h1 (srcTree N C cores k)
 unfold srcTree at h2 ⊢
 rw [tree_length] at h2
 omega
theorem hops_le {N:Net}{C:Chp}{cores:List Int}(hA:AsgOk N C cores):∀ks:List Int,hopsOf N C cores ks<=256*ks.length
 |[]=>by simp [hopsOf]
 |k::ks=>by
  have h1:=hops_le hA ks
  have h2:=links_le hA k
  unfold hopsOf at h1 ⊢
  rw [qI,List.sum_cons,qR]
  omega
theorem keys_le (N:Net):(keysM N).length<=nSrc N:=by
 unfold keysM
 have:=qD (fun k=>decide (∃s∈N.syns,keyM N s.frm=k)) ((List.range (nSrc N)).map fun (k:Nat)=>(k:Int))
 rw [qv,Qg] at this
 exact this
structure SrcM where
 key:Int
 home:Nat
 links:Nat
def srcAt (N:Net)(C:Chp)(cores:List Int)(k:Int):SrcM:=⟨k,(homeM N cores k).toNat,linksM (srcTree N C cores k)⟩
def srcsM (N:Net)(C:Chp)(cores:List Int):List SrcM:=(keysM N).map (srcAt N C cores)
def rowsAt (N:Net)(C:Chp)(cores:List Int)(r key:Int):List RowE:=(rowsM N cores (synQs N (quantRes N C.bits).quots) r).filter fun x=>decide (x.key=key)
structure MacX where
 b:Nat
 kb:Nat
 cb:Nat
 cc:Nat
 sp:Option Addr
 sc:Nat
 n1:Value
 n2:Value
 n3:Value
 m1:Value
 m2:Value
 m3:Value
 m4:Value
 m5:Value
 m6:Value
 m7:Value
 m8:Value
 m9:Value
 m10:Value
 pt:Option Addr
 ct:Nat
 tt:List ERow
 pw:Option Addr
 cw:Nat
 m13:Value
 m14:Value
 bs:List Nat
def Wrk.few (w:Wrk)(n:Int):Prop:=(0<=w.ticks/\w.ticks<=n)/\(0<=w.updates/\w.updates<=n)/\(0<=w.spikes/\w.spikes<=n)/\(0<=w.packets/\w.packets<=n)/\(0<=w.hops/\w.hops<=n)/\(0<=w.arrivals/\w.arrivals<=n)/\(0<=w.rows/\w.rows<=n)/\(0<=w.steps/\w.steps<=n)/\0<=w.most/\w.most<=n
end Go.Gm
namespace Go.Proofs
open Go Go.Vx Go.Gm
def prV (r:PRow):List Value:=[.slice r.p r.ks.length r.c]
def prE (N:Net)(cores:List Int)(r:PRow):Ent:=.vec r.p r.ks.length r.c 291 4 (flat pkV (pkOf N cores r.ks))
theorem prV_upd (r:PRow)(p:Option Addr)(c:Nat)(x:Int):upd (prV r) 0 [.slice p (r.ks.length+1) c]=some (prV ⟨p,c,r.ks++[x]⟩):=by
 unfold prV
 rw [qw]
 rfl
theorem prE_snoc (N:Net)(cores:List Int)(p:Option Addr)(c:Nat)(l:List Int)(x:Int):prE N cores ⟨p,c,l++[x]⟩=.vec p (l.length+1) c 291 4 (flat pkV (pkOf N cores l)++[.int .i64 0,.int .i64 ((homeM N cores x).toNat:Int),.int .i64 x,.int .i64 0]):=by
 unfold prE pkOf
 rw [qw,ql,flat_append]
 rfl
def cpV (b:Nat):List Value:=[.pointer (some ⟨b,0,none⟩)]
def srcV (s:SrcM):List Value:=[.int .i64 s.key,.int .i64 (s.home:Int),.int .i64 (s.links:Int)]
def celC (c:CelM):List Value:=.int .i64 c.id::.int .i64 c.p.lk::.int .i64 c.p.lv::.int .i64 c.p.bias::.int .i64 c.p.th::.int .i64 c.p.rk::.int .i64 c.p.rs::.int .i64 c.p.fl::.int .i64 c.p.rest::.int .i64 c.z::.int .i64 c.s.v::.int .i64 c.s.rest::c.due.map fun x=>.int .i64 x
def celE (c:CelM):Ent:=.row c.b 215 (celC c)
def macC (N:Net)(C:Chp)(cores:List Int)(x:MacX)(t:Nat)(w:Wrk):List Value:=
 [.int .i64 (t:Int),.map (some x.kb),.slice (some ⟨x.cb,0,none⟩) N.ps.length x.cc,.slice x.sp (keysM N).length x.sc,x.n1,x.n2,x.n3,.int .i64 C.mesh.wide,.int .i64 C.mesh.high,.int .i64 C.mesh.room,
  x.m1,x.m2,x.m3,x.m4,x.m5,x.m6,x.m7,x.m8,x.m9,x.m10,.slice x.pt (nCores C) x.ct,.slice x.pw (nSrc N) x.cw,x.m13,x.m14,.int .i64 (stepsF N C cores:Int),
  .int .i64 w.ticks,.int .i64 w.updates,.int .i64 w.spikes,.int .i64 w.packets,.int .i64 w.hops,.int .i64 w.arrivals,.int .i64 w.rows,.int .i64 w.steps,.int .i64 w.most]
structure CorF (w:World) (M:List Nat) (N:Net) (C:Chp) (cores:List Int) (bs:List Nat) (r b:Nat):Prop where
 no:b∉M
 ex:∃(pc:Option Addr) (cc mb g:Nat) (RM:List (Int×Value)),Cells w b 0 [.slice pc (cellsAt cores (r:Int)).length cc,.map (some mb)]/\
  (Sl w cpV 1 ((cellsAt cores (r:Int)).map fun i=>bs[i]?.getD 0) pc (cellsAt cores (r:Int)).length g 0/\g∉M)/\(mapIs w mb RM/\mb∉M)/\
  ∀key:Int,∃(p:Option Addr) (c g:Nat),(mfind RM key=some (.slice p (rowsAt N C cores (r:Int) key).length c)\/(mfind RM key=none/\Value.slice p (rowsAt N C cores (r:Int) key).length c=nilS))/\
   Sl w rwV 4 (rowsAt N C cores (r:Int) key) p (rowsAt N C cores (r:Int) key).length g 0/\g∉M
structure MacIn (w:World) (M:List Nat) (N:Net) (C:Chp) (cores:List Int) (x:MacX):Prop where
 bl:x.bs.length=N.ps.length
 cells:Sl w cpV 1 x.bs (some ⟨x.cb,0,none⟩) N.ps.length x.cb 0/\x.cb∉M
 srcs:∃g,Sl w srcV 3 (srcsM N C cores) x.sp (keysM N).length g 0/\g∉M
 waves:∃g,Sl w intV 1 ((List.range (nSrc N)).map fun (k:Nat)=>waveOf (wavesF N C cores) (k:Int)) x.pw (nSrc N) g 0/\g∉M
 tabs:x.tt.map (·.l)=tablesF N C cores
 tab:∃g,Sl w erV 1 x.tt x.pt x.tt.length g 0/\g∉M
 tabE:∀z∈x.tt,∃g,Sl w etyV 3 z.l z.p z.l.length g 0/\g∉M
 en:∀t∈tablesF N C cores,(t.length:Int)<=C.en
 kmap:∃KM:List (Int×Value),(mapIs w x.kb KM/\x.kb∉M)/\∀r:Nat,r<nCores C->∃b,mfind KM (r:Int)=some (.pointer (some ⟨b,0,none⟩))/\CorF w M N C cores x.bs r b
theorem contains_dec (l:List Int)(hl:l.length<=1152921504606846976)(v:Int)(p:Option Addr)(cap b o:Nat)(w:World)(h1:Sl w intV 1 l p l.length b o):
  Calls Tryz.prog 145 #[.slice p l.length cap,.int .i64 v] w fun e w'=>e=.returned (.bool (decide (v∈l)))/\St w [] [] w':=by
 refine (contains_any l hl v p cap b o w h1).mono fun e w' h=>?_
 obtain ⟨c,e1,e2,e3⟩:=h
 refine ⟨?_,e3⟩
 rw [e1]
 cases c<;>simp only [QV,false_iff,true_iff] at e2<;>simp [e2]
theorem sends_vc {w0:World}{M:List Nat}{H:HP}{K:Value->HP->Prop}(N:Net)(hn:N.ps.length<=1024)(b2 b3 b5 xb cb cc:Nat)(mc:List Value)(hmc:sub mc 2 1=some [.slice (some ⟨cb,0,none⟩) N.ps.length cc])(spk ins:List Int)(hspk:spk.length<=65536)(hins:ins.length<=65536)(ps:Option Addr)(cs:Nat)(pi:Option Addr)(ci bi oi:Nat)(hin:Sl w0 intV 1 ins pi ins.length bi oi)(hbi:bi∉M)
  (h2:Ent.row b2 88 [.pointer (some ⟨xb,0,none⟩)]∈H) (h5:Ent.row b5 28 [.slice ps spk.length cs]∈H) (h3:Ent.row b3 28 [.slice pi ins.length ci]∈H) (hm:Ent.row xb 135 mc∈H) (hv:Ent.vec ps spk.length cs 3 1 (flat intV spk)∈H)
  (key:Int) (hk:0<=key/\key<=65536) (B:Bool) (hB:sendsM N spk ins key=B) (hK:K (.bool B) H):
  VCall Tryz.cx.P w0 M H 144 [.int .i64 key,.pointer (some ⟨b2,0,none⟩),.pointer (some ⟨b5,0,none⟩),.pointer (some ⟨b3,0,none⟩)] K:=by
 have hown:∀w',St w0 M H w'->∃b,Sl w' intV 1 spk ps spk.length b 0:=fun w' hw'=>by
  obtain ⟨u,r,hat⟩:=At.ofMem hv
  exact Sl.own hw' hat (fun _=>rfl) rfl
 have hc1:=fun (w':World) (hw':St w0 M H w')=>(hown w' hw').elim fun b hb=>contains_dec spk qZ key ps cs b 0 w' hb
 have hc2:=fun (w':World) (hw':St w0 M H w')=>contains_dec ins qZ (key - N.ps.length) pi ci bi oi w' (hin.keep hw' hbi)
 unfold sendsM at hB
 refine VCall.inl (F:=Tryz.fx144) Tryz.func144 rfl rfl rfl Tryz.ok144 ?_
 by_cases hlt:key<(N.ps.length:Int)
 ·rw [jx hlt] at hB
  rw [hB] at hc1
  repeat' (conv=>whnf);first|(refine VLd.is ?_;refine VLd.mk (Rd.cast (Rd.mRow h2 (s:=1) (off:=0) rfl) oE) ?_)|(refine VLd.is ?_;refine VLd.mk (Rd.cast (Rd.mRow h5 (s:=1) (off:=0) rfl) oE) ?_)|(refine VLd.is ?_;refine VLd.mk (Rd.cast (Rd.mRow hm hmc) oE) ?_)|(refine VCall.isF 145 ?_;(refine VCall.valR (fun w' hw'=>hc1 w' hw') ?_))|refine VSeq.go ?_|refine oY fun _=>?_
  all_goals (conv=>whnf)
  exact hK
 ·rw [jz hlt] at hB
  rw [hB] at hc2
  repeat' (conv=>whnf);first|(refine VLd.is ?_;refine VLd.mk (Rd.cast (Rd.mRow h2 (s:=1) (off:=0) rfl) oE) ?_)|(refine VLd.is ?_;refine VLd.mk (Rd.cast (Rd.mRow h3 (s:=1) (off:=0) rfl) oE) ?_)|(refine VLd.is ?_;refine VLd.mk (Rd.cast (Rd.mRow hm hmc) oE) ?_)|(refine VCall.isF 145 ?_;(refine VCall.valR (fun w' hw'=>hc2 w' hw') ?_))|refine VSeq.go ?_|refine oN fun _=>?_|refine oA ?_|refine oH ?_
  all_goals (conv=>whnf)
  exact hK
end Go.Proofs
end

section
namespace Go.Gm
open Go.Proofs
section
variable {N : Net} {C : Chp} {cores : List Int}
theorem lastOf_le {A:List (Nat×Nat×Nat)}{m:Nat}(h:∀a∈A,a.2.2+1<=m):lastOf A<=m:=by
 unfold lastOf
 obtain ⟨_,_,h3⟩:=foldl_maxN (A.map fun a=>a.2.2+1) 0
 rcases h3 with h3|h3
 ·rw [h3];omega
 ·obtain ⟨a,ha,he⟩:=qo.1 h3
  rw [<-he];exact h a ha
theorem lastOf_next (A:List (Nat×Nat×Nat))(a:Nat×Nat×Nat):lastOf (A++[a])=max (lastOf A) (a.2.2+1):=by
 unfold lastOf
 rw [ql,Qx];rfl
theorem snd_time (hA:AsgOk N C cores)(sends:Int->Bool){w:Nat}(hw:w<(wavesF N C cores).length){p r t:Nat}(h:(p,r,t)∈(sndS N C cores sends (stT N C cores) w).arr):t+1<=(wvD N C cores w+1)*wvL N C cores w:=by
 obtain ⟨l,hl⟩:∃l,(wavesF N C cores)[w]? =some l:=⟨_,qq hw⟩
 have hT:wvT N C cores w=l:=by unfold wvT;rw [hl];rfl
 have hlen:(sndC N C cores sends w).pk.length=(sndK N C cores sends w).length:=qv _
 obtain ⟨h1,h2,h3,h4⟩:=(sndT_done hA sends hw).ar p r t h
 rw [hlen] at h1
 have hkm:(sndK N C cores sends w)[p]?.getD 0∈sndK N C cores sends w:=by rw [qq h1];exact Qu _
 have hk0:=(keys_src (sndK_keys hkm).1).1.1
 have h5:=(way_here hA hk0).1 h3
 refine Qb h4 (Qj _ (Nat.succ_le_succ ?_))
 show distM C.mesh.wide (homeM N cores ((sndK N C cores sends w)[p]?.getD 0)) (r:Int)<=_
 unfold wvD
 rw [hT]
 have hkw:(sndK N C cores sends w)[p]?.getD 0∈wvK N C cores w:=(qP.1 hkm).1
 obtain ⟨l',h6,h7⟩:=wvK_mem.1 hkw
 rw [hl] at h6;cases h6
 exact reach_le h7 h5
theorem snd_last (hA:AsgOk N C cores)(sends:Int->Bool){w:Nat}(hw:w<(wavesF N C cores).length):lastOf (sndS N C cores sends (stT N C cores) w).arr<=(wvD N C cores w+1)*wvL N C cores w/\(wvD N C cores w+1)*wvL N C cores w<=960:=by
 obtain ⟨_,h1,h2⟩:=wv_ok hA hw
 have h3:(wvD N C cores w+1)*wvL N C cores w<=15*64:=Nat.mul_le_mul (by omega) h1
 exact ⟨lastOf_le fun a ha=>snd_time hA sends hw (p:=a.1) (r:=a.2.1) (t:=a.2.2) ha,h3⟩
theorem last_le (hA:AsgOk N C cores)(sends:Int->Bool):∀w,w<=(wavesF N C cores).length->lastTo N C cores sends (stT N C cores) w<=(((wavesF N C cores).take w).map fun l=>(reachM C.mesh.wide (homeM N cores) (coresM N C cores) l+1)*mostM (l.map (srcTree N C cores))).sum/\lastTo N C cores sends (stT N C cores) w<=w*960
 |0,_=>by simp [lastTo]
 |w+1,h=>by
  obtain ⟨ih,ih2⟩:=last_le hA sends w (by omega)
  obtain ⟨h1,h2⟩:=snd_last hA sends (by omega:w<(wavesF N C cores).length)
  have hl:(wavesF N C cores)[w]? =some (wvT N C cores w):=by
   unfold wvT
   rw [qq (by omega:w<(wavesF N C cores).length)];rfl
  rw [lastTo_next,qi,hl,qW,ql,List.sum_append,qU,List.sum_singleton]
  refine ⟨Nat.add_le_add ih h1,by omega⟩
theorem wavesN_few (N:Net)(C:Chp)(cores:List Int):(wavesF N C cores).length<=nSrc N:=by
 have h1:=(waves_perm (srcTree N C cores) C.mesh.room (keysM N)).length_eq
 have h2:∀ws:List (List Int),(∀w∈ws,w≠[])->ws.length<=ws.flatten.length:=fun ws=>by
  induction ws with
  |nil=>intro _;simp
  |cons w ws ih=>
   intro h
   have:=ih fun x hx=>h x (qu _ hx)
   have hw:=QA.2 (h w qg)
   rw [qR,List.flatten_cons,qw]
   omega
 have h3:=h2 (wavesF N C cores) (wave_ne (keysM N) [] (by simp))
 have h4:=keys_le N
 have h5:(wavesF N C cores).flatten.length=(keysM N).length:=h1
 omega
theorem pairs_few {n:Nat}:∀(m:Nat) (l:List (Nat×Nat)),l.Nodup->(∀x∈l,x.1<m/\x.2<n)->l.length<=m*n:=by
 intro m l hn hl
 have h1:(l.map fun x=>x.1*n+x.2).Nodup:=by
  refine List.Pairwise.map _ (R:=fun a b=>a∈l/\b∈l/\a≠b) (fun a b h e=>?_) ?_
  ·obtain ⟨ha,hb,hne⟩:=h
   have h2:=(hl a ha).2
   have h3:=(hl b hb).2
   apply hne
   have h4:a.1=b.1:=by
    rcases Nat.lt_trichotomy a.1 b.1 with h|h|h
    ·have:(a.1+1)*n<=b.1*n:=Qj _ h
     rw [QB] at this;omega
    ·exact h
    ·have:(b.1+1)*n<=a.1*n:=Qj _ h
     rw [QB] at this;omega
   have h5:a.2=b.2:=by rw [h4] at e;omega
   exact Prod.ext h4 h5
  ·exact List.pairwise_iff_forall_sublist.2 fun hs=>⟨hs.subset qg,hs.subset (qu _ qg),List.pairwise_iff_forall_sublist.1 hn hs⟩
 have h2:(l.map fun x=>x.1*n+x.2) ⊆ List.range (m*n):=fun y hy=>by
  obtain ⟨x,hx,rfl⟩:=qo.1 hy
  have h3:=hl x hx
  have:(x.1+1)*n<=m*n:=Qj _ h3.1
  rw [QB] at this
  exact qL.2 (by omega)
 have h3:=Go.Vx.nodup_len h1 fun x hx=>h2 hx
 rw [qv,Qg] at h3
 exact h3
theorem snd_arr_few (hA:AsgOk N C cores)(sends:Int->Bool){w:Nat}(hw:w<(wavesF N C cores).length):(sndS N C cores sends (stT N C cores) w).arr.length<=(sndK N C cores sends w).length*64:=by
 have hd:=sndT_done hA sends hw
 have hn:=nCores_ok hA.plan.chip
 have hlen:(sndC N C cores sends w).pk.length=(sndK N C cores sends w).length:=qv _
 have h:=pairs_few (n:=64) (sndK N C cores sends w).length _ hd.an fun x hx=>by
  obtain ⟨⟨p,r,t⟩,h1,rfl⟩:=qo.1 hx
  obtain ⟨h2,h3,_,_⟩:=hd.ar p r t h1
  rw [hlen] at h2
  have h3:r<nCores C:=h3
  exact ⟨h2,by dsimp only;omega⟩
 rw [qv] at h
 exact h
theorem snd_len_sum (N:Net)(C:Chp)(cores:List Int)(sends:Int->Bool):((List.range (wavesF N C cores).length).map fun w=>(sndK N C cores sends w).length).sum<=nSrc N:=by
 have h1:=(snd_perm (N:=N) (C:=C) (cores:=cores) sends).length_eq
 rw [List.length_flatMap] at h1
 have h2:=qD sends (keysM N)
 have h3:=keys_le N
 omega
theorem arrs_le (hA:AsgOk N C cores)(sends:Int->Bool):∀w,w<=(wavesF N C cores).length->arrsTo N C cores sends (stT N C cores) w<=((List.range w).map fun v=>(sndK N C cores sends v).length).sum*64
 |0,_=>by simp [arrsTo]
 |w+1,h=>by
  have ih:=arrs_le hA sends w (by omega)
  have h1:=snd_arr_few hA sends (by omega:w<(wavesF N C cores).length)
  rw [arrsTo_next,Qz,ql,List.sum_append,qU,List.sum_singleton,QB]
  omega
theorem arrs_mono (N:Net)(C:Chp)(cores:List Int)(sends:Int->Bool)(T:Nat):∀(d w:Nat),arrsTo N C cores sends T w<=arrsTo N C cores sends T (w+d)
 |0,_=>qA _
 |d+1,w=>by
  have:=arrs_mono N C cores sends T d w
  rw [<-Nat.add_assoc,arrsTo_next]
  omega
theorem macArrs_le (hA:AsgOk N C cores)(sends:Int->Bool):macArrs N C cores sends<=nSrc N*64:=by
 have h1:=arrs_le hA sends _ (qA _)
 have h2:=snd_len_sum N C cores sends
 exact Qb h1 (Qj _ h2)
theorem arrs_all (hA:AsgOk N C cores)(sends:Int->Bool){w:Nat}(hw:w<=(wavesF N C cores).length):arrsTo N C cores sends (stT N C cores) w<=nSrc N*64:=by
 have h1:=arrs_mono N C cores sends (stT N C cores) ((wavesF N C cores).length - w) w
 rw [Nat.add_sub_cancel' hw] at h1
 exact Qb h1 (macArrs_le hA sends)
theorem adds_mono (N:Net)(C:Chp)(cores:List Int)(L:List Syn)(sends:Int->Bool)(T:Nat):∀(d w:Nat),(addsTo N C cores L sends T w).length<=(addsTo N C cores L sends T (w+d)).length
 |0,_=>qA _
 |d+1,w=>by
  have:=adds_mono N C cores L sends T d w
  rw [<-Nat.add_assoc,addsTo_next,qw]
  omega
theorem yields_few (L:List Syn){srcs:List Int}(h:srcs.Nodup):(yields (wire L) srcs).length<=L.length:=by
 rw [(yields_perm L h).length_eq]
 exact qD _ _
theorem macAdds_few (hA:AsgOk N C cores){spikes ins:List Int}(hs:spikes.Pairwise (· <·))(hi:ins.Pairwise (· <·))(h1:∀x∈spikes,0<=x)(h2:∀x∈ins,0<=x):(macAdds N C cores (sendsM N spikes ins)).length<=8192:=by
 rw [(macAdds_perm hA hs hi h1 h2).length_eq]
 have hn:(spikes++ins.map fun k=> -1 - k).Nodup:=by
  rw [Qe]
  refine ⟨ascY_nodup hs,List.Pairwise.map _ (fun a b h e=>?_) hi,?_⟩
  ·omega
  ·rintro a ha b hb rfl
   obtain ⟨k,hk,he⟩:=qo.1 hb
   have:=h1 _ ha
   have:=h2 _ hk
   omega
 have h3:=yields_few (qSyns N C) hn
 have h4:(qSyns N C).length=N.syns.length:=qv _
 have h5:=hA.plan.net.fewS
 omega
def addsAt (N:Net)(C:Chp)(cores:List Int)(sends:Int->Bool)(w i j:Nat):List Syn:=
 addsTo N C cores (qSyns N C) sends (stT N C cores) w++arrAdds N cores (qSyns N C) (sndK N C cores sends w) ((sndS N C cores sends (stT N C cores) w).arr.take i)++
  match (sndS N C cores sends (stT N C cores) w).arr[i]? with
  |some a=>(toCore N cores (qSyns N C) ((sndK N C cores sends w)[a.1]?.getD 0) (a.2.1:Int)).take j
  |none=>[]
theorem addsAt_zero (sends:Int->Bool)(w:Nat):addsAt N C cores sends w 0 0=addsTo N C cores (qSyns N C) sends (stT N C cores) w:=by
 unfold addsAt
 have h1:arrAdds N cores (qSyns N C) (sndK N C cores sends w) ((sndS N C cores sends (stT N C cores) w).arr.take 0)=[]:=rfl
 rw [h1,qC]
 cases (sndS N C cores sends (stT N C cores) w).arr[0]?<;>simp
theorem addsAt_row {sends:Int->Bool}{w i:Nat}{a:Nat×Nat×Nat}(ha:(sndS N C cores sends (stT N C cores) w).arr[i]? =some a){j:Nat}{s:Syn}(hs:(toCore N cores (qSyns N C) ((sndK N C cores sends w)[a.1]?.getD 0) (a.2.1:Int))[j]? =some s):addsAt N C cores sends w i (j+1)=addsAt N C cores sends w i j++[s]:=by
 unfold addsAt
 rw [ha]
 dsimp only
 rw [qi,hs,qW,<-qJ]
theorem addsAt_next {sends:Int->Bool}{w i:Nat}{a:Nat×Nat×Nat}(ha:(sndS N C cores sends (stT N C cores) w).arr[i]? =some a):addsAt N C cores sends w i (toCore N cores (qSyns N C) ((sndK N C cores sends w)[a.1]?.getD 0) (a.2.1:Int)).length=addsAt N C cores sends w (i+1) 0:=by
 unfold addsAt
 rw [ha,qi,ha,qW]
 dsimp only
 rw [Qk]
 have h1:∀(A:List (Nat×Nat×Nat)),arrAdds N cores (qSyns N C) (sndK N C cores sends w) (A++[a])=arrAdds N cores (qSyns N C) (sndK N C cores sends w) A++toCore N cores (qSyns N C) ((sndK N C cores sends w)[a.1]?.getD 0) (a.2.1:Int):=fun A=>by
  unfold arrAdds
  rw [QK,List.flatMap_singleton]
 rw [h1,<-qJ]
 cases (sndS N C cores sends (stT N C cores) w).arr[i+1]?<;>simp
theorem addsAt_all (sends:Int->Bool)(w:Nat):addsAt N C cores sends w (sndS N C cores sends (stT N C cores) w).arr.length 0=addsTo N C cores (qSyns N C) sends (stT N C cores) (w+1):=by
 unfold addsAt
 rw [addsTo_next,Qk,qf (qA _),qC]
theorem addsAt_few {sends:Int->Bool}{w:Nat}(hw:w<(wavesF N C cores).length){i j:Nat}:(addsAt N C cores sends w i j).length<=(macAdds N C cores sends).length:=by
 have h1:=adds_mono N C cores (qSyns N C) sends (stT N C cores) ((wavesF N C cores).length - (w+1)) (w+1)
 rw [Nat.add_sub_cancel' (by omega)] at h1
 refine Qb ?_ h1
 rw [addsTo_next]
 unfold addsAt
 rw [qJ]
 simp only [qw]
 refine Nat.add_le_add_left ?_ _
 rcases qy i (sndS N C cores sends (stT N C cores) w).arr.length with hi|hi
 ·obtain ⟨a,ha⟩:∃a,(sndS N C cores sends (stT N C cores) w).arr[i]? =some a:=⟨_,qq hi⟩
  rw [ha]
  dsimp only
  have h2:(sndS N C cores sends (stT N C cores) w).arr=(sndS N C cores sends (stT N C cores) w).arr.take i++(a::(sndS N C cores sends (stT N C cores) w).arr.drop (i+1)):=by
   obtain ⟨h3,h4⟩:=qx.1 ha
   rw [<-h4,<-qG h3,QJ]
  obtain ⟨A,hA⟩:=gX ((sndS N C cores sends (stT N C cores) w).arr)
  rw [hA] at h2 ⊢
  have h3:(arrAdds N cores (qSyns N C) (sndK N C cores sends w) A).length=(arrAdds N cores (qSyns N C) (sndK N C cores sends w) (A.take i)).length+((toCore N cores (qSyns N C) ((sndK N C cores sends w)[a.1]?.getD 0) (a.2.1:Int)).length+(arrAdds N cores (qSyns N C) (sndK N C cores sends w) (A.drop (i+1))).length):=by
   conv=>lhs;rw [h2]
   unfold arrAdds
   rw [QK,Qf,qw,qw]
  have:=List.length_take_le j (toCore N cores (qSyns N C) ((sndK N C cores sends w)[a.1]?.getD 0) (a.2.1:Int))
  have h4:=List.length_take_le' j (toCore N cores (qSyns N C) ((sndK N C cores sends w)[a.1]?.getD 0) (a.2.1:Int))
  omega
 ·rw [qf hi,qe hi]
  exact qA _
theorem quots_ok (hA:AsgOk N C cores):(quantRes N C.bits).quots=N.syns.map (quotS (scalesM N (halfM C.bits))):=by
 have hb:=hA.plan.chip.bits
 have hq0:qErr N C.bits=0:=by
  unfold qErr
  rw [netchk_zero.2 hA.plan.net,jz (by simp),jz (by omega)]
 unfold quantRes
 rw [jz (by omega)]
 rfl
def synsAt (N:Net)(cores:List Int)(r key:Int):List Syn:=N.syns.filter fun s=>decide (keyM N s.frm=key/\cores[s.to.toNat]? =some r)
theorem rowsAt_eq (hA:AsgOk N C cores)(r key:Int):rowsAt N C cores r key=(synsAt N cores r key).map fun s=>rowOf N cores s (quotS (scalesM N (halfM C.bits)) s):=by
 unfold rowsAt rowsM synQs synsAt
 rw [quots_ok hA]
 have h1:∀(l:List Syn) (f:Syn->Int),l.zip (l.map f)=l.map fun s=>(s,f s):=fun l f=>by
  induction l with
  |nil=>rfl
  |cons a l ih=>rw [qI,List.zip_cons_cons,qI,ih]
 rw [h1,List.filter_map,List.filter_filter,List.filter_map,List.map_map]
 congr 1
 refine List.filter_congr fun s _=>?_
 simp only [Function.comp,rowOf]
 by_cases h1:keyM N s.frm=key<;>by_cases h2:cores[s.to.toNat]? =some r<;>simp [h1,h2]
theorem toCore_eq (N:Net)(C:Chp)(cores:List Int)(key r:Int):toCore N cores (qSyns N C) key r=(synsAt N cores r key).map (synQ (scalesM N (halfM C.bits))):=by
 unfold toCore qSyns synsAt
 rw [List.filter_map]
 rfl
end
structure MacGo (N:Net) (C:Chp) (x:MacX) (m:Mac):Prop where
 ok:MacOk N m
 bs:m.cs.map (·.b)=x.bs
 zs:m.cs.map (·.z)=scalesM N (halfM C.bits)
 sta:∀c∈m.cs,staOk c.p c.s
 tick:m.t<=10000
 few:m.w.few ((m.t:Int)*1000000)
theorem sta_cadds {t:Nat}(l:List Syn):∀{cs:List CelM},(∀c∈cs,staOk c.p c.s)->∀c∈l.foldl (cadd t) cs,staOk c.p c.s:=by
 induction l with
 |nil=>intro cs h;exact h
 |cons s l ih=>
  intro cs h
  refine ih fun c hc=>?_
  obtain ⟨i,hi⟩:=jy hc
  unfold cadd at hi
  rw [qS] at hi
  cases hd:cs[i]? with
  |none=>rw [hd] at hi;cases hi
  |some d=>
   rw [hd] at hi
   have:=h d (qz hd)
   simp only [Option.map_eq_map,qV,qK] at hi
   split at hi<;>subst hi<;>exact this
theorem MacGo.step {N:Net}{C:Chp}{cores:List Int}{x:MacX}(hA:AsgOk N C cores){m:Mac}(h:MacGo N C x m)(ht:m.t<10000){ins:List Int}(hi:ins.Pairwise (· <·))(h2:∀x∈ins,0<=x):MacGo N C x (macStep N C cores m ins):=by
 have hpo:∀c∈m.cs,ParOk c.p:=fun c hc=>hA.plan.net.ps c.p (by rw [<-h.ok.ps];exact qN (f:=(·.p)) hc)
 refine ⟨h.ok.step C cores ins,?_,?_,?_,by show m.t+1<=10000;omega,?_⟩
 ·show ((macAdds N C cores (sendsM N (macSpk m) ins)).foldl (cadd m.t) (cfire m.t m.cs)).map (·.b)=_
  rw [cs_b,<-h.bs]
  unfold cfire
  rw [List.map_map];rfl
 ·show ((macAdds N C cores (sendsM N (macSpk m) ins)).foldl (cadd m.t) (cfire m.t m.cs)).map (·.z)=_
  rw [cs_z,<-h.zs]
  unfold cfire
  rw [List.map_map];rfl
 ·refine sta_cadds _ fun c hc=>?_
  obtain ⟨d,hd,rfl⟩:=qo.1 hc
  exact tick_ok (hpo d hd) (h.sta d hd) _
 ·have hw:=h.few
  have hnf:=hA.plan.net.few
  have hfew:=hA.plan.few
  have hinp:=hA.plan.net.inputs
  have hns:nSrc N<=256:=by unfold nSrc;omega
  have h1:=macAdds_few hA (spikes:=macSpk m) (spkF_asc _ 0) hi (fun x hx=>(macSpk_range h.ok hx).1) h2
  have h3:=macArrs_le hA (sendsM N (macSpk m) ins)
  have h4:=(last_le hA (sendsM N (macSpk m) ins) _ (qA _)).2
  have h4b:macLast N C cores (sendsM N (macSpk m) ins)<=(wavesF N C cores).length*960:=h4
  have h5:=wavesN_few N C cores
  have h6:=qD (sendsM N (macSpk m) ins) (keysM N)
  have h7:=keys_le N
  have h8:=hops_le hA ((keysM N).filter (sendsM N (macSpk m) ins))
  have h9:(macSpk m).length<=N.ps.length:=by
   have h10:=spk_length (cF m.t m.cs) (cF m.t m.cs).length
   rw [Qk,cF_len,h.ok.len] at h10
   exact h10
  unfold Wrk.few at hw ⊢
  show (0<=m.w.ticks+1/\m.w.ticks+1<=((m.t+1:Nat):Int)*1000000)/\(0<=m.w.updates+(N.ps.length:Int)/\m.w.updates+(N.ps.length:Int)<=((m.t+1:Nat):Int)*1000000)/\(0<=m.w.spikes+((macSpk m).length:Int)/\m.w.spikes+((macSpk m).length:Int)<=((m.t+1:Nat):Int)*1000000)/\
   (0<=m.w.packets+(((keysM N).filter (sendsM N (macSpk m) ins)).length:Int)/\m.w.packets+(((keysM N).filter (sendsM N (macSpk m) ins)).length:Int)<=((m.t+1:Nat):Int)*1000000)/\(0<=m.w.hops+(hopsOf N C cores ((keysM N).filter (sendsM N (macSpk m) ins)):Int)/\m.w.hops+(hopsOf N C cores ((keysM N).filter (sendsM N (macSpk m) ins)):Int)<=((m.t+1:Nat):Int)*1000000)/\
   (0<=m.w.arrivals+(macArrs N C cores (sendsM N (macSpk m) ins):Int)/\m.w.arrivals+(macArrs N C cores (sendsM N (macSpk m) ins):Int)<=((m.t+1:Nat):Int)*1000000)/\(0<=m.w.rows+((macAdds N C cores (sendsM N (macSpk m) ins)).length:Int)/\m.w.rows+((macAdds N C cores (sendsM N (macSpk m) ins)).length:Int)<=((m.t+1:Nat):Int)*1000000)/\
   (0<=m.w.steps+(macLast N C cores (sendsM N (macSpk m) ins):Int)/\m.w.steps+(macLast N C cores (sendsM N (macSpk m) ins):Int)<=((m.t+1:Nat):Int)*1000000)/\0<=max m.w.most (macLast N C cores (sendsM N (macSpk m) ins):Int)/\max m.w.most (macLast N C cores (sendsM N (macSpk m) ins):Int)<=((m.t+1:Nat):Int)*1000000
  omega
end Go.Gm
end
