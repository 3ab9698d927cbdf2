import Derived.Test.YtlbekjokdlkghaaGreatChipMovesCc
import Derived.Test.YtlbekjokdlkghaaGreatChipMovesRum
import Derived.Test.YtlbekjokdlkghaaGreatChipMovesMl
set_option linter.unusedVariables false
set_option linter.unusedSimpArgs false
set_option maxHeartbeats 4000000
section
namespace Go.Gm
open Go.Proofs
structure PRow where
 p:Option Addr
 c:Nat
 ks:List Int
def PRow.ok (r:PRow):Prop:=0<r.ks.length->∃g,r.p=some ⟨g,0,none⟩
def hV9 (N:Net)(cores:List Int)(ks:List Int):List Pkt:=ks.map fun k=>⟨(bJ2 N cores k).toNat,k⟩
def wvN (ws:List (List Int))(n:Nat)(ks:List Int):List (List Int):=(List.range n).map fun (w:Nat)=>ks.filter fun k=>decide (bW0 ws k=(w:Int))
theorem dS3 (ws:List (List Int))(n:Nat)(ks:List Int):(wvN ws n ks).length=n:=by unfold wvN;simp
theorem dS4 {ws:List (List Int)}{n:Nat}{ks:List Int}{w:Nat}(h:w<n):(wvN ws n ks)[w]? =some (ks.filter fun k=>decide (bW0 ws k=(w:Int))):=by
 unfold wvN
 rw [qj,qX h];rfl
theorem hR4 {ws:List (List Int)}{n:Nat}{ks:List Int}(h:∀k∈ks,bW0 ws k<(n:Int)):wvN ws (n+1) ks=wvN ws n ks++[[]]:=by
 unfold wvN
 rw [Qz,ql,qU]
 congr 2
 rw [List.filter_eq_nil_iff]
 intro k hk
 have:=h k hk
 simp;omega
theorem kM3 {ws:List (List Int)}{n:Nat}{ks:List Int}{k:Int}{v:Nat}(hv:bW0 ws k=(v:Int))(h:v<n):wvN ws n (ks++[k])=(wvN ws n ks).set v ((ks.filter fun k=>decide (bW0 ws k=(v:Int)))++[k]):=by
 apply qp
 intro i
 rcases qy i n with hi|hi
 ·rw [dS4 hi]
  by_cases h1:v=i
  ·subst h1
   rw [QZ (by rw [dS3];exact hi),Qa]
   congr 2
   simp [hv]
  ·rw [List.getElem?_set_ne h1,dS4 hi,Qa]
   congr 1
   have:¬(v:Int)=(i:Int):=by omega
   simp [hv,this]
 ·rw [qf (by rw [dS3];exact hi),qf (by rw [QH,dS3];exact hi)]
theorem gD8 (N:Net)(C:Chp)(cores:List Int)(sends:Int->Bool)(w:Nat):((bX0 N).filter sends).filter (fun k=>decide (bW0 (bX4 N C cores) k=(w:Int)))=bF8 N C cores sends w:=by
 unfold bF8 wvK bX0
 rw [List.filter_filter,List.filter_filter,List.filter_filter]
 refine List.filter_congr fun k hk=>?_
 by_cases h1:bW0 (bX4 N C cores) k=(w:Int)
 ·obtain ⟨l,h2,h3⟩:=(cT1 (bN7 N C cores)).1 h1
  have h4:=(bD8 (N:=N) (C:=C) (cores:=cores) (key:=k)).1 ⟨l,qz h2,h3⟩
  unfold bX0 at h4
  rw [qP,jy] at h4
  have h5:=h4.2
  simp only [h1,h5,decide_true,Bool.true_and,Bool.and_true]
 ·simp [h1]
theorem hB3 (N:Net)(C:Chp)(cores:List Int)(ks:List Int)(k:Int):bZ7 N C cores (ks++[k])=bZ7 N C cores ks+bK7 (bQ5 N C cores k):=by
 unfold bZ7
 rw [ql,List.sum_append,qU,List.sum_singleton]
theorem gG7 {N:Net}{C:Chp}{cores:List Int}(hA:AsgOk N C cores)(k:Int):bK7 (bQ5 N C cores k)<=256:=by
 have hn:=bX6 hA.plan.chip
 have h1:∀l:List Int,bK7 l<=4*l.length:=fun l=>by
  induction l with
  |nil=>simp [bK7]
  |cons x l ih=>
   have h2:cX5 x<=4:=by
    have:=qT (p:=fun b=>decide (bH9 x b)) (l:=([1,2,4,8]:List Int))
    exact this
   unfold bK7 at ih ⊢
   rw [qI,List.sum_cons,qR]
   omega
 have h2:=h1 (bQ5 N C cores k)
 unfold bQ5 at h2 ⊢
 rw [bW2] at h2
 omega
theorem gX2 {N:Net}{C:Chp}{cores:List Int}(hA:AsgOk N C cores):∀ks:List Int,bZ7 N C cores ks<=256*ks.length
 |[]=>by simp [bZ7]
 |k::ks=>by
  have h1:=gX2 hA ks
  have h2:=gG7 hA k
  unfold bZ7 at h1 ⊢
  rw [qI,List.sum_cons,qR]
  omega
theorem fX5 (N:Net):(bX0 N).length<=bV2 N:=by
 unfold bX0
 have:=qD (fun k=>decide (∃s∈N.syns,bG1 N s.frm=k)) ((List.range (bV2 N)).map fun (k:Nat)=>(k:Int))
 rw [qv,Qg] at this
 exact this
structure SrcM where
 key:Int
 home:Nat
 links:Nat
def hZ7 (N:Net)(C:Chp)(cores:List Int)(k:Int):SrcM:=⟨k,(bJ2 N cores k).toNat,bK7 (bQ5 N C cores k)⟩
def dD3 (N:Net)(C:Chp)(cores:List Int):List SrcM:=(bX0 N).map (hZ7 N C cores)
def bS8 (N:Net)(C:Chp)(cores:List Int)(r key:Int):List RowE:=(bM1 N cores (cJ5 N (bQ9 N C.bits).quots) r).filter fun x=>decide (x.key=key)
structure MacX where
 b:Nat
 kb:Nat
 cb:Nat
 cc:Nat
 sp:Option Addr
 sc:Nat
 n1:Value
 n2:Value
 n3:Value
 m1:Value
 m2:Value
 m3:Value
 m4:Value
 m5:Value
 m6:Value
 m7:Value
 m8:Value
 m9:Value
 m10:Value
 pt:Option Addr
 ct:Nat
 tt:List ERow
 pw:Option Addr
 cw:Nat
 m13:Value
 m14:Value
 bs:List Nat
def Wrk.few (w:Wrk)(n:Int):Prop:=(0<=w.ticks/\w.ticks<=n)/\(0<=w.updates/\w.updates<=n)/\(0<=w.spikes/\w.spikes<=n)/\(0<=w.packets/\w.packets<=n)/\(0<=w.hops/\w.hops<=n)/\(0<=w.arrivals/\w.arrivals<=n)/\(0<=w.rows/\w.rows<=n)/\(0<=w.steps/\w.steps<=n)/\0<=w.most/\w.most<=n
end Go.Gm
namespace Go.Proofs
open Go Go.Vx Go.Gm
def prV (r:PRow):List Value:=[.slice r.p r.ks.length r.c]
def prE (N:Net)(cores:List Int)(r:PRow):Ent:=.vec r.p r.ks.length r.c 291 4 (bQ1 pkV (hV9 N cores r.ks))
theorem kC7 (r:PRow)(p:Option Addr)(c:Nat)(x:Int):upd (prV r) 0 [.slice p (r.ks.length+1) c]=some (prV ⟨p,c,r.ks++[x]⟩):=by
 unfold prV
 rw [qw]
 rfl
theorem kX6 (N:Net)(cores:List Int)(p:Option Addr)(c:Nat)(l:List Int)(x:Int):prE N cores ⟨p,c,l++[x]⟩=.vec p (l.length+1) c 291 4 (bQ1 pkV (hV9 N cores l)++[.int .i64 0,.int .i64 ((bJ2 N cores x).toNat:Int),.int .i64 x,.int .i64 0]):=by
 unfold prE hV9
 rw [qw,ql,bQ7]
 rfl
def cpV (b:Nat):List Value:=[.pointer (some ⟨b,0,none⟩)]
def kB4 (s:SrcM):List Value:=[.int .i64 s.key,.int .i64 (s.home:Int),.int .i64 (s.links:Int)]
def dB7 (c:CelM):List Value:=.int .i64 c.id::.int .i64 c.p.lk::.int .i64 c.p.lv::.int .i64 c.p.bias::.int .i64 c.p.th::.int .i64 c.p.rk::.int .i64 c.p.rs::.int .i64 c.p.fl::.int .i64 c.p.rest::.int .i64 c.z::.int .i64 c.s.v::.int .i64 c.s.rest::c.due.map fun x=>.int .i64 x
def bB6 (c:CelM):Ent:=.row c.b 215 (dB7 c)
def bV1 (N:Net)(C:Chp)(cores:List Int)(x:MacX)(t:Nat)(w:Wrk):List Value:=
 [.int .i64 (t:Int),.map (some x.kb),.slice (some ⟨x.cb,0,none⟩) N.ps.length x.cc,.slice x.sp (bX0 N).length x.sc,x.n1,x.n2,x.n3,.int .i64 C.mesh.wide,.int .i64 C.mesh.high,.int .i64 C.mesh.room,
  x.m1,x.m2,x.m3,x.m4,x.m5,x.m6,x.m7,x.m8,x.m9,x.m10,.slice x.pt (bX1 C) x.ct,.slice x.pw (bV2 N) x.cw,x.m13,x.m14,.int .i64 (bW4 N C cores:Int),
  .int .i64 w.ticks,.int .i64 w.updates,.int .i64 w.spikes,.int .i64 w.packets,.int .i64 w.hops,.int .i64 w.arrivals,.int .i64 w.rows,.int .i64 w.steps,.int .i64 w.most]
structure CorF (w:World) (M:List Nat) (N:Net) (C:Chp) (cores:List Int) (bs:List Nat) (r b:Nat):Prop where
 no:b∉M
 ex:∃(pc:Option Addr) (cc mb g:Nat) (RM:List (Int×Value)),Cells w b 0 [.slice pc (bH5 cores (r:Int)).length cc,.map (some mb)]/\
  (Sl w cpV 1 ((bH5 cores (r:Int)).map fun i=>bs[i]?.getD 0) pc (bH5 cores (r:Int)).length g 0/\g∉M)/\(mapIs w mb RM/\mb∉M)/\
  ∀key:Int,∃(p:Option Addr) (c g:Nat),(bZ4 RM key=some (.slice p (bS8 N C cores (r:Int) key).length c)\/(bZ4 RM key=none/\Value.slice p (bS8 N C cores (r:Int) key).length c=dJ4))/\
   Sl w rwV 4 (bS8 N C cores (r:Int) key) p (bS8 N C cores (r:Int) key).length g 0/\g∉M
structure MacIn (w:World) (M:List Nat) (N:Net) (C:Chp) (cores:List Int) (x:MacX):Prop where
 bl:x.bs.length=N.ps.length
 cells:Sl w cpV 1 x.bs (some ⟨x.cb,0,none⟩) N.ps.length x.cb 0/\x.cb∉M
 srcs:∃g,Sl w kB4 3 (dD3 N C cores) x.sp (bX0 N).length g 0/\g∉M
 waves:∃g,Sl w bQ6 1 ((List.range (bV2 N)).map fun (k:Nat)=>bW0 (bX4 N C cores) (k:Int)) x.pw (bV2 N) g 0/\g∉M
 tabs:x.tt.map (·.l)=bK9 N C cores
 tab:∃g,Sl w erV 1 x.tt x.pt x.tt.length g 0/\g∉M
 tabE:∀z∈x.tt,∃g,Sl w bY1 3 z.l z.p z.l.length g 0/\g∉M
 en:∀t∈bK9 N C cores,(t.length:Int)<=C.en
 kmap:∃KM:List (Int×Value),(mapIs w x.kb KM/\x.kb∉M)/\∀r:Nat,r<bX1 C->∃b,bZ4 KM (r:Int)=some (.pointer (some ⟨b,0,none⟩))/\CorF w M N C cores x.bs r b
theorem dX1 (l:List Int)(hl:l.length<=1152921504606846976)(v:Int)(p:Option Addr)(cap b o:Nat)(w:World)(h1:Sl w bQ6 1 l p l.length b o):
  Calls Tryz.prog 145 #[.slice p l.length cap,.int .i64 v] w fun e w'=>e=.returned (.bool (decide (v∈l)))/\St w [] [] w':=by
 refine (bR5 l hl v p cap b o w h1).mono fun e w' h=>?_
 obtain ⟨c,e1,e2,e3⟩:=h
 refine ⟨?_,e3⟩
 rw [e1]
 cases c<;>simp only [QV,false_iff,true_iff] at e2<;>simp [e2]
theorem gW5 {w0:World}{M:List Nat}{H:HP}{K:Value->HP->Prop}(N:Net)(hn:N.ps.length<=1024)(b2 b3 b5 xb cb cc:Nat)(mc:List Value)(hmc:sub mc 2 1=some [.slice (some ⟨cb,0,none⟩) N.ps.length cc])(spk ins:List Int)(hspk:spk.length<=65536)(hins:ins.length<=65536)(ps:Option Addr)(cs:Nat)(pi:Option Addr)(ci bi oi:Nat)(hin:Sl w0 bQ6 1 ins pi ins.length bi oi)(hbi:bi∉M)
  (h2:Ent.row b2 88 [.pointer (some ⟨xb,0,none⟩)]∈H) (h5:Ent.row b5 28 [.slice ps spk.length cs]∈H) (h3:Ent.row b3 28 [.slice pi ins.length ci]∈H) (hm:Ent.row xb 135 mc∈H) (hv:Ent.vec ps spk.length cs 3 1 (bQ1 bQ6 spk)∈H)
  (key:Int) (hk:0<=key/\key<=65536) (B:Bool) (hB:bJ8 N spk ins key=B) (hK:K (.bool B) H):
  VCall Tryz.cx.P w0 M H 144 [.int .i64 key,.pointer (some ⟨b2,0,none⟩),.pointer (some ⟨b5,0,none⟩),.pointer (some ⟨b3,0,none⟩)] K:=by
 have hown:∀w',St w0 M H w'->∃b,Sl w' bQ6 1 spk ps spk.length b 0:=fun w' hw'=>by
  obtain ⟨u,r,hat⟩:=fK8 hv
  exact Sl.own hw' hat oR rfl
 have hc1:=fun (w':World) (hw':St w0 M H w')=>(hown w' hw').elim fun b hb=>dX1 spk qZ key ps cs b 0 w' hb
 have hc2:=fun (w':World) (hw':St w0 M H w')=>dX1 ins qZ (key - N.ps.length) pi ci bi oi w' (hin.keep hw' hbi)
 unfold bJ8 at hB
 refine VCall.inl (F:=lB1) Tryz.func144 rfl rfl rfl mQ2 ?_
 by_cases hlt:key<(N.ps.length:Int)
 ·rw [jw hlt] at hB
  rw [hB] at hc1
  repeat' (conv=>whnf);first|(refine VLd.is ?_;refine oC (bS4 h2 (s:=1) (off:=0) rfl) ?_)|(refine VLd.is ?_;refine oC (bS4 h5 (s:=1) (off:=0) rfl) ?_)|(refine VLd.is ?_;refine oC (bS4 hm hmc) ?_)|(refine bQ0 145 ?_;(refine bQ4 (fun w' hw'=>hc1 w' hw') ?_))|refine VSeq.go ?_|refine oY fun _=>?_
  all_goals (conv=>whnf)
  exact hK
 ·rw [jk hlt] at hB
  rw [hB] at hc2
  repeat' (conv=>whnf);first|(refine VLd.is ?_;refine oC (bS4 h2 (s:=1) (off:=0) rfl) ?_)|(refine VLd.is ?_;refine oC (bS4 h3 (s:=1) (off:=0) rfl) ?_)|(refine VLd.is ?_;refine oC (bS4 hm hmc) ?_)|(refine bQ0 145 ?_;(refine bQ4 (fun w' hw'=>hc2 w' hw') ?_))|refine VSeq.go ?_|refine oN fun _=>?_|refine oA ?_|refine oH ?_
  all_goals (conv=>whnf)
  exact hK
end Go.Proofs
end

section
namespace Go.Gm
open Go.Proofs
section
variable {N : Net} {C : Chp} {cores : List Int}
theorem hH0 {A:List (Nat×Nat×Nat)}{m:Nat}(h:∀a∈A,a.2.2+1<=m):cJ2 A<=m:=by
 unfold cJ2
 obtain ⟨_,_,h3⟩:=bL7 (A.map fun a=>a.2.2+1) 0
 rcases h3 with h3|h3
 ·rw [h3];omega
 ·obtain ⟨a,ha,he⟩:=qo.1 h3
  rw [<-he];exact h a ha
theorem gQ2 (A:List (Nat×Nat×Nat))(a:Nat×Nat×Nat):cJ2 (A++[a])=max (cJ2 A) (a.2.2+1):=by
 unfold cJ2
 rw [ql,Qx];rfl
theorem gV9 (hA:AsgOk N C cores)(sends:Int->Bool){w:Nat}(hw:w<(bX4 N C cores).length){p r t:Nat}(h:(p,r,t)∈(cF4 N C cores sends (stT N C cores) w).arr):t+1<=(wvD N C cores w+1)*wvL N C cores w:=by
 obtain ⟨l,hl⟩:∃l,(bX4 N C cores)[w]? =some l:=⟨_,qq hw⟩
 have hT:wvT N C cores w=l:=by unfold wvT;rw [hl];rfl
 have hlen:(gW4 N C cores sends w).pk.length=(bF8 N C cores sends w).length:=qv _
 obtain ⟨h1,h2,h3,h4⟩:=(cK5 hA sends hw).ar p r t h
 rw [hlen] at h1
 have hkm:(bF8 N C cores sends w)[p]?.getD 0∈bF8 N C cores sends w:=by rw [qq h1];exact Qu _
 have hk0:=(bF0 (bC0 hkm).1).1.1
 have h5:=(dZ7 hA hk0).1 h3
 refine Qb h4 (Qj _ (Nat.succ_le_succ ?_))
 show bG0 C.mesh.wide (bJ2 N cores ((bF8 N C cores sends w)[p]?.getD 0)) (r:Int)<=_
 unfold wvD
 rw [hT]
 have hkw:(bF8 N C cores sends w)[p]?.getD 0∈wvK N C cores w:=(qP.1 hkm).1
 obtain ⟨l',h6,h7⟩:=cH2.1 hkw
 rw [hl] at h6;cases h6
 exact reach_le h7 h5
theorem gW2 (hA:AsgOk N C cores)(sends:Int->Bool){w:Nat}(hw:w<(bX4 N C cores).length):cJ2 (cF4 N C cores sends (stT N C cores) w).arr<=(wvD N C cores w+1)*wvL N C cores w/\(wvD N C cores w+1)*wvL N C cores w<=960:=by
 obtain ⟨_,h1,h2⟩:=lZ9 hA hw
 have h3:(wvD N C cores w+1)*wvL N C cores w<=15*64:=Nat.mul_le_mul qZ h1
 exact ⟨hH0 fun a ha=>gV9 hA sends hw (p:=a.1) (r:=a.2.1) (t:=a.2.2) ha,h3⟩
theorem fX4 (hA:AsgOk N C cores)(sends:Int->Bool):∀w,w<=(bX4 N C cores).length->bM2 N C cores sends (stT N C cores) w<=(((bX4 N C cores).take w).map fun l=>(bW9 C.mesh.wide (bJ2 N cores) (bX7 N C cores) l+1)*bJ7 (l.map (bQ5 N C cores))).sum/\bM2 N C cores sends (stT N C cores) w<=w*960
 |0,_=>by simp [bM2]
 |w+1,h=>by
  obtain ⟨ih,ih2⟩:=fX4 hA sends w qZ
  obtain ⟨h1,h2⟩:=gW2 hA sends (by omega:w<(bX4 N C cores).length)
  have hl:(bX4 N C cores)[w]? =some (wvT N C cores w):=by
   unfold wvT
   rw [qq (by omega:w<(bX4 N C cores).length)];rfl
  rw [cX6,qi,hl,qW,ql,List.sum_append,qU,List.sum_singleton]
  refine ⟨Nat.add_le_add ih h1,by omega⟩
theorem cY3 (N:Net)(C:Chp)(cores:List Int):(bX4 N C cores).length<=bV2 N:=by
 have h1:=(dN2 (bQ5 N C cores) C.mesh.room (bX0 N)).length_eq
 have h2:∀ws:List (List Int),(∀w∈ws,w≠[])->ws.length<=ws.flatten.length:=fun ws=>by
  induction ws with
  |nil=>intro _;simp
  |cons w ws ih=>
   intro h
   have:=ih fun x hx=>h x (qu _ hx)
   have hw:=QI.2 (h w qg)
   rw [qR,List.flatten_cons,qw]
   omega
 have h3:=h2 (bX4 N C cores) (fC5 (bX0 N) [] oU)
 have h4:=fX5 N
 have h5:(bX4 N C cores).flatten.length=(bX0 N).length:=h1
 omega
theorem hW1 {n:Nat}:∀(m:Nat) (l:List (Nat×Nat)),l.Nodup->(∀x∈l,x.1<m/\x.2<n)->l.length<=m*n:=by
 intro m l hn hl
 have h1:(l.map fun x=>x.1*n+x.2).Nodup:=by
  refine List.Pairwise.map _ (R:=fun a b=>a∈l/\b∈l/\a≠b) (fun a b h e=>?_) ?_
  ·obtain ⟨ha,hb,hne⟩:=h
   have h2:=(hl a ha).2
   have h3:=(hl b hb).2
   apply hne
   have h4:a.1=b.1:=by
    rcases Nat.lt_trichotomy a.1 b.1 with h|h|h
    ·have:(a.1+1)*n<=b.1*n:=Qj _ h
     rw [QD] at this;omega
    ·exact h
    ·have:(b.1+1)*n<=a.1*n:=Qj _ h
     rw [QD] at this;omega
   have h5:a.2=b.2:=by rw [h4] at e;omega
   exact Prod.ext h4 h5
  ·exact List.pairwise_iff_forall_sublist.2 fun hs=>⟨hs.subset qg,hs.subset (qu _ qg),List.pairwise_iff_forall_sublist.1 hn hs⟩
 have h2:(l.map fun x=>x.1*n+x.2) ⊆ List.range (m*n):=fun y hy=>by
  obtain ⟨x,hx,rfl⟩:=qo.1 hy
  have h3:=hl x hx
  have:(x.1+1)*n<=m*n:=Qj _ h3.1
  rw [QD] at this
  exact qL.2 qZ
 have h3:=Go.Vx.cV2 h1 fun x hx=>h2 hx
 rw [qv,Qg] at h3
 exact h3
theorem dW3 (hA:AsgOk N C cores)(sends:Int->Bool){w:Nat}(hw:w<(bX4 N C cores).length):(cF4 N C cores sends (stT N C cores) w).arr.length<=(bF8 N C cores sends w).length*64:=by
 have hd:=cK5 hA sends hw
 have hn:=bX6 hA.plan.chip
 have hlen:(gW4 N C cores sends w).pk.length=(bF8 N C cores sends w).length:=qv _
 have h:=hW1 (n:=64) (bF8 N C cores sends w).length _ hd.an fun x hx=>by
  obtain ⟨⟨p,r,t⟩,h1,rfl⟩:=qo.1 hx
  obtain ⟨h2,h3,_,_⟩:=hd.ar p r t h1
  rw [hlen] at h2
  have h3:r<bX1 C:=h3
  exact ⟨h2,by dsimp only;omega⟩
 rw [qv] at h
 exact h
theorem fT8 (N:Net)(C:Chp)(cores:List Int)(sends:Int->Bool):((List.range (bX4 N C cores).length).map fun w=>(bF8 N C cores sends w).length).sum<=bV2 N:=by
 have h1:=(gW0 (N:=N) (C:=C) (cores:=cores) sends).length_eq
 rw [List.length_flatMap] at h1
 have h2:=qD sends (bX0 N)
 have h3:=fX5 N
 omega
theorem hN9 (hA:AsgOk N C cores)(sends:Int->Bool):∀w,w<=(bX4 N C cores).length->bK8 N C cores sends (stT N C cores) w<=((List.range w).map fun v=>(bF8 N C cores sends v).length).sum*64
 |0,_=>by simp [bK8]
 |w+1,h=>by
  have ih:=hN9 hA sends w qZ
  have h1:=dW3 hA sends (by omega:w<(bX4 N C cores).length)
  rw [bT2,Qz,ql,List.sum_append,qU,List.sum_singleton,QD]
  omega
theorem fM9 (N:Net)(C:Chp)(cores:List Int)(sends:Int->Bool)(T:Nat):∀(d w:Nat),bK8 N C cores sends T w<=bK8 N C cores sends T (w+d)
 |0,_=>qA _
 |d+1,w=>by
  have:=fM9 N C cores sends T d w
  rw [<-Nat.add_assoc,bT2]
  omega
theorem dT3 (hA:AsgOk N C cores)(sends:Int->Bool):cB7 N C cores sends<=bV2 N*64:=by
 have h1:=hN9 hA sends _ (qA _)
 have h2:=fT8 N C cores sends
 exact Qb h1 (Qj _ h2)
theorem gB8 (hA:AsgOk N C cores)(sends:Int->Bool){w:Nat}(hw:w<=(bX4 N C cores).length):bK8 N C cores sends (stT N C cores) w<=bV2 N*64:=by
 have h1:=fM9 N C cores sends (stT N C cores) ((bX4 N C cores).length - w) w
 rw [Nat.add_sub_cancel' hw] at h1
 exact Qb h1 (dT3 hA sends)
theorem fN2 (N:Net)(C:Chp)(cores:List Int)(L:List Syn)(sends:Int->Bool)(T:Nat):∀(d w:Nat),(bY4 N C cores L sends T w).length<=(bY4 N C cores L sends T (w+d)).length
 |0,_=>qA _
 |d+1,w=>by
  have:=fN2 N C cores L sends T d w
  rw [<-Nat.add_assoc,bT3,qw]
  omega
theorem dM8 (L:List Syn){srcs:List Int}(h:srcs.Nodup):(bK5 (cJ7 L) srcs).length<=L.length:=by
 rw [(cH1 L h).length_eq]
 exact qD _ _
theorem dF6 (hA:AsgOk N C cores){spikes ins:List Int}(hs:spikes.Pairwise (· <·))(hi:ins.Pairwise (· <·))(h1:∀x∈spikes,0<=x)(h2:∀x∈ins,0<=x):(bY8 N C cores (bJ8 N spikes ins)).length<=8192:=by
 rw [(dQ5 hA hs hi h1 h2).length_eq]
 have hn:(spikes++ins.map fun k=> -1 - k).Nodup:=by
  rw [Qe]
  refine ⟨cS5 hs,List.Pairwise.map _ (fun a b h e=>?_) hi,?_⟩
  ·omega
  ·rintro a ha b hb rfl
   obtain ⟨k,hk,he⟩:=qo.1 hb
   have:=h1 _ ha
   have:=h2 _ hk
   omega
 have h3:=dM8 (bJ6 N C) hn
 have h4:(bJ6 N C).length=N.syns.length:=qv _
 have h5:=hA.plan.net.fewS
 omega
def bY5 (N:Net)(C:Chp)(cores:List Int)(sends:Int->Bool)(w i j:Nat):List Syn:=
 bY4 N C cores (bJ6 N C) sends (stT N C cores) w++bF4 N cores (bJ6 N C) (bF8 N C cores sends w) ((cF4 N C cores sends (stT N C cores) w).arr.take i)++
  match (cF4 N C cores sends (stT N C cores) w).arr[i]? with
  |some a=>(bN8 N cores (bJ6 N C) ((bF8 N C cores sends w)[a.1]?.getD 0) (a.2.1:Int)).take j
  |none=>[]
theorem gJ3 (sends:Int->Bool)(w:Nat):bY5 N C cores sends w 0 0=bY4 N C cores (bJ6 N C) sends (stT N C cores) w:=by
 unfold bY5
 have h1:bF4 N cores (bJ6 N C) (bF8 N C cores sends w) ((cF4 N C cores sends (stT N C cores) w).arr.take 0)=[]:=rfl
 rw [h1,qC]
 cases (cF4 N C cores sends (stT N C cores) w).arr[0]?<;>simp
theorem gS2 {sends:Int->Bool}{w i:Nat}{a:Nat×Nat×Nat}(ha:(cF4 N C cores sends (stT N C cores) w).arr[i]? =some a){j:Nat}{s:Syn}(hs:(bN8 N cores (bJ6 N C) ((bF8 N C cores sends w)[a.1]?.getD 0) (a.2.1:Int))[j]? =some s):bY5 N C cores sends w i (j+1)=bY5 N C cores sends w i j++[s]:=by
 unfold bY5
 rw [ha]
 dsimp only
 rw [qi,hs,qW,<-qJ]
theorem gJ4 {sends:Int->Bool}{w i:Nat}{a:Nat×Nat×Nat}(ha:(cF4 N C cores sends (stT N C cores) w).arr[i]? =some a):bY5 N C cores sends w i (bN8 N cores (bJ6 N C) ((bF8 N C cores sends w)[a.1]?.getD 0) (a.2.1:Int)).length=bY5 N C cores sends w (i+1) 0:=by
 unfold bY5
 rw [ha,qi,ha,qW]
 dsimp only
 rw [Qk]
 have h1:∀(A:List (Nat×Nat×Nat)),bF4 N cores (bJ6 N C) (bF8 N C cores sends w) (A++[a])=bF4 N cores (bJ6 N C) (bF8 N C cores sends w) A++bN8 N cores (bJ6 N C) ((bF8 N C cores sends w)[a.1]?.getD 0) (a.2.1:Int):=fun A=>by
  unfold bF4
  rw [QK,List.flatMap_singleton]
 rw [h1,<-qJ]
 cases (cF4 N C cores sends (stT N C cores) w).arr[i+1]?<;>simp
theorem gS4 (sends:Int->Bool)(w:Nat):bY5 N C cores sends w (cF4 N C cores sends (stT N C cores) w).arr.length 0=bY4 N C cores (bJ6 N C) sends (stT N C cores) (w+1):=by
 unfold bY5
 rw [bT3,Qk,qf (qA _),qC]
theorem gS3 {sends:Int->Bool}{w:Nat}(hw:w<(bX4 N C cores).length){i j:Nat}:(bY5 N C cores sends w i j).length<=(bY8 N C cores sends).length:=by
 have h1:=fN2 N C cores (bJ6 N C) sends (stT N C cores) ((bX4 N C cores).length - (w+1)) (w+1)
 rw [Nat.add_sub_cancel' qZ] at h1
 refine Qb ?_ h1
 rw [bT3]
 unfold bY5
 rw [qJ]
 simp only [qw]
 refine Nat.add_le_add_left ?_ _
 rcases qy i (cF4 N C cores sends (stT N C cores) w).arr.length with hi|hi
 ·obtain ⟨a,ha⟩:∃a,(cF4 N C cores sends (stT N C cores) w).arr[i]? =some a:=⟨_,qq hi⟩
  rw [ha]
  dsimp only
  have h2:(cF4 N C cores sends (stT N C cores) w).arr=(cF4 N C cores sends (stT N C cores) w).arr.take i++(a::(cF4 N C cores sends (stT N C cores) w).arr.drop (i+1)):=by
   obtain ⟨h3,h4⟩:=qx.1 ha
   rw [<-h4,<-qG h3,QJ]
  obtain ⟨A,hA⟩:=gX ((cF4 N C cores sends (stT N C cores) w).arr)
  rw [hA] at h2 ⊢
  have h3:(bF4 N cores (bJ6 N C) (bF8 N C cores sends w) A).length=(bF4 N cores (bJ6 N C) (bF8 N C cores sends w) (A.take i)).length+((bN8 N cores (bJ6 N C) ((bF8 N C cores sends w)[a.1]?.getD 0) (a.2.1:Int)).length+(bF4 N cores (bJ6 N C) (bF8 N C cores sends w) (A.drop (i+1))).length):=by
   conv=>lhs;rw [h2]
   unfold bF4
   rw [QK,Qf,qw,qw]
  have:=List.length_take_le j (bN8 N cores (bJ6 N C) ((bF8 N C cores sends w)[a.1]?.getD 0) (a.2.1:Int))
  have h4:=List.length_take_le' j (bN8 N cores (bJ6 N C) ((bF8 N C cores sends w)[a.1]?.getD 0) (a.2.1:Int))
  omega
 ·rw [qf hi,qe hi]
  exact qA _
theorem fQ2 (hA:AsgOk N C cores):(bQ9 N C.bits).quots=N.syns.map (bL1 (bX2 N (bW6 C.bits))):=by
 have hb:=hA.plan.chip.bits
 have hq0:fN8 N C.bits=0:=by
  unfold fN8
  rw [bJ4.2 hA.plan.net,jk oU,jk qZ]
 unfold bQ9
 rw [jk qZ]
 rfl
def cL1 (N:Net)(cores:List Int)(r key:Int):List Syn:=N.syns.filter fun s=>decide (bG1 N s.frm=key/\cores[s.to.toNat]? =some r)
theorem hK4 (hA:AsgOk N C cores)(r key:Int):bS8 N C cores r key=(cL1 N cores r key).map fun s=>cM1 N cores s (bL1 (bX2 N (bW6 C.bits)) s):=by
 unfold bS8 bM1 cJ5 cL1
 rw [fQ2 hA]
 have h1:∀(l:List Syn) (f:Syn->Int),l.zip (l.map f)=l.map fun s=>(s,f s):=fun l f=>by
  induction l with
  |nil=>rfl
  |cons a l ih=>rw [qI,List.zip_cons_cons,qI,ih]
 rw [h1,List.filter_map,List.filter_filter,List.filter_map,List.map_map]
 congr 1
 refine List.filter_congr fun s _=>?_
 simp only [Function.comp,cM1]
 by_cases h1:bG1 N s.frm=key<;>by_cases h2:cores[s.to.toNat]? =some r<;>simp [h1,h2]
theorem hQ6 (N:Net)(C:Chp)(cores:List Int)(key r:Int):bN8 N cores (bJ6 N C) key r=(cL1 N cores r key).map (fN7 (bX2 N (bW6 C.bits))):=by
 unfold bN8 bJ6 cL1
 rw [List.filter_map]
 rfl
end
structure MacGo (N:Net) (C:Chp) (x:MacX) (m:Mac):Prop where
 ok:MacOk N m
 bs:m.cs.map (·.b)=x.bs
 zs:m.cs.map (·.z)=bX2 N (bW6 C.bits)
 sta:∀c∈m.cs,bD9 c.p c.s
 tick:m.t<=10000
 few:m.w.few ((m.t:Int)*1000000)
theorem hZ5 {t:Nat}(l:List Syn):∀{cs:List CelM},(∀c∈cs,bD9 c.p c.s)->∀c∈l.foldl (cG7 t) cs,bD9 c.p c.s:=by
 induction l with
 |nil=>intro cs h;exact h
 |cons s l ih=>
  intro cs h
  refine ih fun c hc=>?_
  obtain ⟨i,hi⟩:=jh hc
  unfold cG7 at hi
  rw [qS] at hi
  cases hd:cs[i]? with
  |none=>rw [hd] at hi;cases hi
  |some d=>
   rw [hd] at hi
   have:=h d (qz hd)
   simp only [Option.map_eq_map,qV,qK] at hi
   split at hi<;>subst hi<;>exact this
theorem MacGo.step {N:Net}{C:Chp}{cores:List Int}{x:MacX}(hA:AsgOk N C cores){m:Mac}(h:MacGo N C x m)(ht:m.t<10000){ins:List Int}(hi:ins.Pairwise (· <·))(h2:∀x∈ins,0<=x):MacGo N C x (bH4 N C cores m ins):=by
 have hpo:∀c∈m.cs,ParOk c.p:=fun c hc=>hA.plan.net.ps c.p (by rw [<-h.ok.ps];exact qN (f:=(·.p)) hc)
 refine ⟨h.ok.step C cores ins,?_,?_,?_,by show m.t+1<=10000;omega,?_⟩
 ·show ((bY8 N C cores (bJ8 N (bZ0 m) ins)).foldl (cG7 m.t) (bD6 m.t m.cs)).map (·.b)=_
  rw [mP7,<-h.bs]
  unfold bD6
  rw [List.map_map];rfl
 ·show ((bY8 N C cores (bJ8 N (bZ0 m) ins)).foldl (cG7 m.t) (bD6 m.t m.cs)).map (·.z)=_
  rw [mP6,<-h.zs]
  unfold bD6
  rw [List.map_map];rfl
 ·refine hZ5 _ fun c hc=>?_
  obtain ⟨d,hd,rfl⟩:=qo.1 hc
  exact hQ7 (hpo d hd) (h.sta d hd) _
 ·have hw:=h.few
  have hnf:=hA.plan.net.few
  have hfew:=hA.plan.few
  have hinp:=hA.plan.net.inputs
  have hns:bV2 N<=256:=by unfold bV2;omega
  have h1:=dF6 hA (spikes:=bZ0 m) (cD6 _ 0) hi (fun x hx=>(cV8 h.ok hx).1) h2
  have h3:=dT3 hA (bJ8 N (bZ0 m) ins)
  have h4:=(fX4 hA (bJ8 N (bZ0 m) ins) _ (qA _)).2
  have h4b:bS2 N C cores (bJ8 N (bZ0 m) ins)<=(bX4 N C cores).length*960:=h4
  have h5:=cY3 N C cores
  have h6:=qD (bJ8 N (bZ0 m) ins) (bX0 N)
  have h7:=fX5 N
  have h8:=gX2 hA ((bX0 N).filter (bJ8 N (bZ0 m) ins))
  have h9:(bZ0 m).length<=N.ps.length:=by
   have h10:=bB5 (cF m.t m.cs) (cF m.t m.cs).length
   rw [Qk,fM4,h.ok.len] at h10
   exact h10
  unfold Wrk.few at hw ⊢
  show (0<=m.w.ticks+1/\m.w.ticks+1<=((m.t+1:Nat):Int)*1000000)/\(0<=m.w.updates+(N.ps.length:Int)/\m.w.updates+(N.ps.length:Int)<=((m.t+1:Nat):Int)*1000000)/\(0<=m.w.spikes+((bZ0 m).length:Int)/\m.w.spikes+((bZ0 m).length:Int)<=((m.t+1:Nat):Int)*1000000)/\
   (0<=m.w.packets+(((bX0 N).filter (bJ8 N (bZ0 m) ins)).length:Int)/\m.w.packets+(((bX0 N).filter (bJ8 N (bZ0 m) ins)).length:Int)<=((m.t+1:Nat):Int)*1000000)/\(0<=m.w.hops+(bZ7 N C cores ((bX0 N).filter (bJ8 N (bZ0 m) ins)):Int)/\m.w.hops+(bZ7 N C cores ((bX0 N).filter (bJ8 N (bZ0 m) ins)):Int)<=((m.t+1:Nat):Int)*1000000)/\
   (0<=m.w.arrivals+(cB7 N C cores (bJ8 N (bZ0 m) ins):Int)/\m.w.arrivals+(cB7 N C cores (bJ8 N (bZ0 m) ins):Int)<=((m.t+1:Nat):Int)*1000000)/\(0<=m.w.rows+((bY8 N C cores (bJ8 N (bZ0 m) ins)).length:Int)/\m.w.rows+((bY8 N C cores (bJ8 N (bZ0 m) ins)).length:Int)<=((m.t+1:Nat):Int)*1000000)/\
   (0<=m.w.steps+(bS2 N C cores (bJ8 N (bZ0 m) ins):Int)/\m.w.steps+(bS2 N C cores (bJ8 N (bZ0 m) ins):Int)<=((m.t+1:Nat):Int)*1000000)/\0<=max m.w.most (bS2 N C cores (bJ8 N (bZ0 m) ins):Int)/\max m.w.most (bS2 N C cores (bJ8 N (bZ0 m) ins):Int)<=((m.t+1:Nat):Int)*1000000
  omega
end Go.Gm
end
