import Derived.Test.YtlbekjokdlkghaaGreatChipKnownPm
import Derived.Test.YtlbekjokdlkghaaGreatChipKnownGa
set_option linter.unusedVariables false
set_option linter.unusedSimpArgs false
set_option maxHeartbeats 4000000
section
namespace Go.Gm
structure Chp where
 mesh:Spc
 nr:Int
 sy:Int
 en:Int
 bits:Int
 dead:List Int
def deadE (n:Int):List Int->List Int->Int
 |_,[]=>0
 |pre,k::r=>if¬(0<=k/\k<=n - 1) then 3 else if k∈pre then 5 else deadE n (pre++[k]) r
def chpIn (C:Chp):Prop:=(1<=C.nr/\C.nr<=64)/\(1<=C.sy/\C.sy<=4096)/\(1<=C.en/\C.en<=1024)/\(2<=C.bits/\C.bits<=16)
instance (C:Chp):Decidable (chpIn C):=by unfold chpIn;infer_instance
def chipE (C:Chp):Int:=if meshE C.mesh≠0 then 3 else if¬chpIn C then 3 else deadE (C.mesh.wide*C.mesh.high) [] C.dead
structure ChpOk (C:Chp):Prop where
 mesh:SpcOk C.mesh
 nr:1<=C.nr/\C.nr<=64
 sy:1<=C.sy/\C.sy<=4096
 en:1<=C.en/\C.en<=1024
 bits:2<=C.bits/\C.bits<=16
 dead:(∀k∈C.dead,0<=k/\k<C.mesh.wide*C.mesh.high)/\C.dead.Nodup
theorem deadE_next {n:Int}{l:List Int}{i:Nat}{k:Int}(h:l[i]? =some k)(h1:0<=k/\k<=n - 1)(h2:k∉l.take i):deadE n (l.take i) (l.drop i)=deadE n (l.take (i+1)) (l.drop (i+1)):=by
 obtain ⟨hlt,rfl⟩:=qx.1 h
 rw [qG hlt,deadE,jz (by omega),jz h2,qi,h]
 rfl
theorem deadE_bad {n:Int}{l:List Int}{i:Nat}{k:Int}(h:l[i]? =some k)(h1:¬(0<=k/\k<=n - 1)):deadE n (l.take i) (l.drop i)=3:=by
 obtain ⟨hlt,rfl⟩:=qx.1 h
 rw [qG hlt,deadE,jx h1]
theorem deadE_have {n:Int}{l:List Int}{i:Nat}{k:Int}(h:l[i]? =some k)(h1:0<=k/\k<=n - 1)(h2:k∈l.take i):deadE n (l.take i) (l.drop i)=5:=by
 obtain ⟨hlt,rfl⟩:=qx.1 h
 rw [qG hlt,deadE,jz (by omega),jx h2]
theorem deadE_end {n:Int}{l:List Int}{i:Nat}(h:l.length<=i):deadE n (l.take i) (l.drop i)=0:=by
 rw [Qi h];rfl
theorem deadE_zero {n:Int}:∀(r pre:List Int),deadE n pre r=0->(∀k∈pre,0<=k/\k<n)->pre.Nodup->(∀k∈pre++r,0<=k/\k<n)/\(pre++r).Nodup
 |[],pre,_,h1,h2=>by rw [qC];exact ⟨h1,h2⟩
 |k::r,pre,h,h1,h2=>by
  rw [deadE] at h
  split at h
  ·cases h
  ·split at h
   ·cases h
   ·rename_i g1 g2
    have:=deadE_zero r (pre++[k]) h (fun x hx=>by
     rcases qH.1 hx with hx|hx
     ·exact h1 x hx
     ·rw [qt] at hx;subst hx;omega) (Qe.2 ⟨h2,by simp,fun a ha b hb e=>by rw [qt] at hb;subst hb;subst e;exact g2 ha⟩)
    rw [qJ,List.singleton_append] at this
    exact this
theorem chipE_zero {C:Chp}(h:chipE C=0):ChpOk C:=by
 unfold chipE at h
 split at h
 ·cases h
 ·rename_i h1
  split at h
  ·cases h
  ·rename_i h2
   have h3:=Qm.1 h2
   exact ⟨meshE_zero.1 (Qm.1 h1),h3.1,h3.2.1,h3.2.2.1,h3.2.2.2,by simpa using deadE_zero C.dead [] h (by simp) List.nodup_nil⟩
def nCores (C:Chp):Nat:=(C.mesh.wide*C.mesh.high).toNat
theorem nCores_ok {C:Chp}(h:ChpOk C):(nCores C:Int)=C.mesh.wide*C.mesh.high/\1<=nCores C/\nCores C<=64:=by
 obtain ⟨w1,w2⟩:=h.mesh.wide
 obtain ⟨g1,g2⟩:=h.mesh.high
 have h1:1*1<=C.mesh.wide*C.mesh.high:=Int.mul_le_mul w1 g1 (by omega) (by omega)
 have h2:C.mesh.wide*C.mesh.high<=8*8:=Int.mul_le_mul w2 g2 (by omega) (by omega)
 unfold nCores
 omega
def keyM (N:Net)(f:Int):Int:=if f<0 then (N.ps.length:Int) - 1 - f else f
def planE (N:Net)(C:Chp):Int:=if netchk N≠0 then netchk N else if chipE C≠0 then chipE C else if 256<(N.ps.length:Int)+N.inputs then 9 else 0
structure PlanOk (N:Net) (C:Chp):Prop where
 net:NetOk N
 chip:ChpOk C
 few:(N.ps.length:Int)+N.inputs<=256
theorem planE_zero {N:Net}{C:Chp}(h:planE N C=0):PlanOk N C:=by
 unfold planE at h
 split at h
 ·omega
 ·rename_i h1
  split at h
  ·omega
  ·rename_i h2
   split at h
   ·cases h
   ·exact ⟨netchk_zero.1 (by omega),chipE_zero (by omega),by omega⟩
def nSrc (N:Net):Nat:=N.ps.length+N.inputs.toNat
theorem key_range {N:Net}(hN:NetOk N){s:Syn}(hs:s∈N.syns):0<=keyM N s.frm/\keyM N s.frm<nSrc N:=by
 have h:=(hN.syns s hs).1
 have hi:=hN.inputs
 unfold srcOk at h
 unfold keyM nSrc
 split<;>omega
def tgt1 (N:Net)(key:Int)(acc:List Int)(s:Syn):List Int:=if keyM N s.frm=key/\s.to∉acc then acc++[s.to] else acc
def tgtM (N:Net)(l:List Syn)(key:Int):List Int:=l.foldl (tgt1 N key) []
def frm1 (N:Net)(to:Int)(acc:List Int)(s:Syn):List Int:=if s.to=to/\keyM N s.frm∉acc then acc++[keyM N s.frm] else acc
def frmM (N:Net)(l:List Syn)(to:Int):List Int:=l.foldl (frm1 N to) []
def rowN (l:List Syn)(i:Int):Nat:=l.countP fun s=>decide (s.to=i)
theorem foldl_take {α β:Type}{f:β->α->β}{b:β}{l:List α}{i:Nat}{x:α}(h:l[i]? =some x):(l.take (i+1)).foldl f b=f ((l.take i).foldl f b) x:=by
 rw [qi,h,qW,Qx];rfl
theorem mem_tgt {N:Net}{key t:Int}:∀(l:List Syn) (acc:List Int),t∈l.foldl (tgt1 N key) acc<->t∈acc\/∃s∈l,keyM N s.frm=key/\s.to=t
 |[],acc=>by simp
 |s::l,acc=>by
  rw [Qp,mem_tgt l]
  have h1:t∈tgt1 N key acc s<->t∈acc\/(keyM N s.frm=key/\s.to=t):=by
   unfold tgt1
   split
   ·rename_i h
    rw [qH,qt]
    constructor
    ·rintro (h1|rfl)
     ·exact .inl h1
     ·exact .inr ⟨h.1,rfl⟩
    ·rintro (h1|⟨_,rfl⟩)
     ·exact .inl h1
     ·exact .inr rfl
   ·rename_i h
    constructor
    ·exact .inl
    ·rintro (h1|⟨h1,rfl⟩)
     ·exact h1
     ·exact jk fun hn=>h ⟨h1,hn⟩
  rw [h1]
  constructor
  ·rintro ((h|h)|⟨u,hu,h⟩)
   ·exact .inl h
   ·exact .inr ⟨s,qg,h⟩
   ·exact .inr ⟨u,qu _ hu,h⟩
  ·rintro (h|⟨u,hu,h⟩)
   ·exact .inl (.inl h)
   ·rcases qQ.1 hu with rfl|hu
    ·exact .inl (.inr h)
    ·exact .inr ⟨u,hu,h⟩
theorem mem_tgtM {N:Net}{key t:Int}{l:List Syn}:t∈tgtM N l key<->∃s∈l,keyM N s.frm=key/\s.to=t:=by
 unfold tgtM;rw [mem_tgt];simp
theorem mem_frm {N:Net}{to k:Int}:∀(l:List Syn) (acc:List Int),k∈l.foldl (frm1 N to) acc<->k∈acc\/∃s∈l,s.to=to/\keyM N s.frm=k
 |[],acc=>by simp
 |s::l,acc=>by
  rw [Qp,mem_frm l]
  have h1:k∈frm1 N to acc s<->k∈acc\/(s.to=to/\keyM N s.frm=k):=by
   unfold frm1
   split
   ·rename_i h
    rw [qH,qt]
    constructor
    ·rintro (h1|rfl)
     ·exact .inl h1
     ·exact .inr ⟨h.1,rfl⟩
    ·rintro (h1|⟨_,rfl⟩)
     ·exact .inl h1
     ·exact .inr rfl
   ·rename_i h
    constructor
    ·exact .inl
    ·rintro (h1|⟨h1,rfl⟩)
     ·exact h1
     ·exact jk fun hn=>h ⟨h1,hn⟩
  rw [h1]
  constructor
  ·rintro ((h|h)|⟨u,hu,h⟩)
   ·exact .inl h
   ·exact .inr ⟨s,qg,h⟩
   ·exact .inr ⟨u,qu _ hu,h⟩
  ·rintro (h|⟨u,hu,h⟩)
   ·exact .inl (.inl h)
   ·rcases qQ.1 hu with rfl|hu
    ·exact .inl (.inr h)
    ·exact .inr ⟨u,hu,h⟩
theorem mem_frmM {N:Net}{to k:Int}{l:List Syn}:k∈frmM N l to<->∃s∈l,s.to=to/\keyM N s.frm=k:=by
 unfold frmM;rw [mem_frm];simp
theorem tgt_len {N:Net}{key:Int}:∀(l:List Syn) (acc:List Int),(l.foldl (tgt1 N key) acc).length<=acc.length+l.length
 |[],acc=>by simp
 |s::l,acc=>by
  have:=tgt_len (N:=N) (key:=key) l (tgt1 N key acc s)
  have h2:(tgt1 N key acc s).length<=acc.length+1:=by unfold tgt1;split<;>simp
  rw [Qp,qR]
  omega
theorem frm_len {N:Net}{to:Int}:∀(l:List Syn) (acc:List Int),(l.foldl (frm1 N to) acc).length<=acc.length+l.length
 |[],acc=>by simp
 |s::l,acc=>by
  have:=frm_len (N:=N) (to:=to) l (frm1 N to acc s)
  have h2:(frm1 N to acc s).length<=acc.length+1:=by unfold frm1;split<;>simp
  rw [Qp,qR]
  omega
theorem rowN_take {l:List Syn}{i:Nat}{s:Syn}(h:l[i]? =some s)(k:Int):rowN (l.take (i+1)) k=rowN (l.take i) k+if s.to=k then 1 else 0:=by
 unfold rowN
 rw [qi,h,qW,List.countP_append]
 by_cases hk:s.to=k<;>simp [hk]
def useN (cores:List Int)(k:Int):Nat:=cores.countP fun c=>decide (c=k)
def useR (l:List Syn)(cores:List Int)(k:Int):Nat:=l.countP fun s=>decide (0<=s.to/\cores[s.to.toNat]? =some k)
theorem useN_snoc (cores:List Int)(c k:Int):useN (cores++[c]) k=useN cores k+if c=k then 1 else 0:=by
 unfold useN
 rw [List.countP_append]
 by_cases h:c=k<;>simp [h]
theorem useR_snoc (l:List Syn)(cores:List Int)(c k:Int):useR l (cores++[c]) k=useR l cores k+if c=k then rowN l cores.length else 0:=by
 unfold useR rowN
 induction l with
 |nil=>simp
 |cons s l ih=>
  rw [List.countP_cons,List.countP_cons,List.countP_cons,ih]
  have e:(0<=s.to/\(cores++[c])[s.to.toNat]? =some k)<->(0<=s.to/\cores[s.to.toNat]? =some k)\/(s.to=(cores.length:Int)/\c=k):=by
   by_cases h0:0<=s.to
   ·by_cases h1:s.to.toNat<cores.length
    ·rw [List.getElem?_append_left h1]
     constructor
     ·exact .inl
     ·rintro (h|h)
      ·exact h
      ·omega
    ·rw [Qr (by omega),qf (l:=cores) (by omega)]
     by_cases h2:s.to=(cores.length:Int)
     ·rw [h2];simp
     ·rw [qf (by simp;omega)]
      simp [h2]
   ·constructor
    ·rintro ⟨h,_⟩;exact absurd h h0
    ·rintro (⟨h,_⟩|⟨h,_⟩)
     ·exact absurd h h0
     ·omega
  simp only [jv]
  have hx:¬((0<=s.to/\cores[s.to.toNat]? =some k)/\s.to=(cores.length:Int)):=by
   rintro ⟨⟨_,h1⟩,h2⟩
   have:=(qx.1 h1).1
   omega
  by_cases hc:c=k
  ·rw [jx hc]
   by_cases h1:0<=s.to/\cores[s.to.toNat]? =some k
   ·rw [jx (e.2 (.inl h1)),jx h1,jz (fun h=>hx ⟨h1,h⟩)]
    rw [jx hc];omega
   ·by_cases h2:s.to=(cores.length:Int)
    ·rw [jx (e.2 (.inr ⟨h2,hc⟩)),jz h1,jx h2,jx hc];omega
    ·rw [jz (fun h=>(e.1 h).elim h1 fun h=>h2 h.1),jz h1,jz h2,jx hc];omega
  ·rw [jz hc]
   by_cases h1:0<=s.to/\cores[s.to.toNat]? =some k
   ·rw [jx (e.2 (.inl h1)),jx h1,jz hc]
   ·rw [jz (fun h=>(e.1 h).elim h1 fun h=>hc h.2),jz h1,jz hc]
def fitsA (C:Chp)(l:List Syn)(cores:List Int):Prop:=∀k:Nat,k<nCores C->(useN cores k:Int)<=C.nr/\(useR l cores k:Int)<=C.sy
def coreE (C:Chp):List Int->Int
 |[]=>0
 |k::r=>if¬(0<=k/\k<=C.mesh.wide*C.mesh.high - 1) then 3 else if k∈C.dead then 25 else coreE C r
instance (C:Chp) (l:List Syn) (cores:List Int):Decidable (fitsA C l cores):=by unfold fitsA;exact Nat.decidableBallLT _ _
def asgE (N:Net)(C:Chp)(cores:List Int):Int:=
 if planE N C≠0 then planE N C else if cores.length≠N.ps.length then 13 else if coreE C cores≠0 then coreE C cores else if¬fitsA C N.syns cores then 15 else 0
structure AsgOk (N:Net) (C:Chp) (cores:List Int):Prop where
 plan:PlanOk N C
 len:cores.length=N.ps.length
 core:∀k∈cores,(0<=k/\k<C.mesh.wide*C.mesh.high)/\k∉C.dead
 fits:fitsA C N.syns cores
theorem coreE_zero {C:Chp}:∀{l:List Int},coreE C l=0<->∀k∈l,(0<=k/\k<C.mesh.wide*C.mesh.high)/\k∉C.dead
 |[]=>by simp [coreE]
 |k::r=>by
  rw [coreE]
  constructor
  ·intro h
   split at h
   ·cases h
   ·split at h
    ·cases h
    ·rename_i h1 h2
     intro x hx
     rcases qQ.1 hx with rfl|hx
     ·exact ⟨by omega,h2⟩
     ·exact coreE_zero.1 h x hx
  ·intro h
   have hk:=h k qg
   rw [jz (by omega),jz hk.2]
   exact coreE_zero.2 fun x hx=>h x (qu _ hx)
theorem coreE_next {C:Chp}{l:List Int}{i:Nat}{k:Int}(h:l[i]? =some k)(h1:0<=k/\k<=C.mesh.wide*C.mesh.high - 1)(h2:k∉C.dead):coreE C (l.drop i)=coreE C (l.drop (i+1)):=by
 obtain ⟨hlt,rfl⟩:=qx.1 h
 rw [qG hlt,coreE,jz (by omega),jz h2]
theorem coreE_bad {C:Chp}{l:List Int}{i:Nat}{k:Int}(h:l[i]? =some k)(h1:¬(0<=k/\k<=C.mesh.wide*C.mesh.high - 1)):coreE C (l.drop i)=3:=by
 obtain ⟨hlt,rfl⟩:=qx.1 h
 rw [qG hlt,coreE,jx h1]
theorem coreE_down {C:Chp}{l:List Int}{i:Nat}{k:Int}(h:l[i]? =some k)(h1:0<=k/\k<=C.mesh.wide*C.mesh.high - 1)(h2:k∈C.dead):coreE C (l.drop i)=25:=by
 obtain ⟨hlt,rfl⟩:=qx.1 h
 rw [qG hlt,coreE,jz (by omega),jx h2]
theorem asgE_zero {N:Net}{C:Chp}{cores:List Int}(h:asgE N C cores=0):AsgOk N C cores:=by
 unfold asgE at h
 split at h
 ·omega
 ·rename_i h1
  split at h
  ·cases h
  ·rename_i h2
   split at h
   ·omega
   ·rename_i h3
    split at h
    ·cases h
    ·rename_i h4
     exact ⟨planE_zero (by omega),by omega,coreE_zero.1 (by omega),Qm.1 h4⟩
def coresM (N:Net)(C:Chp)(cores:List Int)(key:Int):List Int:=
 ((List.range (nCores C)).map fun (k:Nat)=>(k:Int)).filter fun k=>decide (∃s∈N.syns,keyM N s.frm=key/\cores[s.to.toNat]? =some k)
def homeM (N:Net)(cores:List Int)(key:Int):Int:=if key<N.ps.length then cores[key.toNat]?.getD 0 else 0
def srcTree (N:Net)(C:Chp)(cores:List Int)(key:Int):List Int:=treeM C.mesh.wide (nCores C) (homeM N cores key) (coresM N C cores key)
def keysM (N:Net):List Int:=((List.range (nSrc N)).map fun (k:Nat)=>(k:Int)).filter fun k=>decide (∃s∈N.syns,keyM N s.frm=k)
def costM (N:Net)(C:Chp)(cores:List Int):Nat:=((keysM N).map fun k=>linksM (srcTree N C cores k)).sum
end Go.Gm
end

section
namespace Go.Gm
theorem snoc_ind {α:Type}{P:List α->Prop}(h0:P [])(h1:∀l x,P l->P (l++[x])):∀l,P l:=by
 intro l
 have key:∀n (l:List α),l.length=n->P l:=by
  intro n
  induction n with
  |zero=>intro l h;rw [qF h];exact h0
  |succ n ih=>
   intro l h
   have hne:l≠[]:=fun e=>by subst e;cases h
   rw [<-List.dropLast_concat_getLast hne]
   refine h1 _ _ (ih _ ?_)
   rw [List.length_dropLast];omega
 exact key _ l rfl
def spaceP (C:Chp)(l:List Syn)(cores:List Int)(i:Nat)(k:Int):Prop:=k∉C.dead/\(useN cores k:Int)<C.nr/\(useR l cores k:Int)+rowN l i<=C.sy
instance (C:Chp) (l:List Syn) (cores:List Int) (i:Nat) (k:Int):Decidable (spaceP C l cores i k):=by unfold spaceP;infer_instance
def allC (C:Chp):List Int:=(List.range (nCores C)).map fun (k:Nat)=>(k:Int)
theorem mem_allC {C:Chp}{k:Int}:k∈allC C<->0<=k/\k<nCores C:=by
 unfold allC
 rw [qo]
 constructor
 ·rintro ⟨j,hj,rfl⟩
  rw [qL] at hj
  omega
 ·intro h
  exact ⟨k.toNat,qL.2 (by omega),by omega⟩
def fitsR (C:Chp)(l:List Syn)(cores:List Int):Prop:=∀k:Nat,k<nCores C->(useN cores k:Int)<=C.nr/\(useR l cores k:Int)<=C.sy/\¬(0<useN cores k/\(k:Int)∈C.dead)
instance (C:Chp) (l:List Syn) (cores:List Int):Decidable (fitsR C l cores):=by unfold fitsR;exact Nat.decidableBallLT _ _
structure SoFar (C:Chp) (l:List Syn) (cores:List Int):Prop where
 core:∀k∈cores,(0<=k/\k<nCores C)/\k∉C.dead
 fits:fitsA C l cores
theorem useN_pos {cores:List Int}{k:Int}:0<useN cores k<->k∈cores:=by
 unfold useN
 rw [List.countP_pos_iff]
 constructor
 ·rintro ⟨a,ha,h⟩
  rw [jv] at h
  subst h;exact ha
 ·intro h;exact ⟨k,h,by simp⟩
theorem SoFar.fitsR {C:Chp}{l:List Syn}{cores:List Int}(h:SoFar C l cores):fitsR C l cores:=fun k hk=>
 ⟨(h.fits k hk).1,(h.fits k hk).2,fun ⟨h1,h2⟩=>(h.core k (useN_pos.1 h1)).2 h2⟩
def near1 (i:Int)(cores:List Int)(k:Int)(s:Syn):Prop:=(s.frm=i/\(0<=s.to/\s.to<cores.length)/\cores[s.to.toNat]? =some k)\/(s.to=i/\(0<=s.frm/\s.frm<cores.length)/\cores[s.frm.toNat]? =some k)
instance (i:Int) (cores:List Int) (k:Int) (s:Syn):Decidable (near1 i cores k s):=by unfold near1;infer_instance
theorem SoFar.nil {C:Chp}{l:List Syn}(h:ChpOk C):SoFar C l []:=by
 refine ⟨by simp,fun k hk=>?_⟩
 have e1:useN [] (k:Int)=0:=rfl
 have e2:useR l [] (k:Int)=0:=by
  unfold useR
  rw [List.countP_eq_zero]
  simp
 have:=h.nr
 have:=h.sy
 omega
def hangs (N:Net)(i key:Int):Prop:=key=i\/∃s∈N.syns,keyM N s.frm=key/\s.to=i
instance (N:Net) (i key:Int):Decidable (hangs N i key):=by unfold hangs;infer_instance
theorem keysM_nodup (N:Net):(keysM N).Nodup:=by
 unfold keysM
 refine List.Pairwise.filter _ ?_
 rw [List.pairwise_map]
 exact List.nodup_range.imp fun h e=>h (by omega)
end Go.Gm
end

section
namespace Go.Gm
def nearM (w s:Int):Int:=if w<0 then -((2* -w+s - 1) / (2*s)) else (2*w+s - 1) / (2*s)
theorem near_zero {s:Int}(hs:1<=s):nearM 0 s=0:=by
 unfold nearM
 rw [jz (by omega)]
 exact Int.ediv_eq_zero_of_lt (by omega) (by omega)
theorem near_mono {u v s:Int}(h:u<=v)(hs:1<=s):nearM u s<=nearM v s:=by
 have hm:∀a b:Int,a<=b->(2*a+s - 1) / (2*s)<=(2*b+s - 1) / (2*s):=fun a b hab=>Int.ediv_le_ediv (by omega) (by omega)
 have hp:∀a:Int,0<=a->0<=(2*a+s - 1) / (2*s):=fun a ha=>Int.ediv_nonneg (by omega) (by omega)
 unfold nearM
 by_cases h1:u<0
 ·rw [jx h1]
  by_cases h2:v<0
  ·rw [jx h2]
   have:=hm (-v) (-u) (by omega)
   omega
  ·rw [jz h2]
   have:=hp (-u) (by omega)
   have:=hp v (by omega)
   omega
 ·rw [jz h1,jz (by omega)]
  exact hm u v h
theorem near_small {w s:Int}(hs:1<=s):(0<=w->0<=nearM w s/\nearM w s<=w)/\(w<=0->w<=nearM w s/\nearM w s<=0):=by
 have key:∀a:Int,0<=a->0<=(2*a+s - 1) / (2*s)/\(2*a+s - 1) / (2*s)<=a:=by
  intro a ha
  refine ⟨Int.ediv_nonneg (by omega) (by omega),?_⟩
  have:(2*a+s - 1) / (2*s)<a+1:=by
   rw [Int.ediv_lt_iff_lt_mul (by omega)]
   have e:(a+1)*(2*s)=2*(a*s)+2*s:=by rw [Int.add_mul,Int.one_mul,Int.mul_left_comm]
   have:a*1<=a*s:=Int.mul_le_mul_of_nonneg_left hs ha
   omega
  omega
 unfold nearM
 refine ⟨fun h=>?_,fun h=>?_⟩
 ·rw [jz (by omega)];exact key w h
 ·by_cases hw:w<0
  ·rw [jx hw];have:=key (-w) (by omega);omega
  ·rw [jz hw]
   have:=key w (by omega)
   omega
theorem near_far {w:Int}(h: -32768<=w/\w<=32768):nearM w 65537=0:=by
 unfold nearM
 split
 ·rw [Int.ediv_eq_zero_of_lt (by omega) (by omega)];rfl
 ·exact Int.ediv_eq_zero_of_lt (by omega) (by omega)
def okQ (half s w:Int):Prop:=(-half<=nearM w s/\nearM w s<=half - 1)/\(-32768<=nearM w s*s/\nearM w s*s<=32768)
instance (half s w:Int):Decidable (okQ half s w):=by unfold okQ;infer_instance
theorem okQ_zero {half s:Int}(hh:1<=half)(hs:1<=s):okQ half s 0:=by
 unfold okQ
 rw [near_zero hs]
 omega
theorem okQ_mid {half s a b w:Int}(hs:1<=s)(ha:okQ half s a)(hb:okQ half s b)(h1:a<=w)(h2:w<=b):okQ half s w:=by
 unfold okQ at*
 have m1:=near_mono h1 hs
 have m2:=near_mono h2 hs
 have m3:nearM a s*s<=nearM w s*s:=Int.mul_le_mul_of_nonneg_right m1 (by omega)
 have m4:nearM w s*s<=nearM b s*s:=Int.mul_le_mul_of_nonneg_right m2 (by omega)
 omega
def wtsTo (l:List Syn)(i:Int):List Int:=(l.filter fun s=>decide (s.to=i)).map (·.wt)
def loM (l:List Syn)(i:Int):Int:=(wtsTo l i).foldl min 0
def hiM (l:List Syn)(i:Int):Int:=(wtsTo l i).foldl max 0
theorem foldl_min_le:∀(l:List Int) (a:Int),l.foldl min a<=a/\∀x∈l,l.foldl min a<=x
 |[],a=>⟨Int.le_refl _,by simp⟩
 |y::l,a=>by
  obtain ⟨h1,h2⟩:=foldl_min_le l (min a y)
  refine ⟨?_,fun x hx=>?_⟩
  ·rw [Qp];omega
  ·rw [Qp]
   rcases qQ.1 hx with rfl|hx
   ·omega
   ·exact h2 x hx
theorem foldl_max_ge:∀(l:List Int) (a:Int),a<=l.foldl max a/\∀x∈l,x<=l.foldl max a
 |[],a=>⟨Int.le_refl _,by simp⟩
 |y::l,a=>by
  obtain ⟨h1,h2⟩:=foldl_max_ge l (max a y)
  refine ⟨?_,fun x hx=>?_⟩
  ·rw [Qp];omega
  ·rw [Qp]
   rcases qQ.1 hx with rfl|hx
   ·omega
   ·exact h2 x hx
theorem foldl_min_mem:∀(l:List Int) (a:Int),l.foldl min a=a\/l.foldl min a∈l
 |[],a=>.inl rfl
 |y::l,a=>by
  rw [Qp]
  rcases foldl_min_mem l (min a y) with h|h
  ·rw [h]
   rcases Int.le_total a y with h2|h2
   ·rw [Int.min_eq_left h2];exact .inl rfl
   ·rw [Int.min_eq_right h2];exact .inr qg
  ·exact .inr (qu _ h)
theorem foldl_max_mem:∀(l:List Int) (a:Int),l.foldl max a=a\/l.foldl max a∈l
 |[],a=>.inl rfl
 |y::l,a=>by
  rw [Qp]
  rcases foldl_max_mem l (max a y) with h|h
  ·rw [h]
   rcases Int.le_total a y with h2|h2
   ·rw [Int.max_eq_right h2];exact .inr qg
   ·rw [Int.max_eq_left h2];exact .inl rfl
  ·exact .inr (qu _ h)
def okS (l:List Syn)(half i s:Int):Prop:=∀w∈wtsTo l i,okQ half s w
instance (l:List Syn) (half i s:Int):Decidable (okS l half i s):=by unfold okS;infer_instance
theorem okS_ends {l:List Syn}{half i s:Int}(hh:1<=half)(hs:1<=s):okS l half i s<->okQ half s (loM l i)/\okQ half s (hiM l i):=by
 have h0:=okQ_zero hh hs
 constructor
 ·intro h
  refine ⟨?_,?_⟩
  ·rcases foldl_min_mem (wtsTo l i) 0 with e|e
   ·unfold loM;rw [e];exact h0
   ·exact h _ e
  ·rcases foldl_max_mem (wtsTo l i) 0 with e|e
   ·unfold hiM;rw [e];exact h0
   ·exact h _ e
 ·rintro ⟨h1,h2⟩ w hw
  exact okQ_mid hs h1 h2 ((foldl_min_le _ _).2 w hw) ((foldl_max_ge _ _).2 w hw)
def fitsM (lo hi s half:Int):Prop:=nearM lo s≥ -half/\nearM hi s<half/\nearM lo s*s≥ -32768/\nearM hi s*s<=32768
instance (lo hi s half:Int):Decidable (fitsM lo hi s half):=by unfold fitsM;infer_instance
theorem fits_iff {l:List Syn}{half i s:Int}(hh:1<=half)(hs:1<=s):fitsM (loM l i) (hiM l i) s half<->okS l half i s:=by
 rw [okS_ends hh hs]
 have h1:loM l i<=0:=(foldl_min_le _ _).1
 have h2:0<=hiM l i:=(foldl_max_ge _ _).1
 have n1:=(near_small (w:=loM l i) hs).2 h1
 have n2:=(near_small (w:=hiM l i) hs).1 h2
 have m1:nearM (loM l i) s*s<=0:=Int.mul_nonpos_of_nonpos_of_nonneg (by omega) (by omega)
 have m2:0<=nearM (hiM l i) s*s:=Int.mul_nonneg (by omega) (by omega)
 unfold fitsM okQ
 omega
def leastF (p:Nat->Bool):Nat->Nat->Nat
 |0,s=>s
 |n+1,s=>if p s then s else leastF p n (s+1)
theorem leastF_spec {p:Nat->Bool}:∀(n s:Nat),p (s+n)=true->p (leastF p n s)=true/\s<=leastF p n s/\leastF p n s<=s+n/\∀k,s<=k->k<leastF p n s->p k=false
 |0,s,h=>⟨h,qA _,qA _,fun k h1 h2=>by simp only [leastF] at h2;omega⟩
 |n+1,s,h=>by
  rw [leastF]
  by_cases hp:p s=true
  ·rw [jx hp]
   exact ⟨hp,qA _,by omega,fun k h1 h2=>by omega⟩
  ·rw [jz hp]
   obtain ⟨h1,h2,h3,h4⟩:=leastF_spec (p:=p) n (s+1) (by rw [Nat.add_assoc,Nat.add_comm 1 n];exact h)
   refine ⟨h1,by omega,by omega,fun k h5 h6=>?_⟩
   by_cases hk:k=s
   ·subst hk;simpa using hp
   ·exact h4 k (by omega) h6
def scaleM (l:List Syn)(half:Int)(i:Nat):Nat:=leastF (fun s=>decide (okS l half (i:Int) (s:Int))) 65536 1
def WtsOk (l:List Syn):Prop:=∀s∈l, -32768<=s.wt/\s.wt<=32768
theorem mem_wtsTo {l:List Syn}{i w:Int}:w∈wtsTo l i<->∃s∈l,s.to=i/\s.wt=w:=by
 unfold wtsTo
 simp only [qo,qP,jv]
 constructor
 ·rintro ⟨s,⟨h1,h2⟩,h3⟩;exact ⟨s,h1,h2,h3⟩
 ·rintro ⟨s,h1,h2,h3⟩;exact ⟨s,⟨h1,h2⟩,h3⟩
theorem scale_spec {l:List Syn}(hl:WtsOk l){half:Int}(hh:2<=half)(i:Nat):
  okS l half i (scaleM l half i)/\1<=scaleM l half i/\scaleM l half i<=65537/\∀k:Nat,1<=k->k<scaleM l half i->¬okS l half i k:=by
 have h:=leastF_spec (p:=fun s=>decide (okS l half (i:Int) (s:Int))) 65536 1 (by
  rw [jv]
  intro w hw
  obtain ⟨s,hs,_,rfl⟩:=mem_wtsTo.1 hw
  have h0:nearM s.wt ((1+65536:Nat):Int)=0:=near_far (hl s hs)
  unfold okQ
  rw [h0]
  omega)
 unfold scaleM
 obtain ⟨h1,h2,h3,h4⟩:=h
 rw [jv] at h1
 exact ⟨h1,h2,by omega,fun k hk1 hk2=>by have:=h4 k hk1 hk2;rwa [decide_eq_false_iff_not] at this⟩
def quotS (Z:List Int)(s:Syn):Int:=nearM s.wt (Z[s.to.toNat]?.getD 1)
def offS (Z:List Int)(s:Syn):Int:=max (s.wt - quotS Z s*(Z[s.to.toNat]?.getD 1)) (-(s.wt - quotS Z s*(Z[s.to.toNat]?.getD 1)))
def synQ (Z:List Int)(s:Syn):Syn:=⟨s.frm,s.to,quotS Z s*(Z[s.to.toNat]?.getD 1),s.dl⟩
def errQ (Z:List Int)(l:List Syn)(i:Nat):Int:=((l.filter fun s=>decide (s.to=(i:Int))).map (offS Z)).foldl max 0
structure Qnt where
 syns:List Syn
 scales:List Int
 quots:List Int
 errs:List Int
 exact:Bool
def halfM (bits:Int):Int:=2 ^ (bits.toNat - 1)
def scalesM (N:Net)(half:Int):List Int:=(List.range N.ps.length).map fun i=>(scaleM N.syns half i:Int)
def quantM (N:Net)(bits:Int):Qnt:=
 let Z:=scalesM N (halfM bits)
 ⟨N.syns.map (synQ Z),Z,N.syns.map (quotS Z),(List.range N.ps.length).map (errQ Z N.syns),N.syns.all fun s=>decide (offS Z s=0)⟩
theorem half_ok {bits:Int}(h:2<=bits/\bits<=16):2<=halfM bits/\halfM bits<=32768:=by
 obtain ⟨b,rfl⟩:∃b:Nat,bits=b:=⟨bits.toNat,by omega⟩
 unfold halfM
 rw [jw]
 have h1:1<=b - 1:=by omega
 have h2:b - 1<=15:=by omega
 have e:((2:Int) ^ (b - 1))=((2 ^ (b - 1):Nat):Int):=by simp
 rw [e]
 have g1:2 ^ 1<=2 ^ (b - 1):=Nat.pow_le_pow_right (by omega) h1
 have g2:2 ^ (b - 1)<=2 ^ 15:=Nat.pow_le_pow_right (by omega) h2
 omega
end Go.Gm
end

section
namespace Go.Gm
structure RowE where
 key:Int
 slot:Int
 wt:Int
 dl:Int
 deriving DecidableEq
def slotAt (cores:List Int)(i:Nat):Int:=(useN (cores.take i) (cores[i]?.getD 0):Nat)
def slotsM (cores:List Int):List Int:=(List.range cores.length).map (slotAt cores)
def rowOf (N:Net)(cores:List Int)(s:Syn)(q:Int):RowE:=⟨keyM N s.frm,(slotsM cores)[s.to.toNat]?.getD 0,q,s.dl⟩
def rowsM (N:Net)(cores:List Int)(l:List (Syn×Int))(k:Int):List RowE:=(l.filter fun x=>decide (cores[x.1.to.toNat]? =some k)).map fun x=>rowOf N cores x.1 x.2
theorem rowsM_snoc {N:Net}{cores:List Int}{l:List (Syn×Int)}{x:Syn×Int}(k:Int):rowsM N cores (l++[x]) k=rowsM N cores l k++if cores[x.1.to.toNat]? =some k then [rowOf N cores x.1 x.2] else []:=by
 unfold rowsM
 rw [Qa,ql]
 congr 1
 by_cases h:cores[x.1.to.toNat]? =some k<;>simp [h]
abbrev Out:=Int×Int
def isOutO (o:Out):Prop:=0<=o.1/\isOut o.2
def cntM (ts:List (List Int))(o:Out):Nat:=ts.countP fun t=>decide (hasB (t[o.1.toNat]?.getD 0) o.2)
theorem cntM_snoc (ts:List (List Int))(t:List Int)(o:Out):cntM (ts++[t]) o=cntM ts o+if hasB (t[o.1.toNat]?.getD 0) o.2 then 1 else 0:=by
 unfold cntM
 rw [List.countP_append]
 by_cases h:hasB (t[o.1.toNat]?.getD 0) o.2<;>simp [h]
theorem mem_outsOf {r:Nat}{x:Int}{o:Out}:o∈outsOf r x<->o.1=(r:Int)/\isOut o.2/\hasB x o.2:=by
 unfold outsOf isOut
 obtain ⟨a,b⟩:=o
 simp only [qo,qP,qQ,QU,or_false,jv,Prod.mk.injEq]
 constructor
 ·rintro ⟨c,⟨h1,h2⟩,rfl,rfl⟩
  exact ⟨rfl,h1,h2⟩
 ·rintro ⟨rfl,h1,h2⟩
  exact ⟨b,⟨h1,h2⟩,rfl,rfl⟩
theorem mem_outsM {t:List Int}{o:Out}:o∈outsM t<->isOutO o/\hasB (t[o.1.toNat]?.getD 0) o.2:=by
 unfold outsM isOutO
 rw [List.mem_flatten]
 constructor
 ·rintro ⟨l,hl,ho⟩
  obtain ⟨x,hx,rfl⟩:=qo.1 hl
  obtain ⟨h1,h2,h3⟩:=mem_outsOf.1 ho
  have:=List.mem_zipIdx hx
  have e:o.1.toNat=x.2:=by omega
  rw [e]
  have hg:t[x.2]? =some x.1:=by
   have h5:=List.mem_zipIdx_iff_getElem?.1 hx
   simpa using h5
  rw [hg]
  exact ⟨⟨by omega,h2⟩,h3⟩
 ·rintro ⟨⟨h1,h2⟩,h3⟩
  cases hg:t[o.1.toNat]? with
  |none=>rw [hg] at h3;exact absurd h3 (hasB_zero _)
  |some x=>
   rw [hg] at h3
   exact ⟨outsOf o.1.toNat x,qo.2 ⟨(x,o.1.toNat),List.mem_zipIdx_iff_getElem?.2 (by simpa using hg),rfl⟩,mem_outsOf.2 ⟨by omega,h2,h3⟩⟩
structure IsMost (ts:List (List Int)) (m:Nat):Prop where
 le:∀o,isOutO o->cntM ts o<=m
 ex:m=0\/∃o,isOutO o/\cntM ts o=m
theorem IsMost.uniq {ts:List (List Int)}{m n:Nat}(h1:IsMost ts m)(h2:IsMost ts n):m=n:=by
 have a:m<=n:=by
  rcases h1.ex with h|⟨o,ho,h⟩
  ·omega
  ·rw [<-h];exact h2.le o ho
 have b:n<=m:=by
  rcases h2.ex with h|⟨o,ho,h⟩
  ·omega
  ·rw [<-h];exact h1.le o ho
 omega
def mostM:List (List Int)->Nat
 |[]=>0
 |ts@(_::_)=>((ts.map outsM).flatten.map fun o=>cntM ts o).foldl max 0
theorem foldl_maxN:∀(l:List Nat) (a:Nat),a<=l.foldl max a/\(∀x∈l,x<=l.foldl max a)/\(l.foldl max a=a\/l.foldl max a∈l)
 |[],a=>⟨qA _,by simp,.inl rfl⟩
 |y::l,a=>by
  obtain ⟨h1,h2,h3⟩:=foldl_maxN l (max a y)
  rw [Qp]
  refine ⟨by omega,fun x hx=>?_,?_⟩
  ·rcases qQ.1 hx with rfl|hx
   ·omega
   ·exact h2 x hx
  ·rcases h3 with h|h
   ·by_cases hay:a<=y
    ·rw [h,Nat.max_eq_right hay];exact .inr qg
    ·rw [h,Nat.max_eq_left (by omega)];exact .inl rfl
   ·exact .inr (qu _ h)
theorem mostM_is (ts:List (List Int)):IsMost ts (mostM ts):=by
 cases ts with
 |nil=>exact ⟨fun o _=>qA _,.inl rfl⟩
 |cons t r=>
  obtain ⟨h1,h2,h3⟩:=foldl_maxN (((t::r).map outsM).flatten.map fun o=>cntM (t::r) o) 0
  refine ⟨fun o ho=>?_,?_⟩
  ·by_cases hc:cntM (t::r) o=0
   ·omega
   ·refine h2 _ (qo.2 ⟨o,?_,rfl⟩)
    have hp:0<cntM (t::r) o:=by omega
    unfold cntM at hp
    rw [List.countP_pos_iff] at hp
    obtain ⟨u,hu,hh⟩:=hp
    rw [jv] at hh
    exact List.mem_flatten.2 ⟨outsM u,qo.2 ⟨u,hu,rfl⟩,mem_outsM.2 ⟨ho,hh⟩⟩
  ·rcases h3 with h|h
   ·exact .inl h
   ·obtain ⟨o,ho,he⟩:=qo.1 h
    obtain ⟨l,hl,hol⟩:=List.mem_flatten.1 ho
    obtain ⟨u,_,rfl⟩:=qo.1 hl
    exact .inr ⟨o,(mem_outsM.1 hol).1,he⟩
def takesM (room:Int)(ts:List (List Int))(t:List Int):Bool:=(outsM t).all fun o=>decide ((cntM ts o:Int)<room)
theorem takes_iff {room:Int}{ts:List (List Int)}{t:List Int}(h:(mostM ts:Int)<=room)(h1:1<=room):takesM room ts t=true<->(mostM (ts++[t]):Int)<=room:=by
 unfold takesM
 rw [List.all_eq_true]
 constructor
 ·intro ha
  rcases (mostM_is (ts++[t])).ex with he|⟨o,ho,he⟩
  ·omega
  ·rw [<-he,cntM_snoc]
   have hle:=(mostM_is ts).le o ho
   split
   ·rename_i hb
    have:=of_decide_eq_true (ha o (mem_outsM.2 ⟨ho,hb⟩))
    omega
   ·omega
 ·intro hm o ho
  have ho2:=mem_outsM.1 ho
  have:=(mostM_is (ts++[t])).le o ho2.1
  rw [cntM_snoc,jx ho2.2] at this
  rw [jv]
  omega
def waveAdd (T:Int->List Int)(room:Int)(ws:List (List Int))(key:Int):List (List Int):=
 match ws.findIdx? fun w=>takesM room (w.map T) (T key) with
 |some k=>ws.modify k (· ++[key])
 |none=>ws++[[key]]
def wavesM (T:Int->List Int)(room:Int)(keys:List Int):List (List Int):=keys.foldl (waveAdd T room) []
def waveOf (ws:List (List Int))(key:Int):Int:=
 match ws.findIdx? fun w=>decide (key∈w) with
 |some k=>(k:Int)
 |none=> -1
def reachM (W:Int)(home:Int->Int)(tg:Int->List Int)(w:List Int):Nat:=(w.flatMap fun key=>(tg key).map fun t=>distM W (home key) t).foldl max 0
def stepsM (W:Int)(T:Int->List Int)(home:Int->Int)(tg:Int->List Int)(ws:List (List Int)):Nat:=(ws.map fun w=>(reachM W home tg w+1)*mostM (w.map T)).sum
structure Ety where
 key:Int
 mask:Int
 outs:Int
 deriving DecidableEq
def etyAt (T:Int->List Int)(r:Nat)(key:Int):Option Ety:=
 let x:=(T key)[r]?.getD 0
 if x=0 then none else some ⟨key,65535,x⟩
def tableM (T:Int->List Int)(keys:List Int)(r:Nat):List Ety:=keys.filterMap (etyAt T r)
def band (a b:Int):Int:=((a.toNat&&&b.toNat:Nat):Int)
def bxor (a b:Int):Int:=((a.toNat ^^^ b.toNat:Nat):Int)
def bless (a b:Int):Int:=((a.toNat - (a.toNat&&&b.toNat):Nat):Int)
def findE (l:List Ety)(key:Int):Option Int:=(l.find? fun x=>decide (band key x.mask=x.key)).map (·.outs)
def isPow (d:Int):Prop:=∃i:Nat,i<16/\d=((2 ^ i:Nat):Int)
instance (d:Int):Decidable (isPow d):=by unfold isPow;exact Nat.decidableExistsLT _
def joinE (x y:Ety):Option Ety:=if x.mask≠y.mask\/x.outs≠y.outs\/¬isPow (bxor x.key y.key) then none else some ⟨bless x.key (bxor x.key y.key),bless x.mask (bxor x.key y.key),x.outs⟩
def sameE (a b:List Ety)(keys:List Int):Bool:=keys.all fun k=>decide (findE a k=findE b k)
def mergedAt (l:List Ety)(k j:Nat)(x:Ety):List Ety:=(l.eraseIdx j).set k x
def pairsM (n:Nat):List (Nat×Nat):=(List.range n).flatMap fun k=>((List.range n).filter fun j=>decide (k<j)).map fun j=>(k,j)
def tryE (want l:List Ety)(keys:List Int)(p:Nat×Nat):Option (List Ety):=
 match l[p.1]?,l[p.2]? with
 |some x,some y=>match joinE x y with
  |some z=>if sameE want (mergedAt l p.1 p.2 z) keys=true then some (mergedAt l p.1 p.2 z) else none
  |none=>none
 |_,_=>none
def mergeStep (want l:List Ety)(keys:List Int):Option (List Ety):=(pairsM l.length).findSome? (tryE want l keys)
def mergeF (want:List Ety)(keys:List Int):Nat->List Ety->List Ety
 |0,l=>l
 |n+1,l=>match mergeStep want l keys with
  |some t=>mergeF want keys n t
  |none=>l
def mergeM (l:List Ety)(keys:List Int):List Ety:=mergeF l keys l.length l
end Go.Gm
end
