import Derived.Test.YtlbekjokdlkghaaGreatChipEnergiesPm
set_option linter.unusedVariables false
set_option linter.unusedSimpArgs false
set_option maxHeartbeats 4000000
namespace Go.Gm
structure Chp where
 mesh:Spc
 nr:Int
 sy:Int
 en:Int
 bits:Int
 dead:List Int
def deadE (n:Int):List Int→List Int→Int
 |_,[]=>0
 |pre,k::r=>if¬(0≤k∧k≤n - 1) then 3 else if k∈pre then 5 else deadE n (pre++[k]) r
def chpIn (C:Chp):Prop:=(1≤C.nr∧C.nr≤64)∧(1≤C.sy∧C.sy≤4096)∧(1≤C.en∧C.en≤1024)∧(2≤C.bits∧C.bits≤16)
instance (C:Chp):Decidable (chpIn C):=by unfold chpIn;infer_instance
def chipE (C:Chp):Int:=if meshE C.mesh≠0 then 3 else if¬chpIn C then 3 else deadE (C.mesh.wide*C.mesh.high) [] C.dead
structure ChpOk (C:Chp):Prop where
 mesh:SpcOk C.mesh
 nr:1≤C.nr∧C.nr≤64
 sy:1≤C.sy∧C.sy≤4096
 en:1≤C.en∧C.en≤1024
 bits:2≤C.bits∧C.bits≤16
 dead:(∀k∈C.dead,0≤k∧k<C.mesh.wide*C.mesh.high)∧C.dead.Nodup
theorem deadE_next {n:Int}{l:List Int}{i:Nat}{k:Int}(h:l[i]? =some k)(h1:0≤k∧k≤n - 1)(h2:k∉l.take i):deadE n (l.take i) (l.drop i)=deadE n (l.take (i+1)) (l.drop (i+1)):=by
 obtain ⟨hlt,rfl⟩:=List.getElem?_eq_some_iff.1 h
 rw [List.drop_eq_getElem_cons hlt,deadE,if_neg (by omega),if_neg h2,List.take_add_one,h]
 rfl
theorem deadE_bad {n:Int}{l:List Int}{i:Nat}{k:Int}(h:l[i]? =some k)(h1:¬(0≤k∧k≤n - 1)):deadE n (l.take i) (l.drop i)=3:=by
 obtain ⟨hlt,rfl⟩:=List.getElem?_eq_some_iff.1 h
 rw [List.drop_eq_getElem_cons hlt,deadE,if_pos h1]
theorem deadE_have {n:Int}{l:List Int}{i:Nat}{k:Int}(h:l[i]? =some k)(h1:0≤k∧k≤n - 1)(h2:k∈l.take i):deadE n (l.take i) (l.drop i)=5:=by
 obtain ⟨hlt,rfl⟩:=List.getElem?_eq_some_iff.1 h
 rw [List.drop_eq_getElem_cons hlt,deadE,if_neg (by omega),if_pos h2]
theorem deadE_end {n:Int}{l:List Int}{i:Nat}(h:l.length≤i):deadE n (l.take i) (l.drop i)=0:=by
 rw [List.drop_eq_nil_of_le h];rfl
theorem deadE_zero {n:Int}:∀(r pre:List Int),deadE n pre r=0→(∀k∈pre,0≤k∧k<n)→pre.Nodup→(∀k∈pre++r,0≤k∧k<n)∧(pre++r).Nodup
 |[],pre,_,h1,h2=>by rw [List.append_nil];exact ⟨h1,h2⟩
 |k::r,pre,h,h1,h2=>by
  rw [deadE] at h
  split at h
  ·cases h
  ·split at h
   ·cases h
   ·rename_i g1 g2
    have:=deadE_zero r (pre++[k]) h (fun x hx=>by
     rcases List.mem_append.1 hx with hx|hx
     ·exact h1 x hx
     ·rw [List.mem_singleton] at hx;subst hx;omega) (List.nodup_append.2 ⟨h2,by simp,fun a ha b hb e=>by rw [List.mem_singleton] at hb;subst hb;subst e;exact g2 ha⟩)
    rw [List.append_assoc,List.singleton_append] at this
    exact this
theorem chipE_zero {C:Chp}(h:chipE C=0):ChpOk C:=by
 unfold chipE at h
 split at h
 ·cases h
 ·rename_i h1
  split at h
  ·cases h
  ·rename_i h2
   have h3:=Decidable.not_not.1 h2
   exact ⟨meshE_zero.1 (Decidable.not_not.1 h1),h3.1,h3.2.1,h3.2.2.1,h3.2.2.2,by simpa using deadE_zero C.dead [] h (by simp) List.nodup_nil⟩
def nCores (C:Chp):Nat:=(C.mesh.wide*C.mesh.high).toNat
theorem nCores_ok {C:Chp}(h:ChpOk C):(nCores C:Int)=C.mesh.wide*C.mesh.high∧1≤nCores C∧nCores C≤64:=by
 obtain ⟨w1,w2⟩:=h.mesh.wide
 obtain ⟨g1,g2⟩:=h.mesh.high
 have h1:1*1≤C.mesh.wide*C.mesh.high:=Int.mul_le_mul w1 g1 (by omega) (by omega)
 have h2:C.mesh.wide*C.mesh.high≤8*8:=Int.mul_le_mul w2 g2 (by omega) (by omega)
 unfold nCores
 omega
def keyM (N:Net)(f:Int):Int:=if f<0 then (N.ps.length:Int) - 1 - f else f
def planE (N:Net)(C:Chp):Int:=if netchk N≠0 then netchk N else if chipE C≠0 then chipE C else if 256<(N.ps.length:Int)+N.inputs then 9 else 0
structure PlanOk (N:Net) (C:Chp):Prop where
 net:NetOk N
 chip:ChpOk C
 few:(N.ps.length:Int)+N.inputs≤256
theorem planE_zero {N:Net}{C:Chp}(h:planE N C=0):PlanOk N C:=by
 unfold planE at h
 split at h
 ·omega
 ·rename_i h1
  split at h
  ·omega
  ·rename_i h2
   split at h
   ·cases h
   ·exact ⟨netchk_zero.1 (by omega),chipE_zero (by omega),by omega⟩
def nSrc (N:Net):Nat:=N.ps.length+N.inputs.toNat
theorem key_range {N:Net}(hN:NetOk N){s:Syn}(hs:s∈N.syns):0≤keyM N s.frm∧keyM N s.frm<nSrc N:=by
 have h:=(hN.syns s hs).1
 have hi:=hN.inputs
 unfold srcOk at h
 unfold keyM nSrc
 split<;>omega
def tgt1 (N:Net)(key:Int)(acc:List Int)(s:Syn):List Int:=if keyM N s.frm=key∧s.to∉acc then acc++[s.to] else acc
def tgtM (N:Net)(l:List Syn)(key:Int):List Int:=l.foldl (tgt1 N key) []
def frm1 (N:Net)(to:Int)(acc:List Int)(s:Syn):List Int:=if s.to=to∧keyM N s.frm∉acc then acc++[keyM N s.frm] else acc
def frmM (N:Net)(l:List Syn)(to:Int):List Int:=l.foldl (frm1 N to) []
def rowN (l:List Syn)(i:Int):Nat:=l.countP fun s=>decide (s.to=i)
theorem foldl_take {α β:Type}{f:β→α→β}{b:β}{l:List α}{i:Nat}{x:α}(h:l[i]? =some x):(l.take (i+1)).foldl f b=f ((l.take i).foldl f b) x:=by
 rw [List.take_add_one,h,Option.toList_some,List.foldl_append];rfl
theorem mem_tgt {N:Net}{key t:Int}:∀(l:List Syn) (acc:List Int),t∈l.foldl (tgt1 N key) acc↔t∈acc∨∃s∈l,keyM N s.frm=key∧s.to=t
 |[],acc=>by simp
 |s::l,acc=>by
  rw [List.foldl_cons,mem_tgt l]
  have h1:t∈tgt1 N key acc s↔t∈acc∨(keyM N s.frm=key∧s.to=t):=by
   unfold tgt1
   split
   ·rename_i h
    rw [List.mem_append,List.mem_singleton]
    constructor
    ·rintro (h1|rfl)
     ·exact .inl h1
     ·exact .inr ⟨h.1,rfl⟩
    ·rintro (h1|⟨_,rfl⟩)
     ·exact .inl h1
     ·exact .inr rfl
   ·rename_i h
    constructor
    ·exact .inl
    ·rintro (h1|⟨h1,rfl⟩)
     ·exact h1
     ·exact Decidable.byContradiction fun hn=>h ⟨h1,hn⟩
  rw [h1]
  constructor
  ·rintro ((h|h)|⟨u,hu,h⟩)
   ·exact .inl h
   ·exact .inr ⟨s,List.mem_cons_self,h⟩
   ·exact .inr ⟨u,List.mem_cons_of_mem _ hu,h⟩
  ·rintro (h|⟨u,hu,h⟩)
   ·exact .inl (.inl h)
   ·rcases List.mem_cons.1 hu with rfl|hu
    ·exact .inl (.inr h)
    ·exact .inr ⟨u,hu,h⟩
theorem mem_tgtM {N:Net}{key t:Int}{l:List Syn}:t∈tgtM N l key↔∃s∈l,keyM N s.frm=key∧s.to=t:=by
 unfold tgtM;rw [mem_tgt];simp
theorem mem_frm {N:Net}{to k:Int}:∀(l:List Syn) (acc:List Int),k∈l.foldl (frm1 N to) acc↔k∈acc∨∃s∈l,s.to=to∧keyM N s.frm=k
 |[],acc=>by simp
 |s::l,acc=>by
  rw [List.foldl_cons,mem_frm l]
  have h1:k∈frm1 N to acc s↔k∈acc∨(s.to=to∧keyM N s.frm=k):=by
   unfold frm1
   split
   ·rename_i h
    rw [List.mem_append,List.mem_singleton]
    constructor
    ·rintro (h1|rfl)
     ·exact .inl h1
     ·exact .inr ⟨h.1,rfl⟩
    ·rintro (h1|⟨_,rfl⟩)
     ·exact .inl h1
     ·exact .inr rfl
   ·rename_i h
    constructor
    ·exact .inl
    ·rintro (h1|⟨h1,rfl⟩)
     ·exact h1
     ·exact Decidable.byContradiction fun hn=>h ⟨h1,hn⟩
  rw [h1]
  constructor
  ·rintro ((h|h)|⟨u,hu,h⟩)
   ·exact .inl h
   ·exact .inr ⟨s,List.mem_cons_self,h⟩
   ·exact .inr ⟨u,List.mem_cons_of_mem _ hu,h⟩
  ·rintro (h|⟨u,hu,h⟩)
   ·exact .inl (.inl h)
   ·rcases List.mem_cons.1 hu with rfl|hu
    ·exact .inl (.inr h)
    ·exact .inr ⟨u,hu,h⟩
theorem mem_frmM {N:Net}{to k:Int}{l:List Syn}:k∈frmM N l to↔∃s∈l,s.to=to∧keyM N s.frm=k:=by
 unfold frmM;rw [mem_frm];simp
theorem tgt_len {N:Net}{key:Int}:∀(l:List Syn) (acc:List Int),(l.foldl (tgt1 N key) acc).length≤acc.length+l.length
 |[],acc=>by simp
 |s::l,acc=>by
  have:=tgt_len (N:=N) (key:=key) l (tgt1 N key acc s)
  have h2:(tgt1 N key acc s).length≤acc.length+1:=by unfold tgt1;split<;>simp
  rw [List.foldl_cons,List.length_cons]
  omega
theorem frm_len {N:Net}{to:Int}:∀(l:List Syn) (acc:List Int),(l.foldl (frm1 N to) acc).length≤acc.length+l.length
 |[],acc=>by simp
 |s::l,acc=>by
  have:=frm_len (N:=N) (to:=to) l (frm1 N to acc s)
  have h2:(frm1 N to acc s).length≤acc.length+1:=by unfold frm1;split<;>simp
  rw [List.foldl_cons,List.length_cons]
  omega
theorem rowN_take {l:List Syn}{i:Nat}{s:Syn}(h:l[i]? =some s)(k:Int):rowN (l.take (i+1)) k=rowN (l.take i) k+if s.to=k then 1 else 0:=by
 unfold rowN
 rw [List.take_add_one,h,Option.toList_some,List.countP_append]
 by_cases hk:s.to=k<;>simp [hk]
def useN (cores:List Int)(k:Int):Nat:=cores.countP fun c=>decide (c=k)
def useR (l:List Syn)(cores:List Int)(k:Int):Nat:=l.countP fun s=>decide (0≤s.to∧cores[s.to.toNat]? =some k)
theorem useN_snoc (cores:List Int)(c k:Int):useN (cores++[c]) k=useN cores k+if c=k then 1 else 0:=by
 unfold useN
 rw [List.countP_append]
 by_cases h:c=k<;>simp [h]
theorem useR_snoc (l:List Syn)(cores:List Int)(c k:Int):useR l (cores++[c]) k=useR l cores k+if c=k then rowN l cores.length else 0:=by
 unfold useR rowN
 induction l with
 |nil=>simp
 |cons s l ih=>
  rw [List.countP_cons,List.countP_cons,List.countP_cons,ih]
  have e:(0≤s.to∧(cores++[c])[s.to.toNat]? =some k)↔(0≤s.to∧cores[s.to.toNat]? =some k)∨(s.to=(cores.length:Int)∧c=k):=by
   by_cases h0:0≤s.to
   ·by_cases h1:s.to.toNat<cores.length
    ·rw [List.getElem?_append_left h1]
     constructor
     ·exact .inl
     ·rintro (h|h)
      ·exact h
      ·omega
    ·rw [List.getElem?_append_right (by omega),List.getElem?_eq_none (l:=cores) (by omega)]
     by_cases h2:s.to=(cores.length:Int)
     ·rw [h2];simp
     ·rw [List.getElem?_eq_none (by simp;omega)]
      simp [h2]
   ·constructor
    ·rintro ⟨h,_⟩;exact absurd h h0
    ·rintro (⟨h,_⟩|⟨h,_⟩)
     ·exact absurd h h0
     ·omega
  simp only [decide_eq_true_eq]
  have hx:¬((0≤s.to∧cores[s.to.toNat]? =some k)∧s.to=(cores.length:Int)):=by
   rintro ⟨⟨_,h1⟩,h2⟩
   have:=(List.getElem?_eq_some_iff.1 h1).1
   omega
  by_cases hc:c=k
  ·rw [if_pos hc]
   by_cases h1:0≤s.to∧cores[s.to.toNat]? =some k
   ·rw [if_pos (e.2 (.inl h1)),if_pos h1,if_neg (fun h=>hx ⟨h1,h⟩)]
    rw [if_pos hc];omega
   ·by_cases h2:s.to=(cores.length:Int)
    ·rw [if_pos (e.2 (.inr ⟨h2,hc⟩)),if_neg h1,if_pos h2,if_pos hc];omega
    ·rw [if_neg (fun h=>(e.1 h).elim h1 fun h=>h2 h.1),if_neg h1,if_neg h2,if_pos hc];omega
  ·rw [if_neg hc]
   by_cases h1:0≤s.to∧cores[s.to.toNat]? =some k
   ·rw [if_pos (e.2 (.inl h1)),if_pos h1,if_neg hc]
   ·rw [if_neg (fun h=>(e.1 h).elim h1 fun h=>hc h.2),if_neg h1,if_neg hc]
def fitsA (C:Chp)(l:List Syn)(cores:List Int):Prop:=∀k:Nat,k<nCores C→(useN cores k:Int)≤C.nr∧(useR l cores k:Int)≤C.sy
def coreE (C:Chp):List Int→Int
 |[]=>0
 |k::r=>if¬(0≤k∧k≤C.mesh.wide*C.mesh.high - 1) then 3 else if k∈C.dead then 25 else coreE C r
instance (C:Chp) (l:List Syn) (cores:List Int):Decidable (fitsA C l cores):=by unfold fitsA;exact Nat.decidableBallLT _ _
def asgE (N:Net)(C:Chp)(cores:List Int):Int:=
 if planE N C≠0 then planE N C else if cores.length≠N.ps.length then 13 else if coreE C cores≠0 then coreE C cores else if¬fitsA C N.syns cores then 15 else 0
structure AsgOk (N:Net) (C:Chp) (cores:List Int):Prop where
 plan:PlanOk N C
 len:cores.length=N.ps.length
 core:∀k∈cores,(0≤k∧k<C.mesh.wide*C.mesh.high)∧k∉C.dead
 fits:fitsA C N.syns cores
theorem coreE_zero {C:Chp}:∀{l:List Int},coreE C l=0↔∀k∈l,(0≤k∧k<C.mesh.wide*C.mesh.high)∧k∉C.dead
 |[]=>by simp [coreE]
 |k::r=>by
  rw [coreE]
  constructor
  ·intro h
   split at h
   ·cases h
   ·split at h
    ·cases h
    ·rename_i h1 h2
     intro x hx
     rcases List.mem_cons.1 hx with rfl|hx
     ·exact ⟨by omega,h2⟩
     ·exact coreE_zero.1 h x hx
  ·intro h
   have hk:=h k List.mem_cons_self
   rw [if_neg (by omega),if_neg hk.2]
   exact coreE_zero.2 fun x hx=>h x (List.mem_cons_of_mem _ hx)
theorem coreE_next {C:Chp}{l:List Int}{i:Nat}{k:Int}(h:l[i]? =some k)(h1:0≤k∧k≤C.mesh.wide*C.mesh.high - 1)(h2:k∉C.dead):coreE C (l.drop i)=coreE C (l.drop (i+1)):=by
 obtain ⟨hlt,rfl⟩:=List.getElem?_eq_some_iff.1 h
 rw [List.drop_eq_getElem_cons hlt,coreE,if_neg (by omega),if_neg h2]
theorem coreE_bad {C:Chp}{l:List Int}{i:Nat}{k:Int}(h:l[i]? =some k)(h1:¬(0≤k∧k≤C.mesh.wide*C.mesh.high - 1)):coreE C (l.drop i)=3:=by
 obtain ⟨hlt,rfl⟩:=List.getElem?_eq_some_iff.1 h
 rw [List.drop_eq_getElem_cons hlt,coreE,if_pos h1]
theorem coreE_down {C:Chp}{l:List Int}{i:Nat}{k:Int}(h:l[i]? =some k)(h1:0≤k∧k≤C.mesh.wide*C.mesh.high - 1)(h2:k∈C.dead):coreE C (l.drop i)=25:=by
 obtain ⟨hlt,rfl⟩:=List.getElem?_eq_some_iff.1 h
 rw [List.drop_eq_getElem_cons hlt,coreE,if_neg (by omega),if_pos h2]
theorem asgE_zero {N:Net}{C:Chp}{cores:List Int}(h:asgE N C cores=0):AsgOk N C cores:=by
 unfold asgE at h
 split at h
 ·omega
 ·rename_i h1
  split at h
  ·cases h
  ·rename_i h2
   split at h
   ·omega
   ·rename_i h3
    split at h
    ·cases h
    ·rename_i h4
     exact ⟨planE_zero (by omega),by omega,coreE_zero.1 (by omega),Decidable.not_not.1 h4⟩
def coresM (N:Net)(C:Chp)(cores:List Int)(key:Int):List Int:=
 ((List.range (nCores C)).map fun (k:Nat)=>(k:Int)).filter fun k=>decide (∃s∈N.syns,keyM N s.frm=key∧cores[s.to.toNat]? =some k)
def homeM (N:Net)(cores:List Int)(key:Int):Int:=if key<N.ps.length then cores[key.toNat]?.getD 0 else 0
def srcTree (N:Net)(C:Chp)(cores:List Int)(key:Int):List Int:=treeM C.mesh.wide (nCores C) (homeM N cores key) (coresM N C cores key)
def keysM (N:Net):List Int:=((List.range (nSrc N)).map fun (k:Nat)=>(k:Int)).filter fun k=>decide (∃s∈N.syns,keyM N s.frm=k)
def costM (N:Net)(C:Chp)(cores:List Int):Nat:=((keysM N).map fun k=>linksM (srcTree N C cores k)).sum
end Go.Gm
