import Derived.Test.YtlbekjokdlkghaaGreatChipEnergiesYb
import Derived.Test.YtlbekjokdlkghaaGreatChipEnergiesNa
set_option linter.unusedVariables false
set_option linter.unusedSimpArgs false
set_option maxHeartbeats 4000000
section
namespace Go.Gm
open Go.Proofs
theorem spkF_range:∀(F:List (Sta×Bool)) (k:Nat) (x:Int),x∈spkFrom k F→(k:Int)≤x∧x<k+F.length
 |[],_,_,h=>by simp [spkFrom] at h
 |y::F,k,x,h=>by
  have ih:=spkF_range F (k+1) x
  unfold spkFrom at h
  rw [List.length_cons]
  split at h
  ·rcases List.mem_cons.1 h with rfl|h
   ·omega
   ·have:=ih h;omega
  ·have:=ih h;omega
theorem spkF_asc:∀(F:List (Sta×Bool)) (k:Nat),(spkFrom k F).Pairwise (· <·)
 |[],_=>by simp [spkFrom]
 |y::F,k=>by
  have ih:=spkF_asc F (k+1)
  unfold spkFrom
  split
  ·refine List.pairwise_cons.2 ⟨fun x hx=>?_,ih⟩
   have:=spkF_range F (k+1) x hx
   omega
  ·exact ih
theorem spkY_range {F:List (Sta×Bool)}{x:Int}(h:x∈spk F):0≤x∧x<F.length:=by
 have:=spkF_range F 0 x h
 omega
theorem ascY_nodup {l:List Int}(h:l.Pairwise (· <·)):l.Nodup:=h.imp fun h=>by omega
structure Wrk where
 ticks:Int
 updates:Int
 spikes:Int
 packets:Int
 hops:Int
 arrivals:Int
 rows:Int
 steps:Int
 most:Int
deriving DecidableEq
def wrk0:Wrk:=⟨0,0,0,0,0,0,0,0,0⟩
def qSyns (N:Net)(C:Chp):List Syn:=N.syns.map (synQ (scalesM N (halfM C.bits)))
def qNet (N:Net)(C:Chp):Net:=⟨N.ps,N.inputs,qSyns N C⟩
def stepsF (N:Net)(C:Chp)(cores:List Int):Nat:=stepsM C.mesh.wide (srcTree N C cores) (homeM N cores) (coresM N C cores) (wavesF N C cores)
def stT (N:Net)(C:Chp)(cores:List Int):Nat:=min (stepsF N C cores) 10000
def sendsM (N:Net)(spikes ins:List Int)(key:Int):Bool:=if key<N.ps.length then decide (key∈spikes) else decide (key - N.ps.length∈ins)
def lastOf (A:List (Nat×Nat×Nat)):Nat:=(A.map fun a=>a.2.2+1).foldl max 0
def hopsOf (N:Net)(C:Chp)(cores:List Int)(ks:List Int):Nat:=(ks.map fun k=>linksM (srcTree N C cores k)).sum
def addsTo (N:Net)(C:Chp)(cores:List Int)(L:List Syn)(sends:Int→Bool)(T w:Nat):List Syn:=(List.range w).flatMap fun i=>arrAdds N cores L (sndK N C cores sends i) (sndS N C cores sends T i).arr
def arrsTo (N:Net)(C:Chp)(cores:List Int)(sends:Int→Bool)(T w:Nat):Nat:=((List.range w).map fun i=>(sndS N C cores sends T i).arr.length).sum
def lastTo (N:Net)(C:Chp)(cores:List Int)(sends:Int→Bool)(T w:Nat):Nat:=((List.range w).map fun i=>lastOf (sndS N C cores sends T i).arr).sum
theorem addsTo_next (N:Net)(C:Chp)(cores:List Int)(L:List Syn)(sends:Int→Bool)(T w:Nat):addsTo N C cores L sends T (w+1)=addsTo N C cores L sends T w++arrAdds N cores L (sndK N C cores sends w) (sndS N C cores sends T w).arr:=by
 unfold addsTo
 rw [List.range_succ,List.flatMap_append,List.flatMap_singleton]
theorem arrsTo_next (N:Net)(C:Chp)(cores:List Int)(sends:Int→Bool)(T w:Nat):arrsTo N C cores sends T (w+1)=arrsTo N C cores sends T w+(sndS N C cores sends T w).arr.length:=by
 unfold arrsTo
 rw [List.range_succ,List.map_append,List.sum_append,List.map_singleton,List.sum_singleton]
theorem lastTo_next (N:Net)(C:Chp)(cores:List Int)(sends:Int→Bool)(T w:Nat):lastTo N C cores sends T (w+1)=lastTo N C cores sends T w+lastOf (sndS N C cores sends T w).arr:=by
 unfold lastTo
 rw [List.range_succ,List.map_append,List.sum_append,List.map_singleton,List.sum_singleton]
structure Mac where
 t:Nat
 cs:List CelM
 w:Wrk
def macAdds (N:Net)(C:Chp)(cores:List Int)(sends:Int→Bool):List Syn:=addsTo N C cores (qSyns N C) sends (stT N C cores) (wavesF N C cores).length
def macArrs (N:Net)(C:Chp)(cores:List Int)(sends:Int→Bool):Nat:=arrsTo N C cores sends (stT N C cores) (wavesF N C cores).length
def macLast (N:Net)(C:Chp)(cores:List Int)(sends:Int→Bool):Nat:=lastTo N C cores sends (stT N C cores) (wavesF N C cores).length
def macW (N:Net)(C:Chp)(cores:List Int)(w:Wrk)(n:Nat)(sends:Int→Bool):Wrk:=
 ⟨w.ticks+1,w.updates+N.ps.length,w.spikes+n,w.packets+((keysM N).filter sends).length,w.hops+hopsOf N C cores ((keysM N).filter sends),w.arrivals+macArrs N C cores sends,w.rows+(macAdds N C cores sends).length,w.steps+macLast N C cores sends,max w.most (macLast N C cores sends)⟩
def macSpk (m:Mac):List Int:=spk (cF m.t m.cs)
def macStep (N:Net)(C:Chp)(cores:List Int)(m:Mac)(ins:List Int):Mac:=
 ⟨m.t+1,(macAdds N C cores (sendsM N (macSpk m) ins)).foldl (cadd m.t) (cfire m.t m.cs),macW N C cores m.w (macSpk m).length (sendsM N (macSpk m) ins)⟩
section
variable {N : Net} {C : Chp} {cores : List Int}
theorem qSyns_mem {s:Syn}(h:s∈qSyns N C):∃x∈N.syns,x.frm=s.frm∧x.to=s.to∧x.dl=s.dl:=by
 obtain ⟨x,hx,rfl⟩:=List.mem_map.1 h
 exact ⟨x,hx,rfl,rfl,rfl⟩
theorem qSyns_to (hA:AsgOk N C cores):∀s∈qSyns N C,0≤s.to∧s.to<N.ps.length:=fun s hs=>by
 obtain ⟨x,hx,_,h2,_⟩:=qSyns_mem hs
 have:=(hA.plan.net.syns x hx).2.1
 omega
theorem qSyns_key:∀s∈qSyns N C,∃x∈N.syns,keyM N x.frm=keyM N s.frm∧x.to=s.to:=fun s hs=>by
 obtain ⟨x,hx,h1,h2,_⟩:=qSyns_mem hs
 exact ⟨x,hx,by rw [h1],h2⟩
theorem sum_geY {α:Type}{f:α→Nat}:∀{l:List α} {a:α},a∈l→f a≤(l.map f).sum
 |b::l,a,h=>by
  rw [List.map_cons,List.sum_cons]
  rcases List.mem_cons.1 h with rfl|h
  ·omega
  ·have:=sum_geY (f:=f) h;omega
theorem wv_pos (hA:AsgOk N C cores){w:Nat}(hw:w<(wavesF N C cores).length):1≤wvL N C cores w:=by
 obtain ⟨l,hl⟩:∃l,(wavesF N C cores)[w]? =some l:=⟨_,List.getElem?_eq_getElem hw⟩
 have hT:wvT N C cores w=l:=by unfold wvT;rw [hl];rfl
 have hmem:=List.mem_of_getElem? hl
 have hne:l≠[]:=wave_ne (keysM N) [] (by simp) l hmem
 obtain ⟨key,hk⟩:=List.exists_mem_of_ne_nil l hne
 have hkm:=waves_mem.1 ⟨l,hmem,hk⟩
 obtain ⟨t,ht⟩:=key_way hA hkm
 have hk0:=(keys_src hkm).1.1
 have htr:=core_range hA ht
 have hh:=(way_here hA hk0 (r:=t.toNat)).2 (by rw [Int.toNat_of_nonneg htr.1];exact ht)
 have h1:1≤cntM (l.map (srcTree N C cores)) (t,pow2 4):=by
  unfold cntM
  refine Nat.succ_le_of_lt (List.countP_pos_iff.2 ⟨srcTree N C cores key,List.mem_map.2 ⟨key,hk,rfl⟩,?_⟩)
  simpa using hh
 unfold wvL
 rw [hT]
 exact Nat.le_trans h1 ((mostM_is _).le _ ⟨htr.1,.inr (.inr (.inr (.inr rfl)))⟩)
theorem stT_ok (hA:AsgOk N C cores):∀w,w<(wavesF N C cores).length→(wvD N C cores w+1)*wvL N C cores w≤stT N C cores∧0<stT N C cores:=by
 intro w hw
 obtain ⟨l,hl⟩:∃l,(wavesF N C cores)[w]? =some l:=⟨_,List.getElem?_eq_getElem hw⟩
 have hT:wvT N C cores w=l:=by unfold wvT;rw [hl];rfl
 obtain ⟨_,h1,h2⟩:=wv_ok hA hw
 have h3:(wvD N C cores w+1)*wvL N C cores w≤15*64:=Nat.mul_le_mul (by omega) h1
 have h4:(wvD N C cores w+1)*wvL N C cores w≤stepsF N C cores:=by
  unfold stepsF stepsM wvD wvL
  rw [hT]
  exact sum_geY (f:=fun w=>(reachM C.mesh.wide (homeM N cores) (coresM N C cores) w+1)*mostM (w.map (srcTree N C cores))) (List.mem_of_getElem? hl)
 have h5:=wv_pos hA hw
 have h6:1*1≤(wvD N C cores w+1)*wvL N C cores w:=Nat.mul_le_mul (by omega) h5
 unfold stT
 omega
theorem sndT_done (hA:AsgOk N C cores)(sends:Int→Bool){w:Nat}(hw:w<(wavesF N C cores).length):RunDone (sndC N C cores sends w) (sndS N C cores sends (stT N C cores) w):=
 snd_done hA sends hw (stT_ok hA w hw).1 (stT_ok hA w hw).2
theorem snd_none (hA:AsgOk N C cores){sends:Int→Bool}{w:Nat}(hw:w<(wavesF N C cores).length)(h:sndK N C cores sends w=[]):(sndS N C cores sends (stT N C cores) w).arr=[]:=by
 have hd:=sndT_done hA sends hw
 cases e:(sndS N C cores sends (stT N C cores) w).arr with
 |nil=>rfl
 |cons a l=>
  obtain ⟨p,r,t⟩:=a
  have:=(hd.ar p r t (by rw [e];exact List.mem_cons_self)).1
  have hl:(sndC N C cores sends w).pk.length=(sndK N C cores sends w).length:=List.length_map _
  rw [hl,h] at this
  exact absurd this (by simp)
theorem to_rest (hA:AsgOk N C cores){L:List Syn}{sends:Int→Bool}{m:Nat}:∀(w:Nat),m≤w→w≤(wavesF N C cores).length→(∀v,m≤v→sndK N C cores sends v=[])→
  addsTo N C cores L sends (stT N C cores) w=addsTo N C cores L sends (stT N C cores) m∧arrsTo N C cores sends (stT N C cores) w=arrsTo N C cores sends (stT N C cores) m∧lastTo N C cores sends (stT N C cores) w=lastTo N C cores sends (stT N C cores) m
 |0,h1,_,_=>by
  have:m=0:=by omega
  subst this
  exact ⟨rfl,rfl,rfl⟩
 |w+1,h1,h2,h3=>by
  rcases Nat.lt_or_ge w m with h4|h4
  ·have:m=w+1:=by omega
   subst this
   exact ⟨rfl,rfl,rfl⟩
  ·obtain ⟨i1,i2,i3⟩:=to_rest hA (L:=L) w h4 (by omega) h3
   have h5:=snd_none hA (by omega:w<(wavesF N C cores).length) (h3 w h4)
   rw [addsTo_next,arrsTo_next,lastTo_next,i1,i2,i3,h5]
   exact ⟨by simp [arrAdds],rfl,rfl⟩
theorem sends_src (hA:AsgOk N C cores){spikes ins:List Int}(h1:∀x∈spikes,0≤x)(h2:∀x∈ins,0≤x):∀s∈qSyns N C,sendsM N spikes ins (keyM N s.frm)=true↔s.frm∈spikes++ins.map fun k=> -1 - k:=by
 intro s hs
 obtain ⟨x,hx,hf,_,_⟩:=qSyns_mem hs
 have hr:=(hA.plan.net.syns x hx).1
 unfold srcOk at hr
 rw [hf] at hr
 unfold sendsM keyM
 rw [List.mem_append,List.mem_map]
 by_cases h0:s.frm<0
 ·rw [if_pos h0,if_neg (by omega),decide_eq_true_eq]
  constructor
  ·intro h;exact .inr ⟨_,h,by omega⟩
  ·rintro (h|⟨k,h,hk⟩)
   ·have:=h1 _ h;omega
   ·rw [show (N.ps.length:Int) - 1 - s.frm - N.ps.length=k by omega];exact h
 ·rw [if_neg h0,if_pos (by omega),decide_eq_true_eq]
  constructor
  ·intro h;exact .inl h
  ·rintro (h|⟨k,h,hk⟩)
   ·exact h
   ·have:=h2 _ h;omega
theorem macAdds_perm (hA:AsgOk N C cores){spikes ins:List Int}(hs:spikes.Pairwise (· <·))(hi:ins.Pairwise (· <·))(h1:∀x∈spikes,0≤x)(h2:∀x∈ins,0≤x):(macAdds N C cores (sendsM N spikes ins)).Perm (yields (wire (qSyns N C)) (spikes++ins.map fun k=> -1 - k)):=by
 have hn:(spikes++ins.map fun k=> -1 - k).Nodup:=by
  rw [List.nodup_append]
  refine ⟨ascY_nodup hs,List.Pairwise.map _ (fun a b h e=>?_) hi,?_⟩
  ·omega
  ·rintro a ha b hb rfl
   obtain ⟨k,hk,he⟩:=List.mem_map.1 hb
   have:=h1 _ ha
   have:=h2 _ hk
   omega
 by_cases hw:(wavesF N C cores).length=0
 ·have hks:keysM N=[]:=by
   cases hk:keysM N with
   |nil=>rfl
   |cons k l=>
    obtain ⟨a,ha,_⟩:=(waves_mem (N:=N) (C:=C) (cores:=cores) (key:=k)).2 (by rw [hk];exact List.mem_cons_self)
    rw [List.length_eq_zero_iff.1 hw] at ha
    cases ha
  have hno:qSyns N C=[]:=by
   cases hq:qSyns N C with
   |nil=>rfl
   |cons s l=>
    exfalso
    obtain ⟨x,hx,_,_⟩:=qSyns_mem (C:=C) (s:=s) (by rw [hq];exact List.mem_cons_self)
    have hr:=key_range hA.plan.net hx
    have:keyM N x.frm∈keysM N:=by
     unfold keysM
     rw [List.mem_filter,decide_eq_true_eq]
     exact ⟨List.mem_map.2 ⟨(keyM N x.frm).toNat,List.mem_range.2 (by omega),by omega⟩,x,hx,rfl⟩
    rw [hks] at this
    cases this
  have h3:macAdds N C cores (sendsM N spikes ins)=[]:=by
   unfold macAdds addsTo
   rw [hw];rfl
  rw [h3,hno]
  refine List.Perm.of_eq ?_
  have:∀l:List Int,yields (wire []) l=[]:=fun l=>by
   unfold yields
   rw [List.flatMap_eq_nil_iff]
   intro x _
   rfl
  rw [this]
 ·exact tickAdds_perm hA (qSyns_to hA) qSyns_key _ (fun w hw=>(stT_ok hA w hw).1) (stT_ok hA 0 (by omega)).2 hn (sends_src hA h1 h2)
structure MacOk (N:Net) (m:Mac):Prop where
 ps:m.cs.map (·.p)=N.ps
 due:Due16 m.cs
 ids:∀(i:Nat) (c:CelM),m.cs[i]? =some c→c.id=(i:Int)
theorem MacOk.len {m:Mac}(h:MacOk N m):m.cs.length=N.ps.length:=by rw [←h.ps,List.length_map]
theorem cs_ps {t:Nat}{cs:List CelM}(l:List Syn):(l.foldl (cadd t) cs).map (·.p)=cs.map (·.p):=by
 induction l generalizing cs with
 |nil=>rfl
 |cons s l ih=>
  rw [List.foldl_cons,ih]
  unfold cadd
  apply List.ext_getElem?
  intro i
  rw [List.getElem?_map,List.getElem?_modify,List.getElem?_map]
  cases cs[i]? with
  |none=>rfl
  |some d=>by_cases h1:s.to.toNat=i<;>simp [h1,cadd1]
theorem cs_id {t:Nat}{cs:List CelM}(l:List Syn):(l.foldl (cadd t) cs).map (·.id)=cs.map (·.id):=by
 induction l generalizing cs with
 |nil=>rfl
 |cons s l ih=>
  rw [List.foldl_cons,ih]
  unfold cadd
  apply List.ext_getElem?
  intro i
  rw [List.getElem?_map,List.getElem?_modify,List.getElem?_map]
  cases cs[i]? with
  |none=>rfl
  |some d=>by_cases h1:s.to.toNat=i<;>simp [h1,cadd1]
theorem cs_b {t:Nat}{cs:List CelM}(l:List Syn):(l.foldl (cadd t) cs).map (·.b)=cs.map (·.b):=by
 induction l generalizing cs with
 |nil=>rfl
 |cons s l ih=>
  rw [List.foldl_cons,ih]
  unfold cadd
  apply List.ext_getElem?
  intro i
  rw [List.getElem?_map,List.getElem?_modify,List.getElem?_map]
  cases cs[i]? with
  |none=>rfl
  |some d=>by_cases h1:s.to.toNat=i<;>simp [h1,cadd1]
theorem cs_z {t:Nat}{cs:List CelM}(l:List Syn):(l.foldl (cadd t) cs).map (·.z)=cs.map (·.z):=by
 induction l generalizing cs with
 |nil=>rfl
 |cons s l ih=>
  rw [List.foldl_cons,ih]
  unfold cadd
  apply List.ext_getElem?
  intro i
  rw [List.getElem?_map,List.getElem?_modify,List.getElem?_map]
  cases cs[i]? with
  |none=>rfl
  |some d=>by_cases h1:s.to.toNat=i<;>simp [h1,cadd1]
theorem MacOk.step {m:Mac}(h:MacOk N m)(C:Chp)(cores ins:List Int):MacOk N (macStep N C cores m ins):=by
 refine ⟨?_,cadds_due _ (cfire_due h.due),fun i c hc=>?_⟩
 rotate_left
 ·have h1:=cs_id (t:=m.t) (macAdds N C cores (sendsM N (macSpk m) ins)) (cs:=cfire m.t m.cs)
  have h2:=congrArg (fun l=>l[i]?) h1
  simp only [cfire,List.getElem?_map,List.map_map] at h2
  have h3:((macAdds N C cores (sendsM N (macSpk m) ins)).foldl (cadd m.t) (m.cs.map (cfire1 m.t)))[i]? =some c:=hc
  rw [h3] at h2
  cases hd:m.cs[i]? with
  |none=>rw [hd] at h2;cases h2
  |some d=>
   rw [hd] at h2
   have h4:=h.ids i d hd
   simp only [Option.map_some,Option.some.injEq,Function.comp,cfire1] at h2
   rw [h2,h4]
 show ((macAdds N C cores (sendsM N (macSpk m) ins)).foldl (cadd m.t) (cfire m.t m.cs)).map (·.p)=N.ps
 rw [cs_ps,←h.ps]
 unfold cfire
 rw [List.map_map]
 rfl
theorem macSpk_eq {m:Mac}(h:MacOk N m):macSpk m=ringSpk (qNet N C) m.t (smC m.cs):=by
 unfold macSpk ringSpk cF
 rw [smC_get _ (Nat.mod_lt _ (by omega)),h.ps]
 rfl
theorem macSpk_range {m:Mac}(h:MacOk N m){x:Int}(hx:x∈macSpk m):0≤x∧x<N.ps.length:=by
 have:=spkY_range hx
 rw [cF_len,h.len] at this
 exact this
theorem mac_ring (hA:AsgOk N C cores){m:Mac}(h:MacOk N m){ins:List Int}(hi:ins.Pairwise (· <·))(h2:∀x∈ins,0≤x):smC (macStep N C cores m ins).cs=ringStep (qNet N C) m.t (smC m.cs) ins:=by
 show smC ((macAdds N C cores (sendsM N (macSpk m) ins)).foldl (cadd m.t) (cfire m.t m.cs))=_
 rw [smC_cadds _ (cfire_due h.due),smC_cfire h.due,due_perm m.t (macAdds_perm hA (spikes:=macSpk m) (spkF_asc _ 0) hi (fun x hx=>(macSpk_range h hx).1) h2)]
 unfold ringStep
 have e1:fire (qNet N C).ps (smC m.cs).sts ((smC m.cs).D[m.t%16]?.getD [])=cF m.t m.cs:=by
  rw [smC_get _ (Nat.mod_lt _ (by omega))]
  unfold cF
  rw [h.ps];rfl
 rw [e1]
 rfl
end
end Go.Gm
end

section
namespace Go.Proofs
open Go Go.Vx Go.Gm
structure SlD (α:Type) where
 p:Option Addr
 c:Nat
 l:List α
def slV {α:Type}(d:SlD α):Value:=.slice d.p d.l.length d.c
def slVs {α:Type}(d:SlD α):List Value:=[slV d]
def cat {α:Type}(Ls:List (SlD α)):List α:=Ls.flatMap (·.l)
theorem cat_next {α:Type}{Ls:List (SlD α)}{i:Nat}{d:SlD α}(h:Ls[i]? =some d):cat (Ls.take (i+1))=cat (Ls.take i)++d.l:=by
 unfold cat
 rw [List.take_add_one,h,Option.toList_some,List.flatMap_append]
 simp
theorem cat_take_le {α:Type}(Ls:List (SlD α))(i:Nat):(cat (Ls.take i)).length≤(cat Ls).length:=by
 have:cat Ls=cat (Ls.take i)++cat (Ls.drop i):=by unfold cat;rw [←List.flatMap_append,List.take_append_drop]
 rw [this,List.length_append]
 omega
theorem concatInt_any (Ls:List (SlD Int))(hn:Ls.length≤1000)(hsz:(cat Ls).length≤1000000)(pp:Option Addr)(cc bb oo:Nat)(w:World)(hc:Sl w slVs 1 Ls pp Ls.length bb oo)(hs:∀d∈Ls,∃b off,Sl w intV 1 d.l d.p d.l.length b off):
  Calls Tryz.prog 52 #[.slice pp Ls.length cc] w fun e w'=>∃y:Option Addr×Nat,e=.returned (.slice y.1 (cat Ls).length y.2)∧(0<(cat Ls).length→∃g,y.1=some ⟨g,0,none⟩)∧St w [] [.vec y.1 (cat Ls).length y.2 3 1 (flat intV (cat Ls))] w':=by
 refine enter (C:=Tryz.cx) (F:=Tryz.fx52) (args:=[_]) Tryz.func52 rfl rfl rfl Tryz.ok52 (St.start w []) ?_
 repeat' (conv=>whnf);first|refine VSeq.go ?_|refine oN fun _=>?_
 all_goals (conv=>whnf)
 refine VLoop.kr (α:=Nat) [1000000,0,2,9,10] rfl (fun i=>i≤Ls.length) (fun i K=>(11,.int .i64 (i:Int))::(3,.int .i64 ((cat (Ls.take i)).length:Int))::K) (fun _=>[]) (fun i=>Ls.length - i) 0 qZ aE aH ?_
 intro i hi
 rcases Nat.lt_or_ge i Ls.length with hlt|hge
 ·obtain ⟨d,hd⟩:=hc.get hlt
  have hnx:=cat_next hd
  have hle:=cat_take_le Ls (i+1)
  rw [hnx,List.length_append] at hle
  repeat' (conv=>whnf);first|(refine VIx.is ?_;refine VIx.mk (hc.ptr qZ) qZ qZ ?_)|(refine VLd.is ?_;refine VLd.mk (Rd.cast (hc.rd0 (by simp) (fun _=>rfl) hd rfl) oE) ?_)|refine VSeq.go ?_|refine oY fun _=>?_|refine oN fun _=>?_|refine oA ?_
  all_goals (conv=>whnf)
  refine VNext.mk (i+1) qZ qZ ?_ aH
  rw [hnx,List.length_append]
  exact aE
 ·rw [List.take_of_length_le hge]
  by_cases h0:(cat Ls).length=0
  ·have hall:∀i,cat (Ls.take i)=[]:=fun i=>List.eq_nil_of_length_eq_zero (by have:=cat_take_le Ls i;omega)
   repeat' (conv=>whnf);first|(refine VCall.isF 107 ?_;refine VCall.inl (F:=Tryz.fx107) Tryz.func107 rfl rfl rfl Tryz.ok107 ?_)|refine VSeq.go ?_|refine oN fun _=>?_|refine oA ?_
   all_goals (conv=>whnf)
   refine VLoop.kr (α:=Nat×Option Addr×Nat) [1000000,2,25,26] rfl (fun y=>y.1≤Ls.length) (fun y K=>(27,.int .i64 (y.1:Int))::(6,.slice y.2.1 (cat (Ls.take y.1)).length y.2.2)::K)
    (fun y=>[.vec y.2.1 (cat (Ls.take y.1)).length y.2.2 3 1 (flat intV (cat (Ls.take y.1)))]) (fun y=>Ls.length - y.1) (0,none,0) (by simp) aE aH ?_
   rintro ⟨j,p,cap⟩ hj
   dsimp only at hj ⊢
   rcases Nat.lt_or_ge j Ls.length with hltj|hgej
   ·obtain ⟨d,hd⟩:=hc.get hltj
    obtain ⟨b1,o1,hsl⟩:=hs d (List.mem_of_getElem? hd)
    have hnx:=cat_next hd
    have hle:=cat_take_le Ls (j+1)
    rw [hnx,List.length_append] at hle
    repeat' (conv=>whnf);first|(refine VIx.is ?_;refine VIx.mk (hc.ptr qZ) qZ qZ ?_)|(refine VLd.is ?_;refine VLd.mk (Rd.cast (hc.rd0 (by simp) (fun _=>rfl) hd rfl) oE) ?_)|(refine VAp.is ?_;refine VAp.own (p:=p) aT (hsl.src (by simp) (fun _=>rfl)) (flat_one_cell (by simp [intV,Value.oneCell'])) (by (try dsimp only);omega) (by simp only [maxLen];omega) fun p' cap' hp'=>?_)|refine VSeq.go ?_|refine oY fun _=>?_|refine oA ?_
    all_goals (conv=>whnf)
    refine VNext.mk (j+1,p',cap') (by dsimp only;omega) (by dsimp only;omega) ?_ ?_
    ·dsimp only;rw [hnx,List.length_append];exact aE
    ·dsimp only;rw [hnx,List.length_append,flat_append];exact aH
   ·rw [List.take_of_length_le hgej]
    repeat' (conv=>whnf);first|refine VSeq.go ?_|refine oN fun _=>?_
    all_goals (conv=>whnf)
    exact ⟨fun w' hw'=>⟨(p,cap),rfl,fun h=>by omega,hw'.le aH⟩⟩
  ·have hz:=flat_rep (f:=intV) (x:=(0:Int)) (cat Ls).length
   repeat' (conv=>whnf);first|(refine VCall.isF 107 ?_;refine VCall.inl (F:=Tryz.fx107) Tryz.func107 rfl rfl rfl Tryz.ok107 ?_)|(refine VSl.is ?_;refine VSl.cut0 (m:=0) (cap:=0) qZ ?_)|(refine VApZ.is ?_;refine VApZ.nil (m:=(cat Ls).length) rfl rfl rfl qZ qZ (by (try dsimp only);omega) (by simp only [maxLen];omega) fun b cap' hcap=>?_)|(refine VSl.is ?_;refine VSl.cut0 (m:=0) (cap:=cap') qZ ?_)|refine VSeq.go ?_|refine oY fun _=>?_|refine oN fun _=>?_|refine oA ?_
   all_goals (conv=>whnf)
   refine VLoop.krL (α:=Nat×Option Addr×Nat) [1000000,2,25,26] rfl (fun y=>y.1≤Ls.length) (fun y K=>(27,.int .i64 (y.1:Int))::(6,.slice y.2.1 (cat (Ls.take y.1)).length y.2.2)::K)
    (fun y=>[.vec y.2.1 (cat (Ls.take y.1)).length y.2.2 3 1 (flat intV (cat (Ls.take y.1)))]) (fun y=>Ls.length - y.1) (0,some ⟨b,0,none⟩,cap') (fun y=>0<(cat (Ls.take y.1)).length→∃g,y.2.1=some ⟨g,0,none⟩) (fun y _ w hw=>(vec_facts (hw _ (List.mem_cons_self ..))).2.1) (by simp) aE ?_ ?_
   ·have:=HLe.shr (f:=intV) (k:=1) (l:=List.replicate (cat Ls).length (0:Int)) (p:=some ⟨b,0,none⟩) (n:=(cat Ls).length) (m:=0) (cap:=cap') (e:=3) (H:=[.vec (some ⟨b,0,none⟩) (cat Ls).length cap' 3 1 (flat intV (List.replicate (cat Ls).length (0:Int)))]) (H':=[]) .here (fun _=>rfl) (by simp) qZ .nil
    rw [←hz] at this
    exact this
   rintro ⟨j,p,cap⟩ hj hptr
   dsimp only at hj hptr ⊢
   rcases Nat.lt_or_ge j Ls.length with hltj|hgej
   ·obtain ⟨d,hd⟩:=hc.get hltj
    obtain ⟨b1,o1,hsl⟩:=hs d (List.mem_of_getElem? hd)
    have hnx:=cat_next hd
    have hle:=cat_take_le Ls (j+1)
    rw [hnx,List.length_append] at hle
    repeat' (conv=>whnf);first|(refine VIx.is ?_;refine VIx.mk (hc.ptr qZ) qZ qZ ?_)|(refine VLd.is ?_;refine VLd.mk (Rd.cast (hc.rd0 (by simp) (fun _=>rfl) hd rfl) oE) ?_)|(refine VAp.is ?_;refine VAp.own (p:=p) aT (hsl.src (by simp) (fun _=>rfl)) (flat_one_cell (by simp [intV,Value.oneCell'])) (by (try dsimp only);omega) (by simp only [maxLen];omega) fun p' cap' hp'=>?_)|refine VSeq.go ?_|refine oY fun _=>?_|refine oA ?_
    all_goals (conv=>whnf)
    refine VNext.mk (j+1,p',cap') (by dsimp only;omega) (by dsimp only;omega) ?_ ?_
    ·dsimp only;rw [hnx,List.length_append];exact aE
    ·dsimp only;rw [hnx,List.length_append,flat_append];exact aH
   ·rw [List.take_of_length_le hgej] at hptr ⊢
    repeat' (conv=>whnf);first|refine VSeq.go ?_|refine oN fun _=>?_
    all_goals (conv=>whnf)
    exact ⟨fun w' hw'=>⟨(p,cap),rfl,hptr,hw'.le aH⟩⟩
end Go.Proofs
end
