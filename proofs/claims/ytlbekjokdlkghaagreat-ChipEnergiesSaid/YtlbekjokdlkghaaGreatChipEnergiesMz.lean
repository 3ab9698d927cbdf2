import Derived.Test.YtlbekjokdlkghaaGreatChipEnergiesRul
import Derived.Test.YtlbekjokdlkghaaGreatChipEnergiesRuh
import Derived.Test.YtlbekjokdlkghaaGreatChipEnergiesPb
import Derived.Test.YtlbekjokdlkghaaGreatChipEnergiesPg
import Derived.Test.YtlbekjokdlkghaaGreatChipEnergiesNa
set_option linter.unusedVariables false
set_option linter.unusedSimpArgs false
set_option maxHeartbeats 4000000
section
namespace Go.Gm
theorem band_all {key:Int}(h:0≤key∧key≤65535):band key 65535=key:=by
 unfold band
 have e:(65535:Int).toNat=2 ^ 16 - 1:=rfl
 rw [e,Nat.and_two_pow_sub_one_eq_mod]
 omega
theorem find_table {T:Int→List Int}{r:Nat}{key:Int}(hk:0≤key∧key≤65535)(h0:(T key)[r]?.getD 0≠0):∀{keys:List Int},key∈keys→findE (tableM T keys r) key=some ((T key)[r]?.getD 0)
 |[],h=>by simp at h
 |a::l,h=>by
  by_cases ha:a=key
  ·subst ha
   have e:etyAt T r a=some ⟨a,65535,(T a)[r]?.getD 0⟩:=by unfold etyAt;dsimp only;rw [if_neg h0]
   unfold tableM findE
   rw [List.filterMap_cons,e]
   dsimp only
   rw [List.find?_cons_of_pos (by rw [decide_eq_true_eq];exact band_all hk)]
   rfl
  ·have hl:key∈l:=(List.mem_cons.1 h).resolve_left (fun e=>ha e.symm)
   have ih:=find_table hk h0 hl
   unfold tableM at ih ⊢
   rw [List.filterMap_cons]
   cases he:etyAt T r a with
   |none=>exact ih
   |some x=>
    have hx:=(etyAt_some he).1
    unfold findE at ih ⊢
    dsimp only
    rw [List.find?_cons_of_neg (by rw [hx,decide_eq_true_eq,band_all hk];exact fun e=>ha e.symm)]
    exact ih
theorem mergeF_good {want:List Ety}{keys:List Int}:∀(n:Nat) (l:List Ety),(∀x∈l,EtyOk x)→sameE want l keys=true→(∀x∈mergeF want keys n l,EtyOk x)∧sameE want (mergeF want keys n l) keys=true
 |0,l,h1,h2=>⟨h1,h2⟩
 |n+1,l,h1,h2=>by
  unfold mergeF
  cases h:mergeStep want l keys with
  |none=>exact ⟨h1,h2⟩
  |some t=>
   obtain ⟨h3,h4⟩:=mergeStep_ok h1 h
   exact mergeF_good n t h3 h4
theorem tabF_good {T:Int→List Int}(hT:∀k,OutsOk (T k)){keys:List Int}(hk:∀k∈keys,0≤k∧k≤65535)(en:Int)(r:Nat):(∀x∈tabF T keys en r,EtyOk x)∧∀key∈keys,(T key)[r]?.getD 0≠0→findE (tabF T keys en r) key=some ((T key)[r]?.getD 0):=by
 have h1:=table_ok hT hk r
 unfold tabF
 split
 ·exact ⟨h1,fun key hm h0=>find_table (hk key hm) h0 hm⟩
 ·obtain ⟨h2,h3⟩:=mergeF_good (want:=tableM T keys r) (keys:=(tableM T keys r).map (·.key)) (tableM T keys r).length _ h1 (sameE_refl _ _)
  refine ⟨h2,fun key hm h0=>?_⟩
  unfold sameE at h3
  rw [List.all_eq_true] at h3
  have h4:=h3 key (by rw [table_keys,List.mem_filter];exact ⟨hm,by rw [decide_eq_true_eq];exact h0⟩)
  rw [decide_eq_true_eq] at h4
  unfold mergeM
  rw [←h4]
  exact find_table (hk key hm) h0 hm
theorem rte_end {W:Int}(hW:0<W){t:Int}:∀(n:Nat) (r:Int),distM W r t=n→t∈rte W r t
 |0,r,hn=>by
  have:r=t:=(dist_zero hW).1 hn
  subst this
  rw [rte_self W r hW];exact List.mem_cons_self
 |n+1,r,hn=>by
  have hne:r≠t:=fun h=>by rw [(dist_zero hW).2 h] at hn;omega
  have hd:=dist_step hW hne
  rw [rte_step hW hne]
  exact List.mem_cons_of_mem _ (rte_end hW n _ (by omega))
theorem bit_some {x:Int}(h:0≤x∧x<32)(h0:x≠0):∃o,o<5∧hasB x (pow2 o):=by
 have key:∀n:Nat,n<32→n≠0→∃o:Nat,o<5∧n&&&2 ^ o≠0:=by decide
 obtain ⟨o,h1,h2⟩:=key x.toNat (by omega) (by omega)
 exact ⟨o,h1,by unfold hasB pow2;rw [Int.toNat_natCast];exact h2⟩
theorem turn_pow (W r t:Int):∃o,o<5∧turnM W r t=pow2 o:=by
 rcases turn_cases W r t with h|h|h|h|h
 ·exact ⟨0,by omega,h⟩
 ·exact ⟨1,by omega,h⟩
 ·exact ⟨2,by omega,h⟩
 ·exact ⟨3,by omega,h⟩
 ·exact ⟨4,by omega,h⟩
def wayCtx (N:Net)(C:Chp)(cores:List Int)(ks:List Int)(L:Nat):RCtx:=
 ⟨C.mesh,nCores C,tablesF N C cores,ks.map fun k=>⟨(homeM N cores k).toNat,k⟩,L,fun p r=>(srcTree N C cores (ks[p]?.getD 0))[r]?.getD 0,fun p r=>distM C.mesh.wide (homeM N cores (ks[p]?.getD 0)) (r:Int)⟩
section
variable {N : Net} {C : Chp} {cores : List Int} {ks : List Int} {L : Nat}
theorem way_has (hA:AsgOk N C cores){key:Int}(hk:0≤key){r o:Nat}(ho:o<5):hasB ((srcTree N C cores key)[r]?.getD 0) (pow2 o)↔∃t∈coresM N C cores key,(r:Int)∈rte C.mesh.wide (homeM N cores key) t∧turnM C.mesh.wide (r:Int) t=pow2 o:=by
 have hn:=nCores_ok hA.plan.chip
 have hh:=home_range hA key hk
 have hw:=hA.plan.chip.mesh.wide
 have h:=tree_has (W:=C.mesh.wide) (H:=C.mesh.high) (src:=homeM N cores key) (by omega) (by omega) (pow_isOut ho) (q:=(r:Int)) (by omega) (ts:=coresM N C cores key) (fun t ht=>by have:=(mem_coresM.1 ht).1;omega)
 unfold hasR at h
 rw [Int.toNat_natCast] at h
 exact h
theorem way_nz (hA:AsgOk N C cores){key:Int}(hk:0≤key){r:Nat}:(srcTree N C cores key)[r]?.getD 0≠0↔∃t∈coresM N C cores key,(r:Int)∈rte C.mesh.wide (homeM N cores key) t:=by
 have hok:OutsOk (srcTree N C cores key):=tree_ok _ _ _ _
 constructor
 ·intro h0
  have hx:0≤(srcTree N C cores key)[r]?.getD 0∧(srcTree N C cores key)[r]?.getD 0<32:=by
   cases h:(srcTree N C cores key)[r]? with
   |none=>rw [h] at h0;exact absurd rfl h0
   |some x=>exact hok x (List.mem_of_getElem? h)
  obtain ⟨o,h1,h2⟩:=bit_some hx h0
  obtain ⟨t,h3,h4,_⟩:=(way_has hA hk h1).1 h2
  exact ⟨t,h3,h4⟩
 ·rintro ⟨t,h3,h4⟩ h0
  obtain ⟨o,h1,h2⟩:=turn_pow C.mesh.wide (r:Int) t
  have:=(way_has hA hk h1).2 ⟨t,h3,h4,h2⟩
  rw [h0] at this
  exact hasB_zero _ this
theorem next_inj {W a b:Int}{o:Nat}(ho:o<4)(h:nextM W a (pow2 o)=nextM W b (pow2 o)):a=b:=by
 have h4:o=0∨o=1∨o=2∨o=3:=by omega
 rcases h4 with rfl|rfl|rfl|rfl
 ·have e:pow2 0=1:=rfl
  rw [e] at h
  unfold nextM at h
  rw [if_pos rfl,if_pos rfl] at h
  omega
 ·have e:pow2 1=2:=rfl
  rw [e] at h
  unfold nextM at h
  rw [if_neg (by omega),if_pos rfl,if_neg (by omega),if_pos rfl] at h
  omega
 ·have e:pow2 2=4:=rfl
  rw [e] at h
  unfold nextM at h
  rw [if_neg (by omega),if_neg (by omega),if_pos rfl,if_neg (by omega),if_neg (by omega),if_pos rfl] at h
  omega
 ·have e:pow2 3=8:=rfl
  rw [e] at h
  unfold nextM at h
  rw [if_neg (by omega),if_neg (by omega),if_neg (by omega),if_pos rfl,if_neg (by omega),if_neg (by omega),if_neg (by omega),if_pos rfl] at h
  omega
theorem countP_get {l:List Int}{P:Int→Bool}:(List.range l.length).countP (fun p=>P (l[p]?.getD 0))=l.countP P:=by
 have h:(List.range l.length).map (fun p=>l[p]?.getD 0)=l:=by
  apply List.ext_getElem?
  intro i
  rw [List.getElem?_map]
  rcases Nat.lt_or_ge i l.length with hi|hi
  ·rw [List.getElem?_range hi,Option.map_some,List.getElem?_eq_getElem hi,Option.getD_some]
  ·rw [List.getElem?_eq_none (by rw [List.length_range];exact hi),List.getElem?_eq_none hi];rfl
 conv=>rhs;rw [←h]
 rw [List.countP_map]
 rfl
theorem keys_src {key:Int}(h:key∈keysM N):(0≤key∧key<nSrc N)∧∃s∈N.syns,keyM N s.frm=key:=by
 unfold keysM at h
 rw [List.mem_filter,decide_eq_true_eq] at h
 obtain ⟨h1,h2⟩:=h
 obtain ⟨k,hk,rfl⟩:=List.mem_map.1 h1
 rw [List.mem_range] at hk
 exact ⟨⟨by omega,by omega⟩,h2⟩
theorem key_way (hA:AsgOk N C cores){key:Int}(h:key∈keysM N):∃t,t∈coresM N C cores key:=by
 obtain ⟨_,s,hs,hk⟩:=keys_src h
 obtain ⟨d,h1,h2⟩:=core_of hA hs
 exact ⟨d,mem_coresM.2 ⟨h2,s,hs,hk,h1⟩⟩
theorem way_ok (hA:AsgOk N C cores)(hks:∀k∈ks,k∈keysM N)(hload:∀r o,o<5→cntM (ks.map (srcTree N C cores)) ((r:Nat),pow2 o)≤L)(hroom:(L:Int)≤C.mesh.room):RCtxOk (wayCtx N C cores ks L):=by
 have hn:=nCores_ok hA.plan.chip
 have hw:=hA.plan.chip.mesh.wide
 have hlen:(wayCtx N C cores ks L).pk.length=ks.length:=List.length_map _
 have hkey:∀p,p<ks.length→ks[p]?.getD 0∈keysM N:=fun p hp=>hks _ (by rw [List.getElem?_eq_getElem hp];exact List.getElem_mem _)
 have hk0:∀p,p<ks.length→0≤ks[p]?.getD 0:=fun p hp=>(keys_src (hkey p hp)).1.1
 have hhome:∀p,p<ks.length→0≤homeM N cores (ks[p]?.getD 0)∧homeM N cores (ks[p]?.getD 0)<C.mesh.wide*C.mesh.high:=fun p hp=>by have:=home_range hA _ (hk0 p hp);omega
 have hsrc:∀p,p<ks.length→((wayCtx N C cores ks L).src p:Int)=homeM N cores (ks[p]?.getD 0):=fun p hp=>by
  have:=(hhome p hp).1
  unfold RCtx.src wayCtx
  dsimp only
  rw [List.getElem?_map,List.getElem?_eq_getElem hp] at*
  simp only [Option.map_some,Option.getD_some] at*
  omega
 have htg:∀{key t},t∈coresM N C cores key→0≤t∧t<C.mesh.wide*C.mesh.high:=fun ht=>by have:=(mem_coresM.1 ht).1;omega
 -- a step
 have hstep:∀p r o,p<ks.length→r<nCores C→o<4→(wayCtx N C cores ks L).has p r o→∃t∈coresM N C cores (ks[p]?.getD 0),(r:Int)∈rte C.mesh.wide (homeM N cores (ks[p]?.getD 0)) t∧turnM C.mesh.wide (r:Int) t=pow2 o∧
   WayStep C.mesh.wide (homeM N cores (ks[p]?.getD 0)) (r:Int) (nextM C.mesh.wide (r:Int) (pow2 o)) o∧(r:Int)≠t∧(((wayCtx N C cores ks L).nx r o:Nat):Int)=nextM C.mesh.wide (r:Int) (pow2 o)∧nextM C.mesh.wide (r:Int) (pow2 o)<C.mesh.wide*C.mesh.high:=by
  intro p r o hp hr ho hh
  obtain ⟨t,h1,h2,h3⟩:=(way_has hA (hk0 p hp) (by omega)).1 hh
  obtain ⟨h4,h5⟩:=way_step (by omega) h2 ho h3
  have h6:=step_range (W:=C.mesh.wide) (H:=C.mesh.high) (r:=(r:Int)) (t:=t) (by omega) (by omega) (htg h1)
  rw [h3] at h6
  refine ⟨t,h1,h2,h3,h4,h5,?_,h6.2⟩
  show ((nextM C.mesh.wide (r:Int) (pow2 o)).toNat:Int)=_
  omega
 refine ⟨?_,?_,?_,?_,?_,?_,hroom⟩
 ·intro p r hp hr ho
  rw [hlen] at hp
  have hg:=tabF_good (T:=srcTree N C cores) (fun k=>tree_ok _ _ _ _) (keys:=keysM N) (fun k hk=>by have:=(keys_src hk).1;have:=hA.plan.few;have hi:=hA.plan.net.inputs;unfold nSrc at*;omega) C.en r
  have e1:((wayCtx N C cores ks L).tabs[r]?).getD []=tabF (srcTree N C cores) (keysM N) C.en r:=by
   show ((tablesF N C cores)[r]?).getD []=_
   unfold tablesF
   rw [List.getElem?_map,List.getElem?_range (show r<nCores C from hr)]
   rfl
  have e2:((wayCtx N C cores ks L).pk[p]?.map (·.key)).getD 0=ks[p]?.getD 0:=by
   show ((ks.map fun k=>(⟨(homeM N cores k).toNat,k⟩:Pkt))[p]?.map (·.key)).getD 0=_
   rw [List.getElem?_map,List.getElem?_eq_getElem hp]
   rfl
  rw [e1,e2]
  exact hg.2 _ (hkey p hp) ho
 ·intro p hp
  rw [hlen] at hp
  have h1:=hsrc p hp
  have h2:=hhome p hp
  obtain ⟨t,ht⟩:=key_way hA (hkey p hp)
  refine ⟨by show _<nCores C;omega,?_,?_⟩
  ·refine (way_nz hA (hk0 p hp)).2 ⟨t,ht,?_⟩
   rw [h1]
   obtain ⟨l,hl⟩:=rte_head (W:=C.mesh.wide) (r:=homeM N cores (ks[p]?.getD 0)) (t:=t) (by omega)
   rw [hl];exact List.mem_cons_self
  ·show distM C.mesh.wide _ ((wayCtx N C cores ks L).src p:Int)=0
   rw [h1]
   exact (dist_zero (by omega)).2 rfl
 ·intro p r o hp hr ho hh
  rw [hlen] at hp
  obtain ⟨t,h1,h2,h3,h4,h5,h6,h7⟩:=hstep p r o hp hr ho hh
  have h8:=h4.dist
  have h9:=lead_turn (W:=C.mesh.wide) (H:=C.mesh.high) (r:=(r:Int)) (t:=t) (by omega) (by have:r<nCores C:=hr;omega) (htg h1)
  rw [h3] at h9
  refine ⟨h9,?_,?_,?_,?_⟩
  ·show (wayCtx N C cores ks L).nx r o<nCores C
   omega
  ·refine (way_nz hA (hk0 p hp)).2 ⟨t,h1,?_⟩
   rw [h6,←h3]
   exact rte_next (by omega) _ _ rfl h2 h5
  ·show distM C.mesh.wide _ ((wayCtx N C cores ks L).nx r o:Int)=distM C.mesh.wide _ (r:Int)+1
   rw [h6];exact h8.1
  ·intro h
   refine h8.2 ?_
   rw [←h6,h]
   exact hsrc p hp
 ·intro p r1 o1 r2 o2 hp hr1 hr2 ho1 ho2 hh1 hh2 he
  rw [hlen] at hp
  obtain ⟨t1,a1,a2,a3,a4,a5,a6,a7⟩:=hstep p r1 o1 hp hr1 ho1 hh1
  obtain ⟨t2,b1,b2,b3,b4,b5,b6,b7⟩:=hstep p r2 o2 hp hr2 ho2 hh2
  rw [←a6] at a4
  rw [←b6,←he] at b4
  have:=a4.uniq b4
  exact ⟨by omega,this.2⟩
 ·intro r1 r2 o hr1 hr2 ho hl1 hl2 he
  have h1:=next_lead (W:=C.mesh.wide) (H:=C.mesh.high) (r:=(r1:Int)) (by omega) (by have:r1<nCores C:=hr1;omega) ho hl1
  have h2:=next_lead (W:=C.mesh.wide) (H:=C.mesh.high) (r:=(r2:Int)) (by omega) (by have:r2<nCores C:=hr2;omega) ho hl2
  have h3:(nextM C.mesh.wide (r1:Int) (pow2 o)).toNat=(nextM C.mesh.wide (r2:Int) (pow2 o)).toNat:=he
  have:=next_inj ho (by omega:nextM C.mesh.wide (r1:Int) (pow2 o)=nextM C.mesh.wide (r2:Int) (pow2 o))
  omega
 ·intro r o ho
  rw [hlen]
  refine Nat.le_trans (Nat.le_of_eq ?_) (hload r o ho)
  unfold cntM
  rw [List.countP_map]
  have:=countP_get (l:=ks) (P:=fun k=>decide (hasB ((srcTree N C cores k)[r]?.getD 0) (pow2 o)))
  rw [show (List.range ks.length).countP (fun p=>decide ((wayCtx N C cores ks L).has p r o))=ks.countP (fun k=>decide (hasB ((srcTree N C cores k)[r]?.getD 0) (pow2 o))) from this]
  congr 1
theorem way_reach (hA:AsgOk N C cores)(hks:∀k∈ks,k∈keysM N):∀p r,p<(wayCtx N C cores ks L).pk.length→r<(wayCtx N C cores ks L).n→(wayCtx N C cores ks L).outs p r≠0→r=(wayCtx N C cores ks L).src p∨∃r0 o0,r0<(wayCtx N C cores ks L).n∧o0<4∧(wayCtx N C cores ks L).has p r0 o0∧(wayCtx N C cores ks L).nx r0 o0=r:=by
 intro p r hp hr h0
 have hlen:(wayCtx N C cores ks L).pk.length=ks.length:=List.length_map _
 rw [hlen] at hp
 have hn:=nCores_ok hA.plan.chip
 have hw:=hA.plan.chip.mesh.wide
 have hkey:ks[p]?.getD 0∈keysM N:=hks _ (by rw [List.getElem?_eq_getElem hp];exact List.getElem_mem _)
 have hk0:=(keys_src hkey).1.1
 have hhome:=home_range hA _ hk0
 have hsrc:((wayCtx N C cores ks L).src p:Int)=homeM N cores (ks[p]?.getD 0):=by
  unfold RCtx.src wayCtx
  dsimp only
  rw [List.getElem?_map,List.getElem?_eq_getElem hp] at*
  simp only [Option.map_some,Option.getD_some] at*
  omega
 obtain ⟨t,h1,h2⟩:=(way_nz hA hk0).1 h0
 have ht:=(mem_coresM.1 h1).1
 by_cases hrs:(r:Int)=homeM N cores (ks[p]?.getD 0)
 ·left;omega
 ·right
  obtain ⟨z,h3,h4,h5⟩:=rte_prev (by omega) _ _ rfl h2 hrs
  have hz:=rte_range (W:=C.mesh.wide) (H:=C.mesh.high) (by omega) (t:=t) (by omega) _ _ rfl (by omega) z h3
  obtain ⟨o,h6,h7⟩:=turn_pow C.mesh.wide z t
  have ho4:o<4:=by
   by_cases h8:o=4
   ·subst h8
    exact absurd ((turn_local (by omega)).1 (h7.trans (rfl:pow2 4=16))) h4
   ·omega
  have ez:((z.toNat:Nat):Int)=z:=Int.toNat_of_nonneg hz.1
  refine ⟨z.toNat,o,by show _<nCores C;omega,ho4,(way_has hA hk0 h6).2 ⟨t,h1,by rw [ez];exact h3,by rw [ez];exact h7⟩,?_⟩
  show (nextM C.mesh.wide ((z.toNat:Nat):Int) (pow2 o)).toNat=r
  rw [ez,←h7,h5,Int.toNat_natCast]
theorem way_here (hA:AsgOk N C cores){key:Int}(hk:0≤key){r:Nat}:hasB ((srcTree N C cores key)[r]?.getD 0) (pow2 4)↔(r:Int)∈coresM N C cores key:=by
 have hw:=hA.plan.chip.mesh.wide
 rw [way_has hA hk (by omega)]
 constructor
 ·rintro ⟨t,h1,h2,h3⟩
  have:=(turn_local (by omega)).1 (h3.trans (rfl:pow2 4=16))
  rw [this];exact h1
 ·intro h
  refine ⟨(r:Int),h,?_,(turn_local (by omega)).2 rfl⟩
  exact rte_end (by omega) _ _ rfl
end
end Go.Gm
end

section
section
set_option linter.unusedVariables false
namespace Go.Proofs
open Go Go.Vx Go.Gm
end Go.Proofs
end
section
namespace Go.Proofs
open Go Go.Vx Go.Gm
end Go.Proofs
end
end

section
namespace Go.Gm
end Go.Gm
namespace Go.Proofs
open Go Go.Vx Go.Gm
end Go.Proofs
end

section
namespace Go.Gm
end Go.Gm
namespace Go.Proofs
open Go Go.Vx Go.Gm
end Go.Proofs
end

section
namespace Go.Proofs
open Go Go.Vx Go.Gm
theorem home_range {N:Net}{C:Chp}{cores:List Int}(h:AsgOk N C cores){key:Int}(hk:0≤key):0≤homeM N cores key∧homeM N cores key<C.mesh.wide*C.mesh.high:=by
 have hn:=nCores_ok h.plan.chip
 unfold homeM
 split
 ·rename_i hlt
  have hl:key.toNat<cores.length:=by rw [h.len];omega
  rw [List.getElem?_eq_getElem hl,Option.getD_some]
  exact (h.core _ (List.getElem_mem hl)).1
 ·omega
end Go.Proofs
end
