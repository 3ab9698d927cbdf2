import Derived.Test.YtlbekjokdlkghaaGreatChipEnergiesWv
import Derived.Test.YtlbekjokdlkghaaGreatChipEnergiesMz
import Derived.Test.YtlbekjokdlkghaaGreatChipEnergiesMc
import Derived.Test.YtlbekjokdlkghaaGreatChipEnergiesNa
import Derived.Shelf.SlSortCmp.NoneTotal
import Derived.KernelRfl
import Derived.Test.YtlbekjokdlkghaaGreatChipEnergiesPg
import Derived.WalkKit
import Derived.Sort.Grow
import Derived.RegionTactic
set_option linter.unusedVariables false
set_option linter.unusedSimpArgs false
set_option maxHeartbeats 4000000
section
namespace Go.Proofs
open Go Go.Vx Go.Gm
end Go.Proofs
end

section
namespace Go.Gm
end Go.Gm
namespace Go.Proofs
open Go Go.Vx Go.Gm
end Go.Proofs
end

section
namespace Go.Proofs
open Go Go.Vx Go.Gm
end Go.Proofs
end

section
set_option linter.unusedVariables false
namespace Go.Proofs
open Go.Shelf
def Tryz.sortE7_ren:Go.Shelf.Ren:=⟨fun|6=>116|15=>180|14=>179|28=>231|29=>232|20=>223|21=>224|22=>225|23=>226|24=>227|25=>228|26=>229|27=>230|46=>261|47=>262|48=>263|49=>264|50=>265|57=>274|n=>n,fun|22=>178|24=>180|25=>248|3=>3|39=>234|0=>0|53=>334|55=>337|4=>4|46=>408|45=>407|50=>251|5=>5|9=>9|66=>432|70=>420|76=>443|77=>444|n=>n,fun|n=>n⟩
theorem Tryz.sortE7:Go.Proofs.SlLaysF0.n6 Tryz.prog Tryz.sortE7_ren:={
 mixed:=by kernel_rfl
 f6:=⟨Tryz.f116.name,by decide,Tryz.func116.trans (congrArg some (by kernel_rfl))⟩
 f14:=⟨Tryz.f179.name,by decide,Tryz.func179.trans (congrArg some (by kernel_rfl))⟩
 f15:=Tryz.func180.trans (congrArg some (by kernel_rfl))
 f20:=⟨Tryz.f223.name,by decide,Tryz.func223.trans (congrArg some (by kernel_rfl))⟩
 f21:=⟨Tryz.f224.name,by decide,Tryz.func224.trans (congrArg some (by kernel_rfl))⟩
 f22:=⟨Tryz.f225.name,by decide,Tryz.func225.trans (congrArg some (by kernel_rfl))⟩
 f23:=⟨Tryz.f226.name,by decide,Tryz.func226.trans (congrArg some (by kernel_rfl))⟩
 f24:=⟨Tryz.f227.name,by decide,Tryz.func227.trans (congrArg some (by kernel_rfl))⟩
 f25:=⟨Tryz.f228.name,by decide,Tryz.func228.trans (congrArg some (by kernel_rfl))⟩
 f26:=⟨Tryz.f229.name,by decide,Tryz.func229.trans (congrArg some (by kernel_rfl))⟩
 f27:=⟨Tryz.f230.name,by decide,Tryz.func230.trans (congrArg some (by kernel_rfl))⟩
 f28:=Tryz.func231.trans (congrArg some (by kernel_rfl))
 f29:=Tryz.func232.trans (congrArg some (by kernel_rfl))
 f46:=⟨Tryz.f261.name,by decide,Tryz.func261.trans (congrArg some (by kernel_rfl))⟩
 f47:=Tryz.func262.trans (congrArg some (by kernel_rfl))
 f48:=Tryz.func263.trans (congrArg some (by kernel_rfl))
 f49:=⟨Tryz.f264.name,by decide,Tryz.func264.trans (congrArg some (by kernel_rfl))⟩
 f50:=⟨Tryz.f265.name,by decide,Tryz.func265.trans (congrArg some (by kernel_rfl))⟩
 f57:=⟨Tryz.f274.name,by decide,Tryz.func274.trans (congrArg some (by kernel_rfl))⟩
 t0:=Tryz.underlying0
 a0:=Tryz.isAgg0
 z0:=Tryz.sizeOf0
 v0:=Tryz.zeroValue0
 t3:=Tryz.underlying3
 a3:=Tryz.isAgg3
 z3:=Tryz.sizeOf3
 v3:=Tryz.zeroValue3
 t4:=Tryz.underlying4
 a4:=Tryz.isAgg4
 z4:=Tryz.sizeOf4
 v4:=Tryz.zeroValue4
 t5:=Tryz.underlying5
 a5:=Tryz.isAgg5
 z5:=Tryz.sizeOf5
 v5:=Tryz.zeroValue5
 t9:=Tryz.underlying9
 a9:=Tryz.isAgg9
 z9:=Tryz.sizeOf9
 v9:=Tryz.zeroValue9
 t22:=Tryz.underlying178
 a22:=Tryz.isAgg178
 z22:=Tryz.sizeOf178
 v22:=Tryz.zeroValue178
 t25:=Tryz.underlying248
 a25:=Tryz.isAgg248
 z25:=Tryz.sizeOf248
 v25:=Tryz.zeroValue248
 t39:=Tryz.underlying234
 a39:=Tryz.isAgg234
 z39:=Tryz.sizeOf234
 v39:=Tryz.zeroValue234
 t45:=Tryz.underlying407
 a45:=Tryz.isAgg407
 z45:=Tryz.sizeOf407
 v45:=Tryz.zeroValue407
 t46:=Tryz.underlying408
 a46:=Tryz.isAgg408
 z46:=Tryz.sizeOf408
 v46:=Tryz.zeroValue408
 t50:=Tryz.underlying251
 a50:=Tryz.isAgg251
 z50:=Tryz.sizeOf251
 v50:=Tryz.zeroValue251
 t53:=Tryz.underlying334
 a53:=Tryz.isAgg334
 z53:=Tryz.sizeOf334
 v53:=Tryz.zeroValue334
 t55:=Tryz.underlying337
 a55:=Tryz.isAgg337
 z55:=Tryz.sizeOf337
 v55:=Tryz.zeroValue337
 t66:=Tryz.underlying432
 a66:=Tryz.isAgg432
 z66:=Tryz.sizeOf432
 v66:=Tryz.zeroValue432
 t70:=Tryz.underlying420
 a70:=Tryz.isAgg420
 z70:=Tryz.sizeOf420
 v70:=Tryz.zeroValue420
 t76:=Tryz.underlying443
 a76:=Tryz.isAgg443
 z76:=Tryz.sizeOf443
 v76:=Tryz.zeroValue443
 t77:=Tryz.underlying444
 a77:=Tryz.isAgg444
 z77:=Tryz.sizeOf444
 v77:=Tryz.zeroValue444}
end Go.Proofs
end

section
namespace Go.Proofs
open Go Go.RowKit Go.Lib Go.Vx Go.Gm
open Go.Sort (grow alloc_eq_grow grow_grow flatK HoldsK putRowK)
def cmpJ (x y:Int):Int:=if x<y then -1 else if y<x then 1 else 0
theorem isNaN_k7 (x:Int)(w:World):Calls Tryz.prog 181 #[.int .i64 x] w fun e w'=>e=.returned (.bool false)∧w'=w:=by
 go_enter Tryz.func181,Tryz.ntmps181
 go_wp2
 go_ret
 exact ⟨by simp,rfl⟩
theorem compare_k7 (x y:Int)(w:World):Calls Tryz.prog 118 #[.int .i64 x,.int .i64 y] w fun e w'=>e=.returned (.int .i64 (cmpJ x y))∧w'=w:=by
 go_enter Tryz.func118,Tryz.ntmps118
 go_wp2_with (go_at_call 181;refine (isNaN_k7 _ _).mono ?_;rintro e w' ⟨rfl,hw⟩;rw [hw])
 all_goals (go_ret;refine ⟨?_,rfl⟩;unfold cmpJ;(repeat' split)<;>first|rfl|(exfalso;omega))
def entV (g:Int→Int)(x:Int):List Value:=[.int .i64 x,.int .i64 65535,.int .i64 (g x)]
set_option maxRecDepth 100000 in
theorem cmpEnt_k (g:Int→Int)(x y:Int)(W:World):Calls Tryz.prog 117 #[.agg (entV g x).toArray,.agg (entV g y).toArray] W fun e w'=>e=.returned (.int .i64 (cmpJ x y))∧∃q os',w'=Go.Sort.grow (W.drewN q) os':=by
 have h1:=fun W'=>compare_k7 x y W'
 unfold entV
 generalize cmpJ x y=a at h1 ⊢
 go_enter Tryz.func117,Tryz.ntmps117
 go_wp2_with (go_at_call 118;refine (h1 _).mono ?_;rintro e w' ⟨rfl,hw⟩;rw [hw])
 all_goals
  go_ret
  refine ⟨rfl,0,#[Obj.cells #[.int .i64 x,.int .i64 65535,.int .i64 (g x)] 180,Obj.cells #[.int .i64 y,.int .i64 65535,.int .i64 (g y)] 180],?_⟩
  rw [alloc_eq_grow,alloc_eq_grow,grow_grow]
  rfl
def sortJ (xs:List Int):List Int:=xs.mergeSort fun x y=> !(ltOf cmpJ) y x
theorem cmpJ_lt (a b:Int):cmpJ a b<0↔a<b:=by
 unfold cmpJ
 by_cases h1:a<b
 ·simp [h1]
 ·by_cases h2:b<a<;>simp [h1,h2]
theorem ltJ (x y:Int):ltOf cmpJ x y=decide (x<y):=by
 unfold ltOf
 exact decide_eq_decide.2 (cmpJ_lt x y)
theorem swoJ:Go.Sort.SWO (ltOf cmpJ) where
 irrefl x:=by rw [ltJ];simp
 trans x y z h1 h2:=by rw [ltJ] at*;simp at*;omega
 ntrans x y z h1 h2:=by
  rw [ltJ] at*
  have h1':=of_decide_eq_false h1
  have h2':=of_decide_eq_false h2
  exact decide_eq_false qZ
theorem totJ (x y:Int)(h1:ltOf cmpJ x y=false)(h2:ltOf cmpJ y x=false):x=y:=by
 rw [ltJ] at*
 have h1':=of_decide_eq_false h1
 have h2':=of_decide_eq_false h2
 omega
theorem sortJ_perm (xs:List Int):(sortJ xs).Perm xs:=List.mergeSort_perm ..
theorem sortJ_asc (xs:List Int):(sortJ xs).Pairwise fun a b=>a≤b:=by
 unfold sortJ
 have:=List.pairwise_mergeSort (le:=fun x y:Int=> !(ltOf cmpJ) y x) (by
  intro a b c h1 h2
  rw [ltJ] at*
  simp at*
  omega) (by
  intro a b
  rw [ltJ,ltJ]
  simp
  omega) xs
 refine this.imp fun h=>?_
 rw [ltJ] at h
 simpa using h
theorem sortJ_of {xs ys:List Int}(hp:xs.Perm ys)(hy:ys.Pairwise fun a b=>a<b):sortJ xs=ys:=by
 have h1:=(sortJ_perm xs).trans hp
 refine List.Perm.eq_of_pairwise (le:=fun a b:Int=>a≤b) (fun a b _ _ h1 h2=>by omega) (sortJ_asc xs) (hy.imp fun h=>by omega) h1
theorem flat_at7 {α:Type}[Inhabited α]{f:α→List Value}{k:Nat}(hk:∀x,(f x).length=k)(hk0:0<k):∀(l:List α) (t:Nat),t<l.length*k→(flat f l)[t]? =some ((f l[t / k]!)[t%k]!)
 |[],t,h=>by simp at h
 |x::r,t,h=>by
  have e:flat f (x::r)=f x++flat f r:=rfl
  rw [e]
  by_cases ht:t<k
  ·rw [List.getElem?_append_left (by rw [hk];exact ht),Nat.div_eq_of_lt ht,Nat.mod_eq_of_lt ht]
   show _=some ((f x)[t]!)
   rw [getElem!_pos _ _ (by rw [hk];exact ht)]
   exact List.getElem?_eq_getElem _
  ·obtain ⟨s,rfl⟩:∃s,t=s+k:=⟨t - k,by omega⟩
   rw [List.getElem?_append_right (by rw [hk];omega),hk,Nat.add_sub_cancel,Nat.add_div_right _ hk0,Nat.add_mod_right]
   rw [flat_at7 hk hk0 r s (by rw [List.length_cons,Nat.add_mul] at h;omega)]
   simp
theorem flatK_flat7 {α:Type}[Inhabited α]{f:α→List Value}{k:Nat}(hk:∀x,(f x).length=k)(hk0:0<k)(l:List α):(flatK f k l.toArray).toList=flat f l:=by
 apply List.ext_getElem?
 intro t
 by_cases ht:t<l.length*k
 ·rw [flat_at7 hk hk0 l t ht]
  simp [flatK,ht]
 ·rw [List.getElem?_eq_none (by simp;omega),List.getElem?_eq_none (by rw [flat_length hk];omega)]
theorem sortJ_some (v:Int→Int)(g off cap:Nat)(xs:List Int)(w:World)(hH:HoldsK (entV v) 3 w g off xs.toArray)(hg:g<w.heap.size)(hsz:xs.length<4611686018427387904):
  Calls Tryz.prog 116 #[.slice (some ⟨g,off,none⟩) xs.length cap,.func (.func 117) #[] #[]] w fun e w'=>e=.returned (.tuple #[])∧∃n os,w'=sortWorldK (entV v) 3 w g off n (sortJ xs).toArray os:=by
 have eg:∀args w,(callFunc 117 args).run Tryz.prog w=.ok (.enter 117 args) w:=enters_of Tryz.func117 (by kernel_rfl) rfl
 have hS:=AnyQ.slices_SortFunc_total Tryz.sortE7 3 Tryz.isAgg180 Tryz.sizeOf180 (entV v) (fun _=>rfl) (fun x u hv=>by simp [entV] at hv;rcases hv with rfl|rfl|rfl<;>rfl) cmpJ swoJ 117 #[] g off cap xs.toArray w eg (fun _ _ _ _ x y=>cmpEnt_k v x y _) hH hg (by simpa using hsz) totJ
 exact hS
theorem sortJ_none (p:Option Addr)(cap:Nat)(w:World):
  Calls Tryz.prog 116 #[.slice p 0 cap,.func (.func 117) #[] #[]] w fun e w'=>e=.returned (.tuple #[])∧w'=w:=
 AnyF.slices_SortFunc_none (P:=Tryz.prog) (ρ:=Tryz.sortE7_ren) Tryz.sortE7 p cap (.func (.func 117) #[] #[]) w
theorem sortJ_call (v:Int→Int){w0:World}{M:List Nat}{H r:HP}{u:Ent→HP}{K:Value→HP→Prop}(p:Option Addr)(n cap:Nat)(xs:List Int)(hn:xs.length=n)(hat:At H (.vec p n cap 180 3 (flat (entV v) xs)) u r)(hsz:n<4611686018427387904)
  (hk:K (.tuple #[]) (u (.vec p n cap 180 3 (flat (entV v) (sortJ xs))))):VCall Tryz.cx.P w0 M H 116 [.slice p n cap,.func (.func 117) #[] #[]] K:=by
 refine .mk fun w hw=>?_
 have hsat:=hw.own _ hat.mem
 have hsl:(sortJ xs).length=n:=by unfold sortJ;rw [List.length_mergeSort,hn]
 cases p with
 |none=>
  obtain ⟨h1,h2⟩:=hsat
  rcases h2 with ⟨h3,h4⟩|⟨g,c,cur,hv,_⟩
  ·simp only [Value.slice.injEq] at h3
   have hn0:n=0:=h3.2.1
   subst hn0
   have hx:xs=[]:=List.eq_nil_of_length_eq_zero hn
   subst hx
   refine (sortJ_none none cap w).mono fun e w' ⟨he,hw'⟩=>?_
   subst hw'
   refine ⟨.tuple #[],_,he,?_,hk⟩
   have:sortJ []=[]:=by simp [sortJ]
   rw [this]
   exact hw.turn hat (fun h=>h)
  ·cases hv
 |some a=>
  obtain ⟨g,cur,hg,hh,hnc,hcm,hcs,ht,hlen⟩:=vec_some hsat
  subst hg
  have hH:HoldsK (entV v) 3 w g 0 xs.toArray:=by
   intro j hj
   have hj':j<n*3:=by simpa [hn] using hj
   have h1:(cur.toList.take (n*3))[j]? =((flatK (entV v) 3 xs.toArray).toList)[j]?:=by rw [ht,flatK_flat7 (f:=entV v) (k:=3) (fun _=>rfl) qZ]
   rw [List.getElem?_take,if_pos hj'] at h1
   refine ⟨?_,?_⟩
   ·simp only [Nat.zero_add,World.cell?,hh]
    rw [getElem!_pos _ j hj]
    simpa [hj,hj',hn] using h1
   ·simp [World.frozen?,hh]
  have hglt:g<w.heap.size:=(Array.getElem?_eq_some_iff.1 hh).1
  have hc:=sortJ_some v g 0 cap xs w hH hglt qZ
  rw [hn] at hc
  refine hc.mono fun e w' ⟨he,q,os,hw'⟩=>⟨.tuple #[],_,he,?_,hk⟩
  subst hw'
  obtain ⟨F,hF⟩:∃F,flatK (entV v) 3 (sortJ xs).toArray=F:=⟨_,rfl⟩
  have hFl:F.toList=flat (entV v) (sortJ xs):=by rw [←hF,flatK_flat7 (f:=entV v) (k:=3) (fun _=>rfl) qZ]
  have hFs:F.size=n*3:=by rw [←Array.length_toList,hFl,flat_length (k:=3) (fun _=>rfl),hsl]
  refine hw.turn hat fun hx=>?_
  have hheap:∀b,b<w.heap.size→(Go.Sort.grow (Go.Sort.putRow id (Go.Sort.ahead w q) g 0 F) os).heap[b]? =
    if g=b then (w.heap[b]?).map (Go.Sort.onCells (Go.Sort.putCells id 0 F)) else w.heap[b]?:=by
   intro b hb
   simp only [Go.Sort.grow,Go.Sort.putRow,Go.Sort.mapBlock,Go.Sort.ahead]
   rw [Array.getElem?_append_left (by simpa using hb),Array.getElem?_modify]
  unfold sortWorldK putRowK
  rw [hF]
  refine hx.step rfl rfl rfl (by simp [Go.Sort.grow,Go.Sort.putRow,Go.Sort.mapBlock,Go.Sort.ahead]) (fun b hb hne=>?_) ?_ (fun b hb=>.inl hb)
  ·rw [hheap b hb,if_neg (fun e=>hne (by rw [←e];rfl))]
  ·have h2:=hheap g hglt
   rw [if_pos rfl,hh] at h2
   simp only [Option.map_some,Go.Sort.onCells] at h2
   refine ownsRow_mk h2 hnc hcm (by simp [Go.Sort.putCells,hcs]) ?_
   rw [←hFl]
   apply List.ext_getElem?
   intro j
   rw [List.getElem?_take]
   by_cases hj:j<n*3
   ·rw [if_pos qZ]
    have hjc:j<cur.size:=by have:=Nat.mul_le_mul_right 3 hnc;omega
    simp only [Array.getElem?_toList,Go.Sort.putCells,Array.getElem?_mapIdx,hFs,Nat.zero_add,Nat.zero_le,true_and,hj,if_true,Nat.sub_zero,Array.getElem?_eq_getElem hjc,Option.map_some]
    rw [getElem!_pos F j qZ,Array.getElem?_eq_getElem qZ]
    rfl
   ·rw [if_neg qZ,List.getElem?_eq_none (by rw [Array.length_toList];omega)]
end Go.Proofs
end
