import Derived.Test.YtlbekjokdlkghaaGreatChipMovesVb
import Derived.Test.YtlbekjokdlkghaaGreatChipMovesNa
import Derived.Shelf.Sort.Plain
import Derived.Ground.Names2Prog
import Derived.Shelf.Slices.SearchI
import Derived.Shelf.Slices.In.SortNone
import Derived.Test.YtlbekjokdlkghaaGreatChipMovesRm
set_option linter.unusedVariables false
set_option linter.unusedSimpArgs false
set_option maxHeartbeats 4000000
section
section
namespace Go.Proofs
open Go.Shelf
def Tryz.lays189_ren:Go.Shelf.Ren:=⟨fun|189=>176|125=>180|257=>222|128=>231|129=>232|294=>252|295=>253|296=>254|297=>255|298=>256|299=>257|216=>258|300=>259|301=>260|328=>271|329=>262|330=>263|331=>272|332=>273|215=>181|343=>275|n=>n,fun|28=>28|3=>3|46=>234|0=>0|51=>334|53=>337|4=>4|183=>408|182=>407|131=>251|5=>5|9=>9|218=>432|222=>420|228=>443|229=>444|n=>n,fun|n=>n⟩
theorem Tryz.lays189:Go.Proofs.Lays.n189 Tryz.prog Tryz.lays189_ren:={
 mixed:=by kernel_rfl
 f125:=Tryz.func180.trans (congrArg some (by kernel_rfl))
 f128:=Tryz.func231.trans (congrArg some (by kernel_rfl))
 f129:=Tryz.func232.trans (congrArg some (by kernel_rfl))
 f189:=Tryz.func176.trans (congrArg some (by kernel_rfl))
 f215:=Tryz.func181.trans (congrArg some (by kernel_rfl))
 f216:=Tryz.func258.trans (congrArg some (by kernel_rfl))
 f257:=Tryz.func222.trans (congrArg some (by kernel_rfl))
 f294:=Tryz.func252.trans (congrArg some (by kernel_rfl))
 f295:=Tryz.func253.trans (congrArg some (by kernel_rfl))
 f296:=Tryz.func254.trans (congrArg some (by kernel_rfl))
 f297:=Tryz.func255.trans (congrArg some (by kernel_rfl))
 f298:=Tryz.func256.trans (congrArg some (by kernel_rfl))
 f299:=Tryz.func257.trans (congrArg some (by kernel_rfl))
 f300:=Tryz.func259.trans (congrArg some (by kernel_rfl))
 f301:=Tryz.func260.trans (congrArg some (by kernel_rfl))
 f328:=Tryz.func271.trans (congrArg some (by kernel_rfl))
 f329:=Tryz.func262.trans (congrArg some (by kernel_rfl))
 f330:=Tryz.func263.trans (congrArg some (by kernel_rfl))
 f331:=Tryz.func272.trans (congrArg some (by kernel_rfl))
 f332:=Tryz.func273.trans (congrArg some (by kernel_rfl))
 f343:=Tryz.func275.trans (congrArg some (by kernel_rfl))
 t0:=Tryz.underlying0
 a0:=Tryz.isAgg0
 z0:=Tryz.sizeOf0
 v0:=Tryz.zeroValue0
 t3:=Tryz.underlying3
 a3:=Tryz.isAgg3
 z3:=Tryz.sizeOf3
 v3:=Tryz.zeroValue3
 t4:=Tryz.underlying4
 a4:=Tryz.isAgg4
 z4:=Tryz.sizeOf4
 v4:=Tryz.zeroValue4
 t5:=Tryz.underlying5
 a5:=Tryz.isAgg5
 z5:=Tryz.sizeOf5
 v5:=Tryz.zeroValue5
 t9:=Tryz.underlying9
 a9:=Tryz.isAgg9
 z9:=Tryz.sizeOf9
 v9:=Tryz.zeroValue9
 t28:=Tryz.underlying28
 a28:=Tryz.isAgg28
 z28:=Tryz.sizeOf28
 v28:=Tryz.zeroValue28
 t46:=Tryz.underlying234
 a46:=Tryz.isAgg234
 z46:=Tryz.sizeOf234
 v46:=Tryz.zeroValue234
 t51:=Tryz.underlying334
 a51:=Tryz.isAgg334
 z51:=Tryz.sizeOf334
 v51:=Tryz.zeroValue334
 t53:=Tryz.underlying337
 a53:=Tryz.isAgg337
 z53:=Tryz.sizeOf337
 v53:=Tryz.zeroValue337
 t131:=Tryz.underlying251
 a131:=Tryz.isAgg251
 z131:=Tryz.sizeOf251
 v131:=Tryz.zeroValue251
 t182:=Tryz.underlying407
 a182:=Tryz.isAgg407
 z182:=Tryz.sizeOf407
 v182:=Tryz.zeroValue407
 t183:=Tryz.underlying408
 a183:=Tryz.isAgg408
 z183:=Tryz.sizeOf408
 v183:=Tryz.zeroValue408
 t218:=Tryz.underlying432
 a218:=Tryz.isAgg432
 z218:=Tryz.sizeOf432
 v218:=Tryz.zeroValue432
 t222:=Tryz.underlying420
 a222:=Tryz.isAgg420
 z222:=Tryz.sizeOf420
 v222:=Tryz.zeroValue420
 t228:=Tryz.underlying443
 a228:=Tryz.isAgg443
 z228:=Tryz.sizeOf443
 v228:=Tryz.zeroValue443
 t229:=Tryz.underlying444
 a229:=Tryz.isAgg444
 z229:=Tryz.sizeOf444
 v229:=Tryz.zeroValue444}
open Go.Sort Go.RowKit in
theorem Tryz.slices_Sort_int (blk off cap:Nat)(zs:List Int)(w:World)(hH:Holds (Value.int .i64) w blk off zs.toArray)(hblk:blk<w.heap.size)(hsz:zs.length<4611686018427387904):
  Calls Tryz.prog 176 #[.slice (some ⟨blk,off,none⟩) zs.length cap] w fun e w'=>
   e=.returned (.tuple #[])/\∃n os,w'=grow (putRow (Value.int .i64) (Sort.ahead w n) blk off (zs.mergeSort fun x y=>decide (x<=y)).toArray) os:=Any.slices_Sort_int Tryz.lays189 blk off cap zs w hH hblk hsz
open Go.RowKit Go.Sort in
theorem Tryz.slices_Sort_int_none (p:Option Addr)(cap:Nat)(w:World):
  Calls Tryz.prog 176 #[.slice p 0 cap] w fun e w'=>e=.returned (.tuple #[])/\w'=w:=Any.slices_Sort_int_none Tryz.lays189 p cap w
end Go.Proofs
end
section
namespace Go.Proofs
open Go Go.Vx Go.Gm
def sorted (xs:List Int):List Int:=xs.mergeSort fun x y=>decide (x<=y)
theorem fP1 (xs:List Int):bQ1 bQ6 xs=xs.map (Value.int .i64):=by
 induction xs with
 |nil=>rfl
 |cons x r ih=>simp only [bQ1,Qf,bQ6,qI] at ih ⊢;rw [ih];rfl
theorem hZ8 {w0:World}{M:List Nat}{H r:HP}{u:Ent->HP}{K:Value->HP->Prop}(p:Option Addr)(n cap:Nat)(xs:List Int)(hn:xs.length=n)(hat:At H (.vec p n cap 3 1 (bQ1 bQ6 xs)) u r)(hsz:n<4611686018427387904)
  (hk:K (.tuple #[]) (u (.vec p n cap 3 1 (bQ1 bQ6 (sorted xs))))):VCall Tryz.cx.P w0 M H 176 [.slice p n cap] K:=by
 refine .mk fun w hw=>?_
 have hsat:=hw.own _ hat.mem
 have hsl:(sorted xs).length=n:=by unfold sorted;rw [List.length_mergeSort,hn]
 cases p with
 |none=>
  obtain ⟨h1,h2⟩:=hsat
  rcases h2 with ⟨h3,h4⟩|⟨g,c,cur,hv,_⟩
  ·simp only [Value.slice.injEq] at h3
   have hn0:n=0:=h3.2.1
   subst hn0
   have hx:xs=[]:=qF hn
   subst hx
   refine (Tryz.slices_Sort_int_none none cap w).mono fun e w' ⟨he,hw'⟩=>?_
   subst hw'
   refine ⟨.tuple #[],_,he,?_,hk⟩
   have:sorted []=[]:=by simp [sorted]
   rw [this]
   exact hw.turn hat (fun h=>h)
  ·cases hv
 |some a=>
  obtain ⟨g,cur,hg,hh,hnc,hcm,hcs,ht,hlen⟩:=bW7 hsat
  subst hg
  have hcell:∀j,j<xs.length->cur[j]? =some (.int .i64 (xs[j]!)):=by
   intro j hj
   have h1:(cur.toList.take (n*1))[j]? =(bQ1 bQ6 xs)[j]?:=by rw [ht]
   rw [Qt,jw qZ,fP1,qj,qq hj] at h1
   simp only [qV] at h1
   rw [getElem!_pos _ j hj]
   simpa using h1
  have hH:Go.Sort.Holds (Value.int .i64) w g 0 xs.toArray:=by
   intro j hj
   have hj':j<xs.length:=by simpa using hj
   have:=hcell j hj'
   refine ⟨?_,?_⟩
   ·simp only [Qo,World.cell?,hh]
    simpa using this
   ·simp [World.frozen?,hh]
  have hglt:g<w.heap.size:=(Qh.1 hh).1
  have hc:=Tryz.slices_Sort_int g 0 cap xs w hH hglt qZ
  rw [hn] at hc
  refine hc.mono fun e w' ⟨he,q,os,hw'⟩=>⟨.tuple #[],_,he,?_,hk⟩
  subst hw'
  refine hw.turn hat fun hx=>?_
  have hheap:∀b,b<w.heap.size->(Go.Sort.grow (Go.Sort.putRow (Value.int .i64) (Go.Sort.ahead w q) g 0 (xs.mergeSort fun x y=>decide (x<=y)).toArray) os).heap[b]? =
    if g=b then (w.heap[b]?).map (Go.Sort.onCells (Go.Sort.putCells (Value.int .i64) 0 (xs.mergeSort fun x y=>decide (x<=y)).toArray)) else w.heap[b]?:=by
   intro b hb
   simp only [Go.Sort.grow,Go.Sort.putRow,Go.Sort.mapBlock,Go.Sort.ahead]
   rw [Array.getElem?_append_left (by simpa using hb),Array.getElem?_modify]
  refine hx.step rfl rfl rfl (by simp [Go.Sort.grow,Go.Sort.putRow,Go.Sort.mapBlock,Go.Sort.ahead]) (fun b hb hne=>?_) ?_ (fun b hb=>.inl hb)
  ·rw [hheap b hb,jk (fun e=>hne (by rw [<-e];rfl))]
  ·have h2:=hheap g hglt
   rw [jw rfl,hh] at h2
   simp only [qV,Go.Sort.onCells] at h2
   refine bV8 h2 hnc hcm (by simp [Go.Sort.putCells,hcs]) ?_
   apply qp
   intro j
   rw [Qt,fP1,qj]
   have hsl':(xs.mergeSort fun x y=>decide (x<=y)).length=n:=hsl
   by_cases hj:j<n
   ·rw [jw qZ]
    have hjc:j<cur.size:=by omega
    simp only [Array.getElem?_toList,Go.Sort.putCells,Array.getElem?_mapIdx,List.size_toArray,hsl',Qo,qB,true_and,hj,if_true,Nat.sub_zero,Array.getElem?_eq_getElem hjc,qV]
    have:j<(sorted xs).length:=by omega
    rw [qq this]
    simp only [qV,qK,Value.int.injEq,true_and]
    rw [getElem!_pos _ j (by simpa [hsl'] using hj)]
    rfl
   ·rw [jk qZ,qf qZ]
    rfl
end Go.Proofs
end
end

section
namespace Go.Gm
theorem cZ7 {s:Spc}(h:SpcOk s):1<=s.wide*s.high/\s.wide*s.high<=64:=by
 obtain ⟨w1,w2⟩:=h.wide
 obtain ⟨g1,g2⟩:=h.high
 have h1:1*1<=s.wide*s.high:=Int.mul_le_mul w1 g1 qZ qZ
 have h2:s.wide*s.high<=8*8:=Int.mul_le_mul w2 g2 qZ qZ
 omega
theorem kG2 {W r t x y a b:Int}(h1:At2 W r x y)(h2:At2 W t a b):(bG0 W r t:Int)=max (x - a) (a - x)+max (y - b) (b - y):=by
 rw [cZ3 h1 h2]
 omega
structure RteAt (W src t:Int) (k:Nat) (r:Int):Prop where
 get:(rte W src t)[k]? =some r
 drop:(rte W src t).drop k=rte W r t
theorem RteAt.zero {W:Int}(hW:0<W)(src t:Int):RteAt W src t 0 src:=by
 obtain ⟨l,hl⟩:=dJ1 (W:=W) (r:=src) (t:=t) hW
 exact ⟨by rw [hl];rfl,by rw [List.drop_zero]⟩
theorem RteAt.step {W src t:Int}{k:Nat}{r:Int}(hW:0<W)(h:RteAt W src t k r)(hne:r≠t):RteAt W src t (k+1) (bZ8 W r (bY2 W r t)):=by
 have h1:=h.drop
 rw [cQ7 hW hne] at h1
 have h2:(rte W src t).drop (k+1)=rte W (bZ8 W r (bY2 W r t)) t:=by
  rw [<-List.drop_drop,h1];rfl
 refine ⟨?_,h2⟩
 obtain ⟨l,hl⟩:=dJ1 (W:=W) (r:=bZ8 W r (bY2 W r t)) (t:=t) hW
 have h3:=congrArg (fun L=>L[0]?) h2
 rw [hl] at h3
 simpa using h3
theorem RteAt.last {W src t:Int}{k:Nat}(hW:0<W)(h:RteAt W src t k t):(rte W src t).length=k+1:=by
 have h1:=congrArg List.length h.drop
 rw [cQ8 W t hW,Qs] at h1
 have h2:=(qx.1 h.get).1
 simp at h1
 omega
theorem RteAt.range {W H src t:Int}{k:Nat}{r:Int}(hW:0<W)(hs:0<=src/\src<W*H)(ht:0<=t/\t<W*H)(h:RteAt W src t k r):0<=r/\r<W*H:=
 cM0 hW ht _ src rfl hs r (qz h.get)
theorem RteAt.lt {W src t:Int}{k:Nat}{r:Int}(h:RteAt W src t k r):k<(rte W src t).length:=(qx.1 h.get).1
end Go.Gm
namespace Go.Proofs
open Go Go.Vx Go.Gm
theorem fB5 (s:Spc)(hs:s.wf)(l:List Int)(hlen:l.length<=1000000)(hl:∀x∈l,I64 x)(p:Option Addr)(c b o:Nat)(w:World)(h1:Sl w bQ6 1 l p l.length b o):Calls Tryz.prog 69 #[.agg (cK4 s).toArray,.slice p l.length c] w fun e w'=>e=.returned (.int .i64 (bR0 s l))/\St w [] [] w':=by
 have hm:=fun (w':World)=>bN3 s hs w'
 unfold bR0
 refine enter (C:=Tryz.cx) (F:=mF2) (args:=[_,_]) Tryz.func69 rfl rfl rfl ok69 (St.start w []) ?_
 have h03:cX3 s=0\/cX3 s=3:=by unfold cX3;split<;>simp
 unfold cK4 at hm ⊢
 by_cases he:cX3 s≠0
 ·repeat' (conv=>whnf);first|(refine VNew.mk fun b4=>?_)|(refine bQ0 115 ?_;(refine bQ4 (fun w' _=>hm w') ?_))|refine VSeq.go ?_|refine oY fun _=>?_|refine oL ?_
  all_goals (conv=>whnf)
  exact ⟨fun w' hw'=>⟨by rw [jw he,show cX3 s=3 by omega];rfl,hw'.le .nil⟩⟩
 rw [jk he]
 have ha:=cZ7 (bN4.1 (Qm.1 he))
 obtain ⟨n,hn⟩:=gX (s.wide*s.high)
 rw [hn] at ha ⊢
 repeat' (conv=>whnf);first|(refine VNew.mk fun b4=>?_)|(refine bQ0 115 ?_;(refine bQ4 (fun w' _=>hm w') ?_))|refine VSeq.go ?_|refine oN fun _=>?_|refine oL ?_
 all_goals (conv=>whnf)
 refine bF2 (α:=Nat) [1000000,2,4,13,14] rfl (fun i=>i<=l.length/\∀r∈l.take i,0<=r/\r<n) (fun i K=>(15,.int .i64 (i:Int))::K) (fun _=>[.row b4 27 [.int .i64 s.wide,.int .i64 s.high,.int .i64 s.room]]) (fun i=>l.length - i) 0 ⟨by omega,by simp⟩ aE aH ?_
 rintro i ⟨hi,hall⟩
 rcases qy i l.length with hlt|hge
 ·obtain ⟨x,hx⟩:=h1.get hlt
  have hxw:=hl x (qz hx)
  unfold I64 at hxw
  have hbad:¬(0<=x/\x<n)->¬∀r∈l,0<=r/\r<n:=fun h h2=>h (h2 x (qz hx))
  repeat' (conv=>whnf);first|(refine VIx.is ?_;refine VIx.mk (h1.ptr qZ) qZ qZ ?_)|(refine VLd.is ?_;refine oC (h1.rd0 oU oR hx rfl) ?_)|(refine VAr.is ?_;refine VAr.mul hn qZ qZ ?_)|refine VSeq.go ?_|refine oY fun _=>?_|refine oS (fun _=>?_) fun _=>?_|refine oL ?_|refine oA ?_
  all_goals (conv=>whnf)
  all_goals first
   |exact ⟨fun w' hw'=>⟨by rw [jk (hbad qZ)];rfl,hw'.le .nil⟩⟩
   |(refine VNext.mk (i+1) ⟨by omega,fun r hr=>?_⟩ qZ aE aH
     rw [qi,hx,qW] at hr
     rcases qH.1 hr with hr|hr
     ·exact hall r hr
     ·rw [qt] at hr;subst hr;omega)
 ·rw [qe hge] at hall
  repeat' (conv=>whnf);first|refine VSeq.go ?_|refine oN fun _=>?_|refine oS (fun _=>?_) fun _=>?_|refine oL ?_|refine oV fun _=>?_|refine oA ?_
  all_goals (conv=>whnf)
  exact ⟨fun w' hw'=>⟨by rw [jw hall];rfl,hw'.le .nil⟩⟩
def gX8 (s:Spc)(a b:Int):Int×Int:=if bR0 s [a,b]≠0 then (0,bR0 s [a,b]) else ((bG0 s.wide a b:Int),0)
theorem dZ2 (s:Spc)(hs:s.wf)(r t:Int)(hr:I64 r)(ht:I64 t)(w:World):Calls Tryz.prog 114 #[.agg (cK4 s).toArray,.int .i64 r,.int .i64 t] w fun e w'=>e=.returned (.tuple #[.int .i64 (gX8 s r t).1,.int .i64 (gX8 s r t).2])/\St w [] [] w':=by
 have hm:=fun (w':World) (p:Option Addr) c b o=>fB5 s hs [r,t] oU (by simp [hr,ht]) p c b o w'
 refine enter (C:=Tryz.cx) (F:=lD4) (args:=[_,_,_]) Tryz.func114 rfl rfl rfl mZ5 (St.start w []) ?_
 unfold gX8
 by_cases he:bR0 s [r,t]≠0
 ·rw [jw he]
  unfold cK4 at hm ⊢
  repeat' (conv=>whnf);first|(refine bQ0 69 ?_;(refine bQ4 (fun w' hw'=>hm w' _ _ _ _ (bZ1 hw' (l:=[r,t]) (f:=bQ6) (k:=1) (by first|exact qg) oR rfl)) ?_))|refine VSeq.go ?_|refine oY fun _=>?_|refine oL ?_|refine oV fun _=>?_
  all_goals (conv=>whnf)
  exact ⟨fun w' hw'=>⟨rfl,hw'.le .nil⟩⟩
 rw [jk he]
 obtain ⟨hok,hrange⟩:=bC6.1 (Qm.1 he)
 have ha:=cZ7 hok
 have hwd:=hok.wide
 have hrr:=hrange r oU
 have htr:=hrange t oU
 obtain ⟨x,y,h1⟩:=at2 (W:=s.wide) qZ r
 obtain ⟨a,b,h2⟩:=at2 (W:=s.wide) qZ t
 have hm1:=bL2 s qZ r qZ
 have hm2:=bL2 s qZ t qZ
 have hxr:=(bG7 h1).1 hrr
 have har:=(bG7 h2).1 htr
 have:=h1.x0;have:=h1.x1;have:=h2.x0;have:=h2.x1
 have hhi:=hok.high
 rw [kG2 h1 h2]
 rw [h1.col,h1.row] at hm1
 rw [h2.col,h2.row] at hm2
 unfold cK4 at hm hm1 hm2 ⊢
 repeat' (conv=>whnf);first|(refine bQ0 69 ?_;(refine bQ4 (fun w' hw'=>hm w' _ _ _ _ (bZ1 hw' (l:=[r,t]) (f:=bQ6) (k:=1) (by first|exact qg) oR rfl)) ?_))|(refine bQ0 129 ?_;(refine cF1 (.int .i64 r) ?_;refine bQ4 (fun w' _=>hm1 w') ?_))|(refine bQ0 129 ?_;(refine cF1 (.int .i64 t) ?_;refine bQ4 (fun w' _=>hm2 w') ?_))|(refine VSeq.is ?_;refine bF1 5 rfl ?_;refine VSeq.cut (at_:=5) (α:=Nat×Nat) (fun _=>True) (fun z=>[(1000000,.tuple #[]),(9,.pointer (some ⟨z.1,0,none⟩)),(10,.pointer (some ⟨z.2,0,none⟩))]) (fun z=>[.row z.1 259 [.int .i64 x,.int .i64 y],.row z.2 259 [.int .i64 a,.int .i64 b]]) ?_ ?_)|refine VSeq.go ?_|refine oN fun _=>?_|refine oL ?_|refine oT ?_|refine oV fun _=>?_|refine oK ?_|refine oH ?_|refine And.intro ?_ ?_
 all_goals (conv=>whnf)
 any_goals (rename_i u v;first|exact VMid.mk (u,v) trivial aE aH|exact VMid.mk (v,u) trivial aE aH)
 rintro ⟨b7,b8⟩ _
 dsimp only
 repeat' (conv=>whnf);first|refine VSeq.go ?_|refine oN fun _=>?_|refine oS (fun _=>?_) fun _=>?_|refine oL ?_|refine oV fun _=>?_|refine oA ?_
 all_goals (conv=>whnf)
 exact ⟨fun w' hw'=>⟨rfl,hw'.le .nil⟩⟩
end Go.Proofs
end
