import Derived.Test.YtlbekjokdlkghaaGreatChipSameTo
import Derived.Test.YtlbekjokdlkghaaGreatChipSameYn
import Derived.Test.YtlbekjokdlkghaaGreatRows
import Derived.Stop.Joined
import Derived.Test.YtlbekjokdlkghaaGreatChipSameA0
import Derived.Test.YtlbekjokdlkghaaGreatChipSameMc
set_option linter.unusedVariables false
set_option linter.unusedSimpArgs false
set_option maxHeartbeats 4000000
section
namespace Go.Proofs
open Go Go.Vx Go.Gm Go.RowKit Go.WideShapes Go.ChangeShapes Go.Deep Go.Joins
section
variable {H : Type} {enc : TypeId × Value -> H} {W : World} {base b0 : Nat} {spare : Nat -> Bool} {held : Bool} {r : Reach}
end
end Go.Proofs
end

section
namespace Go.Proofs.YtlbekjokdlkghaaGreat.chipSame
open Go Go.Proofs
theorem k1:(Rows.chipSameRow.wf (OpenSpec.ofChange Rows.chipSameSpec))=true:=by kernel_rfl
theorem k2:(laidOutB Tryz.pinned.checked.prog)=true:=by kernel_rfl
theorem k3:(mapsRowed Tryz.pinned.checked.prog)=true:=by kernel_rfl
theorem k4:(Tryz.f7.params.all (Tryz.pinned.checked.prog.readableRec ·))=true:=by kernel_rfl
theorem k5:(namedTie Tryz.pinned.checked.prog Rows.chipSameRow.named Rows.chipSameSpec.vars)=true:=by kernel_rfl
theorem k6:((Rows.chipSameRow.stops==[]))=true:=by kernel_rfl
theorem k7:((Tryz.pinned.checked.prog.stops==[]))=true:=by kernel_rfl
theorem k8:((Rows.chipSameRow.knobs==[]))=true:=by kernel_rfl
theorem k9:((Tryz.pinned.checked.prog.stopKnobs==[]))=true:=by kernel_rfl
theorem k10:((Rows.chipSameRow.inPlace==Tryz.pinned.checked.prog.inPlace 7))=true:=by kernel_rfl
theorem k11:((Rows.chipSameRow.unfollowed==Tryz.pinned.checked.prog.unfollowed 7))=true:=by kernel_rfl
theorem k12:((Rows.chipSameRow.recurses==Tryz.pinned.checked.prog.recurses 7))=true:=by kernel_rfl
theorem k13:((Rows.chipSameRow.named==Tryz.pinned.checked.prog.varsNamed 7))=true:=by kernel_rfl
theorem k14:((Rows.chipSameRow.maps==(Tryz.f7.params.toList++Rows.chipSameSpec.plain.varTypes Tryz.pinned.checked.prog).any (Tryz.pinned.checked.prog.mapsRec ·)))=true:=by kernel_rfl
theorem k15:((Rows.chipSameRow.ifaces==(Tryz.f7.params.toList++Rows.chipSameSpec.plain.varTypes Tryz.pinned.checked.prog).any (Tryz.pinned.checked.prog.ifacesRec ·)))=true:=by kernel_rfl
theorem k16:((Rows.chipSameRow.mapsOut==Tryz.pinned.checked.prog.mapsAmong Tryz.f7.resultTypes.toList))=true:=by kernel_rfl
end Go.Proofs.YtlbekjokdlkghaaGreat.chipSame
end

section
namespace Go.Proofs.YtlbekjokdlkghaaGreat.chipSame
open Go Go.Proofs
theorem and2 {a b:Bool}(ha:a=true)(hb:b=true):(a&&b)=true:=by rw [ha,hb];rfl
theorem k17:((Rows.chipSameRow.loops==(Tryz.f7.params.toList++Rows.chipSameSpec.plain.varTypes Tryz.pinned.checked.prog).any (Tryz.pinned.checked.prog.loopsFrom ·)))=true:=by kernel_rfl
theorem k17b:((Rows.chipSameRow.wideKeys==(Tryz.f7.params.toList++Rows.chipSameSpec.plain.varTypes Tryz.pinned.checked.prog++Tryz.f7.resultTypes.toList).any (Tryz.pinned.checked.prog.wideKeysFrom ·)))=true:=by kernel_rfl
theorem k18:(Rows.chipSameSpec.vars.all (Tryz.pinned.checked.prog.varReadable ·))=true:=by kernel_rfl
theorem k19:(Tryz.f7.resultTypes.all (fun t=>Tryz.pinned.checked.prog.readableRec t&&decide (t<Tryz.pinned.checked.prog.types.size)))=true:=by kernel_rfl
theorem k20:((Rows.chipSameRow.ifacesOut==Tryz.f7.resultTypes.toList.any (Tryz.pinned.checked.prog.ifacesRec ·)))=true:=by kernel_rfl
theorem k21:((Rows.chipSameRow.loopsOut==Tryz.f7.resultTypes.toList.any (Tryz.pinned.checked.prog.loopsFrom ·)))=true:=by kernel_rfl
theorem k22:((Rows.chipSameRow.plainKeys==Tryz.pinned.checked.prog.plainKeys))=true:=by kernel_rfl
theorem k23:(Rows.chipSameRow.shortTexts.isNone)=true:=by kernel_rfl
theorem k23b:(Tryz.pinned.checked.prog.stopsHeard)=true:=by kernel_rfl
theorem k24:(Tryz.pinned.checked.prog.mayEnter)=true:=by kernel_rfl
theorem k24b:((Rows.chipSameRow.lifted==Tryz.pinned.checked.prog.liftsFinal))=true:=by kernel_rfl
theorem k24c:((Tryz.pinned.checked.prog.make==some Rows.chipSameRow.make))=true:=by kernel_rfl
theorem k25:((Rows.chipSameRow.kinds==(if Rows.chipSameRow.domain.isEmpty then [] else Tryz.f7.params.toList.map fun t=>match Tryz.pinned.checked.prog.underlying t with|some (.int k)=>some k|_=>none)))=true:=by kernel_rfl
theorem k26:((Rows.chipSameRow.pinned==Rows.chipSameRow.pinnedBy))=true:=by kernel_rfl
theorem k27:((Rows.chipSameRow.veiled==(Tryz.f7.params.toList++Rows.chipSameSpec.plain.varTypes Tryz.pinned.checked.prog++Tryz.f7.resultTypes.toList).any (Tryz.pinned.checked.prog.veiledRec ·)))=true:=by kernel_rfl
theorem k28:(Rows.chipSameRow.veiledFits Tryz.pinned.checked.prog Tryz.f7.params.toList (Tryz.f7.params.toList++Rows.chipSameSpec.plain.varTypes Tryz.pinned.checked.prog++Tryz.f7.resultTypes.toList))=true:=by kernel_rfl
theorem named:Tryz.pinned.checked.prog.funcNamed Rows.chipSameRow.func=some 7:=by kernel_rfl
theorem inst:Tryz.f7.isInstance Tryz.pinned.checked.prog Rows.chipSameRow.origin Rows.chipSameRow.targs:=of_decide_eq_true (by kernel_rfl)
theorem wrap:Tryz.f7.isWrapper Tryz.pinned.checked.prog Rows.chipSameRow.wrapper Rows.chipSameRow.mainSum:=by unfold Func.isWrapper;first|(rw [jk (by decide+kernel)];kernel_rfl)|(rw [jv (by decide+kernel)];exact ⟨rfl,rfl⟩)
end Go.Proofs.YtlbekjokdlkghaaGreat.chipSame
end

section
namespace Go.Proofs
open Go Go.Vx Go.Gm Go.RowKit Go.WideShapes Go.ChangeShapes Go.Deep Go.Joins
section
variable {H : Type} {enc : TypeId × Value -> H} {P : Program} {w : World} {base : Nat} {spare : Nat -> Bool} {held : Bool}
end
structure _root_.Go.Gm.Chp.int (C:Chp):Prop where
 mesh:C.mesh.wf
 nr:I64 C.nr
 sy:I64 C.sy
 en:I64 C.en
 bits:I64 C.bits
 dead:∀x∈C.dead,I64 x
theorem _root_.Go.Gm.Chp.int.wf {C:Chp}(h:C.int)(hf:C.dead.length<=1000000):C.wf:=⟨h.mesh,h.nr,h.sy,h.en,h.bits,h.dead,hf⟩
section
variable {H : Type} {enc : TypeId × Value -> H} {W : World} {base : Nat} {spare : Nat -> Bool} {held : Bool} {r : Reach} {b0 : Nat}
end
end Go.Proofs
end

section
namespace Go.Proofs
open Go Go.Vx Go.Gm Go.RowKit Go.WideShapes Go.ChangeShapes Go.Deep Go.Joins
section
variable {H : Type} {enc : TypeId × Value -> H} {P : Program} {w : World} {base : Nat} {spare : Nat -> Bool} {held : Bool}
theorem trod_parts8 {t:TypeId}{fs:Array Field}{n:Nat}{cells:List Value}{y:DataW H×List MemPlace}(hs:P.underlying t=some (.struct fs))(h:DataW.trod enc P w base spare held n t cells=some y):
  ∃m,∀(i:Nat) (f:Field),fs[i]? =some f->∃z,DataW.trod enc P w base spare held m f.type ((cells.drop f.offset).take (P.cellsOf f.type))=some z:=by
 obtain ⟨d,p⟩:=y
 obtain ⟨xs,m,e,hx,hl,hxl,hall⟩:=DataW.trod_struct hs h
 refine ⟨m,fun i f h1=>?_⟩
 have h3:=hall i f h1
 have hxi:i<xs.length:=by rw [hxl];exact (Qh.1 h1).1
 rw [qq hxi] at h3
 exact ⟨_,h3⟩
theorem arr14 {cs:Array Value}(h:cs.size=14):∃a0 a1 a2 a3 a4 a5 a6 a7 a8 a9 a10 a11 a12 a13,cs=#[a0,a1,a2,a3,a4,a5,a6,a7,a8,a9,a10,a11,a12,a13]:=by
 obtain ⟨l⟩:=cs
 match l,h with
 |[a0,a1,a2,a3,a4,a5,a6,a7,a8,a9,a10,a11,a12,a13],_=>exact ⟨a0,a1,a2,a3,a4,a5,a6,a7,a8,a9,a10,a11,a12,a13,rfl⟩
end
section
variable {H : Type} {enc : TypeId × Value -> H} {W : World} {base : Nat} {spare : Nat -> Bool} {held : Bool} {r : Reach} {b0 : Nat}
theorem int_of8 {n:Nat}{v:Value}{y:DataW H×List MemPlace}(h:DataW.trod enc Tryz.prog W base spare held n 3 [v]=some y):∃i:Int,v=.int .i64 i/\I64 i:=by
 obtain ⟨i,hi,_,hw⟩:=DataW.trod_int Tryz.underlying3 h
 simp only [List.cons.injEq,and_true] at hi
 exact ⟨i,hi,i64_of_wf hw⟩
def caseV (N:Net)(C:Chp)(cores:List Int)(l:List Evt)(ticks:Int)(pn:Option Addr)(cn:Nat)(qs:Option Addr)(cs:Nat)(pd:Option Addr)(cd:Nat)(pc:Option Addr)(cc:Nat)(pe:Option Addr)(ce:Nat):List Value:=
 [.slice pn N.ps.length cn,.int .i64 N.inputs,.slice qs N.syns.length cs,.int .i64 C.mesh.wide,.int .i64 C.mesh.high,.int .i64 C.mesh.room,.int .i64 C.nr,.int .i64 C.sy,.int .i64 C.en,.int .i64 C.bits,.slice pd C.dead.length cd,.slice pc cores.length cc,.slice pe l.length ce,.int .i64 ticks]
set_option maxRecDepth 100000 in
theorem open_case8 {v:Value}{d:DataW H}{p:List MemPlace}(hv:Value.okWide Tryz.prog W r b0 33 v)(h:DataW.Trod enc Tryz.prog W base spare held 33 v d p):
  ∃(N:Net) (C:Chp) (cores:List Int) (l:List Evt) (ticks:Int) (pn:Option Addr) (cn bn on:Nat) (qs:Option Addr) (cs bs os:Nat) (pd:Option Addr) (cd bd od:Nat) (pc:Option Addr) (cc bc oc:Nat) (pe:Option Addr) (ce be oe:Nat),
   v=.agg (caseV N C cores l ticks pn cn qs cs pd cd pc cc pe ce).toArray/\N.wf/\C.int/\(∀k∈cores,I64 k)/\(∀x∈l,x.wf)/\I64 ticks/\(N.ps.length<=maxLen/\N.syns.length<=maxLen/\C.dead.length<=maxLen/\cores.length<=maxLen/\l.length<=maxLen)/\(C.dead.length<=cd/\l.length<=ce)/\
   Sl W parV 8 N.ps pn N.ps.length bn on/\Sl W synV 4 N.syns qs N.syns.length bs os/\Sl W intV 1 C.dead pd C.dead.length bd od/\Sl W intV 1 cores pc cores.length bc oc/\Sl W evtV 2 l pe l.length be oe:=by
 obtain ⟨cs,rfl,hsz⟩:=okWide_struct Tryz.underlying33 hv
 have hc14:Tryz.prog.cellsOf 33=14:=by kernel_rfl
 obtain ⟨a0,a1,a2,a3,a4,a5,a6,a7,a8,a9,a10,a11,a12,a13,rfl⟩:=arr14 (hsz.trans hc14)
 obtain ⟨fuel,hf⟩:=h
 obtain ⟨m,hall⟩:=trod_parts8 Tryz.underlying33 hf
 have hg0:∃z,DataW.trod enc Tryz.prog W base spare held m 25 [a0,a1,a2]=some z:=by
  obtain ⟨z,g⟩:=hall 0 _ rfl
  change DataW.trod enc Tryz.prog W base spare held m 25 (List.take (Tryz.prog.cellsOf 25) (List.drop 0 [a0,a1,a2,a3,a4,a5,a6,a7,a8,a9,a10,a11,a12,a13]))=some z at g
  rw [show Tryz.prog.cellsOf 25=3 by kernel_rfl] at g
  exact ⟨z,g⟩
 have hg1:∃z,DataW.trod enc Tryz.prog W base spare held m 30 [a3,a4,a5,a6,a7,a8,a9,a10]=some z:=by
  obtain ⟨z,g⟩:=hall 1 _ rfl
  change DataW.trod enc Tryz.prog W base spare held m 30 (List.take (Tryz.prog.cellsOf 30) (List.drop 3 [a0,a1,a2,a3,a4,a5,a6,a7,a8,a9,a10,a11,a12,a13]))=some z at g
  rw [show Tryz.prog.cellsOf 30=8 by kernel_rfl] at g
  exact ⟨z,g⟩
 have hg2:∃z,DataW.trod enc Tryz.prog W base spare held m 28 [a11]=some z:=by
  obtain ⟨z,g⟩:=hall 2 _ rfl
  change DataW.trod enc Tryz.prog W base spare held m 28 (List.take (Tryz.prog.cellsOf 28) (List.drop 11 [a0,a1,a2,a3,a4,a5,a6,a7,a8,a9,a10,a11,a12,a13]))=some z at g
  rw [show Tryz.prog.cellsOf 28=1 by kernel_rfl] at g
  exact ⟨z,g⟩
 have hg3:∃z,DataW.trod enc Tryz.prog W base spare held m 31 [a12]=some z:=by
  obtain ⟨z,g⟩:=hall 3 _ rfl
  change DataW.trod enc Tryz.prog W base spare held m 31 (List.take (Tryz.prog.cellsOf 31) (List.drop 12 [a0,a1,a2,a3,a4,a5,a6,a7,a8,a9,a10,a11,a12,a13]))=some z at g
  rw [show Tryz.prog.cellsOf 31=1 by kernel_rfl] at g
  exact ⟨z,g⟩
 have hg4:∃z,DataW.trod enc Tryz.prog W base spare held m 3 [a13]=some z:=by
  obtain ⟨z,g⟩:=hall 4 _ rfl
  change DataW.trod enc Tryz.prog W base spare held m 3 (List.take (Tryz.prog.cellsOf 3) (List.drop 13 [a0,a1,a2,a3,a4,a5,a6,a7,a8,a9,a10,a11,a12,a13]))=some z at g
  rw [show Tryz.prog.cellsOf 3=1 by kernel_rfl] at g
  exact ⟨z,g⟩
 obtain ⟨zn,hn⟩:=hg0
 obtain ⟨mn,halln⟩:=trod_parts8 Tryz.underlying25 hn
 have n0:∃z,DataW.trod enc Tryz.prog W base spare held mn 22 [a0]=some z:=by
  obtain ⟨z,g⟩:=halln 0 _ rfl
  change DataW.trod enc Tryz.prog W base spare held mn 22 (List.take (Tryz.prog.cellsOf 22) (List.drop 0 [a0,a1,a2]))=some z at g
  rw [show Tryz.prog.cellsOf 22=1 by kernel_rfl] at g
  exact ⟨z,g⟩
 have n1:∃z,DataW.trod enc Tryz.prog W base spare held mn 3 [a1]=some z:=by
  obtain ⟨z,g⟩:=halln 1 _ rfl
  change DataW.trod enc Tryz.prog W base spare held mn 3 (List.take (Tryz.prog.cellsOf 3) (List.drop 1 [a0,a1,a2]))=some z at g
  rw [show Tryz.prog.cellsOf 3=1 by kernel_rfl] at g
  exact ⟨z,g⟩
 have n2:∃z,DataW.trod enc Tryz.prog W base spare held mn 23 [a2]=some z:=by
  obtain ⟨z,g⟩:=halln 2 _ rfl
  change DataW.trod enc Tryz.prog W base spare held mn 23 (List.take (Tryz.prog.cellsOf 23) (List.drop 2 [a0,a1,a2]))=some z at g
  rw [show Tryz.prog.cellsOf 23=1 by kernel_rfl] at g
  exact ⟨z,g⟩
 obtain ⟨zc,hc⟩:=hg1
 obtain ⟨mc,hallc⟩:=trod_parts8 Tryz.underlying30 hc
 have c0:∃z,DataW.trod enc Tryz.prog W base spare held mc 27 [a3,a4,a5]=some z:=by
  obtain ⟨z,g⟩:=hallc 0 _ rfl
  change DataW.trod enc Tryz.prog W base spare held mc 27 (List.take (Tryz.prog.cellsOf 27) (List.drop 0 [a3,a4,a5,a6,a7,a8,a9,a10]))=some z at g
  rw [show Tryz.prog.cellsOf 27=3 by kernel_rfl] at g
  exact ⟨z,g⟩
 have c1:∃z,DataW.trod enc Tryz.prog W base spare held mc 3 [a6]=some z:=by
  obtain ⟨z,g⟩:=hallc 1 _ rfl
  change DataW.trod enc Tryz.prog W base spare held mc 3 (List.take (Tryz.prog.cellsOf 3) (List.drop 3 [a3,a4,a5,a6,a7,a8,a9,a10]))=some z at g
  rw [show Tryz.prog.cellsOf 3=1 by kernel_rfl] at g
  exact ⟨z,g⟩
 have c2:∃z,DataW.trod enc Tryz.prog W base spare held mc 3 [a7]=some z:=by
  obtain ⟨z,g⟩:=hallc 2 _ rfl
  change DataW.trod enc Tryz.prog W base spare held mc 3 (List.take (Tryz.prog.cellsOf 3) (List.drop 4 [a3,a4,a5,a6,a7,a8,a9,a10]))=some z at g
  rw [show Tryz.prog.cellsOf 3=1 by kernel_rfl] at g
  exact ⟨z,g⟩
 have c3:∃z,DataW.trod enc Tryz.prog W base spare held mc 3 [a8]=some z:=by
  obtain ⟨z,g⟩:=hallc 3 _ rfl
  change DataW.trod enc Tryz.prog W base spare held mc 3 (List.take (Tryz.prog.cellsOf 3) (List.drop 5 [a3,a4,a5,a6,a7,a8,a9,a10]))=some z at g
  rw [show Tryz.prog.cellsOf 3=1 by kernel_rfl] at g
  exact ⟨z,g⟩
 have c4:∃z,DataW.trod enc Tryz.prog W base spare held mc 3 [a9]=some z:=by
  obtain ⟨z,g⟩:=hallc 4 _ rfl
  change DataW.trod enc Tryz.prog W base spare held mc 3 (List.take (Tryz.prog.cellsOf 3) (List.drop 6 [a3,a4,a5,a6,a7,a8,a9,a10]))=some z at g
  rw [show Tryz.prog.cellsOf 3=1 by kernel_rfl] at g
  exact ⟨z,g⟩
 have c5:∃z,DataW.trod enc Tryz.prog W base spare held mc 28 [a10]=some z:=by
  obtain ⟨z,g⟩:=hallc 5 _ rfl
  change DataW.trod enc Tryz.prog W base spare held mc 28 (List.take (Tryz.prog.cellsOf 28) (List.drop 7 [a3,a4,a5,a6,a7,a8,a9,a10]))=some z at g
  rw [show Tryz.prog.cellsOf 28=1 by kernel_rfl] at g
  exact ⟨z,g⟩
 obtain ⟨zs,hs⟩:=c0
 obtain ⟨ms,halls⟩:=trod_parts8 Tryz.underlying27 hs
 have s0:∃z,DataW.trod enc Tryz.prog W base spare held ms 3 [a3]=some z:=by
  obtain ⟨z,g⟩:=halls 0 _ rfl
  change DataW.trod enc Tryz.prog W base spare held ms 3 (List.take (Tryz.prog.cellsOf 3) (List.drop 0 [a3,a4,a5]))=some z at g
  rw [show Tryz.prog.cellsOf 3=1 by kernel_rfl] at g
  exact ⟨z,g⟩
 have s1:∃z,DataW.trod enc Tryz.prog W base spare held ms 3 [a4]=some z:=by
  obtain ⟨z,g⟩:=halls 1 _ rfl
  change DataW.trod enc Tryz.prog W base spare held ms 3 (List.take (Tryz.prog.cellsOf 3) (List.drop 1 [a3,a4,a5]))=some z at g
  rw [show Tryz.prog.cellsOf 3=1 by kernel_rfl] at g
  exact ⟨z,g⟩
 have s2:∃z,DataW.trod enc Tryz.prog W base spare held ms 3 [a5]=some z:=by
  obtain ⟨z,g⟩:=halls 2 _ rfl
  change DataW.trod enc Tryz.prog W base spare held ms 3 (List.take (Tryz.prog.cellsOf 3) (List.drop 2 [a3,a4,a5]))=some z at g
  rw [show Tryz.prog.cellsOf 3=1 by kernel_rfl] at g
  exact ⟨z,g⟩
 clear hall halln hallc halls hf
 obtain ⟨y,g⟩:=n1;obtain ⟨inp,rfl,hinp⟩:=int_of8 g;clear g y
 obtain ⟨y,g⟩:=s0;obtain ⟨wide,rfl,hwide⟩:=int_of8 g;clear g y
 obtain ⟨y,g⟩:=s1;obtain ⟨high,rfl,hhigh⟩:=int_of8 g;clear g y
 obtain ⟨y,g⟩:=s2;obtain ⟨room,rfl,hroom⟩:=int_of8 g;clear g y
 obtain ⟨y,g⟩:=c1;obtain ⟨nr,rfl,hnr⟩:=int_of8 g;clear g y
 obtain ⟨y,g⟩:=c2;obtain ⟨sy,rfl,hsy⟩:=int_of8 g;clear g y
 obtain ⟨y,g⟩:=c3;obtain ⟨en,rfl,hen⟩:=int_of8 g;clear g y
 obtain ⟨y,g⟩:=c4;obtain ⟨bits,rfl,hbits⟩:=int_of8 g;clear g y
 obtain ⟨y,g⟩:=hg4;obtain ⟨ticks,rfl,hti⟩:=int_of8 g;clear g y
 have hts:Tryz.prog.cellTypes Tryz.prog.depth 33=some [22,3,23,3,3,3,3,3,3,3,28,28,31,3]:=by kernel_rfl
 have k0:=cell_of_row Tryz.underlying33 hts hv 0 rfl rfl (by simp)
 have k2:=cell_of_row Tryz.underlying33 hts hv 2 rfl rfl (by simp)
 have k10:=cell_of_row Tryz.underlying33 hts hv 10 rfl rfl (by simp)
 have k11:=cell_of_row Tryz.underlying33 hts hv 11 rfl rfl (by simp)
 have k12:=cell_of_row Tryz.underlying33 hts hv 12 rfl rfl (by simp)
 obtain ⟨y0,g0⟩:=n0
 obtain ⟨y2,g2⟩:=n2
 obtain ⟨y10,g10⟩:=c5
 obtain ⟨y11,g11⟩:=hg2
 obtain ⟨y12,g12⟩:=hg3
 obtain ⟨pn,cn,bn,on,rows,rfl,a1,a2,a3,a4⟩:=open_rows Tryz.underlying22 Tryz.underlying140 (by kernel_rfl) (by kernel_rfl) (by decide) (fields_i64 Tryz.underlying3 (by kernel_rfl)) g0 k0
 obtain ⟨qs,cs,bs,os,rows2,rfl,b1,b2,b3,b4⟩:=open_rows Tryz.underlying23 Tryz.underlying154 (by kernel_rfl) (by kernel_rfl) (by decide) (fields_i64 Tryz.underlying3 (by kernel_rfl)) g2 k2
 obtain ⟨pe,ce,be,oe,rows3,rfl,c1,c2,c3,c4⟩:=open_rows Tryz.underlying31 Tryz.underlying67 (by kernel_rfl) (by kernel_rfl) (by decide) (fields_i64 Tryz.underlying3 (by kernel_rfl)) g12 k12
 obtain ⟨pd,cd,bd,od,dead,rfl,d1,d2,d3,d4⟩:=open_nums Tryz.underlying28 Tryz.underlying3 (by kernel_rfl) g10 k10
 obtain ⟨pc,cc,bc,oc,cores,rfl,e1,e2,e3,e4⟩:=open_nums Tryz.underlying28 Tryz.underlying3 (by kernel_rfl) g11 k11
 have q1:(rows.map parOf).length=rows.length:=qv _
 have q2:(rows2.map synOf).length=rows2.length:=qv _
 have q3:(rows3.map evtOf).length=rows3.length:=qv _
 refine ⟨⟨rows.map parOf,inp,rows2.map synOf⟩,⟨⟨wide,high,room⟩,nr,sy,en,bits,dead⟩,cores,rows3.map evtOf,ticks,pn,cn,bn,on,qs,cs,bs,os,pd,cd,bd,od,pc,cc,bc,oc,pe,ce,be,oe,by unfold caseV;rw [q1,q2,q3],⟨?_,hinp,?_⟩,⟨⟨hwide,hhigh,hroom⟩,hnr,hsy,hen,hbits,d4⟩,e4,?_,hti,⟨by rw [q1];exact a2,by rw [q2];exact b2,d2,e2,by rw [q3];exact c2⟩,⟨d1,by rw [q3];exact c1⟩,?_,?_,d3,e3,?_⟩
 ·intro x hx
  obtain ⟨r,hr,rfl⟩:=qo.1 hx
  exact (parOf_ok (a4 r hr).1 (a4 r hr).2).2
 ·intro x hx
  obtain ⟨r,hr,rfl⟩:=qo.1 hx
  exact (synOf_ok (b4 r hr).1 (b4 r hr).2).2
 ·intro x hx
  obtain ⟨r,hr,rfl⟩:=qo.1 hx
  exact (evtOf_ok (c4 r hr).1 (c4 r hr).2).2
 ·rw [q1];exact Sl.thr a3 parOf fun x hx=>(parOf_ok (a4 x hx).1 (a4 x hx).2).1
 ·rw [q2];exact Sl.thr b3 synOf fun x hx=>(synOf_ok (b4 x hx).1 (b4 x hx).2).1
 ·rw [q3];exact Sl.thr c3 evtOf fun x hx=>(evtOf_ok (c4 x hx).1 (c4 x hx).2).1
end
end Go.Proofs
end
