import Derived.Test.YtjjcoiicikaaiaaGreatPlaceRowsTo
import Derived.Test.YtjjcoiicikaaiaaGreatPlaceRowsMc
import Derived.Test.YtjjcoiicikaaiaaGreatPlaceRowsQw
import Derived.Test.YtjjcoiicikaaiaaGreatPlaceRowsWk
import Derived.Test.YtjjcoiicikaaiaaGreatPlaceRowsPw
set_option linter.unusedVariables false
set_option linter.unusedSimpArgs false
set_option maxHeartbeats 4000000
section

namespace Go.Proofs

open Go Go.Vx Go.Gm Go.RowKit Go.WideShapes Go.ChangeShapes Go.Deep Go.Joins

section

variable {H : Type} {enc : TypeId × Value → H} {P : Program} {w : World} {base : Nat} {spare : Nat → Bool} {held : Bool}

theorem trod_flds {t : TypeId} {fs : Array Field} {n : Nat} {cells : List Value} {y : DataW H × List MemPlace} (hs : P.underlying t = some (.struct fs)) (h : DataW.trod enc P w base spare held n t cells = some y) :
  ∃ m, ∀ (i : Nat) (f : Field), fs[i]? = some f → ∃ z, DataW.trod enc P w base spare held m f.type ((cells.drop f.offset).take (P.cellsOf f.type)) = some z := by
 obtain ⟨d, p⟩ := y
 obtain ⟨xs, m, e, hx, hl, hxl, hall⟩ := DataW.trod_struct hs h
 refine ⟨m, fun i f h1 => ?_⟩
 have h3 := hall i f h1
 have hxi : i < xs.length := by rw [hxl]; exact (Array.getElem?_eq_some_iff.1 h1).1
 rw [List.getElem?_eq_getElem hxi] at h3
 exact ⟨_, h3⟩

theorem arr8 {cs : Array Value} (h : cs.size = 8) : ∃ a0 a1 a2 a3 a4 a5 a6 a7, cs = #[a0, a1, a2, a3, a4, a5, a6, a7] := by
 obtain ⟨l⟩ := cs
 match l, h with
 | [a0, a1, a2, a3, a4, a5, a6, a7], _ => exact ⟨a0, a1, a2, a3, a4, a5, a6, a7, rfl⟩

end

structure _root_.Go.Gm.Chp.int (C : Chp) : Prop where
 mesh : C.mesh.wf
 nr : I64 C.nr
 sy : I64 C.sy
 en : I64 C.en
 bits : I64 C.bits
 dead : ∀ x ∈ C.dead, I64 x

theorem _root_.Go.Gm.Chp.int.wf {C : Chp} (h : C.int) (hf : C.dead.length ≤ 1000000) : C.wf := ⟨h.mesh, h.nr, h.sy, h.en, h.bits, h.dead, hf⟩

section

variable {H : Type} {enc : TypeId × Value → H} {W : World} {base : Nat} {spare : Nat → Bool} {held : Bool} {r : Reach} {b0 : Nat}

theorem int_at {n : Nat} {v : Value} {y : DataW H × List MemPlace} (h : DataW.trod enc Tryz.prog W base spare held n 3 [v] = some y) : ∃ i : Int, v = .int .i64 i ∧ I64 i := by
 obtain ⟨i, hi, _, hw⟩ := DataW.trod_int Tryz.underlying3 h
 simp only [List.cons.injEq, and_true] at hi
 exact ⟨i, hi, i64_of_wf hw⟩

set_option maxRecDepth 100000 in
theorem open_chp {v : Value} {d : DataW H} {p : List MemPlace} (hv : Value.okWide Tryz.prog W r b0 26 v) (h : DataW.Trod enc Tryz.prog W base spare held 26 v d p) :
  ∃ (C : Chp) (pd : Option Addr) (cd bd od : Nat), v = .agg (chpC C pd cd).toArray ∧ C.int ∧ C.dead.length ≤ cd ∧ C.dead.length ≤ maxLen ∧ Sl W intV 1 C.dead pd C.dead.length bd od := by
 obtain ⟨cs, rfl, hsz⟩ := okWide_struct Tryz.underlying26 hv
 have hc8 : Tryz.prog.cellsOf 26 = 8 := by kernel_rfl
 obtain ⟨a0, a1, a2, a3, a4, a5, a6, a7, rfl⟩ := arr8 (hsz.trans hc8)
 obtain ⟨fuel, hf⟩ := h
 obtain ⟨m, hall⟩ := trod_flds Tryz.underlying26 hf
 have hg0 : ∃ z, DataW.trod enc Tryz.prog W base spare held m 23 [a0, a1, a2] = some z := by
  obtain ⟨z, g⟩ := hall 0 _ rfl
  change DataW.trod enc Tryz.prog W base spare held m 23 (List.take (Tryz.prog.cellsOf 23) (List.drop 0 [a0, a1, a2, a3, a4, a5, a6, a7])) = some z at g
  rw [show Tryz.prog.cellsOf 23 = 3 by kernel_rfl] at g
  exact ⟨z, g⟩
 have hg1 : ∃ z, DataW.trod enc Tryz.prog W base spare held m 3 [a3] = some z := by
  obtain ⟨z, g⟩ := hall 1 _ rfl
  change DataW.trod enc Tryz.prog W base spare held m 3 (List.take (Tryz.prog.cellsOf 3) (List.drop 3 [a0, a1, a2, a3, a4, a5, a6, a7])) = some z at g
  rw [show Tryz.prog.cellsOf 3 = 1 by kernel_rfl] at g
  exact ⟨z, g⟩
 have hg2 : ∃ z, DataW.trod enc Tryz.prog W base spare held m 3 [a4] = some z := by
  obtain ⟨z, g⟩ := hall 2 _ rfl
  change DataW.trod enc Tryz.prog W base spare held m 3 (List.take (Tryz.prog.cellsOf 3) (List.drop 4 [a0, a1, a2, a3, a4, a5, a6, a7])) = some z at g
  rw [show Tryz.prog.cellsOf 3 = 1 by kernel_rfl] at g
  exact ⟨z, g⟩
 have hg3 : ∃ z, DataW.trod enc Tryz.prog W base spare held m 3 [a5] = some z := by
  obtain ⟨z, g⟩ := hall 3 _ rfl
  change DataW.trod enc Tryz.prog W base spare held m 3 (List.take (Tryz.prog.cellsOf 3) (List.drop 5 [a0, a1, a2, a3, a4, a5, a6, a7])) = some z at g
  rw [show Tryz.prog.cellsOf 3 = 1 by kernel_rfl] at g
  exact ⟨z, g⟩
 have hg4 : ∃ z, DataW.trod enc Tryz.prog W base spare held m 3 [a6] = some z := by
  obtain ⟨z, g⟩ := hall 4 _ rfl
  change DataW.trod enc Tryz.prog W base spare held m 3 (List.take (Tryz.prog.cellsOf 3) (List.drop 6 [a0, a1, a2, a3, a4, a5, a6, a7])) = some z at g
  rw [show Tryz.prog.cellsOf 3 = 1 by kernel_rfl] at g
  exact ⟨z, g⟩
 have hg5 : ∃ z, DataW.trod enc Tryz.prog W base spare held m 24 [a7] = some z := by
  obtain ⟨z, g⟩ := hall 5 _ rfl
  change DataW.trod enc Tryz.prog W base spare held m 24 (List.take (Tryz.prog.cellsOf 24) (List.drop 7 [a0, a1, a2, a3, a4, a5, a6, a7])) = some z at g
  rw [show Tryz.prog.cellsOf 24 = 1 by kernel_rfl] at g
  exact ⟨z, g⟩
 obtain ⟨zn, hn⟩ := hg0
 obtain ⟨mn, halln⟩ := trod_flds Tryz.underlying23 hn
 have n0 : ∃ z, DataW.trod enc Tryz.prog W base spare held mn 3 [a0] = some z := by
  obtain ⟨z, g⟩ := halln 0 _ rfl
  change DataW.trod enc Tryz.prog W base spare held mn 3 (List.take (Tryz.prog.cellsOf 3) (List.drop 0 [a0, a1, a2])) = some z at g
  rw [show Tryz.prog.cellsOf 3 = 1 by kernel_rfl] at g
  exact ⟨z, g⟩
 have n1 : ∃ z, DataW.trod enc Tryz.prog W base spare held mn 3 [a1] = some z := by
  obtain ⟨z, g⟩ := halln 1 _ rfl
  change DataW.trod enc Tryz.prog W base spare held mn 3 (List.take (Tryz.prog.cellsOf 3) (List.drop 1 [a0, a1, a2])) = some z at g
  rw [show Tryz.prog.cellsOf 3 = 1 by kernel_rfl] at g
  exact ⟨z, g⟩
 have n2 : ∃ z, DataW.trod enc Tryz.prog W base spare held mn 3 [a2] = some z := by
  obtain ⟨z, g⟩ := halln 2 _ rfl
  change DataW.trod enc Tryz.prog W base spare held mn 3 (List.take (Tryz.prog.cellsOf 3) (List.drop 2 [a0, a1, a2])) = some z at g
  rw [show Tryz.prog.cellsOf 3 = 1 by kernel_rfl] at g
  exact ⟨z, g⟩
 clear hall halln hf
 obtain ⟨y, g⟩ := n0; obtain ⟨wide, rfl, hw⟩ := int_at g; clear g y
 obtain ⟨y, g⟩ := n1; obtain ⟨high, rfl, hh⟩ := int_at g; clear g y
 obtain ⟨y, g⟩ := n2; obtain ⟨room, rfl, hr⟩ := int_at g; clear g y
 obtain ⟨y, g⟩ := hg1; obtain ⟨nr, rfl, h1⟩ := int_at g; clear g y
 obtain ⟨y, g⟩ := hg2; obtain ⟨sy, rfl, h2⟩ := int_at g; clear g y
 obtain ⟨y, g⟩ := hg3; obtain ⟨en, rfl, h3⟩ := int_at g; clear g y
 obtain ⟨y, g⟩ := hg4; obtain ⟨bits, rfl, h4⟩ := int_at g; clear g y
 have hts : Tryz.prog.cellTypes Tryz.prog.depth 26 = some [3, 3, 3, 3, 3, 3, 3, 24] := by kernel_rfl
 have k7 := cell_of_row Tryz.underlying26 hts hv 7 rfl rfl (by simp)
 obtain ⟨y7, g7⟩ := hg5
 obtain ⟨pd, cd, bd, od, l, rfl, d1, d2, d3, d4⟩ := open_nums Tryz.underlying24 Tryz.underlying3 (by kernel_rfl) g7 k7
 exact ⟨⟨⟨wide, high, room⟩, nr, sy, en, bits, l⟩, pd, cd, bd, od, rfl, ⟨⟨hw, hh, hr⟩, h1, h2, h3, h4, d4⟩, d1, d2, d3⟩

end

end Go.Proofs
end

section

namespace Go.Proofs

open Go Go.Vx Go.Gm

theorem equal7_self (l : List Int) (hll : l.length ≤ 1000000) (p : Option Addr) (c b o : Nat) (q : Option Addr) (d b2 o2 : Nat) (w : World) (h1 : Sl w intV 1 l p l.length b o) (h2 : Sl w intV 1 l q l.length b2 o2) :
  Calls Tryz.prog 25 #[.slice p l.length c, .slice q l.length d] w fun e w' => e = .returned (.bool true) ∧ St w [] [] w' := by
 refine enter (C := Tryz.cx) (F := Tryz.fx25) (args := [_, _]) Tryz.func25 rfl rfl rfl Tryz.ok25 (St.start w []) ?_
 repeat' (conv => whnf); first | (refine VSeq.go ?_) | (refine VB.is ?_; refine VB.no (by omega) fun _ => ?_) | (refine VLd.is ?_; refine VLd.mk (.row aT (by rfl)) ?_)
 all_goals (conv => whnf)
 refine VLoop.mk (α := Nat) (fun j => j ≤ l.length) (fun j => [(1000000, .tuple #[]), (0, .slice p l.length c), (1, .slice q l.length d), (4, .bool false), (5, .int .i64 (j : Int))])
  (fun _ => []) (fun j => l.length - j) 0 (Nat.zero_le _) aE aH ?_
 rintro j hj
 rcases Nat.lt_or_ge j l.length with hlt | hge
 ·obtain ⟨x, hx⟩ := h1.get hlt
  repeat' (conv => whnf); first | (refine VIx.is ?_; refine VIx.mk (h1.ptr (by omega)) (by omega) (by omega) ?_) | (refine VIx.is ?_; refine VIx.mk (h2.ptr (by omega)) (by omega) (by omega) ?_) | (refine VLd.is ?_; refine VLd.mk (Rd.cast (h1.rd0 (by simp) (fun _ => rfl) hx rfl) (by first | omega | (dsimp only; omega) | rfl)) ?_) | (refine VLd.is ?_; refine VLd.mk (Rd.cast (h2.rd0 (by simp) (fun _ => rfl) hx rfl) (by first | omega | (dsimp only; omega) | rfl)) ?_) | (refine VSeq.go ?_) | (refine VB.is ?_; refine VB.yes (by omega) fun _ => ?_) | (refine VB.is ?_; refine VB.no (by omega) fun _ => ?_) | (refine VAr.is ?_; refine oA ?_) | (refine VHs.mk _ (.refl _) ?_)
  all_goals (conv => whnf)
  refine VNext.mk (j + 1) (by omega) (by omega) aE aH
 repeat' (conv => whnf); first | (refine VSeq.go ?_) | (refine VB.is ?_; refine VB.no (by omega) fun _ => ?_) | (refine VLd.is ?_; refine VLd.mk (.row aT (by rfl)) ?_)
 all_goals (conv => whnf)
 exact ⟨fun w' hw' => ⟨rfl, hw'.le .nil⟩⟩

end Go.Proofs
end

section

namespace Go.Gm

end Go.Gm
end

section

namespace Go.Gm

end Go.Gm
end

section

namespace Go.Gm

end Go.Gm

namespace Go.Proofs

open Go Go.Vx Go.Gm

end Go.Proofs
end

section

namespace Go.Gm

end Go.Gm

namespace Go.Proofs

open Go Go.Vx Go.Gm

end Go.Proofs
end

section

namespace Go.Proofs

open Go Go.Vx Go.Gm

end Go.Proofs
end

section

namespace Go.Gm

end Go.Gm

namespace Go.Proofs

open Go Go.Vx Go.Gm

end Go.Proofs
end

section

namespace Go.Proofs

open Go Go.Vx Go.Gm

end Go.Proofs
end

section

namespace Go.Gm

end Go.Gm

namespace Go.Proofs

open Go Go.Vx Go.Gm

structure PlnRi (X : PlnX) (w : World) : Prop where
 net : X.N.wf
 chip : X.C.int
 cap : X.C.dead.length ≤ X.cd
 dead : ∃ b o, Sl w intV 1 X.C.dead X.pd X.C.dead.length b o
 ps : ∃ b o, Sl w parV 8 X.N.ps X.pn X.N.ps.length b o
 syns : ∃ b o, Sl w synV 4 X.N.syns X.qs X.N.syns.length b o

theorem PlnRi.rd {X : PlnX} {w w' : World} {H : HP} (h : PlnRi X w) (hw' : St w [] H w') (hf : X.C.dead.length ≤ 1000000) : PlnRd X w' :=
 PlnRd.keep ⟨h.net, h.chip.wf hf, h.cap, h.dead, h.ps, h.syns⟩ hw'

end Go.Proofs
end
