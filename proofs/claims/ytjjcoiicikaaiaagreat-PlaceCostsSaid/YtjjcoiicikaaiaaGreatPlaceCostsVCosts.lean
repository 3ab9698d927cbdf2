import Derived.Test.YtjjcoiicikaaiaaGreatPlaceCostsTo
import Derived.Test.YtjjcoiicikaaiaaGreatPlaceCostsMc
import Derived.Test.YtjjcoiicikaaiaaGreatPlaceCostsQw
import Derived.Test.YtjjcoiicikaaiaaGreatPlaceCostsWk
import Derived.Test.YtjjcoiicikaaiaaGreatPlaceCostsPw
section
set_option linter.unusedVariables false

set_option linter.unusedSimpArgs false

namespace Go.Proofs

open Go Go.Vx Go.Gm Go.RowKit Go.WideShapes Go.ChangeShapes Go.Deep Go.Joins

section

variable {H : Type} {enc : TypeId × Value → H} {P : Program} {w : World} {base : Nat} {spare : Nat → Bool} {held : Bool}

theorem trod_flds {t : TypeId} {fs : Array Field} {n : Nat} {cells : List Value} {y : DataW H × List MemPlace} (hs : P.underlying t = some (.struct fs)) (h : DataW.trod enc P w base spare held n t cells = some y) :
    ∃ m, ∀ (i : Nat) (f : Field), fs[i]? = some f → ∃ z, DataW.trod enc P w base spare held m f.type ((cells.drop f.offset).take (P.cellsOf f.type)) = some z := by
  obtain ⟨d, p⟩ := y
  obtain ⟨xs, m, e, hx, hl, hxl, hall⟩ := DataW.trod_struct hs h
  refine ⟨m, fun i f h1 => ?_⟩
  have h3 := hall i f h1
  have hxi : i < xs.length := by rw [hxl]; exact (Array.getElem?_eq_some_iff.1 h1).1
  rw [List.getElem?_eq_getElem hxi] at h3
  exact ⟨_, h3⟩

theorem arr8 {cs : Array Value} (h : cs.size = 8) : ∃ a0 a1 a2 a3 a4 a5 a6 a7, cs = #[a0, a1, a2, a3, a4, a5, a6, a7] := by
  obtain ⟨l⟩ := cs
  match l, h with
  | [a0, a1, a2, a3, a4, a5, a6, a7], _ => exact ⟨a0, a1, a2, a3, a4, a5, a6, a7, rfl⟩

end

structure _root_.Go.Gm.Chp.int (C : Chp) : Prop where
  mesh : C.mesh.wf
  nr : I64 C.nr
  sy : I64 C.sy
  en : I64 C.en
  bits : I64 C.bits
  dead : ∀ x ∈ C.dead, I64 x

theorem _root_.Go.Gm.Chp.int.wf {C : Chp} (h : C.int) (hf : C.dead.length ≤ 1000000) : C.wf := ⟨h.mesh, h.nr, h.sy, h.en, h.bits, h.dead, hf⟩

section

variable {H : Type} {enc : TypeId × Value → H} {W : World} {base : Nat} {spare : Nat → Bool} {held : Bool} {r : Reach} {b0 : Nat}

theorem int_at {n : Nat} {v : Value} {y : DataW H × List MemPlace} (h : DataW.trod enc Tryz.prog W base spare held n 3 [v] = some y) : ∃ i : Int, v = .int .i64 i ∧ I64 i := by
  obtain ⟨i, hi, _, hw⟩ := DataW.trod_int Tryz.underlying3 h
  simp only [List.cons.injEq, and_true] at hi
  exact ⟨i, hi, i64_of_wf hw⟩

set_option maxRecDepth 100000 in
theorem open_chp {v : Value} {d : DataW H} {p : List MemPlace} (hv : Value.okWide Tryz.prog W r b0 26 v) (h : DataW.Trod enc Tryz.prog W base spare held 26 v d p) :
    ∃ (C : Chp) (pd : Option Addr) (cd bd od : Nat), v = .agg (chpC C pd cd).toArray ∧ C.int ∧ C.dead.length ≤ cd ∧ C.dead.length ≤ maxLen ∧ Sl W intV 1 C.dead pd C.dead.length bd od := by
  obtain ⟨cs, rfl, hsz⟩ := okWide_struct Tryz.underlying26 hv
  have hc8 : Tryz.prog.cellsOf 26 = 8 := by kernel_rfl
  obtain ⟨a0, a1, a2, a3, a4, a5, a6, a7, rfl⟩ := arr8 (hsz.trans hc8)
  obtain ⟨fuel, hf⟩ := h
  obtain ⟨m, hall⟩ := trod_flds Tryz.underlying26 hf
  have hg0 : ∃ z, DataW.trod enc Tryz.prog W base spare held m 23 [a0, a1, a2] = some z := by
    obtain ⟨z, g⟩ := hall 0 _ rfl
    change DataW.trod enc Tryz.prog W base spare held m 23 (List.take (Tryz.prog.cellsOf 23) (List.drop 0 [a0, a1, a2, a3, a4, a5, a6, a7])) = some z at g
    rw [show Tryz.prog.cellsOf 23 = 3 by kernel_rfl] at g
    exact ⟨z, g⟩
  have hg1 : ∃ z, DataW.trod enc Tryz.prog W base spare held m 3 [a3] = some z := by
    obtain ⟨z, g⟩ := hall 1 _ rfl
    change DataW.trod enc Tryz.prog W base spare held m 3 (List.take (Tryz.prog.cellsOf 3) (List.drop 3 [a0, a1, a2, a3, a4, a5, a6, a7])) = some z at g
    rw [show Tryz.prog.cellsOf 3 = 1 by kernel_rfl] at g
    exact ⟨z, g⟩
  have hg2 : ∃ z, DataW.trod enc Tryz.prog W base spare held m 3 [a4] = some z := by
    obtain ⟨z, g⟩ := hall 2 _ rfl
    change DataW.trod enc Tryz.prog W base spare held m 3 (List.take (Tryz.prog.cellsOf 3) (List.drop 4 [a0, a1, a2, a3, a4, a5, a6, a7])) = some z at g
    rw [show Tryz.prog.cellsOf 3 = 1 by kernel_rfl] at g
    exact ⟨z, g⟩
  have hg3 : ∃ z, DataW.trod enc Tryz.prog W base spare held m 3 [a5] = some z := by
    obtain ⟨z, g⟩ := hall 3 _ rfl
    change DataW.trod enc Tryz.prog W base spare held m 3 (List.take (Tryz.prog.cellsOf 3) (List.drop 5 [a0, a1, a2, a3, a4, a5, a6, a7])) = some z at g
    rw [show Tryz.prog.cellsOf 3 = 1 by kernel_rfl] at g
    exact ⟨z, g⟩
  have hg4 : ∃ z, DataW.trod enc Tryz.prog W base spare held m 3 [a6] = some z := by
    obtain ⟨z, g⟩ := hall 4 _ rfl
    change DataW.trod enc Tryz.prog W base spare held m 3 (List.take (Tryz.prog.cellsOf 3) (List.drop 6 [a0, a1, a2, a3, a4, a5, a6, a7])) = some z at g
    rw [show Tryz.prog.cellsOf 3 = 1 by kernel_rfl] at g
    exact ⟨z, g⟩
  have hg5 : ∃ z, DataW.trod enc Tryz.prog W base spare held m 24 [a7] = some z := by
    obtain ⟨z, g⟩ := hall 5 _ rfl
    change DataW.trod enc Tryz.prog W base spare held m 24 (List.take (Tryz.prog.cellsOf 24) (List.drop 7 [a0, a1, a2, a3, a4, a5, a6, a7])) = some z at g
    rw [show Tryz.prog.cellsOf 24 = 1 by kernel_rfl] at g
    exact ⟨z, g⟩
  obtain ⟨zn, hn⟩ := hg0
  obtain ⟨mn, halln⟩ := trod_flds Tryz.underlying23 hn
  have n0 : ∃ z, DataW.trod enc Tryz.prog W base spare held mn 3 [a0] = some z := by
    obtain ⟨z, g⟩ := halln 0 _ rfl
    change DataW.trod enc Tryz.prog W base spare held mn 3 (List.take (Tryz.prog.cellsOf 3) (List.drop 0 [a0, a1, a2])) = some z at g
    rw [show Tryz.prog.cellsOf 3 = 1 by kernel_rfl] at g
    exact ⟨z, g⟩
  have n1 : ∃ z, DataW.trod enc Tryz.prog W base spare held mn 3 [a1] = some z := by
    obtain ⟨z, g⟩ := halln 1 _ rfl
    change DataW.trod enc Tryz.prog W base spare held mn 3 (List.take (Tryz.prog.cellsOf 3) (List.drop 1 [a0, a1, a2])) = some z at g
    rw [show Tryz.prog.cellsOf 3 = 1 by kernel_rfl] at g
    exact ⟨z, g⟩
  have n2 : ∃ z, DataW.trod enc Tryz.prog W base spare held mn 3 [a2] = some z := by
    obtain ⟨z, g⟩ := halln 2 _ rfl
    change DataW.trod enc Tryz.prog W base spare held mn 3 (List.take (Tryz.prog.cellsOf 3) (List.drop 2 [a0, a1, a2])) = some z at g
    rw [show Tryz.prog.cellsOf 3 = 1 by kernel_rfl] at g
    exact ⟨z, g⟩
  clear hall halln hf
  obtain ⟨y, g⟩ := n0; obtain ⟨wide, rfl, hw⟩ := int_at g; clear g y
  obtain ⟨y, g⟩ := n1; obtain ⟨high, rfl, hh⟩ := int_at g; clear g y
  obtain ⟨y, g⟩ := n2; obtain ⟨room, rfl, hr⟩ := int_at g; clear g y
  obtain ⟨y, g⟩ := hg1; obtain ⟨nr, rfl, h1⟩ := int_at g; clear g y
  obtain ⟨y, g⟩ := hg2; obtain ⟨sy, rfl, h2⟩ := int_at g; clear g y
  obtain ⟨y, g⟩ := hg3; obtain ⟨en, rfl, h3⟩ := int_at g; clear g y
  obtain ⟨y, g⟩ := hg4; obtain ⟨bits, rfl, h4⟩ := int_at g; clear g y
  have hts : Tryz.prog.cellTypes Tryz.prog.depth 26 = some [3, 3, 3, 3, 3, 3, 3, 24] := by kernel_rfl
  have k7 := cell_of_row Tryz.underlying26 hts hv 7 rfl rfl (by simp)
  obtain ⟨y7, g7⟩ := hg5
  obtain ⟨pd, cd, bd, od, l, rfl, d1, d2, d3, d4⟩ := open_nums Tryz.underlying24 Tryz.underlying3 (by kernel_rfl) g7 k7
  exact ⟨⟨⟨wide, high, room⟩, nr, sy, en, bits, l⟩, pd, cd, bd, od, rfl, ⟨⟨hw, hh, hr⟩, h1, h2, h3, h4, d4⟩, d1, d2, d3⟩

end

end Go.Proofs
end

section
set_option linter.unusedVariables false

set_option linter.unusedSimpArgs false

namespace Go.Proofs

open Go Go.Vx Go.Gm

end Go.Proofs
end

section
set_option linter.unusedVariables false

set_option linter.unusedSimpArgs false

namespace Go.Gm

theorem home_range {N : Net} {C : Chp} {cores : List Int} (h : AsgOk N C cores) (key : Int) (hk : 0 ≤ key) : 0 ≤ homeM N cores key ∧ homeM N cores key < nCores C := by
  have hn := nCores_ok h.plan.chip
  unfold homeM
  split
  · have hlt : key.toNat < cores.length := by have := h.len; omega
    rw [List.getElem?_eq_getElem hlt, Option.getD_some]
    have := (h.core _ (List.getElem_mem hlt)).1
    omega
  · omega

end Go.Gm
end

section
set_option linter.unusedVariables false

set_option linter.unusedSimpArgs false

namespace Go.Gm

end Go.Gm
end

section
set_option linter.unusedVariables false

set_option linter.unusedSimpArgs false

namespace Go.Gm

end Go.Gm

namespace Go.Proofs

open Go Go.Vx Go.Gm

end Go.Proofs
end

section
set_option linter.unusedVariables false

set_option linter.unusedSimpArgs false

namespace Go.Gm

end Go.Gm

namespace Go.Proofs

open Go Go.Vx Go.Gm

end Go.Proofs
end

section
set_option linter.unusedVariables false

set_option linter.unusedSimpArgs false

namespace Go.Proofs

open Go Go.Vx Go.Gm

end Go.Proofs
end

section
set_option linter.unusedVariables false

set_option linter.unusedSimpArgs false

namespace Go.Gm

end Go.Gm

namespace Go.Proofs

open Go Go.Vx Go.Gm

end Go.Proofs
end

section
set_option linter.unusedVariables false

set_option linter.unusedSimpArgs false

namespace Go.Proofs

open Go Go.Vx Go.Gm

end Go.Proofs
end

section
set_option linter.unusedVariables false

set_option linter.unusedSimpArgs false

namespace Go.Gm

end Go.Gm

namespace Go.Proofs

open Go Go.Vx Go.Gm

structure PlnRi (X : PlnX) (w : World) : Prop where
  net : X.N.wf
  chip : X.C.int
  cap : X.C.dead.length ≤ X.cd
  dead : ∃ b o, Sl w intV 1 X.C.dead X.pd X.C.dead.length b o
  ps : ∃ b o, Sl w parV 8 X.N.ps X.pn X.N.ps.length b o
  syns : ∃ b o, Sl w synV 4 X.N.syns X.qs X.N.syns.length b o

theorem PlnRi.rd {X : PlnX} {w w' : World} {H : HP} (h : PlnRi X w) (hw' : St w [] H w') (hf : X.C.dead.length ≤ 1000000) : PlnRd X w' :=
  PlnRd.keep ⟨h.net, h.chip.wf hf, h.cap, h.dead, h.ps, h.syns⟩ hw'

end Go.Proofs
end

section
set_option linter.unusedVariables false

set_option linter.unusedSimpArgs false

namespace Go.Proofs

open Go Go.Vx Go.Gm

theorem PlaceCosts_any (X : PlnX) (cores : List Int) (hcw : ∀ k ∈ cores, I64 k) (p : Option Addr) (c b o : Nat) (w : World) (hX : PlnRi X w) (h1 : Sl w intV 1 cores p cores.length b o) :
    Calls Tryz.prog 9 #[.agg X.net.toArray, .agg (chpC X.C X.pd X.cd).toArray, .slice p cores.length c] w fun e w' => e = .returned (.bool true) ∧ St w [] [] w' := by
  have hf := fun (w' : World) => few7_any X w'
  have hz := fun (w' : World) => ref7_any X.C X.pd X.cd w'
  have g1 := fun hl (w' : World) h => placeCost_any X w' h cores hcw hl p c b o
  have g2 := fun hl (w' : World) h => rCost_any X w' h cores hcw hl p c b o
  have g3 := fun (w' : World) h => placeLow_any X w' h
  have g4 := fun (w' : World) h => rLow_any X w' h
  have g5 := fun hl (w' : World) h => placeCheck_any X w' h cores hcw hl p c b o
  have g6 := fun hl (w' : World) h => rCheck_any X w' h cores hcw hl p c b o
  obtain ⟨⟨a1, a2⟩, hA⟩ : ∃ A, costR X.N X.C cores = A := ⟨_, rfl⟩
  obtain ⟨⟨b1, b2⟩, hB⟩ : ∃ B, lowR X.N X.C = B := ⟨_, rfl⟩
  obtain ⟨E, hE⟩ : ∃ E, asgE X.N X.C cores = E := ⟨_, rfl⟩
  rw [hA] at g1 g2
  rw [hB] at g3 g4
  rw [hE] at g5 g6
  dsimp only at g1 g2 g3 g4
  unfold PlnX.net chpC at hf g1 g2 g3 g4 g5 g6
  unfold chpC at hz
  unfold PlnX.net chpC
  refine enter (C := Tryz.cx) (F := Tryz.fx9) (args := [_, _, _]) Tryz.func9 rfl rfl rfl Tryz.ok9 (St.start w []) ?_
  repeat' (conv => whnf); first | (refine VCall.isF 15 ?_; (refine VCall.valR (fun w' _ => works7_any w') ?_)) | (refine VCall.isF 19 ?_; (refine VCall.genR (fun w' hw' => hf w') ?_; rintro r hrr)) | (refine VCall.isF 18 ?_; (refine VCall.valR (fun w' _ => hz w') ?_)) | (refine VCall.isF 33 ?_; (refine VCall.valR (fun w' hw' => g1 (by omega) w' (hX.rd hw' (by have := hrr.1 rfl; omega)) (h1.keep hw' (by simp))) ?_)) | (refine VCall.isF 34 ?_; (refine VCall.valR (fun w' hw' => g2 (by omega) w' (hX.rd hw' (by have := hrr.1 rfl; omega)) (h1.keep hw' (by simp))) ?_)) | (refine VCall.isF 35 ?_; (refine VCall.valR (fun w' hw' => g3 w' (hX.rd hw' (by have := hrr.1 rfl; omega))) ?_)) | (refine VCall.isF 36 ?_; (refine VCall.valR (fun w' hw' => g4 w' (hX.rd hw' (by have := hrr.1 rfl; omega))) ?_)) | (refine VCall.isF 37 ?_; (refine VCall.valR (fun w' hw' => g5 (by omega) w' (hX.rd hw' (by have := hrr.1 rfl; omega)) (h1.keep hw' (by simp))) ?_)) | (refine VCall.isF 38 ?_; (refine VCall.valR (fun w' hw' => g6 (by omega) w' (hX.rd hw' (by have := hrr.1 rfl; omega)) (h1.keep hw' (by simp))) ?_)) | (refine VSeq.go ?_) | (refine VB.is ?_; refine VB.yes (by omega) fun _ => ?_) | (refine VB.is ?_; refine VB.no (by omega) fun _ => ?_) | (refine VB.split (fun _ => ?_) (fun _ => ?_)) | (refine boolE_split (fun h => ?_) (fun h => ?_) <;> subst h) | (refine VLd.is ?_; refine VLd.mk (.row aT (by rfl)) ?_) | (refine VSt.is ?_; refine VSt.row aT (by rfl) (by first | rfl | assumption) ?_) | (refine VNew.mk fun _ => ?_) | (refine VAr.is ?_; refine oA ?_) | (refine VIx.is ?_; refine VIx.mk rfl (by omega) (by omega) ?_) | (refine VKeep.is ?_; refine VKeep.mk aH ?_) | (refine VHs.mk _ (.refl _) ?_) | (refine VQ.is ?_; refine oQ ?_) | (refine VM.is ?_; refine oM ?_) | (refine And.intro ?_ ?_)
  all_goals (conv => whnf)
  all_goals exact ⟨fun w' hw' => ⟨rfl, hw'.le .nil⟩⟩

end Go.Proofs
end
