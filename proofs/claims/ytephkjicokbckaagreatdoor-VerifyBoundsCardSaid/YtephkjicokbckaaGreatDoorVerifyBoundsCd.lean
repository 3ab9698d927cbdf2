/- Cd: the frame of the tied cards: the tables as they were laid. -/

import Derived.Test.YtephkjicokbckaaGreatDoorVerifyBoundsTo2
import Derived.Test.YtephkjicokbckaaGreatDoorVerifyBoundsAi
import Derived.Test.YtephkjicokbckaaGreatDoorTie
import Derived.LaidMore
import Derived.Lib.LaidU8
import Derived.Stop.Joined

set_option linter.unusedVariables false

set_option linter.unusedSimpArgs false

set_option maxRecDepth 100000

namespace Go.Proofs.YtephkjicokbckaaGreatDoor

open Go Go.Vx Go.Gm Go.RowKit Go.WideShapes Go.ChangeShapes Go.Deep Go.Joins Go.Proofs

def laid3 : List (String × DataW Unit) := [("math/bits.deBruijn32tab", Rows.laid_math_bits_deBruijn32tab), ("math/bits.deBruijn64tab", Rows.laid_math_bits_deBruijn64tab), ("internal/strconv.uint64pow10", Rows.laid_internal_strconv_uint64pow10)]

theorem door_met (os : Os) (args : Array Value) : laidMetH Tryz.prog laid3 ((World.doorLaid Tryz.prog 4000 os).forCall (fun _ _ => 0) ⟨#[], args, []⟩).memory :=
  laidMetH_of_parts3 (fuel := 8) (laidMet_of_run' 8 (by kernel_rfl) (by kernel_rfl)) (by kernel_rfl) (by kernel_rfl)

theorem Tryz.gPow : Tryz.prog.globalNamed "internal/strconv.uint64pow10" = some 0 := by kernel_rfl

theorem Tryz.tPow : (Tryz.prog.globals[0]?).map (·.type) = some 288 := by kernel_rfl

theorem Tryz.aPow : Tryz.prog.underlying 288 = some (.array 20 67) := by kernel_rfl

theorem Tryz.ePow : Tryz.prog.underlying 67 = some (.int .u64) := by kernel_rfl

theorem Tryz.cPow : Tryz.prog.cellsOf 67 = 1 := by kernel_rfl

theorem Tryz.nPow : Tryz.prog.cellsOf 288 = 20 := by kernel_rfl

theorem pow_of_laid {W : World} (h : laidMetH Tryz.prog laid3 W) : PowTab W := by
  rw [MakeChecks.laidMetH_plain _ _ _ (by kernel_rfl)] at h
  obtain ⟨g, t, cs, fuel, p, hg, ht, hv, hd⟩ := Lib.laidMet.reads h (n := "internal/strconv.uint64pow10") (d := Lib.tabData .u64 Lib.pow10Tab) (.tail _ (.tail _ (.head _)))
  obtain rfl := Option.some.inj (Tryz.gPow.symm.trans hg)
  obtain rfl := Option.some.inj (Tryz.tPow.symm.trans ht)
  unfold PowTab Lib.TabIs
  rw [hv, ← Lib.cells_of_tab Tryz.aPow Tryz.ePow Tryz.cPow Tryz.nPow hd]

end Go.Proofs.YtephkjicokbckaaGreatDoor
