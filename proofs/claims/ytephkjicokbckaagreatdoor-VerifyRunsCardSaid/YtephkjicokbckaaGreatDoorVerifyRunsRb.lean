/- Rb: the reference of networks walked: a tick, Run. -/

import Derived.Test.YtephkjicokbckaaGreatDoorVerifyRunsRa
import Derived.Test.YtephkjicokbckaaGreatDoorVerifyRunsMk
import Derived.Test.YtephkjicokbckaaGreatDoorVerifyRunsNa
import Derived.Test.YtephkjicokbckaaGreatDoorVerifyRunsNb
import Derived.Test.YtephkjicokbckaaGreatDoorVerifyRunsGa
import Derived.Test.YtephkjicokbckaaGreatDoorVerifyRunsGd

/-! Ref3: the reference's simulation in memory. -/

section

set_option linter.unusedVariables false

set_option linter.unusedSimpArgs false

set_option linter.unnecessarySimpa false

namespace Go.Proofs

open Go Go.Vx Go.Gm

/-- A simulation of the reference as it lies in memory. -/
structure RSim where
  b : Nat
  N : Net
  pn : Option Addr
  cn : Nat
  qs : Option Addr
  cs : Nat
  tick : Nat
  sb : Nat
  sc : Nat
  sts : List Sta
  dp : Option Addr
  dc : Nat
  D : List DRow

end Go.Proofs

end

/-! Ref4: a tick of the reference, walked. -/

section

set_option linter.unusedVariables false

set_option linter.unusedSimpArgs false

set_option linter.unnecessarySimpa false

namespace Go.Proofs

open Go Go.Vx Go.Gm

/-- A tick as the reference does it, from the numbers of the sources. -/
def goFire (x : RSim) : List (Sta × Bool) := fire x.N.ps x.sts ((x.D[0]?.map (·.l)).getD [])

/-- What a tick of the reference leaves. -/
structure RGoY where
  p : Option Addr
  cap : Nat
  dp : Option Addr
  dc : Nat
  D : List DRow

def RSim.put (x : RSim) (t : Nat) (sts : List Sta) (dp : Option Addr) (dc : Nat) (D : List DRow) : RSim := { x with tick := t, sts := sts, dp := dp, dc := dc, D := D }

def RSim.next (x : RSim) (y : RGoY) : RSim := x.put (x.tick + 1) ((goFire x).map (·.1)) y.dp y.dc y.D

end Go.Proofs

end

/-! Ref5: the reference's Run, walked. -/

section

set_option linter.unusedVariables false

set_option linter.unusedSimpArgs false

namespace Go.Proofs

open Go Go.Vx Go.Gm

theorem rot0 {D : List (List Int)} (h : D.length = 16) : rot 0 D = D := by
  apply List.ext_getElem?
  intro i
  rw [rot_get]
  by_cases hi : i < 16
  · have h2 : (0 + i) % 16 = i := by omega
    rw [if_pos hi, h2, List.getElem?_eq_getElem (by omega)]
    rfl
  · rw [if_neg hi, List.getElem?_eq_none (by omega)]

end Go.Proofs

end
