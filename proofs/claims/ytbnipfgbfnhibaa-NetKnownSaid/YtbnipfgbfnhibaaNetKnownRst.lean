/- Rst: Step of the reference, walked. -/

import Derived.Test.YtbnipfgbfnhibaaNetKnownRb
import Derived.Test.YtbnipfgbfnhibaaNetKnownStp

set_option linter.unusedVariables false

set_option linter.unusedSimpArgs false

namespace Go.Proofs

open Go Go.Vx Go.Gm

/-- A simulation of the reference, ready for a tick. -/
structure RRun (x : RSim) : Prop where
  ok : RSimOk x
  sta : StaAll x.N x.sts
  tick : x.tick ≤ 10000

def rstepErr (x : RSim) (ins : List Int) : Int := if 10000 ≤ x.tick then 8 else ascErr x.N.inputs none ins

def rstepSpk (x : RSim) (ins : List Int) : List Int := if rstepErr x ins = 0 then spk (goFire x) else []

/-- What Step of the reference leaves. -/
def RStepTo (x : RSim) (ins : List Int) (z : RSim) : Prop :=
  if rstepErr x ins = 0 then RSimOk z ∧ z.N = x.N ∧ (z.pn = x.pn ∧ z.qs = x.qs ∧ z.b = x.b) ∧ z.tick = x.tick + 1 ∧ smR z = refStep x.N (smR x) ins else z = x

end Go.Proofs
