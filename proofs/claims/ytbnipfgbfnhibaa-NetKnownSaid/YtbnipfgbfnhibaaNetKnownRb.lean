/- Rb: the reference of networks walked: a tick, Run. -/

import Derived.Test.YtbnipfgbfnhibaaNetKnownRa
import Derived.Test.YtbnipfgbfnhibaaNetKnownMk
import Derived.Test.YtbnipfgbfnhibaaNetKnownNa
import Derived.Test.YtbnipfgbfnhibaaNetKnownNb
import Derived.Test.YtbnipfgbfnhibaaNetKnownGa
import Derived.Test.YtbnipfgbfnhibaaNetKnownGd

/-! Ref3: the reference's simulation in memory. -/

section

set_option linter.unusedVariables false

set_option linter.unusedSimpArgs false

set_option linter.unnecessarySimpa false

namespace Go.Proofs

open Go Go.Vx Go.Gm

/-- A simulation of the reference as it lies in memory. -/
structure RSim where
  b : Nat
  N : Net
  pn : Option Addr
  cn : Nat
  qs : Option Addr
  cs : Nat
  tick : Nat
  sb : Nat
  sc : Nat
  sts : List Sta
  dp : Option Addr
  dc : Nat
  D : List DRow

def rsimC (x : RSim) : List Value :=
  [.slice x.pn x.N.ps.length x.cn, .int .i64 x.N.inputs, .slice x.qs x.N.syns.length x.cs, .int .i64 (x.tick : Int), .slice (some ⟨x.sb, 0, none⟩) x.sts.length x.sc, .slice x.dp x.D.length x.dc]

def rsimH (x : RSim) : HP :=
  .row x.b 92 (rsimC x) :: .vec (some ⟨x.sb, 0, none⟩) x.sts.length x.sc 98 2 (flat staV x.sts) :: .vec x.dp x.D.length x.dc 46 1 (x.D.map drowV) :: x.D.map drowE

end Go.Proofs

end

/-! Ref4: a tick of the reference, walked. -/

section

set_option linter.unusedVariables false

set_option linter.unusedSimpArgs false

set_option linter.unnecessarySimpa false

namespace Go.Proofs

open Go Go.Vx Go.Gm

structure RSimOk (x : RSim) : Prop where
  net : NetOk x.N
  sts : x.sts.length = x.N.ps.length
  due : x.D.length = 16
  cells : ∀ d ∈ x.D, d.l.length = x.N.ps.length
  dp : ∃ g, x.dp = some ⟨g, 0, none⟩

/-- What is left of a simulation of the reference in plain Lean. -/
def smR (x : RSim) : Sm := ⟨x.sts, x.D.map (·.l)⟩

/-- A tick as the reference does it, from the numbers of the sources. -/
def goFire (x : RSim) : List (Sta × Bool) := fire x.N.ps x.sts ((x.D[0]?.map (·.l)).getD [])

/-- What a tick of the reference leaves. -/
structure RGoY where
  p : Option Addr
  cap : Nat
  dp : Option Addr
  dc : Nat
  D : List DRow

def RSim.put (x : RSim) (t : Nat) (sts : List Sta) (dp : Option Addr) (dc : Nat) (D : List DRow) : RSim := { x with tick := t, sts := sts, dp := dp, dc := dc, D := D }

def RSim.next (x : RSim) (y : RGoY) : RSim := x.put (x.tick + 1) ((goFire x).map (·.1)) y.dp y.dc y.D

end Go.Proofs

end

/-! Ref5: the reference's Run, walked. -/

section

set_option linter.unusedVariables false

set_option linter.unusedSimpArgs false

namespace Go.Proofs

open Go Go.Vx Go.Gm

theorem goFire_rot {x : RSim} {N : Net} {X : Sm} {t : Nat} (hN : x.N = N) (h : smR x = smRot t X) : spk (goFire x) = ringSpk N t X := by
  have e0 : (goFire x) = fire x.N.ps (smR x).sts (((smR x).D[0]?).getD []) := by
    unfold goFire smR
    rw [List.getElem?_map]
  rw [e0, h, hN]
  unfold ringSpk smRot
  dsimp only
  rw [rot_get]
  simp

end Go.Proofs

end
