/- LawO: NetOne, walked. -/

import Derived.Test.YtbnipfgbfnhibaaNetKnownLawH
import Derived.Test.YtbnipfgbfnhibaaNetKnownOne
import Derived.Test.YtbnipfgbfnhibaaNetKnownImg
import Derived.Test.YtbnipfgbfnhibaaNetKnownRs
import Derived.Test.YtbnipfgbfnhibaaNetKnownBig

set_option linter.unusedVariables false

set_option linter.unusedSimpArgs false

namespace Go.Proofs

open Go Go.Vx Go.Gm

/-- What is known of a simulation behind some ticks of a run. -/
structure Behind1 (N : Net) (l : List Evt) (t : Nat) (y : SimM) : Prop where
  run : SimRun y
  net : y.N = N
  tick : y.tick = t
  st : smOf y = stAt N l t

theorem Behind1.start {N : Net} (l : List Evt) {x : SimM} (hx : SimOk x) (hxN : x.N = N) (hxt : x.tick = 0) (hxs : x.sts = List.replicate N.ps.length ⟨0, 0⟩) (hxD : x.D.map (·.l) = List.replicate 16 (List.replicate N.ps.length 0)) : Behind1 N l 0 x := by
  refine ⟨⟨hx, ?_, by omega⟩, hxN, hxt, ?_⟩
  · intro i p s g1 g2
    rw [hxs, List.getElem?_replicate] at g2
    split at g2
    · cases g2
      have := (hx.net.ps p (List.mem_of_getElem? g1))
      have h1 := this.fl
      have h2 := this.rest
      unfold staOk
      dsimp only
      omega
    · cases g2
  · show smOf x = sm0 N
    unfold smOf sm0
    rw [hxs, hxD]

end Go.Proofs
