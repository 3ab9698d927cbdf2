/- LawO: NetOne, walked. -/

import Derived.Test.YtbnipfgbfnhibaaNetResumesLawH
import Derived.Test.YtbnipfgbfnhibaaNetResumesOne
import Derived.Test.YtbnipfgbfnhibaaNetResumesImg
import Derived.Test.YtbnipfgbfnhibaaNetResumesRs
import Derived.Test.YtbnipfgbfnhibaaNetResumesBig

set_option linter.unusedVariables false

set_option linter.unusedSimpArgs false

namespace Go.Proofs

open Go Go.Vx Go.Gm

/-- What is known of a simulation behind some ticks of a run. -/
structure Behind1 (N : Net) (l : List Evt) (t : Nat) (y : SimM) : Prop where
  run : SimRun y
  net : y.N = N
  tick : y.tick = t
  st : smOf y = stAt N l t

/-- The rows of an image as slices. -/
def imgL (y : ImgM) : List (SlD Int) := y.D.map fun d => ⟨some ⟨d.g, 0, none⟩, d.cap, d.l⟩

theorem imgL_flat (D : List DRow) : flat slVs (D.map fun d => (⟨some ⟨d.g, 0, none⟩, d.cap, d.l⟩ : SlD Int)) = flat drowVs D := by
  induction D with
  | nil => rfl
  | cons d D ih =>
    have h1 : flat slVs ((d :: D).map fun d => (⟨some ⟨d.g, 0, none⟩, d.cap, d.l⟩ : SlD Int)) = [drowV d] ++ flat slVs (D.map fun d => (⟨some ⟨d.g, 0, none⟩, d.cap, d.l⟩ : SlD Int)) := by simp [flat, slVs, slV, drowV]
    rw [h1, ih]
    simp [flat, drowVs]

theorem Behind1.start {N : Net} (l : List Evt) {x : SimM} (hx : SimOk x) (hxN : x.N = N) (hxt : x.tick = 0) (hxs : x.sts = List.replicate N.ps.length ⟨0, 0⟩) (hxD : x.D.map (·.l) = List.replicate 16 (List.replicate N.ps.length 0)) : Behind1 N l 0 x := by
  refine ⟨⟨hx, ?_, by omega⟩, hxN, hxt, ?_⟩
  · intro i p s g1 g2
    rw [hxs, List.getElem?_replicate] at g2
    split at g2
    · cases g2
      have := (hx.net.ps p (List.mem_of_getElem? g1))
      have h1 := this.fl
      have h2 := this.rest
      unfold staOk
      dsimp only
      omega
    · cases g2
  · show smOf x = sm0 N
    unfold smOf sm0
    rw [hxs, hxD]

end Go.Proofs
