import Derived.Test.YtephkjicokbckaaGreatDoorVerifyFoundRj
import Derived.Test.YtephkjicokbckaaGreatDoorVerifyFoundFd
set_option linter.unusedVariables false

set_option linter.unusedSimpArgs false

namespace Go.Proofs

open Go Go.Vx Go.Gm

structure MomIn (w : World) (x : MomD) : Prop where
  m : ∃ b o, Sl w intV 1 x.m.l x.m.p x.m.l.length b o
  n : ∃ b o, Sl w intV 1 x.n.l x.n.p x.n.l.length b o

theorem Searched.ok {v : Sur} {Ls : List MomD} {ticks : Int} (h : Searched v Ls ticks) {w : World} (h6 : ∀ x ∈ Ls, MomIn w x) : ∀ x ∈ Ls, MomOk w x := fun x hx => by
  have := h.mom x hx
  exact ⟨(h6 x hx).m, (h6 x hx).n, by omega, by omega⟩

end Go.Proofs
