/- To2: more arguments of the laws, opened: lists of lists of numbers, images, calls. -/

import Derived.Test.YtephkjicokbckaaGreatDoorVerifyBoundsTo
import Derived.Test.YtephkjicokbckaaGreatDoorVerifyBoundsCc

set_option linter.unusedVariables false

set_option linter.unusedSimpArgs false

namespace Go.Proofs

open Go Go.Vx Go.Gm Go.RowKit Go.WideShapes Go.ChangeShapes Go.Deep Go.Joins

section

variable {H : Type} {enc : TypeId × Value → H} {W : World} {base b0 : Nat} {spare : Nat → Bool} {held : Bool} {r : Reach}

end

end Go.Proofs
