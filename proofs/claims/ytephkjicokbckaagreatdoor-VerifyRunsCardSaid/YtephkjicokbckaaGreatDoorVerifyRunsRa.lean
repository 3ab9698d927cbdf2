/- Ra: the reference of neurons and networks walked: checks. -/

import Derived.Test.YtephkjicokbckaaGreatDoorVerifyRunsNa

/-! Ref1: the functions of ganglionref01 that a network needs, walked. -/

section

set_option linter.unusedVariables false

namespace Go.Proofs

open Go Go.Vx Go.Gm

end Go.Proofs

end

/-! Ref2: the reference of networks: events. -/

section

set_option linter.unusedVariables false

set_option linter.unusedSimpArgs false

namespace Go.Proofs

open Go Go.Vx Go.Gm

end Go.Proofs

end
