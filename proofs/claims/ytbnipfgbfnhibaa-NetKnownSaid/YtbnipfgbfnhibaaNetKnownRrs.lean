/- Rrs: Resume of the reference, walked. -/

import Derived.Test.YtbnipfgbfnhibaaNetKnownRcp
import Derived.Test.YtbnipfgbfnhibaaNetKnownRs

set_option linter.unusedVariables false

set_option linter.unusedSimpArgs false

namespace Go.Proofs

open Go Go.Vx Go.Gm

end Go.Proofs
