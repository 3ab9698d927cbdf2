/- Rrs: Resume of the reference, walked. -/

import Derived.Test.YtbnipfgbfnhibaaNetSimsRcp
import Derived.Test.YtbnipfgbfnhibaaNetSimsRs

set_option linter.unusedVariables false

set_option linter.unusedSimpArgs false

namespace Go.Proofs

open Go Go.Vx Go.Gm

end Go.Proofs
