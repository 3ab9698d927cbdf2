/- All frames and plans. -/

import Derived.Test.YtbnipfgbfnhibaaNetKnownFx1
import Derived.Test.YtbnipfgbfnhibaaNetKnownFx2
import Derived.Test.YtbnipfgbfnhibaaNetKnownFx3
import Derived.Test.YtbnipfgbfnhibaaNetKnownFx4
