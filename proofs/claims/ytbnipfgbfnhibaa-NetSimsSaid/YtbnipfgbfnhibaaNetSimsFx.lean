/- All frames and plans. -/

import Derived.Test.YtbnipfgbfnhibaaNetSimsFx1
import Derived.Test.YtbnipfgbfnhibaaNetSimsFx2
import Derived.Test.YtbnipfgbfnhibaaNetSimsFx3
import Derived.Test.YtbnipfgbfnhibaaNetSimsFx4
