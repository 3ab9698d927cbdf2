/- All frames and plans. -/

import Derived.Test.YtbnipfgbfnhibaaNetResumesFx1
import Derived.Test.YtbnipfgbfnhibaaNetResumesFx2
import Derived.Test.YtbnipfgbfnhibaaNetResumesFx3
import Derived.Test.YtbnipfgbfnhibaaNetResumesFx4
