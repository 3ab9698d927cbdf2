/- All frames and plans. -/

import Derived.Test.YtephkjicokbckaaGreatDoorVerifyRunsFx1
import Derived.Test.YtephkjicokbckaaGreatDoorVerifyRunsFx2
import Derived.Test.YtephkjicokbckaaGreatDoorVerifyRunsFx3
import Derived.Test.YtephkjicokbckaaGreatDoorVerifyRunsFx4
