/- All frames and plans. -/

import Derived.Test.YtephkjicokbckaaGreatDoorVerifyBoundsFx1
import Derived.Test.YtephkjicokbckaaGreatDoorVerifyBoundsFx2
import Derived.Test.YtephkjicokbckaaGreatDoorVerifyBoundsFx3
import Derived.Test.YtephkjicokbckaaGreatDoorVerifyBoundsFx4
