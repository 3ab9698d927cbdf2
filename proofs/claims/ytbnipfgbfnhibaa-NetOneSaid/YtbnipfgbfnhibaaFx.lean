/- All frames and plans. -/
import Derived.Test.YtbnipfgbfnhibaaFx1
import Derived.Test.YtbnipfgbfnhibaaFx2
import Derived.Test.YtbnipfgbfnhibaaFx3
import Derived.Test.YtbnipfgbfnhibaaFx4
