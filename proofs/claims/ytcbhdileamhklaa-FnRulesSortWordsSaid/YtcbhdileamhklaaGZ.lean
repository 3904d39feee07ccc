/- All generated statements but the law's. -/
import Derived.Test.YtcbhdileamhklaaGA
import Derived.Test.YtcbhdileamhklaaGB
import Derived.Test.YtcbhdileamhklaaGC
import Derived.Test.YtcbhdileamhklaaGD
import Derived.Test.YtcbhdileamhklaaGS
import Derived.Test.YtcbhdileamhklaaGF
import Derived.Test.YtcbhdileamhklaaGR
import Derived.Test.YtcbhdileamhklaaGM
import Derived.Test.YtcbhdileamhklaaGP
import Derived.Test.YtcbhdileamhklaaGV
import Derived.Test.YtcbhdileamhklaaGE
