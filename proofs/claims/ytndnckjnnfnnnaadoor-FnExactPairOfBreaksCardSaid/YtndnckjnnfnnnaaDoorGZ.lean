/- All generated statements but the great ones. -/
import Derived.Test.YtndnckjnnfnnnaaDoorGT
import Derived.Test.YtndnckjnnfnnnaaDoorGR
import Derived.Test.YtndnckjnnfnnnaaDoorGF
import Derived.Test.YtndnckjnnfnnnaaDoorGY
import Derived.Test.YtndnckjnnfnnnaaDoorGM
import Derived.Test.YtndnckjnnfnnnaaDoorGL
