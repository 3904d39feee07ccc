/- All generated statements but the law's. -/
import Derived.Test.YtnhjfdkogbelaaaGT
import Derived.Test.YtnhjfdkogbelaaaGR
import Derived.Test.YtnhjfdkogbelaaaGN
import Derived.Test.YtnhjfdkogbelaaaGM
import Derived.Test.YtnhjfdkogbelaaaGF
import Derived.Test.YtnhjfdkogbelaaaGW
import Derived.Test.YtnhjfdkogbelaaaGV
import Derived.Test.YtnhjfdkogbelaaaGH
import Derived.Test.YtnhjfdkogbelaaaGE
