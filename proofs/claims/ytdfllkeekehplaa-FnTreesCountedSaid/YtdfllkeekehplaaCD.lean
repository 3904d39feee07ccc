/- Contracts: pairs. -/
import Derived.Test.YtdfllkeekehplaaCX
set_option autoImplicit false
set_option maxRecDepth 100000
set_option linter.unusedVariables false
namespace Go.AI
open Go.Proofs

abbrev pt (p : Tr × Tr) : ByteArray × ByteArray := (bs (txt p.1), bs (txt p.2))

end Go.AI
