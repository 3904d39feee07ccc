/- Contracts: pairs reduced by the reference. -/
import Derived.Test.YtdfllkeekehplaaJC
import Derived.Test.YtdfllkeekehplaaGN
set_option autoImplicit false
set_option maxRecDepth 100000
set_option linter.unusedVariables false
namespace Go.AI
open Go.Proofs

end Go.AI
