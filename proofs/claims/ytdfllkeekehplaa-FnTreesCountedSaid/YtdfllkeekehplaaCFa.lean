/- Contracts: addresses of leaves. -/
import Derived.Test.YtdfllkeekehplaaGH
import Derived.Test.YtdfllkeekehplaaCT
set_option autoImplicit false
set_option maxRecDepth 100000
set_option linter.unusedVariables false
namespace Go.AI
open Go.Proofs

end Go.AI
