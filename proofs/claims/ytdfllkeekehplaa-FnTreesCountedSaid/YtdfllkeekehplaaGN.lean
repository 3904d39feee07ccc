/- A part of the road: what it proves stands in its last texts. -/
import Derived.Test.YtdfllkeekehplaaSIds
import Derived.Test.YtdfllkeekehplaaProg
set_option autoImplicit false
set_option maxRecDepth 100000
set_option linter.unusedVariables false
namespace Go.AI
open Go.Proofs

/-! ### impl_pair_reduced -/


/-! ### impl_two -/


/-! ### impl_pair_fits -/


/-! ### spec_prIf -/


/-! ### spec_prReduce -/


end Go.AI
