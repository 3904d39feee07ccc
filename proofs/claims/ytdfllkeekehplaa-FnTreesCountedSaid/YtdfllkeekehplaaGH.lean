/- A part of the road: what it proves stands in its last texts. -/
import Derived.Test.YtdfllkeekehplaaSIds
import Derived.Test.YtdfllkeekehplaaProg
set_option autoImplicit false
set_option maxRecDepth 100000
set_option linter.unusedVariables false
namespace Go.AI
open Go.Proofs

/-! ### impl_join -/


/-! ### spec_trJoin -/


/-! ### impl_node_at -/


/-! ### impl_node_addresses -/


/-! ### impl_pair_times -/


/-! ### spec_prTimes -/


/-! ### impl_pair_inverse -/


/-! ### spec_prInverse -/


/-! ### spec_prParts -/


/-! ### impl_node_grown -/


/-! ### impl_node_graft_k1 -/


/-! ### impl_parts -/


/-! ### spec_prFill -/


/-! ### impl_parts_k1 -/


end Go.AI
