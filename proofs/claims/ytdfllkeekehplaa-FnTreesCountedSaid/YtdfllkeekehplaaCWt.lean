/- Contracts: trees in place of leaves. -/
import Derived.Test.YtdfllkeekehplaaCJt
import Derived.Test.YtdfllkeekehplaaCPg
set_option autoImplicit false
set_option maxRecDepth 100000
set_option linter.unusedVariables false
namespace Go.AI
open Go.Proofs

/-- A tree with those of a forest in place of its leaves. -/
def growT (us : List Tr) : Tr → Nat → Tr
  | .leaf, n => us.getD n .leaf
  | .node a b, n => .node (growT us a n) (growT us b (n + (a.c + 1)))

end Go.AI
