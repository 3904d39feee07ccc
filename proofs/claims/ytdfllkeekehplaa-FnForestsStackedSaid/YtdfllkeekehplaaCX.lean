/- Contracts: exposed carets in texts. -/
import Derived.Test.YtdfllkeekehplaaCR
set_option autoImplicit false
set_option maxRecDepth 100000
set_option linter.unusedVariables false
namespace Go.AI
open Go.Proofs

/-- The sign before a place. -/
def before (l : List UInt8) (i : Nat) : UInt8 := if i = 0 then 0 else l.getD (i - 1) 0

end Go.AI
