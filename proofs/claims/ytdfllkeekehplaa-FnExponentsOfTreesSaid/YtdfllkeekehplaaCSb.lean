/- Contracts: pairs that do the same. -/
import Derived.Test.YtdfllkeekehplaaGX
import Derived.Test.YtdfllkeekehplaaCE
set_option autoImplicit false
set_option maxRecDepth 100000
set_option linter.unusedVariables false
namespace Go.AI
open Go.Proofs

theorem txt_inj' {t u : Tr} (h : txt t = txt u) : t = u := by
  have := txt_inj t u [] [] (by simpa using h)
  exact this.1

end Go.AI
