/- Contracts: what hangs at the leaves of a part. -/
import Derived.Test.YtdfllkeekehplaaCJt
import Derived.Test.YtdfllkeekehplaaCFa
import Derived.Test.YtdfllkeekehplaaCPg
set_option autoImplicit false
set_option maxRecDepth 100000
set_option linter.unusedVariables false
namespace Go.AI
open Go.Proofs

def partB : Tr → Tr → Bool
  | .leaf, _ => true
  | .node _ _, .leaf => false
  | .node a b, .node c d => partB a c && partB b d

/-- What hangs at the leaves of a part. -/
def partsT : Tr → Tr → List Tr
  | .leaf, u => [u]
  | .node a b, .node c d => partsT a c ++ partsT b d
  | .node _ _, .leaf => []

theorem partsT_len : ∀ t u : Tr, partB t u = true → (partsT t u).length = t.c + 1
  | .leaf, u, _ => rfl
  | .node a b, .leaf, h => by simp [partB] at h
  | .node a b, .node c d, h => by
    simp only [partB, Bool.and_eq_true] at h
    simp only [partsT, List.length_append, partsT_len a c h.1, partsT_len b d h.2, Tr.c]
    omega

end Go.AI
