/- Rows and loops, once for all. -/
import Derived.Test.YtdfllkeekehplaaCU
import Derived.Test.YtdfllkeekehplaaCT
import Derived.Test.YtdfllkeekehplaaCR
import Derived.Test.YtdfllkeekehplaaCV
set_option autoImplicit false
set_option maxRecDepth 100000
set_option linter.unusedVariables false
namespace Go.AI
open Go.Proofs

theorem snoc_ex {α : Type} : ∀ (l : List α), l ≠ [] → ∃ m x, l = m ++ [x]
  | [], h => absurd rfl h
  | [a], _ => ⟨[], a, rfl⟩
  | a :: b :: l, _ => by
    obtain ⟨m, x, e⟩ := snoc_ex (b :: l) (by simp)
    exact ⟨a :: m, x, by rw [e]; rfl⟩

end Go.AI
