/- Parts. -/
import Derived.Test.YtdfllkeekehplaaGC
import Derived.Test.YtdfllkeekehplaaC7t
set_option autoImplicit false
set_option maxRecDepth 100000
set_option linter.unusedVariables false
namespace Go.AI
open Go.Proofs

theorem isPart_SC : ∀ t u : Tr, SC cfg.P i_impl_isPart [.s (.v .tree t), .s (.v .tree u)] (.s (.v .bool (partB t u))) []
  | .leaf, u => impl_isPart_p1 u
  | .node a b, .leaf => impl_isPart_p2 a b
  | .node a b, .node c d => by
    have h1 := isPart_SC a c
    have h2 := isPart_SC b d
    rw [partB]
    cases h : partB a c with
    | true => rw [h] at h1; rw [Bool.true_and]; exact impl_isPart_p3 _ _ _ _ _ h1 h2
    | false => rw [h] at h1; rw [Bool.false_and]; exact impl_isPart_p4 _ _ _ _ h1

end Go.AI
