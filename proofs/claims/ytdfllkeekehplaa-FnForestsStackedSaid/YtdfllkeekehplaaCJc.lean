/- Common parts. -/
import Derived.Test.YtdfllkeekehplaaGC
import Derived.Test.YtdfllkeekehplaaCJt
set_option autoImplicit false
set_option maxRecDepth 100000
set_option linter.unusedVariables false
namespace Go.AI
open Go.Proofs

def comT : Tr → Tr → Tr
  | .leaf, _ => .leaf
  | .node _ _, .leaf => .leaf
  | .node a b, .node c d => .node (comT a c) (comT b d)

theorem comT_c : ∀ t u : Tr, (comT t u).c ≤ t.c
  | .leaf, _ => by simp [comT]
  | .node _ _, .leaf => by simp [comT, Tr.c]
  | .node a b, .node c d => by have := comT_c a c; have := comT_c b d; simp only [comT, Tr.c]; omega

theorem common_SC : ∀ t u : Tr, SC cfg.P i_impl_common [.s (.v .tree t), .s (.v .tree u)] (.s (.v .tree (comT t u))) []
  | .leaf, u => impl_common_p1 u
  | .node a b, .leaf => impl_common_p2 a b
  | .node a b, .node c d => impl_common_p3 _ _ _ _ _ _ (common_SC a c) (common_SC b d)

theorem trCommon_SC : ∀ t u : Tr, t.c ≤ 50 → u.c ≤ 50 → SC cfg.P i_spec_trCommon [.s (.v .str (bs (txt t))), .s (.v .str (bs (txt u)))] (.s (.v .str (bs (txt (comT t u))))) []
  | .leaf, u, _, _ => spec_trCommon_p1 _ _ trLeaf_leaf
  | .node a b, .leaf, _, _ => spec_trCommon_p2 _ _ (trLeaf_node a b) trLeaf_leaf
  | .node a b, .node c d, h1, h2 => by
    have h1' := h1
    have h2' := h2
    simp only [Tr.c] at h1 h2
    have c1 := comT_c a c
    have c2 := comT_c b d
    exact spec_trCommon_p3 _ _ _ _ _ _ _ _ _ (trLeaf_node a b) (trLeaf_node c d) (trSides_SC a b h1') (trSides_SC c d h2') (trCommon_SC a c (by omega) (by omega)) (trCommon_SC b d (by omega) (by omega)) (trOf_SC _ _ (by omega) (by omega))

end Go.AI
