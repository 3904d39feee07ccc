/- A part of the road: what it proves stands in its last texts. -/
import Derived.Test.YtdfllkeekehplaaSIds
import Derived.Test.YtdfllkeekehplaaAiI
import Derived.Test.YtdfllkeekehplaaProg
set_option autoImplicit false
set_option maxRecDepth 100000
set_option linter.unusedVariables false
namespace Go.AI
open Go.Proofs

/-! ### impl_node_mirror -/


theorem impl_node_mirror_p1 
     :
    SC cfg.P i_impl_node_mirror [.s (.v .tree Tr.leaf)] (.s (.v .tree Tr.leaf)) [] :=
  SC_of_run cfgOK (its := [.bool true])
    (ps := [Tr.leaf.isLeaf = true]) (by kernel_rfl) ⟨rfl, trivial⟩ get_impl_node_mirror (by decide)

theorem impl_node_mirror_p2 (a0l : Tr) (a0r : Tr) (c1 : Tr) (c2 : Tr)
    (h1 : SC cfg.P i_impl_node_mirror [.s (.v .tree a0r)] (.s (.v .tree c1)) [])
    (h2 : SC cfg.P i_impl_node_mirror [.s (.v .tree a0l)] (.s (.v .tree c2)) []) :
    SC cfg.P i_impl_node_mirror [.s (.v .tree (Tr.node a0l a0r))] (.s (.v .tree (Tr.node c1 c2))) [] :=
  SC_of_run cfgOK (its := [.bool false, .res (.s (.v .tree c1)) [] [] [], .res (.s (.v .tree c2)) [] [] []])
    (ps := [(Tr.node a0l a0r).isLeaf = false,
      SC cfg.P i_impl_node_mirror [.s (.v .tree a0r)] (.s (.v .tree c1)) [],
      SC cfg.P i_impl_node_mirror [.s (.v .tree a0l)] (.s (.v .tree c2)) []]) (by kernel_rfl) ⟨rfl, h1, h2, trivial⟩ get_impl_node_mirror (by decide)

end Go.AI
