/- A part of the road: what it proves stands in its last texts. -/
import Derived.Test.YtdfllkeekehplaaSIds
import Derived.Test.YtdfllkeekehplaaProg
set_option autoImplicit false
set_option maxRecDepth 100000
set_option linter.unusedVariables false
namespace Go.AI
open Go.Proofs

/-! ### impl_join -/


/-! ### spec_trJoin -/


/-! ### impl_node_at -/


/-! ### impl_node_addresses -/


/-! ### impl_pair_times -/


/-! ### spec_prTimes -/


/-! ### impl_pair_inverse -/


/-! ### spec_prInverse -/


/-! ### spec_prParts -/


/-! ### impl_node_grown -/


theorem impl_node_grownB_p1 (a1 : Int) (a2F : FuncId) (a2f : (List Tr)) (c1 : Tr)
    (h1 : SC cfg.P a2F [.s (.v (.sl .tree) a2f), .s (.v (.int .i64) a1)] (.s (.v .tree c1)) []) :
    SC cfg.P i_impl_node_grown [.s (.v .tree Tr.leaf), .s (.v (.int .i64) a1), .fn a2F [.v (.sl .tree) a2f] []] (.s (.v .tree c1)) [] :=
  SC_of_run cfgOK (its := [.bool true, .res (.s (.v .tree c1)) [] [] []])
    (ps := [Tr.leaf.isLeaf = true,
      SC cfg.P a2F [.s (.v (.sl .tree) a2f), .s (.v (.int .i64) a1)] (.s (.v .tree c1)) []]) (by kernel_rfl) ⟨rfl, h1, trivial⟩ get_impl_node_grown (by decide)

theorem impl_node_grownB_p2 (a0l : Tr) (a0r : Tr) (a1 : Int) (a2F : FuncId) (a2f : (List Tr)) (c1 : Tr) (c2 : Int) (c3 : Tr)
    (h1 : SC cfg.P i_impl_node_grown [.s (.v .tree a0l), .s (.v (.int .i64) a1), .fn a2F [.v (.sl .tree) a2f] []] (.s (.v .tree c1)) [])
    (h2 : SC cfg.P i_impl_node_leaves [.s (.v .tree a0l)] (.s (.v (.int .i64) c2)) [])
    (h3 : SC cfg.P i_impl_node_grown [.s (.v .tree a0r), .s (.v (.int .i64) (IntKind.wrap .i64 (a1 + c2))), .fn a2F [.v (.sl .tree) a2f] []] (.s (.v .tree c3)) []) :
    SC cfg.P i_impl_node_grown [.s (.v .tree (Tr.node a0l a0r)), .s (.v (.int .i64) a1), .fn a2F [.v (.sl .tree) a2f] []] (.s (.v .tree (Tr.node c1 c3))) [] :=
  SC_of_run cfgOK (its := [.bool false, .res (.s (.v .tree c1)) [] [] [], .res (.s (.v (.int .i64) c2)) [] [] [], .res (.s (.v .tree c3)) [] [] []])
    (ps := [(Tr.node a0l a0r).isLeaf = false,
      SC cfg.P i_impl_node_grown [.s (.v .tree a0l), .s (.v (.int .i64) a1), .fn a2F [.v (.sl .tree) a2f] []] (.s (.v .tree c1)) [],
      SC cfg.P i_impl_node_leaves [.s (.v .tree a0l)] (.s (.v (.int .i64) c2)) [],
      SC cfg.P i_impl_node_grown [.s (.v .tree a0r), .s (.v (.int .i64) (IntKind.wrap .i64 (a1 + c2))), .fn a2F [.v (.sl .tree) a2f] []] (.s (.v .tree c3)) []]) (by kernel_rfl) ⟨rfl, h1, h2, h3, trivial⟩ get_impl_node_grown (by decide)

/-! ### impl_node_graft_k1 -/


/-! ### impl_parts -/


/-! ### spec_prFill -/


/-! ### impl_parts_k1 -/


end Go.AI
