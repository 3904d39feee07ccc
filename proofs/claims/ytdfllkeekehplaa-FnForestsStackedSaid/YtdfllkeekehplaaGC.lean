/- A part of the road: what it proves stands in its last texts. -/
import Derived.Test.YtdfllkeekehplaaSIds
import Derived.Test.YtdfllkeekehplaaProg
set_option autoImplicit false
set_option maxRecDepth 100000
set_option linter.unusedVariables false
namespace Go.AI
open Go.Proofs

/-! ### impl_JoinTrees -/


/-! ### spec_JoinTrees -/


/-! ### impl_CommonTree -/


/-! ### spec_CommonTree -/


/-! ### impl_IsPartOf -/


/-! ### spec_IsPartOf -/


/-! ### impl_SubtreeAt -/


/-! ### spec_SubtreeAt -/


/-! ### impl_GraftAt -/


/-! ### spec_GraftAt -/


/-! ### impl_AddressesOf -/


/-! ### spec_l1In -/


/-! ### impl_told -/


/-! ### impl_common -/


theorem impl_common_p1 (a1 : Tr)
     :
    SC cfg.P i_impl_common [.s (.v .tree Tr.leaf), .s (.v .tree a1)] (.s (.v .tree Tr.leaf)) [] :=
  SC_of_run cfgOK (its := [.bool true])
    (ps := [Tr.leaf.isLeaf = true]) (by kernel_rfl) ⟨rfl, trivial⟩ get_impl_common (by decide)

theorem impl_common_p2 (a0l : Tr) (a0r : Tr)
     :
    SC cfg.P i_impl_common [.s (.v .tree (Tr.node a0l a0r)), .s (.v .tree Tr.leaf)] (.s (.v .tree Tr.leaf)) [] :=
  SC_of_run cfgOK (its := [.bool false, .bool true])
    (ps := [(Tr.node a0l a0r).isLeaf = false,
      Tr.leaf.isLeaf = true]) (by kernel_rfl) ⟨rfl, rfl, trivial⟩ get_impl_common (by decide)

theorem impl_common_p3 (a0l : Tr) (a0r : Tr) (a1l : Tr) (a1r : Tr) (c1 : Tr) (c2 : Tr)
    (h1 : SC cfg.P i_impl_common [.s (.v .tree a0l), .s (.v .tree a1l)] (.s (.v .tree c1)) [])
    (h2 : SC cfg.P i_impl_common [.s (.v .tree a0r), .s (.v .tree a1r)] (.s (.v .tree c2)) []) :
    SC cfg.P i_impl_common [.s (.v .tree (Tr.node a0l a0r)), .s (.v .tree (Tr.node a1l a1r))] (.s (.v .tree (Tr.node c1 c2))) [] :=
  SC_of_run cfgOK (its := [.bool false, .bool false, .res (.s (.v .tree c1)) [] [] [], .res (.s (.v .tree c2)) [] [] []])
    (ps := [(Tr.node a0l a0r).isLeaf = false,
      (Tr.node a1l a1r).isLeaf = false,
      SC cfg.P i_impl_common [.s (.v .tree a0l), .s (.v .tree a1l)] (.s (.v .tree c1)) [],
      SC cfg.P i_impl_common [.s (.v .tree a0r), .s (.v .tree a1r)] (.s (.v .tree c2)) []]) (by kernel_rfl) ⟨rfl, rfl, h1, h2, trivial⟩ get_impl_common (by decide)

/-! ### spec_trCommon -/


theorem spec_trCommon_p1 (a0 : ByteArray) (a1 : ByteArray)
    (h1 : SC cfg.P i_spec_trLeaf [.s (.v .str a0)] (.s (.v .bool true)) []) :
    SC cfg.P i_spec_trCommon [.s (.v .str a0), .s (.v .str a1)] (.s (.v .str (⟨#[46]⟩ : ByteArray))) [] :=
  SC_of_run cfgOK (its := [.res (.s (.v .bool true)) [] [] []])
    (ps := [SC cfg.P i_spec_trLeaf [.s (.v .str a0)] (.s (.v .bool true)) []]) (by kernel_rfl) ⟨h1, trivial⟩ get_spec_trCommon (by decide)

theorem spec_trCommon_p2 (a0 : ByteArray) (a1 : ByteArray)
    (h1 : SC cfg.P i_spec_trLeaf [.s (.v .str a0)] (.s (.v .bool false)) [])
    (h2 : SC cfg.P i_spec_trLeaf [.s (.v .str a1)] (.s (.v .bool true)) []) :
    SC cfg.P i_spec_trCommon [.s (.v .str a0), .s (.v .str a1)] (.s (.v .str (⟨#[46]⟩ : ByteArray))) [] :=
  SC_of_run cfgOK (its := [.res (.s (.v .bool false)) [] [] [], .res (.s (.v .bool true)) [] [] []])
    (ps := [SC cfg.P i_spec_trLeaf [.s (.v .str a0)] (.s (.v .bool false)) [],
      SC cfg.P i_spec_trLeaf [.s (.v .str a1)] (.s (.v .bool true)) []]) (by kernel_rfl) ⟨h1, h2, trivial⟩ get_spec_trCommon (by decide)

theorem spec_trCommon_p3 (a0 : ByteArray) (a1 : ByteArray) (c3a : ByteArray) (c3b : ByteArray) (c4a : ByteArray) (c4b : ByteArray) (c5 : ByteArray) (c6 : ByteArray) (c7 : ByteArray)
    (h1 : SC cfg.P i_spec_trLeaf [.s (.v .str a0)] (.s (.v .bool false)) [])
    (h2 : SC cfg.P i_spec_trLeaf [.s (.v .str a1)] (.s (.v .bool false)) [])
    (h3 : SC cfg.P i_spec_trSides [.s (.v .str a0)] (.tup [.v .str c3a, .v .str c3b]) [])
    (h4 : SC cfg.P i_spec_trSides [.s (.v .str a1)] (.tup [.v .str c4a, .v .str c4b]) [])
    (h5 : SC cfg.P i_spec_trCommon [.s (.v .str c3a), .s (.v .str c4a)] (.s (.v .str c5)) [])
    (h6 : SC cfg.P i_spec_trCommon [.s (.v .str c3b), .s (.v .str c4b)] (.s (.v .str c6)) [])
    (h7 : SC cfg.P i_spec_trOf [.s (.v .str c5), .s (.v .str c6)] (.s (.v .str c7)) []) :
    SC cfg.P i_spec_trCommon [.s (.v .str a0), .s (.v .str a1)] (.s (.v .str c7)) [] :=
  SC_of_run cfgOK (its := [.res (.s (.v .bool false)) [] [] [], .res (.s (.v .bool false)) [] [] [], .res (.tup [.v .str c3a, .v .str c3b]) [] [] [], .res (.tup [.v .str c4a, .v .str c4b]) [] [] [], .res (.s (.v .str c5)) [] [] [], .res (.s (.v .str c6)) [] [] [], .res (.s (.v .str c7)) [] [] []])
    (ps := [SC cfg.P i_spec_trLeaf [.s (.v .str a0)] (.s (.v .bool false)) [],
      SC cfg.P i_spec_trLeaf [.s (.v .str a1)] (.s (.v .bool false)) [],
      SC cfg.P i_spec_trSides [.s (.v .str a0)] (.tup [.v .str c3a, .v .str c3b]) [],
      SC cfg.P i_spec_trSides [.s (.v .str a1)] (.tup [.v .str c4a, .v .str c4b]) [],
      SC cfg.P i_spec_trCommon [.s (.v .str c3a), .s (.v .str c4a)] (.s (.v .str c5)) [],
      SC cfg.P i_spec_trCommon [.s (.v .str c3b), .s (.v .str c4b)] (.s (.v .str c6)) [],
      SC cfg.P i_spec_trOf [.s (.v .str c5), .s (.v .str c6)] (.s (.v .str c7)) []]) (by kernel_rfl) ⟨h1, h2, h3, h4, h5, h6, h7, trivial⟩ get_spec_trCommon (by decide)

/-! ### impl_isPart -/


theorem impl_isPart_p1 (a1 : Tr)
     :
    SC cfg.P i_impl_isPart [.s (.v .tree Tr.leaf), .s (.v .tree a1)] (.s (.v .bool true)) [] :=
  SC_of_run cfgOK (its := [.bool true])
    (ps := [Tr.leaf.isLeaf = true]) (by kernel_rfl) ⟨rfl, trivial⟩ get_impl_isPart (by decide)

theorem impl_isPart_p2 (a0l : Tr) (a0r : Tr)
     :
    SC cfg.P i_impl_isPart [.s (.v .tree (Tr.node a0l a0r)), .s (.v .tree Tr.leaf)] (.s (.v .bool false)) [] :=
  SC_of_run cfgOK (its := [.bool false, .bool false])
    (ps := [(Tr.node a0l a0r).isLeaf = false,
      (!Tr.leaf.isLeaf) = false]) (by kernel_rfl) ⟨rfl, rfl, trivial⟩ get_impl_isPart (by decide)

theorem impl_isPart_p3 (a0l : Tr) (a0r : Tr) (a1l : Tr) (a1r : Tr) (c2 : Bool)
    (h1 : SC cfg.P i_impl_isPart [.s (.v .tree a0l), .s (.v .tree a1l)] (.s (.v .bool true)) [])
    (h2 : SC cfg.P i_impl_isPart [.s (.v .tree a0r), .s (.v .tree a1r)] (.s (.v .bool c2)) []) :
    SC cfg.P i_impl_isPart [.s (.v .tree (Tr.node a0l a0r)), .s (.v .tree (Tr.node a1l a1r))] (.s (.v .bool c2)) [] :=
  SC_of_run cfgOK (its := [.bool false, .bool true, .res (.s (.v .bool true)) [] [] [], .res (.s (.v .bool c2)) [] [] []])
    (ps := [(Tr.node a0l a0r).isLeaf = false,
      (!(Tr.node a1l a1r).isLeaf) = true,
      SC cfg.P i_impl_isPart [.s (.v .tree a0l), .s (.v .tree a1l)] (.s (.v .bool true)) [],
      SC cfg.P i_impl_isPart [.s (.v .tree a0r), .s (.v .tree a1r)] (.s (.v .bool c2)) []]) (by kernel_rfl) ⟨rfl, rfl, h1, h2, trivial⟩ get_impl_isPart (by decide)

theorem impl_isPart_p4 (a0l : Tr) (a0r : Tr) (a1l : Tr) (a1r : Tr)
    (h1 : SC cfg.P i_impl_isPart [.s (.v .tree a0l), .s (.v .tree a1l)] (.s (.v .bool false)) []) :
    SC cfg.P i_impl_isPart [.s (.v .tree (Tr.node a0l a0r)), .s (.v .tree (Tr.node a1l a1r))] (.s (.v .bool false)) [] :=
  SC_of_run cfgOK (its := [.bool false, .bool true, .res (.s (.v .bool false)) [] [] []])
    (ps := [(Tr.node a0l a0r).isLeaf = false,
      (!(Tr.node a1l a1r).isLeaf) = true,
      SC cfg.P i_impl_isPart [.s (.v .tree a0l), .s (.v .tree a1l)] (.s (.v .bool false)) []]) (by kernel_rfl) ⟨rfl, rfl, h1, trivial⟩ get_impl_isPart (by decide)

/-! ### spec_trAt -/


/-! ### impl_hasLeaf -/


/-! ### impl_node_graft -/


/-! ### spec_trLeaves -/


end Go.AI
