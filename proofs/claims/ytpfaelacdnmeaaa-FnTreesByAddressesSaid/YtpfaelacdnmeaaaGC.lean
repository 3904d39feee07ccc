/- A part of the road: what it proves stands in its last texts. -/
import Derived.Test.YtpfaelacdnmeaaaSIds
import Derived.Test.YtpfaelacdnmeaaaProg
set_option autoImplicit false
set_option maxRecDepth 100000
set_option linter.unusedVariables false
namespace Go.AI
open Go.Proofs

/-! ### impl_GraftAt -/


theorem impl_GraftAt_p1 (a0 : ByteArray) (a1 : Int) (a2 : ByteArray) (c1a : Tr) (c2a : Tr) (c4 : Tr) (c5a : ByteArray) (c5b : Bool)
    (h1 : SC cfg.P i_impl_parse [.s (.v .str a0)] (.tup [.v .tree c1a, .v .bool true]) [])
    (h2 : SC cfg.P i_impl_parse [.s (.v .str a2)] (.tup [.v .tree c2a, .v .bool true]) [])
    (h3 : SC cfg.P i_impl_hasLeaf [.s (.v .tree c1a), .s (.v (.int .i64) a1)] (.s (.v .bool true)) [])
    (h4 : SC cfg.P i_impl_node_graft [.s (.v .tree c1a), .s (.v (.int .i64) a1), .s (.v .tree c2a)] (.s (.v .tree c4)) [])
    (h5 : SC cfg.P i_impl_told [.s (.v .tree c4)] (.tup [.v .str c5a, .v .bool c5b]) []) :
    SC cfg.P i_impl_GraftAt [.s (.v .str a0), .s (.v (.int .i64) a1), .s (.v .str a2)] (.tup [.v .str c5a, .v .bool c5b]) [] :=
  SC_of_run cfgOK (its := [.res (.tup [.v .tree c1a, .v .bool true]) [] [] [], .res (.tup [.v .tree c2a, .v .bool true]) [] [] [], .res (.s (.v .bool true)) [] [] [], .res (.s (.v .tree c4)) [] [] [], .res (.tup [.v .str c5a, .v .bool c5b]) [] [] []])
    (ps := [SC cfg.P i_impl_parse [.s (.v .str a0)] (.tup [.v .tree c1a, .v .bool true]) [],
      SC cfg.P i_impl_parse [.s (.v .str a2)] (.tup [.v .tree c2a, .v .bool true]) [],
      SC cfg.P i_impl_hasLeaf [.s (.v .tree c1a), .s (.v (.int .i64) a1)] (.s (.v .bool true)) [],
      SC cfg.P i_impl_node_graft [.s (.v .tree c1a), .s (.v (.int .i64) a1), .s (.v .tree c2a)] (.s (.v .tree c4)) [],
      SC cfg.P i_impl_told [.s (.v .tree c4)] (.tup [.v .str c5a, .v .bool c5b]) []]) (by kernel_rfl) ⟨h1, h2, h3, h4, h5, trivial⟩ get_impl_GraftAt (by decide)

theorem impl_GraftAt_p2 (a0 : ByteArray) (a1 : Int) (a2 : ByteArray) (c1a : Tr) (c2a : Tr)
    (h1 : SC cfg.P i_impl_parse [.s (.v .str a0)] (.tup [.v .tree c1a, .v .bool true]) [])
    (h2 : SC cfg.P i_impl_parse [.s (.v .str a2)] (.tup [.v .tree c2a, .v .bool true]) [])
    (h3 : SC cfg.P i_impl_hasLeaf [.s (.v .tree c1a), .s (.v (.int .i64) a1)] (.s (.v .bool false)) []) :
    SC cfg.P i_impl_GraftAt [.s (.v .str a0), .s (.v (.int .i64) a1), .s (.v .str a2)] (.tup [.v .str (⟨#[]⟩ : ByteArray), .v .bool false]) [] :=
  SC_of_run cfgOK (its := [.res (.tup [.v .tree c1a, .v .bool true]) [] [] [], .res (.tup [.v .tree c2a, .v .bool true]) [] [] [], .res (.s (.v .bool false)) [] [] []])
    (ps := [SC cfg.P i_impl_parse [.s (.v .str a0)] (.tup [.v .tree c1a, .v .bool true]) [],
      SC cfg.P i_impl_parse [.s (.v .str a2)] (.tup [.v .tree c2a, .v .bool true]) [],
      SC cfg.P i_impl_hasLeaf [.s (.v .tree c1a), .s (.v (.int .i64) a1)] (.s (.v .bool false)) []]) (by kernel_rfl) ⟨h1, h2, h3, trivial⟩ get_impl_GraftAt (by decide)

theorem impl_GraftAt_p3 (a0 : ByteArray) (a1 : Int) (a2 : ByteArray) (c1a : Tr) (c2a : Tr)
    (h1 : SC cfg.P i_impl_parse [.s (.v .str a0)] (.tup [.v .tree c1a, .v .bool true]) [])
    (h2 : SC cfg.P i_impl_parse [.s (.v .str a2)] (.tup [.v .tree c2a, .v .bool false]) []) :
    SC cfg.P i_impl_GraftAt [.s (.v .str a0), .s (.v (.int .i64) a1), .s (.v .str a2)] (.tup [.v .str (⟨#[]⟩ : ByteArray), .v .bool false]) [] :=
  SC_of_run cfgOK (its := [.res (.tup [.v .tree c1a, .v .bool true]) [] [] [], .res (.tup [.v .tree c2a, .v .bool false]) [] [] []])
    (ps := [SC cfg.P i_impl_parse [.s (.v .str a0)] (.tup [.v .tree c1a, .v .bool true]) [],
      SC cfg.P i_impl_parse [.s (.v .str a2)] (.tup [.v .tree c2a, .v .bool false]) []]) (by kernel_rfl) ⟨h1, h2, trivial⟩ get_impl_GraftAt (by decide)

theorem impl_GraftAt_p4 (a0 : ByteArray) (a1 : Int) (a2 : ByteArray) (c1a : Tr) (c2a : Tr) (c2b : Bool)
    (h1 : SC cfg.P i_impl_parse [.s (.v .str a0)] (.tup [.v .tree c1a, .v .bool false]) [])
    (h2 : SC cfg.P i_impl_parse [.s (.v .str a2)] (.tup [.v .tree c2a, .v .bool c2b]) []) :
    SC cfg.P i_impl_GraftAt [.s (.v .str a0), .s (.v (.int .i64) a1), .s (.v .str a2)] (.tup [.v .str (⟨#[]⟩ : ByteArray), .v .bool false]) [] :=
  SC_of_run cfgOK (its := [.res (.tup [.v .tree c1a, .v .bool false]) [] [] [], .res (.tup [.v .tree c2a, .v .bool c2b]) [] [] []])
    (ps := [SC cfg.P i_impl_parse [.s (.v .str a0)] (.tup [.v .tree c1a, .v .bool false]) [],
      SC cfg.P i_impl_parse [.s (.v .str a2)] (.tup [.v .tree c2a, .v .bool c2b]) []]) (by kernel_rfl) ⟨h1, h2, trivial⟩ get_impl_GraftAt (by decide)

/-! ### impl_hasLeaf -/


theorem impl_hasLeaf_p1 (a0 : Tr) (a1 : Int) (c1 : Int)
    (h1 : a1 ≥ (0 : Int))
    (h2 : SC cfg.P i_impl_node_leaves [.s (.v .tree a0)] (.s (.v (.int .i64) c1)) [])
    (h3 : a1 < c1) :
    SC cfg.P i_impl_hasLeaf [.s (.v .tree a0), .s (.v (.int .i64) a1)] (.s (.v .bool true)) [] :=
  SC_of_run cfgOK (its := [.bool true, .res (.s (.v (.int .i64) c1)) [] [] [], .bool true])
    (ps := [decide (a1 ≥ (0 : Int)) = true,
      SC cfg.P i_impl_node_leaves [.s (.v .tree a0)] (.s (.v (.int .i64) c1)) [],
      decide (a1 < c1) = true]) (by kernel_rfl) ⟨(decide_eq_true h1), h2, (decide_eq_true h3), trivial⟩ get_impl_hasLeaf (by decide)

theorem impl_hasLeaf_p2 (a0 : Tr) (a1 : Int) (c1 : Int)
    (h1 : a1 ≥ (0 : Int))
    (h2 : SC cfg.P i_impl_node_leaves [.s (.v .tree a0)] (.s (.v (.int .i64) c1)) [])
    (h3 : ¬ (a1 < c1)) :
    SC cfg.P i_impl_hasLeaf [.s (.v .tree a0), .s (.v (.int .i64) a1)] (.s (.v .bool false)) [] :=
  SC_of_run cfgOK (its := [.bool true, .res (.s (.v (.int .i64) c1)) [] [] [], .bool false])
    (ps := [decide (a1 ≥ (0 : Int)) = true,
      SC cfg.P i_impl_node_leaves [.s (.v .tree a0)] (.s (.v (.int .i64) c1)) [],
      decide (a1 < c1) = false]) (by kernel_rfl) ⟨(decide_eq_true h1), h2, (decide_eq_false h3), trivial⟩ get_impl_hasLeaf (by decide)

theorem impl_hasLeaf_p3 (a0 : Tr) (a1 : Int)
    (h1 : ¬ (a1 ≥ (0 : Int))) :
    SC cfg.P i_impl_hasLeaf [.s (.v .tree a0), .s (.v (.int .i64) a1)] (.s (.v .bool false)) [] :=
  SC_of_run cfgOK (its := [.bool false])
    (ps := [decide (a1 ≥ (0 : Int)) = false]) (by kernel_rfl) ⟨(decide_eq_false h1), trivial⟩ get_impl_hasLeaf (by decide)

/-! ### impl_told -/


theorem impl_told_p1 (a0 : Tr) (c1 : Int)
    (h1 : SC cfg.P i_impl_node_carets [.s (.v .tree a0)] (.s (.v (.int .i64) c1)) [])
    (h2 : c1 > (8 : Int)) :
    SC cfg.P i_impl_told [.s (.v .tree a0)] (.tup [.v .str (⟨#[]⟩ : ByteArray), .v .bool false]) [] :=
  SC_of_run cfgOK (its := [.res (.s (.v (.int .i64) c1)) [] [] [], .bool true])
    (ps := [SC cfg.P i_impl_node_carets [.s (.v .tree a0)] (.s (.v (.int .i64) c1)) [],
      decide (c1 > (8 : Int)) = true]) (by kernel_rfl) ⟨h1, (decide_eq_true h2), trivial⟩ get_impl_told (by decide)

theorem impl_told_p2 (a0 : Tr) (c1 : Int) (c2 : ByteArray)
    (h1 : SC cfg.P i_impl_node_carets [.s (.v .tree a0)] (.s (.v (.int .i64) c1)) [])
    (h2 : ¬ (c1 > (8 : Int)))
    (h3 : SC cfg.P i_impl_node_text [.s (.v .tree a0)] (.s (.v .str c2)) []) :
    SC cfg.P i_impl_told [.s (.v .tree a0)] (.tup [.v .str c2, .v .bool true]) [] :=
  SC_of_run cfgOK (its := [.res (.s (.v (.int .i64) c1)) [] [] [], .bool false, .res (.s (.v .str c2)) [] [] []])
    (ps := [SC cfg.P i_impl_node_carets [.s (.v .tree a0)] (.s (.v (.int .i64) c1)) [],
      decide (c1 > (8 : Int)) = false,
      SC cfg.P i_impl_node_text [.s (.v .tree a0)] (.s (.v .str c2)) []]) (by kernel_rfl) ⟨h1, (decide_eq_false h2), h3, trivial⟩ get_impl_told (by decide)

/-! ### impl_node_graft -/


theorem impl_node_graft_p1 (a0 : Tr) (a1 : Int) (a2 : Tr) (c1 : Tr)
    (h1 : SC cfg.P i_impl_node_grown [.s (.v .tree a0), .s (.v (.int .i64) (0 : Int)), .fn i_impl_node_graft_k1 [] [.fadr (.int .i64) a1, .fadr .tree a2]] (.s (.v .tree c1)) []) :
    SC cfg.P i_impl_node_graft [.s (.v .tree a0), .s (.v (.int .i64) a1), .s (.v .tree a2)] (.s (.v .tree c1)) [] :=
  SC_of_run cfgOK (its := [.res (.s (.v .tree c1)) [] [] []])
    (ps := [SC cfg.P i_impl_node_grown [.s (.v .tree a0), .s (.v (.int .i64) (0 : Int)), .fn i_impl_node_graft_k1 [] [.fadr (.int .i64) a1, .fadr .tree a2]] (.s (.v .tree c1)) []]) (by kernel_rfl) ⟨h1, trivial⟩ get_impl_node_graft (by decide)

/-! ### impl_node_grown -/


theorem impl_node_grown_p1 (a1 : Int) (a2F : FuncId) (a2g : Int) (a2h : Tr) (c1 : Tr)
    (h1 : SC cfg.P a2F [.s (.v (.int .i64) a1), .s (.fadr (.int .i64) a2g), .s (.fadr .tree a2h)] (.s (.v .tree c1)) []) :
    SC cfg.P i_impl_node_grown [.s (.v .tree Tr.leaf), .s (.v (.int .i64) a1), .fn a2F [] [.fadr (.int .i64) a2g, .fadr .tree a2h]] (.s (.v .tree c1)) [] :=
  SC_of_run cfgOK (its := [.bool true, .res (.s (.v .tree c1)) [] [] []])
    (ps := [Tr.leaf.isLeaf = true,
      SC cfg.P a2F [.s (.v (.int .i64) a1), .s (.fadr (.int .i64) a2g), .s (.fadr .tree a2h)] (.s (.v .tree c1)) []]) (by kernel_rfl) ⟨rfl, h1, trivial⟩ get_impl_node_grown (by decide)

theorem impl_node_grown_p2 (a0l : Tr) (a0r : Tr) (a1 : Int) (a2F : FuncId) (a2g : Int) (a2h : Tr) (c1 : Tr) (c2 : Int) (c3 : Tr)
    (h1 : SC cfg.P i_impl_node_grown [.s (.v .tree a0l), .s (.v (.int .i64) a1), .fn a2F [] [.fadr (.int .i64) a2g, .fadr .tree a2h]] (.s (.v .tree c1)) [])
    (h2 : SC cfg.P i_impl_node_leaves [.s (.v .tree a0l)] (.s (.v (.int .i64) c2)) [])
    (h3 : SC cfg.P i_impl_node_grown [.s (.v .tree a0r), .s (.v (.int .i64) (IntKind.wrap .i64 (a1 + c2))), .fn a2F [] [.fadr (.int .i64) a2g, .fadr .tree a2h]] (.s (.v .tree c3)) []) :
    SC cfg.P i_impl_node_grown [.s (.v .tree (Tr.node a0l a0r)), .s (.v (.int .i64) a1), .fn a2F [] [.fadr (.int .i64) a2g, .fadr .tree a2h]] (.s (.v .tree (Tr.node c1 c3))) [] :=
  SC_of_run cfgOK (its := [.bool false, .res (.s (.v .tree c1)) [] [] [], .res (.s (.v (.int .i64) c2)) [] [] [], .res (.s (.v .tree c3)) [] [] []])
    (ps := [(Tr.node a0l a0r).isLeaf = false,
      SC cfg.P i_impl_node_grown [.s (.v .tree a0l), .s (.v (.int .i64) a1), .fn a2F [] [.fadr (.int .i64) a2g, .fadr .tree a2h]] (.s (.v .tree c1)) [],
      SC cfg.P i_impl_node_leaves [.s (.v .tree a0l)] (.s (.v (.int .i64) c2)) [],
      SC cfg.P i_impl_node_grown [.s (.v .tree a0r), .s (.v (.int .i64) (IntKind.wrap .i64 (a1 + c2))), .fn a2F [] [.fadr (.int .i64) a2g, .fadr .tree a2h]] (.s (.v .tree c3)) []]) (by kernel_rfl) ⟨rfl, h1, h2, h3, trivial⟩ get_impl_node_grown (by decide)

end Go.AI
