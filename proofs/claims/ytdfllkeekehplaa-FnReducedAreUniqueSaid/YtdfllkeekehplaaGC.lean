/- A part of the road: what it proves stands in its last texts. -/
import Derived.Test.YtdfllkeekehplaaSIds
import Derived.Test.YtdfllkeekehplaaProg
set_option autoImplicit false
set_option maxRecDepth 100000
set_option linter.unusedVariables false
namespace Go.AI
open Go.Proofs

/-! ### impl_JoinTrees -/


theorem impl_JoinTrees_p1 (a0 : ByteArray) (a1 : ByteArray) (c1a : Tr) (c2a : Tr) (c3 : Tr) (c4a : ByteArray) (c4b : Bool)
    (h1 : SC cfg.P i_impl_parse [.s (.v .str a0)] (.tup [.v .tree c1a, .v .bool true]) [])
    (h2 : SC cfg.P i_impl_parse [.s (.v .str a1)] (.tup [.v .tree c2a, .v .bool true]) [])
    (h3 : SC cfg.P i_impl_join [.s (.v .tree c1a), .s (.v .tree c2a)] (.s (.v .tree c3)) [])
    (h4 : SC cfg.P i_impl_told [.s (.v .tree c3)] (.tup [.v .str c4a, .v .bool c4b]) []) :
    SC cfg.P i_impl_JoinTrees [.s (.v .str a0), .s (.v .str a1)] (.tup [.v .str c4a, .v .bool c4b]) [] :=
  SC_of_run cfgOK (its := [.res (.tup [.v .tree c1a, .v .bool true]) [] [] [], .res (.tup [.v .tree c2a, .v .bool true]) [] [] [], .res (.s (.v .tree c3)) [] [] [], .res (.tup [.v .str c4a, .v .bool c4b]) [] [] []])
    (ps := [SC cfg.P i_impl_parse [.s (.v .str a0)] (.tup [.v .tree c1a, .v .bool true]) [],
      SC cfg.P i_impl_parse [.s (.v .str a1)] (.tup [.v .tree c2a, .v .bool true]) [],
      SC cfg.P i_impl_join [.s (.v .tree c1a), .s (.v .tree c2a)] (.s (.v .tree c3)) [],
      SC cfg.P i_impl_told [.s (.v .tree c3)] (.tup [.v .str c4a, .v .bool c4b]) []]) (by kernel_rfl) ⟨h1, h2, h3, h4, trivial⟩ get_impl_JoinTrees (by decide)

theorem impl_JoinTrees_p2 (a0 : ByteArray) (a1 : ByteArray) (c1a : Tr) (c2a : Tr)
    (h1 : SC cfg.P i_impl_parse [.s (.v .str a0)] (.tup [.v .tree c1a, .v .bool true]) [])
    (h2 : SC cfg.P i_impl_parse [.s (.v .str a1)] (.tup [.v .tree c2a, .v .bool false]) []) :
    SC cfg.P i_impl_JoinTrees [.s (.v .str a0), .s (.v .str a1)] (.tup [.v .str (⟨#[]⟩ : ByteArray), .v .bool false]) [] :=
  SC_of_run cfgOK (its := [.res (.tup [.v .tree c1a, .v .bool true]) [] [] [], .res (.tup [.v .tree c2a, .v .bool false]) [] [] []])
    (ps := [SC cfg.P i_impl_parse [.s (.v .str a0)] (.tup [.v .tree c1a, .v .bool true]) [],
      SC cfg.P i_impl_parse [.s (.v .str a1)] (.tup [.v .tree c2a, .v .bool false]) []]) (by kernel_rfl) ⟨h1, h2, trivial⟩ get_impl_JoinTrees (by decide)

theorem impl_JoinTrees_p3 (a0 : ByteArray) (a1 : ByteArray) (c1a : Tr) (c2a : Tr) (c2b : Bool)
    (h1 : SC cfg.P i_impl_parse [.s (.v .str a0)] (.tup [.v .tree c1a, .v .bool false]) [])
    (h2 : SC cfg.P i_impl_parse [.s (.v .str a1)] (.tup [.v .tree c2a, .v .bool c2b]) []) :
    SC cfg.P i_impl_JoinTrees [.s (.v .str a0), .s (.v .str a1)] (.tup [.v .str (⟨#[]⟩ : ByteArray), .v .bool false]) [] :=
  SC_of_run cfgOK (its := [.res (.tup [.v .tree c1a, .v .bool false]) [] [] [], .res (.tup [.v .tree c2a, .v .bool c2b]) [] [] []])
    (ps := [SC cfg.P i_impl_parse [.s (.v .str a0)] (.tup [.v .tree c1a, .v .bool false]) [],
      SC cfg.P i_impl_parse [.s (.v .str a1)] (.tup [.v .tree c2a, .v .bool c2b]) []]) (by kernel_rfl) ⟨h1, h2, trivial⟩ get_impl_JoinTrees (by decide)

/-! ### spec_JoinTrees -/


theorem spec_JoinTrees_p1 (a0 : ByteArray) (a1 : ByteArray) (c3 : ByteArray) (c4 : Int)
    (h1 : SC cfg.P i_spec_trIs [.s (.v .str a0)] (.s (.v .bool true)) [])
    (h2 : SC cfg.P i_spec_trIs [.s (.v .str a1)] (.s (.v .bool true)) [])
    (h3 : SC cfg.P i_spec_trJoin [.s (.v .str a0), .s (.v .str a1)] (.s (.v .str c3)) [])
    (h4 : SC cfg.P i_spec_trCarets [.s (.v .str c3)] (.s (.v (.int .i64) c4)) [])
    (h5 : c4 > (8 : Int)) :
    SC cfg.P i_spec_JoinTrees [.s (.v .str a0), .s (.v .str a1)] (.tup [.v .str (⟨#[]⟩ : ByteArray), .v .bool false]) [] :=
  SC_of_run cfgOK (its := [.res (.s (.v .bool true)) [] [] [], .res (.s (.v .bool true)) [] [] [], .res (.s (.v .str c3)) [] [] [], .res (.s (.v (.int .i64) c4)) [] [] [], .bool true])
    (ps := [SC cfg.P i_spec_trIs [.s (.v .str a0)] (.s (.v .bool true)) [],
      SC cfg.P i_spec_trIs [.s (.v .str a1)] (.s (.v .bool true)) [],
      SC cfg.P i_spec_trJoin [.s (.v .str a0), .s (.v .str a1)] (.s (.v .str c3)) [],
      SC cfg.P i_spec_trCarets [.s (.v .str c3)] (.s (.v (.int .i64) c4)) [],
      decide (c4 > (8 : Int)) = true]) (by kernel_rfl) ⟨h1, h2, h3, h4, (decide_eq_true h5), trivial⟩ get_spec_JoinTrees (by decide)

theorem spec_JoinTrees_p2 (a0 : ByteArray) (a1 : ByteArray) (c3 : ByteArray) (c4 : Int)
    (h1 : SC cfg.P i_spec_trIs [.s (.v .str a0)] (.s (.v .bool true)) [])
    (h2 : SC cfg.P i_spec_trIs [.s (.v .str a1)] (.s (.v .bool true)) [])
    (h3 : SC cfg.P i_spec_trJoin [.s (.v .str a0), .s (.v .str a1)] (.s (.v .str c3)) [])
    (h4 : SC cfg.P i_spec_trCarets [.s (.v .str c3)] (.s (.v (.int .i64) c4)) [])
    (h5 : ¬ (c4 > (8 : Int))) :
    SC cfg.P i_spec_JoinTrees [.s (.v .str a0), .s (.v .str a1)] (.tup [.v .str c3, .v .bool true]) [] :=
  SC_of_run cfgOK (its := [.res (.s (.v .bool true)) [] [] [], .res (.s (.v .bool true)) [] [] [], .res (.s (.v .str c3)) [] [] [], .res (.s (.v (.int .i64) c4)) [] [] [], .bool false])
    (ps := [SC cfg.P i_spec_trIs [.s (.v .str a0)] (.s (.v .bool true)) [],
      SC cfg.P i_spec_trIs [.s (.v .str a1)] (.s (.v .bool true)) [],
      SC cfg.P i_spec_trJoin [.s (.v .str a0), .s (.v .str a1)] (.s (.v .str c3)) [],
      SC cfg.P i_spec_trCarets [.s (.v .str c3)] (.s (.v (.int .i64) c4)) [],
      decide (c4 > (8 : Int)) = false]) (by kernel_rfl) ⟨h1, h2, h3, h4, (decide_eq_false h5), trivial⟩ get_spec_JoinTrees (by decide)

theorem spec_JoinTrees_p3 (a0 : ByteArray) (a1 : ByteArray)
    (h1 : SC cfg.P i_spec_trIs [.s (.v .str a0)] (.s (.v .bool true)) [])
    (h2 : SC cfg.P i_spec_trIs [.s (.v .str a1)] (.s (.v .bool false)) []) :
    SC cfg.P i_spec_JoinTrees [.s (.v .str a0), .s (.v .str a1)] (.tup [.v .str (⟨#[]⟩ : ByteArray), .v .bool false]) [] :=
  SC_of_run cfgOK (its := [.res (.s (.v .bool true)) [] [] [], .res (.s (.v .bool false)) [] [] []])
    (ps := [SC cfg.P i_spec_trIs [.s (.v .str a0)] (.s (.v .bool true)) [],
      SC cfg.P i_spec_trIs [.s (.v .str a1)] (.s (.v .bool false)) []]) (by kernel_rfl) ⟨h1, h2, trivial⟩ get_spec_JoinTrees (by decide)

theorem spec_JoinTrees_p4 (a0 : ByteArray) (a1 : ByteArray)
    (h1 : SC cfg.P i_spec_trIs [.s (.v .str a0)] (.s (.v .bool false)) []) :
    SC cfg.P i_spec_JoinTrees [.s (.v .str a0), .s (.v .str a1)] (.tup [.v .str (⟨#[]⟩ : ByteArray), .v .bool false]) [] :=
  SC_of_run cfgOK (its := [.res (.s (.v .bool false)) [] [] []])
    (ps := [SC cfg.P i_spec_trIs [.s (.v .str a0)] (.s (.v .bool false)) []]) (by kernel_rfl) ⟨h1, trivial⟩ get_spec_JoinTrees (by decide)

/-! ### impl_CommonTree -/


theorem impl_CommonTree_p1 (a0 : ByteArray) (a1 : ByteArray) (c1a : Tr) (c2a : Tr) (c3 : Tr) (c4 : ByteArray)
    (h1 : SC cfg.P i_impl_parse [.s (.v .str a0)] (.tup [.v .tree c1a, .v .bool true]) [])
    (h2 : SC cfg.P i_impl_parse [.s (.v .str a1)] (.tup [.v .tree c2a, .v .bool true]) [])
    (h3 : SC cfg.P i_impl_common [.s (.v .tree c1a), .s (.v .tree c2a)] (.s (.v .tree c3)) [])
    (h4 : SC cfg.P i_impl_node_text [.s (.v .tree c3)] (.s (.v .str c4)) []) :
    SC cfg.P i_impl_CommonTree [.s (.v .str a0), .s (.v .str a1)] (.tup [.v .str c4, .v .bool true]) [] :=
  SC_of_run cfgOK (its := [.res (.tup [.v .tree c1a, .v .bool true]) [] [] [], .res (.tup [.v .tree c2a, .v .bool true]) [] [] [], .res (.s (.v .tree c3)) [] [] [], .res (.s (.v .str c4)) [] [] []])
    (ps := [SC cfg.P i_impl_parse [.s (.v .str a0)] (.tup [.v .tree c1a, .v .bool true]) [],
      SC cfg.P i_impl_parse [.s (.v .str a1)] (.tup [.v .tree c2a, .v .bool true]) [],
      SC cfg.P i_impl_common [.s (.v .tree c1a), .s (.v .tree c2a)] (.s (.v .tree c3)) [],
      SC cfg.P i_impl_node_text [.s (.v .tree c3)] (.s (.v .str c4)) []]) (by kernel_rfl) ⟨h1, h2, h3, h4, trivial⟩ get_impl_CommonTree (by decide)

theorem impl_CommonTree_p2 (a0 : ByteArray) (a1 : ByteArray) (c1a : Tr) (c2a : Tr)
    (h1 : SC cfg.P i_impl_parse [.s (.v .str a0)] (.tup [.v .tree c1a, .v .bool true]) [])
    (h2 : SC cfg.P i_impl_parse [.s (.v .str a1)] (.tup [.v .tree c2a, .v .bool false]) []) :
    SC cfg.P i_impl_CommonTree [.s (.v .str a0), .s (.v .str a1)] (.tup [.v .str (⟨#[]⟩ : ByteArray), .v .bool false]) [] :=
  SC_of_run cfgOK (its := [.res (.tup [.v .tree c1a, .v .bool true]) [] [] [], .res (.tup [.v .tree c2a, .v .bool false]) [] [] []])
    (ps := [SC cfg.P i_impl_parse [.s (.v .str a0)] (.tup [.v .tree c1a, .v .bool true]) [],
      SC cfg.P i_impl_parse [.s (.v .str a1)] (.tup [.v .tree c2a, .v .bool false]) []]) (by kernel_rfl) ⟨h1, h2, trivial⟩ get_impl_CommonTree (by decide)

theorem impl_CommonTree_p3 (a0 : ByteArray) (a1 : ByteArray) (c1a : Tr) (c2a : Tr) (c2b : Bool)
    (h1 : SC cfg.P i_impl_parse [.s (.v .str a0)] (.tup [.v .tree c1a, .v .bool false]) [])
    (h2 : SC cfg.P i_impl_parse [.s (.v .str a1)] (.tup [.v .tree c2a, .v .bool c2b]) []) :
    SC cfg.P i_impl_CommonTree [.s (.v .str a0), .s (.v .str a1)] (.tup [.v .str (⟨#[]⟩ : ByteArray), .v .bool false]) [] :=
  SC_of_run cfgOK (its := [.res (.tup [.v .tree c1a, .v .bool false]) [] [] [], .res (.tup [.v .tree c2a, .v .bool c2b]) [] [] []])
    (ps := [SC cfg.P i_impl_parse [.s (.v .str a0)] (.tup [.v .tree c1a, .v .bool false]) [],
      SC cfg.P i_impl_parse [.s (.v .str a1)] (.tup [.v .tree c2a, .v .bool c2b]) []]) (by kernel_rfl) ⟨h1, h2, trivial⟩ get_impl_CommonTree (by decide)

/-! ### spec_CommonTree -/


theorem spec_CommonTree_p1 (a0 : ByteArray) (a1 : ByteArray) (c3 : ByteArray)
    (h1 : SC cfg.P i_spec_trIs [.s (.v .str a0)] (.s (.v .bool true)) [])
    (h2 : SC cfg.P i_spec_trIs [.s (.v .str a1)] (.s (.v .bool true)) [])
    (h3 : SC cfg.P i_spec_trCommon [.s (.v .str a0), .s (.v .str a1)] (.s (.v .str c3)) []) :
    SC cfg.P i_spec_CommonTree [.s (.v .str a0), .s (.v .str a1)] (.tup [.v .str c3, .v .bool true]) [] :=
  SC_of_run cfgOK (its := [.res (.s (.v .bool true)) [] [] [], .res (.s (.v .bool true)) [] [] [], .res (.s (.v .str c3)) [] [] []])
    (ps := [SC cfg.P i_spec_trIs [.s (.v .str a0)] (.s (.v .bool true)) [],
      SC cfg.P i_spec_trIs [.s (.v .str a1)] (.s (.v .bool true)) [],
      SC cfg.P i_spec_trCommon [.s (.v .str a0), .s (.v .str a1)] (.s (.v .str c3)) []]) (by kernel_rfl) ⟨h1, h2, h3, trivial⟩ get_spec_CommonTree (by decide)

theorem spec_CommonTree_p2 (a0 : ByteArray) (a1 : ByteArray)
    (h1 : SC cfg.P i_spec_trIs [.s (.v .str a0)] (.s (.v .bool true)) [])
    (h2 : SC cfg.P i_spec_trIs [.s (.v .str a1)] (.s (.v .bool false)) []) :
    SC cfg.P i_spec_CommonTree [.s (.v .str a0), .s (.v .str a1)] (.tup [.v .str (⟨#[]⟩ : ByteArray), .v .bool false]) [] :=
  SC_of_run cfgOK (its := [.res (.s (.v .bool true)) [] [] [], .res (.s (.v .bool false)) [] [] []])
    (ps := [SC cfg.P i_spec_trIs [.s (.v .str a0)] (.s (.v .bool true)) [],
      SC cfg.P i_spec_trIs [.s (.v .str a1)] (.s (.v .bool false)) []]) (by kernel_rfl) ⟨h1, h2, trivial⟩ get_spec_CommonTree (by decide)

theorem spec_CommonTree_p3 (a0 : ByteArray) (a1 : ByteArray)
    (h1 : SC cfg.P i_spec_trIs [.s (.v .str a0)] (.s (.v .bool false)) []) :
    SC cfg.P i_spec_CommonTree [.s (.v .str a0), .s (.v .str a1)] (.tup [.v .str (⟨#[]⟩ : ByteArray), .v .bool false]) [] :=
  SC_of_run cfgOK (its := [.res (.s (.v .bool false)) [] [] []])
    (ps := [SC cfg.P i_spec_trIs [.s (.v .str a0)] (.s (.v .bool false)) []]) (by kernel_rfl) ⟨h1, trivial⟩ get_spec_CommonTree (by decide)

/-! ### impl_IsPartOf -/


theorem impl_IsPartOf_p1 (a0 : ByteArray) (a1 : ByteArray) (c1a : Tr) (c2a : Tr) (c3 : Bool)
    (h1 : SC cfg.P i_impl_parse [.s (.v .str a0)] (.tup [.v .tree c1a, .v .bool true]) [])
    (h2 : SC cfg.P i_impl_parse [.s (.v .str a1)] (.tup [.v .tree c2a, .v .bool true]) [])
    (h3 : SC cfg.P i_impl_isPart [.s (.v .tree c1a), .s (.v .tree c2a)] (.s (.v .bool c3)) []) :
    SC cfg.P i_impl_IsPartOf [.s (.v .str a0), .s (.v .str a1)] (.tup [.v .bool c3, .v .bool true]) [] :=
  SC_of_run cfgOK (its := [.res (.tup [.v .tree c1a, .v .bool true]) [] [] [], .res (.tup [.v .tree c2a, .v .bool true]) [] [] [], .res (.s (.v .bool c3)) [] [] []])
    (ps := [SC cfg.P i_impl_parse [.s (.v .str a0)] (.tup [.v .tree c1a, .v .bool true]) [],
      SC cfg.P i_impl_parse [.s (.v .str a1)] (.tup [.v .tree c2a, .v .bool true]) [],
      SC cfg.P i_impl_isPart [.s (.v .tree c1a), .s (.v .tree c2a)] (.s (.v .bool c3)) []]) (by kernel_rfl) ⟨h1, h2, h3, trivial⟩ get_impl_IsPartOf (by decide)

theorem impl_IsPartOf_p2 (a0 : ByteArray) (a1 : ByteArray) (c1a : Tr) (c2a : Tr)
    (h1 : SC cfg.P i_impl_parse [.s (.v .str a0)] (.tup [.v .tree c1a, .v .bool true]) [])
    (h2 : SC cfg.P i_impl_parse [.s (.v .str a1)] (.tup [.v .tree c2a, .v .bool false]) []) :
    SC cfg.P i_impl_IsPartOf [.s (.v .str a0), .s (.v .str a1)] (.tup [.v .bool false, .v .bool false]) [] :=
  SC_of_run cfgOK (its := [.res (.tup [.v .tree c1a, .v .bool true]) [] [] [], .res (.tup [.v .tree c2a, .v .bool false]) [] [] []])
    (ps := [SC cfg.P i_impl_parse [.s (.v .str a0)] (.tup [.v .tree c1a, .v .bool true]) [],
      SC cfg.P i_impl_parse [.s (.v .str a1)] (.tup [.v .tree c2a, .v .bool false]) []]) (by kernel_rfl) ⟨h1, h2, trivial⟩ get_impl_IsPartOf (by decide)

theorem impl_IsPartOf_p3 (a0 : ByteArray) (a1 : ByteArray) (c1a : Tr) (c2a : Tr) (c2b : Bool)
    (h1 : SC cfg.P i_impl_parse [.s (.v .str a0)] (.tup [.v .tree c1a, .v .bool false]) [])
    (h2 : SC cfg.P i_impl_parse [.s (.v .str a1)] (.tup [.v .tree c2a, .v .bool c2b]) []) :
    SC cfg.P i_impl_IsPartOf [.s (.v .str a0), .s (.v .str a1)] (.tup [.v .bool false, .v .bool false]) [] :=
  SC_of_run cfgOK (its := [.res (.tup [.v .tree c1a, .v .bool false]) [] [] [], .res (.tup [.v .tree c2a, .v .bool c2b]) [] [] []])
    (ps := [SC cfg.P i_impl_parse [.s (.v .str a0)] (.tup [.v .tree c1a, .v .bool false]) [],
      SC cfg.P i_impl_parse [.s (.v .str a1)] (.tup [.v .tree c2a, .v .bool c2b]) []]) (by kernel_rfl) ⟨h1, h2, trivial⟩ get_impl_IsPartOf (by decide)

/-! ### spec_IsPartOf -/


theorem spec_IsPartOf_p1 (a0 : ByteArray) (a1 : ByteArray) (c3 : ByteArray)
    (h1 : SC cfg.P i_spec_trIs [.s (.v .str a0)] (.s (.v .bool true)) [])
    (h2 : SC cfg.P i_spec_trIs [.s (.v .str a1)] (.s (.v .bool true)) [])
    (h3 : SC cfg.P i_spec_trCommon [.s (.v .str a0), .s (.v .str a1)] (.s (.v .str c3)) [])
    (h4 : c3 = a0) :
    SC cfg.P i_spec_IsPartOf [.s (.v .str a0), .s (.v .str a1)] (.tup [.v .bool true, .v .bool true]) [] :=
  SC_of_run cfgOK (its := [.res (.s (.v .bool true)) [] [] [], .res (.s (.v .bool true)) [] [] [], .res (.s (.v .str c3)) [] [] [], .bool true])
    (ps := [SC cfg.P i_spec_trIs [.s (.v .str a0)] (.s (.v .bool true)) [],
      SC cfg.P i_spec_trIs [.s (.v .str a1)] (.s (.v .bool true)) [],
      SC cfg.P i_spec_trCommon [.s (.v .str a0), .s (.v .str a1)] (.s (.v .str c3)) [],
      ((c3).toList == (a0).toList) = true]) (by kernel_rfl) ⟨h1, h2, h3, (seq_t h4), trivial⟩ get_spec_IsPartOf (by decide)

theorem spec_IsPartOf_p2 (a0 : ByteArray) (a1 : ByteArray) (c3 : ByteArray)
    (h1 : SC cfg.P i_spec_trIs [.s (.v .str a0)] (.s (.v .bool true)) [])
    (h2 : SC cfg.P i_spec_trIs [.s (.v .str a1)] (.s (.v .bool true)) [])
    (h3 : SC cfg.P i_spec_trCommon [.s (.v .str a0), .s (.v .str a1)] (.s (.v .str c3)) [])
    (h4 : c3 ≠ a0) :
    SC cfg.P i_spec_IsPartOf [.s (.v .str a0), .s (.v .str a1)] (.tup [.v .bool false, .v .bool true]) [] :=
  SC_of_run cfgOK (its := [.res (.s (.v .bool true)) [] [] [], .res (.s (.v .bool true)) [] [] [], .res (.s (.v .str c3)) [] [] [], .bool false])
    (ps := [SC cfg.P i_spec_trIs [.s (.v .str a0)] (.s (.v .bool true)) [],
      SC cfg.P i_spec_trIs [.s (.v .str a1)] (.s (.v .bool true)) [],
      SC cfg.P i_spec_trCommon [.s (.v .str a0), .s (.v .str a1)] (.s (.v .str c3)) [],
      ((c3).toList == (a0).toList) = false]) (by kernel_rfl) ⟨h1, h2, h3, (seq_f h4), trivial⟩ get_spec_IsPartOf (by decide)

theorem spec_IsPartOf_p3 (a0 : ByteArray) (a1 : ByteArray)
    (h1 : SC cfg.P i_spec_trIs [.s (.v .str a0)] (.s (.v .bool true)) [])
    (h2 : SC cfg.P i_spec_trIs [.s (.v .str a1)] (.s (.v .bool false)) []) :
    SC cfg.P i_spec_IsPartOf [.s (.v .str a0), .s (.v .str a1)] (.tup [.v .bool false, .v .bool false]) [] :=
  SC_of_run cfgOK (its := [.res (.s (.v .bool true)) [] [] [], .res (.s (.v .bool false)) [] [] []])
    (ps := [SC cfg.P i_spec_trIs [.s (.v .str a0)] (.s (.v .bool true)) [],
      SC cfg.P i_spec_trIs [.s (.v .str a1)] (.s (.v .bool false)) []]) (by kernel_rfl) ⟨h1, h2, trivial⟩ get_spec_IsPartOf (by decide)

theorem spec_IsPartOf_p4 (a0 : ByteArray) (a1 : ByteArray)
    (h1 : SC cfg.P i_spec_trIs [.s (.v .str a0)] (.s (.v .bool false)) []) :
    SC cfg.P i_spec_IsPartOf [.s (.v .str a0), .s (.v .str a1)] (.tup [.v .bool false, .v .bool false]) [] :=
  SC_of_run cfgOK (its := [.res (.s (.v .bool false)) [] [] []])
    (ps := [SC cfg.P i_spec_trIs [.s (.v .str a0)] (.s (.v .bool false)) []]) (by kernel_rfl) ⟨h1, trivial⟩ get_spec_IsPartOf (by decide)

/-! ### impl_SubtreeAt -/


theorem impl_SubtreeAt_p1 (a0 : ByteArray) (a1 : ByteArray) (c1a : Tr) (c2a : Tr) (c3 : ByteArray)
    (h1 : SC cfg.P i_impl_parse [.s (.v .str a0)] (.tup [.v .tree c1a, .v .bool true]) [])
    (h2 : SC cfg.P i_impl_node_at [.s (.v .tree c1a), .s (.v .str a1)] (.tup [.v .tree c2a, .v .bool true]) [])
    (h3 : SC cfg.P i_impl_node_text [.s (.v .tree c2a)] (.s (.v .str c3)) []) :
    SC cfg.P i_impl_SubtreeAt [.s (.v .str a0), .s (.v .str a1)] (.tup [.v .str c3, .v .bool true]) [] :=
  SC_of_run cfgOK (its := [.res (.tup [.v .tree c1a, .v .bool true]) [] [] [], .res (.tup [.v .tree c2a, .v .bool true]) [] [] [], .res (.s (.v .str c3)) [] [] []])
    (ps := [SC cfg.P i_impl_parse [.s (.v .str a0)] (.tup [.v .tree c1a, .v .bool true]) [],
      SC cfg.P i_impl_node_at [.s (.v .tree c1a), .s (.v .str a1)] (.tup [.v .tree c2a, .v .bool true]) [],
      SC cfg.P i_impl_node_text [.s (.v .tree c2a)] (.s (.v .str c3)) []]) (by kernel_rfl) ⟨h1, h2, h3, trivial⟩ get_impl_SubtreeAt (by decide)

theorem impl_SubtreeAt_p2 (a0 : ByteArray) (a1 : ByteArray) (c1a : Tr) (c2a : Tr)
    (h1 : SC cfg.P i_impl_parse [.s (.v .str a0)] (.tup [.v .tree c1a, .v .bool true]) [])
    (h2 : SC cfg.P i_impl_node_at [.s (.v .tree c1a), .s (.v .str a1)] (.tup [.v .tree c2a, .v .bool false]) []) :
    SC cfg.P i_impl_SubtreeAt [.s (.v .str a0), .s (.v .str a1)] (.tup [.v .str (⟨#[]⟩ : ByteArray), .v .bool false]) [] :=
  SC_of_run cfgOK (its := [.res (.tup [.v .tree c1a, .v .bool true]) [] [] [], .res (.tup [.v .tree c2a, .v .bool false]) [] [] []])
    (ps := [SC cfg.P i_impl_parse [.s (.v .str a0)] (.tup [.v .tree c1a, .v .bool true]) [],
      SC cfg.P i_impl_node_at [.s (.v .tree c1a), .s (.v .str a1)] (.tup [.v .tree c2a, .v .bool false]) []]) (by kernel_rfl) ⟨h1, h2, trivial⟩ get_impl_SubtreeAt (by decide)

theorem impl_SubtreeAt_p3 (a0 : ByteArray) (a1 : ByteArray) (c1a : Tr)
    (h1 : SC cfg.P i_impl_parse [.s (.v .str a0)] (.tup [.v .tree c1a, .v .bool false]) []) :
    SC cfg.P i_impl_SubtreeAt [.s (.v .str a0), .s (.v .str a1)] (.tup [.v .str (⟨#[]⟩ : ByteArray), .v .bool false]) [] :=
  SC_of_run cfgOK (its := [.res (.tup [.v .tree c1a, .v .bool false]) [] [] []])
    (ps := [SC cfg.P i_impl_parse [.s (.v .str a0)] (.tup [.v .tree c1a, .v .bool false]) []]) (by kernel_rfl) ⟨h1, trivial⟩ get_impl_SubtreeAt (by decide)

/-! ### spec_SubtreeAt -/


theorem spec_SubtreeAt_p1 (a0 : ByteArray) (a1 : ByteArray)
    (h1 : SC cfg.P i_spec_trIs [.s (.v .str a0)] (.s (.v .bool true)) [])
    (h2 : ((a1).size : Int) > (8 : Int)) :
    SC cfg.P i_spec_SubtreeAt [.s (.v .str a0), .s (.v .str a1)] (.tup [.v .str (⟨#[]⟩ : ByteArray), .v .bool false]) [] :=
  SC_of_run cfgOK (its := [.res (.s (.v .bool true)) [] [] [], .bool true])
    (ps := [SC cfg.P i_spec_trIs [.s (.v .str a0)] (.s (.v .bool true)) [],
      decide (((a1).size : Int) > (8 : Int)) = true]) (by kernel_rfl) ⟨h1, (decide_eq_true h2), trivial⟩ get_spec_SubtreeAt (by decide)

theorem spec_SubtreeAt_p2 (a0 : ByteArray) (a1 : ByteArray) (c2a : ByteArray) (c2b : Bool)
    (h1 : SC cfg.P i_spec_trIs [.s (.v .str a0)] (.s (.v .bool true)) [])
    (h2 : ¬ (((a1).size : Int) > (8 : Int)))
    (h3 : SC cfg.P i_spec_trAt [.s (.v .str a0), .s (.v .str a1)] (.tup [.v .str c2a, .v .bool c2b]) []) :
    SC cfg.P i_spec_SubtreeAt [.s (.v .str a0), .s (.v .str a1)] (.tup [.v .str c2a, .v .bool c2b]) [] :=
  SC_of_run cfgOK (its := [.res (.s (.v .bool true)) [] [] [], .bool false, .res (.tup [.v .str c2a, .v .bool c2b]) [] [] []])
    (ps := [SC cfg.P i_spec_trIs [.s (.v .str a0)] (.s (.v .bool true)) [],
      decide (((a1).size : Int) > (8 : Int)) = false,
      SC cfg.P i_spec_trAt [.s (.v .str a0), .s (.v .str a1)] (.tup [.v .str c2a, .v .bool c2b]) []]) (by kernel_rfl) ⟨h1, (decide_eq_false h2), h3, trivial⟩ get_spec_SubtreeAt (by decide)

theorem spec_SubtreeAt_p3 (a0 : ByteArray) (a1 : ByteArray)
    (h1 : SC cfg.P i_spec_trIs [.s (.v .str a0)] (.s (.v .bool false)) []) :
    SC cfg.P i_spec_SubtreeAt [.s (.v .str a0), .s (.v .str a1)] (.tup [.v .str (⟨#[]⟩ : ByteArray), .v .bool false]) [] :=
  SC_of_run cfgOK (its := [.res (.s (.v .bool false)) [] [] []])
    (ps := [SC cfg.P i_spec_trIs [.s (.v .str a0)] (.s (.v .bool false)) []]) (by kernel_rfl) ⟨h1, trivial⟩ get_spec_SubtreeAt (by decide)

/-! ### impl_GraftAt -/


theorem impl_GraftAt_p1 (a0 : ByteArray) (a1 : Int) (a2 : ByteArray) (c1a : Tr) (c2a : Tr) (c4 : Tr) (c5a : ByteArray) (c5b : Bool)
    (h1 : SC cfg.P i_impl_parse [.s (.v .str a0)] (.tup [.v .tree c1a, .v .bool true]) [])
    (h2 : SC cfg.P i_impl_parse [.s (.v .str a2)] (.tup [.v .tree c2a, .v .bool true]) [])
    (h3 : SC cfg.P i_impl_hasLeaf [.s (.v .tree c1a), .s (.v (.int .i64) a1)] (.s (.v .bool true)) [])
    (h4 : SC cfg.P i_impl_node_graft [.s (.v .tree c1a), .s (.v (.int .i64) a1), .s (.v .tree c2a)] (.s (.v .tree c4)) [])
    (h5 : SC cfg.P i_impl_told [.s (.v .tree c4)] (.tup [.v .str c5a, .v .bool c5b]) []) :
    SC cfg.P i_impl_GraftAt [.s (.v .str a0), .s (.v (.int .i64) a1), .s (.v .str a2)] (.tup [.v .str c5a, .v .bool c5b]) [] :=
  SC_of_run cfgOK (its := [.res (.tup [.v .tree c1a, .v .bool true]) [] [] [], .res (.tup [.v .tree c2a, .v .bool true]) [] [] [], .res (.s (.v .bool true)) [] [] [], .res (.s (.v .tree c4)) [] [] [], .res (.tup [.v .str c5a, .v .bool c5b]) [] [] []])
    (ps := [SC cfg.P i_impl_parse [.s (.v .str a0)] (.tup [.v .tree c1a, .v .bool true]) [],
      SC cfg.P i_impl_parse [.s (.v .str a2)] (.tup [.v .tree c2a, .v .bool true]) [],
      SC cfg.P i_impl_hasLeaf [.s (.v .tree c1a), .s (.v (.int .i64) a1)] (.s (.v .bool true)) [],
      SC cfg.P i_impl_node_graft [.s (.v .tree c1a), .s (.v (.int .i64) a1), .s (.v .tree c2a)] (.s (.v .tree c4)) [],
      SC cfg.P i_impl_told [.s (.v .tree c4)] (.tup [.v .str c5a, .v .bool c5b]) []]) (by kernel_rfl) ⟨h1, h2, h3, h4, h5, trivial⟩ get_impl_GraftAt (by decide)

theorem impl_GraftAt_p2 (a0 : ByteArray) (a1 : Int) (a2 : ByteArray) (c1a : Tr) (c2a : Tr)
    (h1 : SC cfg.P i_impl_parse [.s (.v .str a0)] (.tup [.v .tree c1a, .v .bool true]) [])
    (h2 : SC cfg.P i_impl_parse [.s (.v .str a2)] (.tup [.v .tree c2a, .v .bool true]) [])
    (h3 : SC cfg.P i_impl_hasLeaf [.s (.v .tree c1a), .s (.v (.int .i64) a1)] (.s (.v .bool false)) []) :
    SC cfg.P i_impl_GraftAt [.s (.v .str a0), .s (.v (.int .i64) a1), .s (.v .str a2)] (.tup [.v .str (⟨#[]⟩ : ByteArray), .v .bool false]) [] :=
  SC_of_run cfgOK (its := [.res (.tup [.v .tree c1a, .v .bool true]) [] [] [], .res (.tup [.v .tree c2a, .v .bool true]) [] [] [], .res (.s (.v .bool false)) [] [] []])
    (ps := [SC cfg.P i_impl_parse [.s (.v .str a0)] (.tup [.v .tree c1a, .v .bool true]) [],
      SC cfg.P i_impl_parse [.s (.v .str a2)] (.tup [.v .tree c2a, .v .bool true]) [],
      SC cfg.P i_impl_hasLeaf [.s (.v .tree c1a), .s (.v (.int .i64) a1)] (.s (.v .bool false)) []]) (by kernel_rfl) ⟨h1, h2, h3, trivial⟩ get_impl_GraftAt (by decide)

theorem impl_GraftAt_p3 (a0 : ByteArray) (a1 : Int) (a2 : ByteArray) (c1a : Tr) (c2a : Tr)
    (h1 : SC cfg.P i_impl_parse [.s (.v .str a0)] (.tup [.v .tree c1a, .v .bool true]) [])
    (h2 : SC cfg.P i_impl_parse [.s (.v .str a2)] (.tup [.v .tree c2a, .v .bool false]) []) :
    SC cfg.P i_impl_GraftAt [.s (.v .str a0), .s (.v (.int .i64) a1), .s (.v .str a2)] (.tup [.v .str (⟨#[]⟩ : ByteArray), .v .bool false]) [] :=
  SC_of_run cfgOK (its := [.res (.tup [.v .tree c1a, .v .bool true]) [] [] [], .res (.tup [.v .tree c2a, .v .bool false]) [] [] []])
    (ps := [SC cfg.P i_impl_parse [.s (.v .str a0)] (.tup [.v .tree c1a, .v .bool true]) [],
      SC cfg.P i_impl_parse [.s (.v .str a2)] (.tup [.v .tree c2a, .v .bool false]) []]) (by kernel_rfl) ⟨h1, h2, trivial⟩ get_impl_GraftAt (by decide)

theorem impl_GraftAt_p4 (a0 : ByteArray) (a1 : Int) (a2 : ByteArray) (c1a : Tr) (c2a : Tr) (c2b : Bool)
    (h1 : SC cfg.P i_impl_parse [.s (.v .str a0)] (.tup [.v .tree c1a, .v .bool false]) [])
    (h2 : SC cfg.P i_impl_parse [.s (.v .str a2)] (.tup [.v .tree c2a, .v .bool c2b]) []) :
    SC cfg.P i_impl_GraftAt [.s (.v .str a0), .s (.v (.int .i64) a1), .s (.v .str a2)] (.tup [.v .str (⟨#[]⟩ : ByteArray), .v .bool false]) [] :=
  SC_of_run cfgOK (its := [.res (.tup [.v .tree c1a, .v .bool false]) [] [] [], .res (.tup [.v .tree c2a, .v .bool c2b]) [] [] []])
    (ps := [SC cfg.P i_impl_parse [.s (.v .str a0)] (.tup [.v .tree c1a, .v .bool false]) [],
      SC cfg.P i_impl_parse [.s (.v .str a2)] (.tup [.v .tree c2a, .v .bool c2b]) []]) (by kernel_rfl) ⟨h1, h2, trivial⟩ get_impl_GraftAt (by decide)

/-! ### spec_GraftAt -/


theorem spec_GraftAt_p1 (a0 : ByteArray) (a1 : Int) (a2 : ByteArray) (c3 : Int) (c4 : Int)
    (h1 : SC cfg.P i_spec_trLeaves [.s (.v .str a0), .s (.v (.int .i64) a1)] (.s (.v .bool true)) [])
    (h2 : SC cfg.P i_spec_trIs [.s (.v .str a2)] (.s (.v .bool true)) [])
    (h3 : SC cfg.P i_spec_trCarets [.s (.v .str a0)] (.s (.v (.int .i64) c3)) [])
    (h4 : SC cfg.P i_spec_trCarets [.s (.v .str a2)] (.s (.v (.int .i64) c4)) [])
    (h5 : (IntKind.wrap .i64 (c3 + c4)) > (8 : Int)) :
    SC cfg.P i_spec_GraftAt [.s (.v .str a0), .s (.v (.int .i64) a1), .s (.v .str a2)] (.tup [.v .str (⟨#[]⟩ : ByteArray), .v .bool false]) [] :=
  SC_of_run cfgOK (its := [.res (.s (.v .bool true)) [] [] [], .res (.s (.v .bool true)) [] [] [], .res (.s (.v (.int .i64) c3)) [] [] [], .res (.s (.v (.int .i64) c4)) [] [] [], .bool true])
    (ps := [SC cfg.P i_spec_trLeaves [.s (.v .str a0), .s (.v (.int .i64) a1)] (.s (.v .bool true)) [],
      SC cfg.P i_spec_trIs [.s (.v .str a2)] (.s (.v .bool true)) [],
      SC cfg.P i_spec_trCarets [.s (.v .str a0)] (.s (.v (.int .i64) c3)) [],
      SC cfg.P i_spec_trCarets [.s (.v .str a2)] (.s (.v (.int .i64) c4)) [],
      decide ((IntKind.wrap .i64 (c3 + c4)) > (8 : Int)) = true]) (by kernel_rfl) ⟨h1, h2, h3, h4, (decide_eq_true h5), trivial⟩ get_spec_GraftAt (by decide)

theorem spec_GraftAt_p2 (a0 : ByteArray) (a1 : Int) (a2 : ByteArray) (c3 : Int) (c4 : Int) (c5 : ByteArray)
    (h1 : SC cfg.P i_spec_trLeaves [.s (.v .str a0), .s (.v (.int .i64) a1)] (.s (.v .bool true)) [])
    (h2 : SC cfg.P i_spec_trIs [.s (.v .str a2)] (.s (.v .bool true)) [])
    (h3 : SC cfg.P i_spec_trCarets [.s (.v .str a0)] (.s (.v (.int .i64) c3)) [])
    (h4 : SC cfg.P i_spec_trCarets [.s (.v .str a2)] (.s (.v (.int .i64) c4)) [])
    (h5 : ¬ ((IntKind.wrap .i64 (c3 + c4)) > (8 : Int)))
    (h6 : SC cfg.P i_spec_trGraft [.s (.v .str a0), .s (.v (.int .i64) a1), .s (.v .str a2)] (.s (.v .str c5)) []) :
    SC cfg.P i_spec_GraftAt [.s (.v .str a0), .s (.v (.int .i64) a1), .s (.v .str a2)] (.tup [.v .str c5, .v .bool true]) [] :=
  SC_of_run cfgOK (its := [.res (.s (.v .bool true)) [] [] [], .res (.s (.v .bool true)) [] [] [], .res (.s (.v (.int .i64) c3)) [] [] [], .res (.s (.v (.int .i64) c4)) [] [] [], .bool false, .res (.s (.v .str c5)) [] [] []])
    (ps := [SC cfg.P i_spec_trLeaves [.s (.v .str a0), .s (.v (.int .i64) a1)] (.s (.v .bool true)) [],
      SC cfg.P i_spec_trIs [.s (.v .str a2)] (.s (.v .bool true)) [],
      SC cfg.P i_spec_trCarets [.s (.v .str a0)] (.s (.v (.int .i64) c3)) [],
      SC cfg.P i_spec_trCarets [.s (.v .str a2)] (.s (.v (.int .i64) c4)) [],
      decide ((IntKind.wrap .i64 (c3 + c4)) > (8 : Int)) = false,
      SC cfg.P i_spec_trGraft [.s (.v .str a0), .s (.v (.int .i64) a1), .s (.v .str a2)] (.s (.v .str c5)) []]) (by kernel_rfl) ⟨h1, h2, h3, h4, (decide_eq_false h5), h6, trivial⟩ get_spec_GraftAt (by decide)

theorem spec_GraftAt_p3 (a0 : ByteArray) (a1 : Int) (a2 : ByteArray)
    (h1 : SC cfg.P i_spec_trLeaves [.s (.v .str a0), .s (.v (.int .i64) a1)] (.s (.v .bool true)) [])
    (h2 : SC cfg.P i_spec_trIs [.s (.v .str a2)] (.s (.v .bool false)) []) :
    SC cfg.P i_spec_GraftAt [.s (.v .str a0), .s (.v (.int .i64) a1), .s (.v .str a2)] (.tup [.v .str (⟨#[]⟩ : ByteArray), .v .bool false]) [] :=
  SC_of_run cfgOK (its := [.res (.s (.v .bool true)) [] [] [], .res (.s (.v .bool false)) [] [] []])
    (ps := [SC cfg.P i_spec_trLeaves [.s (.v .str a0), .s (.v (.int .i64) a1)] (.s (.v .bool true)) [],
      SC cfg.P i_spec_trIs [.s (.v .str a2)] (.s (.v .bool false)) []]) (by kernel_rfl) ⟨h1, h2, trivial⟩ get_spec_GraftAt (by decide)

theorem spec_GraftAt_p4 (a0 : ByteArray) (a1 : Int) (a2 : ByteArray)
    (h1 : SC cfg.P i_spec_trLeaves [.s (.v .str a0), .s (.v (.int .i64) a1)] (.s (.v .bool false)) []) :
    SC cfg.P i_spec_GraftAt [.s (.v .str a0), .s (.v (.int .i64) a1), .s (.v .str a2)] (.tup [.v .str (⟨#[]⟩ : ByteArray), .v .bool false]) [] :=
  SC_of_run cfgOK (its := [.res (.s (.v .bool false)) [] [] []])
    (ps := [SC cfg.P i_spec_trLeaves [.s (.v .str a0), .s (.v (.int .i64) a1)] (.s (.v .bool false)) []]) (by kernel_rfl) ⟨h1, trivial⟩ get_spec_GraftAt (by decide)

/-! ### impl_AddressesOf -/


theorem impl_AddressesOf_p1 (a0 : ByteArray) (c1a : Tr) (c2 : (List ByteArray))
    (h1 : SC cfg.P i_impl_parse [.s (.v .str a0)] (.tup [.v .tree c1a, .v .bool true]) [])
    (h2 : SC cfg.P i_impl_node_addresses [.s (.v .tree c1a), .s (.v .str (⟨#[]⟩ : ByteArray))] (.s (.own t_string .str c2)) []) :
    SC cfg.P i_impl_AddressesOf [.s (.v .str a0)] (.tup [.own t_string .str c2, .v .bool true]) [] :=
  SC_of_run cfgOK (its := [.res (.tup [.v .tree c1a, .v .bool true]) [] [] [], .res (.s (.own t_string .str c2)) [] [] [14]])
    (ps := [SC cfg.P i_impl_parse [.s (.v .str a0)] (.tup [.v .tree c1a, .v .bool true]) [],
      SC cfg.P i_impl_node_addresses [.s (.v .tree c1a), .s (.v .str (⟨#[]⟩ : ByteArray))] (.s (.own t_string .str c2)) []]) (by kernel_rfl) ⟨h1, h2, trivial⟩ get_impl_AddressesOf (by decide)

theorem impl_AddressesOf_p2 (a0 : ByteArray) (c1a : Tr)
    (h1 : SC cfg.P i_impl_parse [.s (.v .str a0)] (.tup [.v .tree c1a, .v .bool false]) []) :
    SC cfg.P i_impl_AddressesOf [.s (.v .str a0)] (.tup [.own t_string .str ([] : List ByteArray), .v .bool false]) [] :=
  SC_of_run cfgOK (its := [.res (.tup [.v .tree c1a, .v .bool false]) [] [] []])
    (ps := [SC cfg.P i_impl_parse [.s (.v .str a0)] (.tup [.v .tree c1a, .v .bool false]) []]) (by kernel_rfl) ⟨h1, trivial⟩ get_impl_AddressesOf (by decide)

/-! ### spec_l1In -/


theorem spec_l1In_p1 (a0 : Int) (a1 : Int) (a2 : Int)
    (h1 : a0 ≥ a1)
    (h2 : a0 ≤ a2) :
    SC cfg.P i_spec_l1In [.s (.v (.int .i64) a0), .s (.v (.int .i64) a1), .s (.v (.int .i64) a2)] (.s (.v .bool true)) [] :=
  SC_of_run cfgOK (its := [.bool true, .bool true])
    (ps := [decide (a0 ≥ a1) = true,
      decide (a0 ≤ a2) = true]) (by kernel_rfl) ⟨(decide_eq_true h1), (decide_eq_true h2), trivial⟩ get_spec_l1In (by decide)

theorem spec_l1In_p2 (a0 : Int) (a1 : Int) (a2 : Int)
    (h1 : a0 ≥ a1)
    (h2 : ¬ (a0 ≤ a2)) :
    SC cfg.P i_spec_l1In [.s (.v (.int .i64) a0), .s (.v (.int .i64) a1), .s (.v (.int .i64) a2)] (.s (.v .bool false)) [] :=
  SC_of_run cfgOK (its := [.bool true, .bool false])
    (ps := [decide (a0 ≥ a1) = true,
      decide (a0 ≤ a2) = false]) (by kernel_rfl) ⟨(decide_eq_true h1), (decide_eq_false h2), trivial⟩ get_spec_l1In (by decide)

theorem spec_l1In_p3 (a0 : Int) (a1 : Int) (a2 : Int)
    (h1 : ¬ (a0 ≥ a1)) :
    SC cfg.P i_spec_l1In [.s (.v (.int .i64) a0), .s (.v (.int .i64) a1), .s (.v (.int .i64) a2)] (.s (.v .bool false)) [] :=
  SC_of_run cfgOK (its := [.bool false])
    (ps := [decide (a0 ≥ a1) = false]) (by kernel_rfl) ⟨(decide_eq_false h1), trivial⟩ get_spec_l1In (by decide)

/-! ### impl_told -/


theorem impl_told_p1 (a0 : Tr) (c1 : Int)
    (h1 : SC cfg.P i_impl_node_carets [.s (.v .tree a0)] (.s (.v (.int .i64) c1)) [])
    (h2 : c1 > (8 : Int)) :
    SC cfg.P i_impl_told [.s (.v .tree a0)] (.tup [.v .str (⟨#[]⟩ : ByteArray), .v .bool false]) [] :=
  SC_of_run cfgOK (its := [.res (.s (.v (.int .i64) c1)) [] [] [], .bool true])
    (ps := [SC cfg.P i_impl_node_carets [.s (.v .tree a0)] (.s (.v (.int .i64) c1)) [],
      decide (c1 > (8 : Int)) = true]) (by kernel_rfl) ⟨h1, (decide_eq_true h2), trivial⟩ get_impl_told (by decide)

theorem impl_told_p2 (a0 : Tr) (c1 : Int) (c2 : ByteArray)
    (h1 : SC cfg.P i_impl_node_carets [.s (.v .tree a0)] (.s (.v (.int .i64) c1)) [])
    (h2 : ¬ (c1 > (8 : Int)))
    (h3 : SC cfg.P i_impl_node_text [.s (.v .tree a0)] (.s (.v .str c2)) []) :
    SC cfg.P i_impl_told [.s (.v .tree a0)] (.tup [.v .str c2, .v .bool true]) [] :=
  SC_of_run cfgOK (its := [.res (.s (.v (.int .i64) c1)) [] [] [], .bool false, .res (.s (.v .str c2)) [] [] []])
    (ps := [SC cfg.P i_impl_node_carets [.s (.v .tree a0)] (.s (.v (.int .i64) c1)) [],
      decide (c1 > (8 : Int)) = false,
      SC cfg.P i_impl_node_text [.s (.v .tree a0)] (.s (.v .str c2)) []]) (by kernel_rfl) ⟨h1, (decide_eq_false h2), h3, trivial⟩ get_impl_told (by decide)

/-! ### impl_common -/


theorem impl_common_p1 (a1 : Tr)
     :
    SC cfg.P i_impl_common [.s (.v .tree Tr.leaf), .s (.v .tree a1)] (.s (.v .tree Tr.leaf)) [] :=
  SC_of_run cfgOK (its := [.bool true])
    (ps := [Tr.leaf.isLeaf = true]) (by kernel_rfl) ⟨rfl, trivial⟩ get_impl_common (by decide)

theorem impl_common_p2 (a0l : Tr) (a0r : Tr)
     :
    SC cfg.P i_impl_common [.s (.v .tree (Tr.node a0l a0r)), .s (.v .tree Tr.leaf)] (.s (.v .tree Tr.leaf)) [] :=
  SC_of_run cfgOK (its := [.bool false, .bool true])
    (ps := [(Tr.node a0l a0r).isLeaf = false,
      Tr.leaf.isLeaf = true]) (by kernel_rfl) ⟨rfl, rfl, trivial⟩ get_impl_common (by decide)

theorem impl_common_p3 (a0l : Tr) (a0r : Tr) (a1l : Tr) (a1r : Tr) (c1 : Tr) (c2 : Tr)
    (h1 : SC cfg.P i_impl_common [.s (.v .tree a0l), .s (.v .tree a1l)] (.s (.v .tree c1)) [])
    (h2 : SC cfg.P i_impl_common [.s (.v .tree a0r), .s (.v .tree a1r)] (.s (.v .tree c2)) []) :
    SC cfg.P i_impl_common [.s (.v .tree (Tr.node a0l a0r)), .s (.v .tree (Tr.node a1l a1r))] (.s (.v .tree (Tr.node c1 c2))) [] :=
  SC_of_run cfgOK (its := [.bool false, .bool false, .res (.s (.v .tree c1)) [] [] [], .res (.s (.v .tree c2)) [] [] []])
    (ps := [(Tr.node a0l a0r).isLeaf = false,
      (Tr.node a1l a1r).isLeaf = false,
      SC cfg.P i_impl_common [.s (.v .tree a0l), .s (.v .tree a1l)] (.s (.v .tree c1)) [],
      SC cfg.P i_impl_common [.s (.v .tree a0r), .s (.v .tree a1r)] (.s (.v .tree c2)) []]) (by kernel_rfl) ⟨rfl, rfl, h1, h2, trivial⟩ get_impl_common (by decide)

/-! ### spec_trCommon -/


theorem spec_trCommon_p1 (a0 : ByteArray) (a1 : ByteArray)
    (h1 : SC cfg.P i_spec_trLeaf [.s (.v .str a0)] (.s (.v .bool true)) []) :
    SC cfg.P i_spec_trCommon [.s (.v .str a0), .s (.v .str a1)] (.s (.v .str (⟨#[46]⟩ : ByteArray))) [] :=
  SC_of_run cfgOK (its := [.res (.s (.v .bool true)) [] [] []])
    (ps := [SC cfg.P i_spec_trLeaf [.s (.v .str a0)] (.s (.v .bool true)) []]) (by kernel_rfl) ⟨h1, trivial⟩ get_spec_trCommon (by decide)

theorem spec_trCommon_p2 (a0 : ByteArray) (a1 : ByteArray)
    (h1 : SC cfg.P i_spec_trLeaf [.s (.v .str a0)] (.s (.v .bool false)) [])
    (h2 : SC cfg.P i_spec_trLeaf [.s (.v .str a1)] (.s (.v .bool true)) []) :
    SC cfg.P i_spec_trCommon [.s (.v .str a0), .s (.v .str a1)] (.s (.v .str (⟨#[46]⟩ : ByteArray))) [] :=
  SC_of_run cfgOK (its := [.res (.s (.v .bool false)) [] [] [], .res (.s (.v .bool true)) [] [] []])
    (ps := [SC cfg.P i_spec_trLeaf [.s (.v .str a0)] (.s (.v .bool false)) [],
      SC cfg.P i_spec_trLeaf [.s (.v .str a1)] (.s (.v .bool true)) []]) (by kernel_rfl) ⟨h1, h2, trivial⟩ get_spec_trCommon (by decide)

theorem spec_trCommon_p3 (a0 : ByteArray) (a1 : ByteArray) (c3a : ByteArray) (c3b : ByteArray) (c4a : ByteArray) (c4b : ByteArray) (c5 : ByteArray) (c6 : ByteArray) (c7 : ByteArray)
    (h1 : SC cfg.P i_spec_trLeaf [.s (.v .str a0)] (.s (.v .bool false)) [])
    (h2 : SC cfg.P i_spec_trLeaf [.s (.v .str a1)] (.s (.v .bool false)) [])
    (h3 : SC cfg.P i_spec_trSides [.s (.v .str a0)] (.tup [.v .str c3a, .v .str c3b]) [])
    (h4 : SC cfg.P i_spec_trSides [.s (.v .str a1)] (.tup [.v .str c4a, .v .str c4b]) [])
    (h5 : SC cfg.P i_spec_trCommon [.s (.v .str c3a), .s (.v .str c4a)] (.s (.v .str c5)) [])
    (h6 : SC cfg.P i_spec_trCommon [.s (.v .str c3b), .s (.v .str c4b)] (.s (.v .str c6)) [])
    (h7 : SC cfg.P i_spec_trOf [.s (.v .str c5), .s (.v .str c6)] (.s (.v .str c7)) []) :
    SC cfg.P i_spec_trCommon [.s (.v .str a0), .s (.v .str a1)] (.s (.v .str c7)) [] :=
  SC_of_run cfgOK (its := [.res (.s (.v .bool false)) [] [] [], .res (.s (.v .bool false)) [] [] [], .res (.tup [.v .str c3a, .v .str c3b]) [] [] [], .res (.tup [.v .str c4a, .v .str c4b]) [] [] [], .res (.s (.v .str c5)) [] [] [], .res (.s (.v .str c6)) [] [] [], .res (.s (.v .str c7)) [] [] []])
    (ps := [SC cfg.P i_spec_trLeaf [.s (.v .str a0)] (.s (.v .bool false)) [],
      SC cfg.P i_spec_trLeaf [.s (.v .str a1)] (.s (.v .bool false)) [],
      SC cfg.P i_spec_trSides [.s (.v .str a0)] (.tup [.v .str c3a, .v .str c3b]) [],
      SC cfg.P i_spec_trSides [.s (.v .str a1)] (.tup [.v .str c4a, .v .str c4b]) [],
      SC cfg.P i_spec_trCommon [.s (.v .str c3a), .s (.v .str c4a)] (.s (.v .str c5)) [],
      SC cfg.P i_spec_trCommon [.s (.v .str c3b), .s (.v .str c4b)] (.s (.v .str c6)) [],
      SC cfg.P i_spec_trOf [.s (.v .str c5), .s (.v .str c6)] (.s (.v .str c7)) []]) (by kernel_rfl) ⟨h1, h2, h3, h4, h5, h6, h7, trivial⟩ get_spec_trCommon (by decide)

/-! ### impl_isPart -/


theorem impl_isPart_p1 (a1 : Tr)
     :
    SC cfg.P i_impl_isPart [.s (.v .tree Tr.leaf), .s (.v .tree a1)] (.s (.v .bool true)) [] :=
  SC_of_run cfgOK (its := [.bool true])
    (ps := [Tr.leaf.isLeaf = true]) (by kernel_rfl) ⟨rfl, trivial⟩ get_impl_isPart (by decide)

theorem impl_isPart_p2 (a0l : Tr) (a0r : Tr)
     :
    SC cfg.P i_impl_isPart [.s (.v .tree (Tr.node a0l a0r)), .s (.v .tree Tr.leaf)] (.s (.v .bool false)) [] :=
  SC_of_run cfgOK (its := [.bool false, .bool false])
    (ps := [(Tr.node a0l a0r).isLeaf = false,
      (!Tr.leaf.isLeaf) = false]) (by kernel_rfl) ⟨rfl, rfl, trivial⟩ get_impl_isPart (by decide)

theorem impl_isPart_p3 (a0l : Tr) (a0r : Tr) (a1l : Tr) (a1r : Tr) (c2 : Bool)
    (h1 : SC cfg.P i_impl_isPart [.s (.v .tree a0l), .s (.v .tree a1l)] (.s (.v .bool true)) [])
    (h2 : SC cfg.P i_impl_isPart [.s (.v .tree a0r), .s (.v .tree a1r)] (.s (.v .bool c2)) []) :
    SC cfg.P i_impl_isPart [.s (.v .tree (Tr.node a0l a0r)), .s (.v .tree (Tr.node a1l a1r))] (.s (.v .bool c2)) [] :=
  SC_of_run cfgOK (its := [.bool false, .bool true, .res (.s (.v .bool true)) [] [] [], .res (.s (.v .bool c2)) [] [] []])
    (ps := [(Tr.node a0l a0r).isLeaf = false,
      (!(Tr.node a1l a1r).isLeaf) = true,
      SC cfg.P i_impl_isPart [.s (.v .tree a0l), .s (.v .tree a1l)] (.s (.v .bool true)) [],
      SC cfg.P i_impl_isPart [.s (.v .tree a0r), .s (.v .tree a1r)] (.s (.v .bool c2)) []]) (by kernel_rfl) ⟨rfl, rfl, h1, h2, trivial⟩ get_impl_isPart (by decide)

theorem impl_isPart_p4 (a0l : Tr) (a0r : Tr) (a1l : Tr) (a1r : Tr)
    (h1 : SC cfg.P i_impl_isPart [.s (.v .tree a0l), .s (.v .tree a1l)] (.s (.v .bool false)) []) :
    SC cfg.P i_impl_isPart [.s (.v .tree (Tr.node a0l a0r)), .s (.v .tree (Tr.node a1l a1r))] (.s (.v .bool false)) [] :=
  SC_of_run cfgOK (its := [.bool false, .bool true, .res (.s (.v .bool false)) [] [] []])
    (ps := [(Tr.node a0l a0r).isLeaf = false,
      (!(Tr.node a1l a1r).isLeaf) = true,
      SC cfg.P i_impl_isPart [.s (.v .tree a0l), .s (.v .tree a1l)] (.s (.v .bool false)) []]) (by kernel_rfl) ⟨rfl, rfl, h1, trivial⟩ get_impl_isPart (by decide)

/-! ### spec_trAt -/


def spec_trAt_L0a (x0 : ByteArray) (x1 : ByteArray) (x6 : Int) : St := mkSt 41 [(0, .s (.v .str x0)), (1, .s (.v .str x1)), (6, .s (.v (.int .i64) x6))] []

def spec_trAt_L0X1 (y4 : ByteArray) (y5 : Bool) : St := mkSt 41 [(4, .s (.v .str y4)), (5, .s (.v .bool y5))] []

def spec_trAt_L0X2 (y0 : ByteArray) (y1 : ByteArray) (y6 : Int) (y12 : Bool) : St := mkSt 41 [(0, .s (.v .str y0)), (1, .s (.v .str y1)), (6, .s (.v (.int .i64) y6)), (12, .s (.v .bool y12))] []

theorem spec_trAt_L0a_x1 (x0 : ByteArray) (x1 : ByteArray) (x6 : Int)
    (h1 : x6 < ((x1).size : Int))
    (h2 : SC cfg.P i_spec_trLeaf [.s (.v .str x0)] (.s (.v .bool true)) []) :
    LoopSC cfg.P 2 (lb P_spec_trAt 0) (spec_trAt_L0a x0 x1 x6) (.ret) (spec_trAt_L0X1 (⟨#[]⟩ : ByteArray) false) :=
  loop_out cfgOK (f := i_spec_trAt) (its := [.bool true, .res (.s (.v .bool true)) [] [] []])
    (ps := [decide (x6 < ((x1).size : Int)) = true,
      SC cfg.P i_spec_trLeaf [.s (.v .str x0)] (.s (.v .bool true)) []]) (by kernel_rfl) ⟨(decide_eq_true h1), h2, trivial⟩ (fun h => by cases h)

theorem spec_trAt_L0a_x2 (x0 : ByteArray) (x1 : ByteArray) (x6 : Int)
    (h1 : x6 < ((x1).size : Int))
    (h2 : SC cfg.P i_spec_trLeaf [.s (.v .str x0)] (.s (.v .bool false)) [])
    (h3 : 0 ≤ x6)
    (h4 : (bt x1 x6) ≠ (48 : Int))
    (h5 : (bt x1 x6) ≠ (49 : Int)) :
    LoopSC cfg.P 2 (lb P_spec_trAt 0) (spec_trAt_L0a x0 x1 x6) (.ret) (spec_trAt_L0X1 (⟨#[]⟩ : ByteArray) false) :=
  loop_out cfgOK (f := i_spec_trAt) (its := [.bool true, .res (.s (.v .bool false)) [] [] [], .bool true, .bool true])
    (ps := [decide (x6 < ((x1).size : Int)) = true,
      SC cfg.P i_spec_trLeaf [.s (.v .str x0)] (.s (.v .bool false)) [],
      0 ≤ x6,
      x6 < ((x1).size : Int),
      ((bt x1 x6) != (48 : Int)) = true,
      0 ≤ x6,
      x6 < ((x1).size : Int),
      ((bt x1 x6) != (49 : Int)) = true]) (by kernel_rfl) ⟨(decide_eq_true h1), h2, h3, h1, (bne_iff_ne.mpr h4), h3, h1, (bne_iff_ne.mpr h5), trivial⟩ (fun h => by cases h)

theorem spec_trAt_L0a_i3 (x0 : ByteArray) (x1 : ByteArray) (x6 : Int) (dc2a : ByteArray) (dc2b : ByteArray)
    (h1 : x6 < ((x1).size : Int))
    (h2 : SC cfg.P i_spec_trLeaf [.s (.v .str x0)] (.s (.v .bool false)) [])
    (h3 : 0 ≤ x6)
    (h4 : (bt x1 x6) ≠ (48 : Int))
    (h5 : (bt x1 x6) = (49 : Int))
    (h6 : SC cfg.P i_spec_trSides [.s (.v .str x0)] (.tup [.v .str dc2a, .v .str dc2b]) [])
    {e : AEx} {st : St} (next : LoopSC cfg.P 2 (lb P_spec_trAt 0) (spec_trAt_L0a dc2b x1 (IntKind.wrap .i64 (x6 + (1 : Int)))) e st) :
    LoopSC cfg.P 2 (lb P_spec_trAt 0) (spec_trAt_L0a x0 x1 x6) e st :=
  loop_iter cfgOK (f := i_spec_trAt) (its := [.bool true, .res (.s (.v .bool false)) [] [] [], .bool true, .bool false, .res (.tup [.v .str dc2a, .v .str dc2b]) [] [] [], .bool true])
    (ps := [decide (x6 < ((x1).size : Int)) = true,
      SC cfg.P i_spec_trLeaf [.s (.v .str x0)] (.s (.v .bool false)) [],
      0 ≤ x6,
      x6 < ((x1).size : Int),
      ((bt x1 x6) != (48 : Int)) = true,
      0 ≤ x6,
      x6 < ((x1).size : Int),
      ((bt x1 x6) != (49 : Int)) = false,
      SC cfg.P i_spec_trSides [.s (.v .str x0)] (.tup [.v .str dc2a, .v .str dc2b]) [],
      0 ≤ x6,
      x6 < ((x1).size : Int),
      ((bt x1 x6) == (49 : Int)) = true]) (st1 := spec_trAt_L0a dc2b x1 (IntKind.wrap .i64 (x6 + (1 : Int)))) (by kernel_rfl) ⟨(decide_eq_true h1), h2, h3, h1, (bne_iff_ne.mpr h4), h3, h1, (bne_eq_false_iff_eq.mpr h5), h6, h3, h1, (beq_iff_eq.mpr h5), trivial⟩ next

theorem spec_trAt_L0a_i4 (x0 : ByteArray) (x1 : ByteArray) (x6 : Int) (dc2a : ByteArray) (dc2b : ByteArray)
    (h1 : x6 < ((x1).size : Int))
    (h2 : SC cfg.P i_spec_trLeaf [.s (.v .str x0)] (.s (.v .bool false)) [])
    (h3 : 0 ≤ x6)
    (h4 : (bt x1 x6) ≠ (48 : Int))
    (h5 : (bt x1 x6) = (49 : Int))
    (h6 : SC cfg.P i_spec_trSides [.s (.v .str x0)] (.tup [.v .str dc2a, .v .str dc2b]) [])
    (h7 : (bt x1 x6) ≠ (49 : Int))
    {e : AEx} {st : St} (next : LoopSC cfg.P 2 (lb P_spec_trAt 0) (spec_trAt_L0a dc2a x1 (IntKind.wrap .i64 (x6 + (1 : Int)))) e st) :
    LoopSC cfg.P 2 (lb P_spec_trAt 0) (spec_trAt_L0a x0 x1 x6) e st :=
  loop_iter cfgOK (f := i_spec_trAt) (its := [.bool true, .res (.s (.v .bool false)) [] [] [], .bool true, .bool false, .res (.tup [.v .str dc2a, .v .str dc2b]) [] [] [], .bool false])
    (ps := [decide (x6 < ((x1).size : Int)) = true,
      SC cfg.P i_spec_trLeaf [.s (.v .str x0)] (.s (.v .bool false)) [],
      0 ≤ x6,
      x6 < ((x1).size : Int),
      ((bt x1 x6) != (48 : Int)) = true,
      0 ≤ x6,
      x6 < ((x1).size : Int),
      ((bt x1 x6) != (49 : Int)) = false,
      SC cfg.P i_spec_trSides [.s (.v .str x0)] (.tup [.v .str dc2a, .v .str dc2b]) [],
      0 ≤ x6,
      x6 < ((x1).size : Int),
      ((bt x1 x6) == (49 : Int)) = false]) (st1 := spec_trAt_L0a dc2a x1 (IntKind.wrap .i64 (x6 + (1 : Int)))) (by kernel_rfl) ⟨(decide_eq_true h1), h2, h3, h1, (bne_iff_ne.mpr h4), h3, h1, (bne_eq_false_iff_eq.mpr h5), h6, h3, h1, (beq_eq_false_iff_ne.mpr h7), trivial⟩ next

theorem spec_trAt_L0a_i5 (x0 : ByteArray) (x1 : ByteArray) (x6 : Int) (dc2a : ByteArray) (dc2b : ByteArray)
    (h1 : x6 < ((x1).size : Int))
    (h2 : SC cfg.P i_spec_trLeaf [.s (.v .str x0)] (.s (.v .bool false)) [])
    (h3 : 0 ≤ x6)
    (h4 : (bt x1 x6) = (48 : Int))
    (h5 : SC cfg.P i_spec_trSides [.s (.v .str x0)] (.tup [.v .str dc2a, .v .str dc2b]) [])
    (h6 : (bt x1 x6) = (49 : Int))
    {e : AEx} {st : St} (next : LoopSC cfg.P 2 (lb P_spec_trAt 0) (spec_trAt_L0a dc2b x1 (IntKind.wrap .i64 (x6 + (1 : Int)))) e st) :
    LoopSC cfg.P 2 (lb P_spec_trAt 0) (spec_trAt_L0a x0 x1 x6) e st :=
  loop_iter cfgOK (f := i_spec_trAt) (its := [.bool true, .res (.s (.v .bool false)) [] [] [], .bool false, .res (.tup [.v .str dc2a, .v .str dc2b]) [] [] [], .bool true])
    (ps := [decide (x6 < ((x1).size : Int)) = true,
      SC cfg.P i_spec_trLeaf [.s (.v .str x0)] (.s (.v .bool false)) [],
      0 ≤ x6,
      x6 < ((x1).size : Int),
      ((bt x1 x6) != (48 : Int)) = false,
      SC cfg.P i_spec_trSides [.s (.v .str x0)] (.tup [.v .str dc2a, .v .str dc2b]) [],
      0 ≤ x6,
      x6 < ((x1).size : Int),
      ((bt x1 x6) == (49 : Int)) = true]) (st1 := spec_trAt_L0a dc2b x1 (IntKind.wrap .i64 (x6 + (1 : Int)))) (by kernel_rfl) ⟨(decide_eq_true h1), h2, h3, h1, (bne_eq_false_iff_eq.mpr h4), h5, h3, h1, (beq_iff_eq.mpr h6), trivial⟩ next

theorem spec_trAt_L0a_i6 (x0 : ByteArray) (x1 : ByteArray) (x6 : Int) (dc2a : ByteArray) (dc2b : ByteArray)
    (h1 : x6 < ((x1).size : Int))
    (h2 : SC cfg.P i_spec_trLeaf [.s (.v .str x0)] (.s (.v .bool false)) [])
    (h3 : 0 ≤ x6)
    (h4 : (bt x1 x6) = (48 : Int))
    (h5 : SC cfg.P i_spec_trSides [.s (.v .str x0)] (.tup [.v .str dc2a, .v .str dc2b]) [])
    (h6 : (bt x1 x6) ≠ (49 : Int))
    {e : AEx} {st : St} (next : LoopSC cfg.P 2 (lb P_spec_trAt 0) (spec_trAt_L0a dc2a x1 (IntKind.wrap .i64 (x6 + (1 : Int)))) e st) :
    LoopSC cfg.P 2 (lb P_spec_trAt 0) (spec_trAt_L0a x0 x1 x6) e st :=
  loop_iter cfgOK (f := i_spec_trAt) (its := [.bool true, .res (.s (.v .bool false)) [] [] [], .bool false, .res (.tup [.v .str dc2a, .v .str dc2b]) [] [] [], .bool false])
    (ps := [decide (x6 < ((x1).size : Int)) = true,
      SC cfg.P i_spec_trLeaf [.s (.v .str x0)] (.s (.v .bool false)) [],
      0 ≤ x6,
      x6 < ((x1).size : Int),
      ((bt x1 x6) != (48 : Int)) = false,
      SC cfg.P i_spec_trSides [.s (.v .str x0)] (.tup [.v .str dc2a, .v .str dc2b]) [],
      0 ≤ x6,
      x6 < ((x1).size : Int),
      ((bt x1 x6) == (49 : Int)) = false]) (st1 := spec_trAt_L0a dc2a x1 (IntKind.wrap .i64 (x6 + (1 : Int)))) (by kernel_rfl) ⟨(decide_eq_true h1), h2, h3, h1, (bne_eq_false_iff_eq.mpr h4), h5, h3, h1, (beq_eq_false_iff_ne.mpr h6), trivial⟩ next

theorem spec_trAt_L0a_x7 (x0 : ByteArray) (x1 : ByteArray) (x6 : Int)
    (h1 : ¬ (x6 < ((x1).size : Int))) :
    LoopSC cfg.P 2 (lb P_spec_trAt 0) (spec_trAt_L0a x0 x1 x6) (.exit 0) (spec_trAt_L0X2 x0 x1 x6 false) :=
  loop_out cfgOK (f := i_spec_trAt) (its := [.bool false])
    (ps := [decide (x6 < ((x1).size : Int)) = false]) (by kernel_rfl) ⟨(decide_eq_false h1), trivial⟩ (fun h => by cases h)

theorem spec_trAt_p1 (a0 : ByteArray) (a1 : ByteArray) (k1y4 : ByteArray) (k1y5 : Bool)
    (h1 : LoopSC cfg.P 2 (lb P_spec_trAt 0) (spec_trAt_L0a a0 a1 (0 : Int)) (.ret) (spec_trAt_L0X1 k1y4 k1y5)) :
    SC cfg.P i_spec_trAt [.s (.v .str a0), .s (.v .str a1)] (.tup [.v .str k1y4, .v .bool k1y5]) [] :=
  SC_of_run cfgOK (its := [.loop (fun _ => (.ret, spec_trAt_L0X1 k1y4 k1y5))])
    (ps := [LoopSC cfg.P 2 (lb P_spec_trAt 0) (spec_trAt_L0a a0 a1 (0 : Int)) (.ret) (spec_trAt_L0X1 k1y4 k1y5)]) (by kernel_rfl) ⟨h1, trivial⟩ get_spec_trAt (by decide)

theorem spec_trAt_p2 (a0 : ByteArray) (a1 : ByteArray) (k1y0 : ByteArray) (k1y1 : ByteArray) (k1y6 : Int) (k1y12 : Bool)
    (h1 : LoopSC cfg.P 2 (lb P_spec_trAt 0) (spec_trAt_L0a a0 a1 (0 : Int)) (.exit 0) (spec_trAt_L0X2 k1y0 k1y1 k1y6 k1y12)) :
    SC cfg.P i_spec_trAt [.s (.v .str a0), .s (.v .str a1)] (.tup [.v .str k1y0, .v .bool true]) [] :=
  SC_of_run cfgOK (its := [.loop (fun _ => (.exit 0, spec_trAt_L0X2 k1y0 k1y1 k1y6 k1y12))])
    (ps := [LoopSC cfg.P 2 (lb P_spec_trAt 0) (spec_trAt_L0a a0 a1 (0 : Int)) (.exit 0) (spec_trAt_L0X2 k1y0 k1y1 k1y6 k1y12)]) (by kernel_rfl) ⟨h1, trivial⟩ get_spec_trAt (by decide)

/-! ### impl_hasLeaf -/


theorem impl_hasLeaf_p1 (a0 : Tr) (a1 : Int) (c1 : Int)
    (h1 : a1 ≥ (0 : Int))
    (h2 : SC cfg.P i_impl_node_leaves [.s (.v .tree a0)] (.s (.v (.int .i64) c1)) [])
    (h3 : a1 < c1) :
    SC cfg.P i_impl_hasLeaf [.s (.v .tree a0), .s (.v (.int .i64) a1)] (.s (.v .bool true)) [] :=
  SC_of_run cfgOK (its := [.bool true, .res (.s (.v (.int .i64) c1)) [] [] [], .bool true])
    (ps := [decide (a1 ≥ (0 : Int)) = true,
      SC cfg.P i_impl_node_leaves [.s (.v .tree a0)] (.s (.v (.int .i64) c1)) [],
      decide (a1 < c1) = true]) (by kernel_rfl) ⟨(decide_eq_true h1), h2, (decide_eq_true h3), trivial⟩ get_impl_hasLeaf (by decide)

theorem impl_hasLeaf_p2 (a0 : Tr) (a1 : Int) (c1 : Int)
    (h1 : a1 ≥ (0 : Int))
    (h2 : SC cfg.P i_impl_node_leaves [.s (.v .tree a0)] (.s (.v (.int .i64) c1)) [])
    (h3 : ¬ (a1 < c1)) :
    SC cfg.P i_impl_hasLeaf [.s (.v .tree a0), .s (.v (.int .i64) a1)] (.s (.v .bool false)) [] :=
  SC_of_run cfgOK (its := [.bool true, .res (.s (.v (.int .i64) c1)) [] [] [], .bool false])
    (ps := [decide (a1 ≥ (0 : Int)) = true,
      SC cfg.P i_impl_node_leaves [.s (.v .tree a0)] (.s (.v (.int .i64) c1)) [],
      decide (a1 < c1) = false]) (by kernel_rfl) ⟨(decide_eq_true h1), h2, (decide_eq_false h3), trivial⟩ get_impl_hasLeaf (by decide)

theorem impl_hasLeaf_p3 (a0 : Tr) (a1 : Int)
    (h1 : ¬ (a1 ≥ (0 : Int))) :
    SC cfg.P i_impl_hasLeaf [.s (.v .tree a0), .s (.v (.int .i64) a1)] (.s (.v .bool false)) [] :=
  SC_of_run cfgOK (its := [.bool false])
    (ps := [decide (a1 ≥ (0 : Int)) = false]) (by kernel_rfl) ⟨(decide_eq_false h1), trivial⟩ get_impl_hasLeaf (by decide)

/-! ### impl_node_graft -/


theorem impl_node_graft_p1 (a0 : Tr) (a1 : Int) (a2 : Tr) (c1 : Tr)
    (h1 : SC cfg.P i_impl_node_grown [.s (.v .tree a0), .s (.v (.int .i64) (0 : Int)), .fn i_impl_node_graft_k1 [] [.fadr (.int .i64) a1, .fadr .tree a2]] (.s (.v .tree c1)) []) :
    SC cfg.P i_impl_node_graft [.s (.v .tree a0), .s (.v (.int .i64) a1), .s (.v .tree a2)] (.s (.v .tree c1)) [] :=
  SC_of_run cfgOK (its := [.res (.s (.v .tree c1)) [] [] []])
    (ps := [SC cfg.P i_impl_node_grown [.s (.v .tree a0), .s (.v (.int .i64) (0 : Int)), .fn i_impl_node_graft_k1 [] [.fadr (.int .i64) a1, .fadr .tree a2]] (.s (.v .tree c1)) []]) (by kernel_rfl) ⟨h1, trivial⟩ get_impl_node_graft (by decide)

/-! ### spec_trLeaves -/


theorem spec_trLeaves_p1 (a0 : ByteArray) (a1 : Int) (c2 : Int) (c3 : Bool)
    (h1 : SC cfg.P i_spec_trIs [.s (.v .str a0)] (.s (.v .bool true)) [])
    (h2 : SC cfg.P i_spec_trCarets [.s (.v .str a0)] (.s (.v (.int .i64) c2)) [])
    (h3 : SC cfg.P i_spec_l1In [.s (.v (.int .i64) a1), .s (.v (.int .i64) (0 : Int)), .s (.v (.int .i64) c2)] (.s (.v .bool c3)) []) :
    SC cfg.P i_spec_trLeaves [.s (.v .str a0), .s (.v (.int .i64) a1)] (.s (.v .bool c3)) [] :=
  SC_of_run cfgOK (its := [.res (.s (.v .bool true)) [] [] [], .res (.s (.v (.int .i64) c2)) [] [] [], .res (.s (.v .bool c3)) [] [] []])
    (ps := [SC cfg.P i_spec_trIs [.s (.v .str a0)] (.s (.v .bool true)) [],
      SC cfg.P i_spec_trCarets [.s (.v .str a0)] (.s (.v (.int .i64) c2)) [],
      SC cfg.P i_spec_l1In [.s (.v (.int .i64) a1), .s (.v (.int .i64) (0 : Int)), .s (.v (.int .i64) c2)] (.s (.v .bool c3)) []]) (by kernel_rfl) ⟨h1, h2, h3, trivial⟩ get_spec_trLeaves (by decide)

theorem spec_trLeaves_p2 (a0 : ByteArray) (a1 : Int)
    (h1 : SC cfg.P i_spec_trIs [.s (.v .str a0)] (.s (.v .bool false)) []) :
    SC cfg.P i_spec_trLeaves [.s (.v .str a0), .s (.v (.int .i64) a1)] (.s (.v .bool false)) [] :=
  SC_of_run cfgOK (its := [.res (.s (.v .bool false)) [] [] []])
    (ps := [SC cfg.P i_spec_trIs [.s (.v .str a0)] (.s (.v .bool false)) []]) (by kernel_rfl) ⟨h1, trivial⟩ get_spec_trLeaves (by decide)

end Go.AI
