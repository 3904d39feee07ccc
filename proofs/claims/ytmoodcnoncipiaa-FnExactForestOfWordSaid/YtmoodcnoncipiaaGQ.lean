/- A part of the road: what it proves stands in its last texts. -/
import Derived.Test.YtmoodcnoncipiaaSIds
import Derived.Test.YtmoodcnoncipiaaProg
set_option autoImplicit false
set_option maxRecDepth 100000
set_option linter.unusedVariables false
namespace Go.AI
open Go.Proofs

/-! ### laws_FnExactStackForests -/


theorem laws_FnExactStackForests_p1 (a0 : (List ByteArray)) (a1 : (List ByteArray)) (c1 : Int)
    (h1 : SC cfg.P i_laws_szStringS [.s (.v (.sl .str) a0), .s (.v (.int .i64) (1048576 : Int))] (.s (.v (.int .i64) c1)) [])
    (h2 : c1 < (0 : Int)) :
    SC cfg.P i_laws_FnExactStackForests [.s (.v (.sl .str) a0), .s (.v (.sl .str) a1)] (.s (.v .bool true)) [] :=
  SC_of_run cfgOK (its := [.res (.s (.v (.int .i64) c1)) [] [] [], .bool true])
    (ps := [SC cfg.P i_laws_szStringS [.s (.v (.sl .str) a0), .s (.v (.int .i64) (1048576 : Int))] (.s (.v (.int .i64) c1)) [],
      decide (c1 < (0 : Int)) = true]) (by kernel_rfl) ⟨h1, (decide_eq_true h2), trivial⟩ get_laws_FnExactStackForests (by decide)

theorem laws_FnExactStackForests_p2 (a0 : (List ByteArray)) (a1 : (List ByteArray)) (c1 : Int) (c2 : Int)
    (h1 : SC cfg.P i_laws_szStringS [.s (.v (.sl .str) a0), .s (.v (.int .i64) (1048576 : Int))] (.s (.v (.int .i64) c1)) [])
    (h2 : ¬ (c1 < (0 : Int)))
    (h3 : SC cfg.P i_laws_szStringS [.s (.v (.sl .str) a1), .s (.v (.int .i64) c1)] (.s (.v (.int .i64) c2)) [])
    (h4 : c2 < (0 : Int)) :
    SC cfg.P i_laws_FnExactStackForests [.s (.v (.sl .str) a0), .s (.v (.sl .str) a1)] (.s (.v .bool true)) [] :=
  SC_of_run cfgOK (its := [.res (.s (.v (.int .i64) c1)) [] [] [], .bool false, .res (.s (.v (.int .i64) c2)) [] [] [], .bool true])
    (ps := [SC cfg.P i_laws_szStringS [.s (.v (.sl .str) a0), .s (.v (.int .i64) (1048576 : Int))] (.s (.v (.int .i64) c1)) [],
      decide (c1 < (0 : Int)) = false,
      SC cfg.P i_laws_szStringS [.s (.v (.sl .str) a1), .s (.v (.int .i64) c1)] (.s (.v (.int .i64) c2)) [],
      decide (c2 < (0 : Int)) = true]) (by kernel_rfl) ⟨h1, (decide_eq_false h2), h3, (decide_eq_true h4), trivial⟩ get_laws_FnExactStackForests (by decide)

theorem laws_FnExactStackForests_p3 (a0 : (List ByteArray)) (a1 : (List ByteArray)) (c1 : Int) (c2 : Int) (c3 : (List ByteArray)) (c4 : (List ByteArray)) (c5a : (List ByteArray)) (c5b : Bool) (c6 : (List ByteArray)) (c7 : (List ByteArray)) (c8a : (List ByteArray)) (c8b : Bool) (c10 : (List ByteArray)) (c12 : (List ByteArray)) (c14 : Int) (c14o0 : (List ByteArray)) (c15 : Int) (c15o0 : (List ByteArray)) (c17 : Int) (c17o0 : (List ByteArray)) (c18 : Int) (c19 : (List ByteArray)) (c20 : (List ByteArray)) (c21a : (List ByteArray)) (c21b : Bool) (c23 : Int)
    (h1 : SC cfg.P i_laws_szStringS [.s (.v (.sl .str) a0), .s (.v (.int .i64) (1048576 : Int))] (.s (.v (.int .i64) c1)) [])
    (h2 : ¬ (c1 < (0 : Int)))
    (h3 : SC cfg.P i_laws_szStringS [.s (.v (.sl .str) a1), .s (.v (.int .i64) c1)] (.s (.v (.int .i64) c2)) [])
    (h4 : ¬ (c2 < (0 : Int)))
    (h5 : SC cfg.P i_laws_toStringS [.s (.v (.sl .str) a0)] (.s (.own t_string .str c3)) [])
    (h6 : SC cfg.P i_laws_toStringS [.s (.v (.sl .str) a1)] (.s (.own t_string .str c4)) [])
    (h7 : SC cfg.P i_spec_StackForests [.s (.v (.sl .str) c3), .s (.v (.sl .str) c4)] (.tup [.own t_string .str c5a, .v .bool c5b]) [])
    (h8 : SC cfg.P i_laws_toStringS [.s (.v (.sl .str) a0)] (.s (.own t_string .str c6)) [])
    (h9 : SC cfg.P i_laws_toStringS [.s (.v (.sl .str) a1)] (.s (.own t_string .str c7)) [])
    (h10 : SC cfg.P i_impl_StackForests [.s (.v (.sl .str) c6), .s (.v (.sl .str) c7)] (.tup [.own t_string .str c8a, .v .bool c8b]) [])
    (h11 : SC cfg.P i_laws_eqStringS [.s (.v (.sl .str) c8a), .s (.v (.sl .str) c5a)] (.s (.v .bool true)) [])
    (h12 : (!(c8b == c5b)) = false)
    (h13 : SC cfg.P i_laws_toStringS [.s (.v (.sl .str) a0)] (.s (.own t_string .str c10)) [])
    (h14 : SC cfg.P i_laws_eqStringS [.s (.v (.sl .str) c6), .s (.v (.sl .str) c10)] (.s (.v .bool true)) [])
    (h15 : SC cfg.P i_laws_toStringS [.s (.v (.sl .str) a1)] (.s (.own t_string .str c12)) [])
    (h16 : SC cfg.P i_laws_eqStringS [.s (.v (.sl .str) c7), .s (.v (.sl .str) c12)] (.s (.v .bool true)) [])
    (h17 : SC cfg.P i_laws_markStringS [.s (.msl t_string .str c6), .s (.v (.int .i64) (1 : Int))] (.s (.v (.int .i64) c14)) [.row t_string .str c14o0])
    (h18 : SC cfg.P i_laws_markStringS [.s (.msl t_string .str c7), .s (.v (.int .i64) c14)] (.s (.v (.int .i64) c15)) [.row t_string .str c15o0])
    (h19 : ¬ (c15 < (0 : Int)))
    (h20 : SC cfg.P i_laws_markStringS [.s (.msl t_string .str c8a), .s (.v (.int .i64) (1 : Int))] (.s (.v (.int .i64) c17)) [.row t_string .str c17o0])
    (h21 : SC cfg.P i_laws_heldStringS [.s (.v (.sl .str) c17o0), .s (.v (.int .i64) (1 : Int))] (.s (.v (.int .i64) c18)) [])
    (h22 : ¬ (c18 < (0 : Int)))
    (h23 : c18 = c17)
    (h24 : SC cfg.P i_laws_toStringS [.s (.v (.sl .str) a0)] (.s (.own t_string .str c19)) [])
    (h25 : SC cfg.P i_laws_toStringS [.s (.v (.sl .str) a1)] (.s (.own t_string .str c20)) [])
    (h26 : SC cfg.P i_impl_StackForests [.s (.v (.sl .str) c19), .s (.v (.sl .str) c20)] (.tup [.own t_string .str c21a, .v .bool c21b]) [])
    (h27 : SC cfg.P i_laws_eqStringS [.s (.v (.sl .str) c21a), .s (.v (.sl .str) c5a)] (.s (.v .bool true)) [])
    (h28 : (!(c21b == c5b)) = false)
    (h29 : SC cfg.P i_laws_heldStringS [.s (.v (.sl .str) c17o0), .s (.v (.int .i64) (1 : Int))] (.s (.v (.int .i64) c23)) [])
    (h30 : ¬ (c23 < (0 : Int)))
    (h31 : c23 = c17) :
    SC cfg.P i_laws_FnExactStackForests [.s (.v (.sl .str) a0), .s (.v (.sl .str) a1)] (.s (.v .bool true)) [] :=
  SC_of_run cfgOK (its := [.res (.s (.v (.int .i64) c1)) [] [] [], .bool false, .res (.s (.v (.int .i64) c2)) [] [] [], .bool false, .res (.s (.own t_string .str c3)) [] [] [29], .res (.s (.own t_string .str c4)) [] [] [31], .res (.tup [.own t_string .str c5a, .v .bool c5b]) [] [] [32], .res (.s (.own t_string .str c6)) [] [] [36], .res (.s (.own t_string .str c7)) [] [] [38], .res (.tup [.own t_string .str c8a, .v .bool c8b]) [] [] [42], .res (.s (.v .bool true)) [] [] [], .bool false, .res (.s (.own t_string .str c10)) [] [] [56], .res (.s (.v .bool true)) [] [] [], .res (.s (.own t_string .str c12)) [] [] [61], .res (.s (.v .bool true)) [] [] [], .res (.s (.v (.int .i64) c14)) [.row t_string .str c14o0] [0] [], .res (.s (.v (.int .i64) c15)) [.row t_string .str c15o0] [0] [], .bool false, .res (.s (.v .bool true)) [] [] [], .bool false, .res (.s (.v (.int .i64) c17)) [.row t_string .str c17o0] [0] [], .res (.s (.v (.int .i64) c18)) [] [] [], .bool false, .bool false, .res (.s (.own t_string .str c19)) [] [] [96], .res (.s (.own t_string .str c20)) [] [] [98], .res (.tup [.own t_string .str c21a, .v .bool c21b]) [] [] [99], .res (.s (.v .bool true)) [] [] [], .bool false, .res (.s (.v (.int .i64) c23)) [] [] [], .bool false, .bool false])
    (ps := [SC cfg.P i_laws_szStringS [.s (.v (.sl .str) a0), .s (.v (.int .i64) (1048576 : Int))] (.s (.v (.int .i64) c1)) [],
      decide (c1 < (0 : Int)) = false,
      SC cfg.P i_laws_szStringS [.s (.v (.sl .str) a1), .s (.v (.int .i64) c1)] (.s (.v (.int .i64) c2)) [],
      decide (c2 < (0 : Int)) = false,
      SC cfg.P i_laws_toStringS [.s (.v (.sl .str) a0)] (.s (.own t_string .str c3)) [],
      SC cfg.P i_laws_toStringS [.s (.v (.sl .str) a1)] (.s (.own t_string .str c4)) [],
      SC cfg.P i_spec_StackForests [.s (.v (.sl .str) c3), .s (.v (.sl .str) c4)] (.tup [.own t_string .str c5a, .v .bool c5b]) [],
      SC cfg.P i_laws_toStringS [.s (.v (.sl .str) a0)] (.s (.own t_string .str c6)) [],
      SC cfg.P i_laws_toStringS [.s (.v (.sl .str) a1)] (.s (.own t_string .str c7)) [],
      SC cfg.P i_impl_StackForests [.s (.v (.sl .str) c6), .s (.v (.sl .str) c7)] (.tup [.own t_string .str c8a, .v .bool c8b]) [],
      SC cfg.P i_laws_eqStringS [.s (.v (.sl .str) c8a), .s (.v (.sl .str) c5a)] (.s (.v .bool true)) [],
      (!(c8b == c5b)) = false,
      SC cfg.P i_laws_toStringS [.s (.v (.sl .str) a0)] (.s (.own t_string .str c10)) [],
      SC cfg.P i_laws_eqStringS [.s (.v (.sl .str) c6), .s (.v (.sl .str) c10)] (.s (.v .bool true)) [],
      SC cfg.P i_laws_toStringS [.s (.v (.sl .str) a1)] (.s (.own t_string .str c12)) [],
      SC cfg.P i_laws_eqStringS [.s (.v (.sl .str) c7), .s (.v (.sl .str) c12)] (.s (.v .bool true)) [],
      SC cfg.P i_laws_markStringS [.s (.msl t_string .str c6), .s (.v (.int .i64) (1 : Int))] (.s (.v (.int .i64) c14)) [.row t_string .str c14o0],
      SC cfg.P i_laws_markStringS [.s (.msl t_string .str c7), .s (.v (.int .i64) c14)] (.s (.v (.int .i64) c15)) [.row t_string .str c15o0],
      decide (c15 < (0 : Int)) = false,
      SC cfg.P i_laws_eqStringS [.s (.v (.sl .str) c8a), .s (.v (.sl .str) c5a)] (.s (.v .bool true)) [],
      (!(c8b == c5b)) = false,
      SC cfg.P i_laws_markStringS [.s (.msl t_string .str c8a), .s (.v (.int .i64) (1 : Int))] (.s (.v (.int .i64) c17)) [.row t_string .str c17o0],
      SC cfg.P i_laws_heldStringS [.s (.v (.sl .str) c17o0), .s (.v (.int .i64) (1 : Int))] (.s (.v (.int .i64) c18)) [],
      decide (c18 < (0 : Int)) = false,
      (c18 != c17) = false,
      SC cfg.P i_laws_toStringS [.s (.v (.sl .str) a0)] (.s (.own t_string .str c19)) [],
      SC cfg.P i_laws_toStringS [.s (.v (.sl .str) a1)] (.s (.own t_string .str c20)) [],
      SC cfg.P i_impl_StackForests [.s (.v (.sl .str) c19), .s (.v (.sl .str) c20)] (.tup [.own t_string .str c21a, .v .bool c21b]) [],
      SC cfg.P i_laws_eqStringS [.s (.v (.sl .str) c21a), .s (.v (.sl .str) c5a)] (.s (.v .bool true)) [],
      (!(c21b == c5b)) = false,
      SC cfg.P i_laws_heldStringS [.s (.v (.sl .str) c17o0), .s (.v (.int .i64) (1 : Int))] (.s (.v (.int .i64) c23)) [],
      decide (c23 < (0 : Int)) = false,
      (c23 != c17) = false]) (by kernel_rfl) ⟨h1, (decide_eq_false h2), h3, (decide_eq_false h4), h5, h6, h7, h8, h9, h10, h11, h12, h13, h14, h15, h16, h17, h18, (decide_eq_false h19), h11, h12, h20, h21, (decide_eq_false h22), (bne_f h23), h24, h25, h26, h27, h28, h29, (decide_eq_false h30), (bne_f h31), trivial⟩ get_laws_FnExactStackForests (by decide)

/-! ### spec_StackForests -/


theorem spec_StackForests_p1 (a0 : (List ByteArray)) (a1 : (List ByteArray)) (c3 : (List ByteArray)) (c4a : (List ByteArray)) (c4b : Bool)
    (h1 : SC cfg.P i_spec_foGood [.s (.v (.sl .str) a0)] (.s (.v .bool true)) [])
    (h2 : SC cfg.P i_spec_foGood [.s (.v (.sl .str) a1)] (.s (.v .bool true)) [])
    (h3 : SC cfg.P i_spec_foStack [.s (.v (.sl .str) a0), .s (.v (.sl .str) a1)] (.s (.own t_string .str c3)) [])
    (h4 : SC cfg.P i_spec_foIf [.s (.v (.sl .str) c3)] (.tup [.own t_string .str c4a, .v .bool c4b]) []) :
    SC cfg.P i_spec_StackForests [.s (.v (.sl .str) a0), .s (.v (.sl .str) a1)] (.tup [.own t_string .str c4a, .v .bool c4b]) [] :=
  SC_of_run cfgOK (its := [.res (.s (.v .bool true)) [] [] [], .res (.s (.v .bool true)) [] [] [], .res (.s (.own t_string .str c3)) [] [] [16], .res (.tup [.own t_string .str c4a, .v .bool c4b]) [] [] [18]])
    (ps := [SC cfg.P i_spec_foGood [.s (.v (.sl .str) a0)] (.s (.v .bool true)) [],
      SC cfg.P i_spec_foGood [.s (.v (.sl .str) a1)] (.s (.v .bool true)) [],
      SC cfg.P i_spec_foStack [.s (.v (.sl .str) a0), .s (.v (.sl .str) a1)] (.s (.own t_string .str c3)) [],
      SC cfg.P i_spec_foIf [.s (.v (.sl .str) c3)] (.tup [.own t_string .str c4a, .v .bool c4b]) []]) (by kernel_rfl) ⟨h1, h2, h3, h4, trivial⟩ get_spec_StackForests (by decide)

theorem spec_StackForests_p2 (a0 : (List ByteArray)) (a1 : (List ByteArray))
    (h1 : SC cfg.P i_spec_foGood [.s (.v (.sl .str) a0)] (.s (.v .bool true)) [])
    (h2 : SC cfg.P i_spec_foGood [.s (.v (.sl .str) a1)] (.s (.v .bool false)) []) :
    SC cfg.P i_spec_StackForests [.s (.v (.sl .str) a0), .s (.v (.sl .str) a1)] (.tup [.own t_string .str ([] : List ByteArray), .v .bool false]) [] :=
  SC_of_run cfgOK (its := [.res (.s (.v .bool true)) [] [] [], .res (.s (.v .bool false)) [] [] []])
    (ps := [SC cfg.P i_spec_foGood [.s (.v (.sl .str) a0)] (.s (.v .bool true)) [],
      SC cfg.P i_spec_foGood [.s (.v (.sl .str) a1)] (.s (.v .bool false)) []]) (by kernel_rfl) ⟨h1, h2, trivial⟩ get_spec_StackForests (by decide)

theorem spec_StackForests_p3 (a0 : (List ByteArray)) (a1 : (List ByteArray))
    (h1 : SC cfg.P i_spec_foGood [.s (.v (.sl .str) a0)] (.s (.v .bool false)) []) :
    SC cfg.P i_spec_StackForests [.s (.v (.sl .str) a0), .s (.v (.sl .str) a1)] (.tup [.own t_string .str ([] : List ByteArray), .v .bool false]) [] :=
  SC_of_run cfgOK (its := [.res (.s (.v .bool false)) [] [] []])
    (ps := [SC cfg.P i_spec_foGood [.s (.v (.sl .str) a0)] (.s (.v .bool false)) []]) (by kernel_rfl) ⟨h1, trivial⟩ get_spec_StackForests (by decide)

/-! ### impl_StackForests -/


theorem impl_StackForests_p1 (a0 : (List ByteArray)) (a1 : (List ByteArray)) (c1a : (List Tr)) (c1b : (List Tr)) (c2 : (List Tr)) (c3a : (List ByteArray)) (c3b : Bool)
    (h1 : SC cfg.P i_impl_twoForests [.s (.v (.sl .str) a0), .s (.v (.sl .str) a1)] (.tup [.v (.sl .tree) c1a, .v (.sl .tree) c1b, .v .bool true]) [])
    (h2 : SC cfg.P i_impl_forest_stack [.s (.v (.sl .tree) c1a), .s (.v (.sl .tree) c1b)] (.s (.own t_pimpl_node .tree c2)) [])
    (h3 : SC cfg.P i_impl_forest_texts [.s (.v (.sl .tree) c2)] (.tup [.own t_string .str c3a, .v .bool c3b]) []) :
    SC cfg.P i_impl_StackForests [.s (.v (.sl .str) a0), .s (.v (.sl .str) a1)] (.tup [.own t_string .str c3a, .v .bool c3b]) [] :=
  SC_of_run cfgOK (its := [.res (.tup [.v (.sl .tree) c1a, .v (.sl .tree) c1b, .v .bool true]) [] [] [], .res (.s (.own t_pimpl_node .tree c2)) [] [] [20], .res (.tup [.own t_string .str c3a, .v .bool c3b]) [] [] [22]])
    (ps := [SC cfg.P i_impl_twoForests [.s (.v (.sl .str) a0), .s (.v (.sl .str) a1)] (.tup [.v (.sl .tree) c1a, .v (.sl .tree) c1b, .v .bool true]) [],
      SC cfg.P i_impl_forest_stack [.s (.v (.sl .tree) c1a), .s (.v (.sl .tree) c1b)] (.s (.own t_pimpl_node .tree c2)) [],
      SC cfg.P i_impl_forest_texts [.s (.v (.sl .tree) c2)] (.tup [.own t_string .str c3a, .v .bool c3b]) []]) (by kernel_rfl) ⟨h1, h2, h3, trivial⟩ get_impl_StackForests (by decide)

theorem impl_StackForests_p2 (a0 : (List ByteArray)) (a1 : (List ByteArray)) (c1a : (List Tr)) (c1b : (List Tr))
    (h1 : SC cfg.P i_impl_twoForests [.s (.v (.sl .str) a0), .s (.v (.sl .str) a1)] (.tup [.v (.sl .tree) c1a, .v (.sl .tree) c1b, .v .bool false]) []) :
    SC cfg.P i_impl_StackForests [.s (.v (.sl .str) a0), .s (.v (.sl .str) a1)] (.tup [.own t_string .str ([] : List ByteArray), .v .bool false]) [] :=
  SC_of_run cfgOK (its := [.res (.tup [.v (.sl .tree) c1a, .v (.sl .tree) c1b, .v .bool false]) [] [] []])
    (ps := [SC cfg.P i_impl_twoForests [.s (.v (.sl .str) a0), .s (.v (.sl .str) a1)] (.tup [.v (.sl .tree) c1a, .v (.sl .tree) c1b, .v .bool false]) []]) (by kernel_rfl) ⟨h1, trivial⟩ get_impl_StackForests (by decide)

/-! ### spec_foStack -/


def spec_foStack_L0a (x0 : (List ByteArray)) (x1 : (List ByteArray)) (x6 : Int) (x7 : Int) (xo5 : (List ByteArray)) : St := mkSt 56 [(0, .s (.v (.sl .str) x0)), (1, .s (.v (.sl .str) x1)), (5, .s (.osl 5 0)), (6, .s (.v (.int .i64) x6)), (7, .s (.v (.int .i64) x7))] [(5, .row t_string .str xo5 0 false)]

def spec_foStack_L1a (x0 : (List ByteArray)) (x1 : (List ByteArray)) (x6 : Int) (x7 : Int) (x8 : ByteArray) (x9 : ByteArray) (x10 : Int) (xo5 : (List ByteArray)) : St := mkSt 56 [(0, .s (.v (.sl .str) x0)), (1, .s (.v (.sl .str) x1)), (5, .s (.osl 5 0)), (6, .s (.v (.int .i64) x6)), (7, .s (.v (.int .i64) x7)), (8, .s (.v .str x8)), (9, .s (.v .str x9)), (10, .s (.v (.int .i64) x10))] [(5, .row t_string .str xo5 0 false)]

def spec_foStack_L1X1 (y0 : (List ByteArray)) (y1 : (List ByteArray)) (y6 : Int) (y7 : Int) (y8 : ByteArray) (y9 : ByteArray) (y10 : Int) (y29 : Bool) (yo5 : (List ByteArray)) : St := mkSt 56 [(0, .s (.v (.sl .str) y0)), (1, .s (.v (.sl .str) y1)), (5, .s (.osl 5 0)), (6, .s (.v (.int .i64) y6)), (7, .s (.v (.int .i64) y7)), (8, .s (.v .str y8)), (9, .s (.v .str y9)), (10, .s (.v (.int .i64) y10)), (29, .s (.v .bool y29))] [(5, .row t_string .str yo5 0 false)]

def spec_foStack_L0X1 (y0 : (List ByteArray)) (y1 : (List ByteArray)) (y6 : Int) (y7 : Int) (y20 : Bool) (yo5 : (List ByteArray)) : St := mkSt 56 [(0, .s (.v (.sl .str) y0)), (1, .s (.v (.sl .str) y1)), (5, .s (.osl 5 0)), (6, .s (.v (.int .i64) y6)), (7, .s (.v (.int .i64) y7)), (20, .s (.v .bool y20))] [(5, .row t_string .str yo5 0 false)]

theorem spec_foStack_L0a_i1 (x0 : (List ByteArray)) (x1 : (List ByteArray)) (x6 : Int) (x7 : Int) (xo5 : (List ByteArray)) (dc1 : ByteArray) (dk1y0 : (List ByteArray)) (dk1y1 : (List ByteArray)) (dk1y6 : Int) (dk1y7 : Int) (dk1y8 : ByteArray) (dk1y9 : ByteArray) (dk1y10 : Int) (dk1y29 : Bool) (dk1yo5 : (List ByteArray))
    (h1 : x7 < ((List.length x0 : Nat) : Int))
    (h2 : SC cfg.P i_spec_foTree [.s (.v (.sl .str) x0), .s (.v (.int .i64) x7)] (.s (.v .str dc1)) [])
    (h3 : LoopSC cfg.P 2 (lb P_spec_foStack 1) (spec_foStack_L1a x0 x1 x6 x7 dc1 (⟨#[]⟩ : ByteArray) (0 : Int) xo5) (.exit 2) (spec_foStack_L1X1 dk1y0 dk1y1 dk1y6 dk1y7 dk1y8 dk1y9 dk1y10 dk1y29 dk1yo5))
    (h4 : sizeOK (List.length dk1yo5 + List.length ([dk1y9] : List ByteArray)))
    {e : AEx} {st : St} (next : LoopSC cfg.P 2 (lb P_spec_foStack 0) (spec_foStack_L0a dk1y0 dk1y1 dk1y6 (IntKind.wrap .i64 (dk1y7 + (1 : Int))) (dk1yo5 ++ ([dk1y9] : List ByteArray))) e st) :
    LoopSC cfg.P 2 (lb P_spec_foStack 0) (spec_foStack_L0a x0 x1 x6 x7 xo5) e st :=
  loop_iter cfgOK (f := i_spec_foStack) (its := [.bool true, .res (.s (.v .str dc1)) [] [] [], .loop (fun _ => (.exit 2, spec_foStack_L1X1 dk1y0 dk1y1 dk1y6 dk1y7 dk1y8 dk1y9 dk1y10 dk1y29 dk1yo5))])
    (ps := [decide (x7 < ((List.length x0 : Nat) : Int)) = true,
      SC cfg.P i_spec_foTree [.s (.v (.sl .str) x0), .s (.v (.int .i64) x7)] (.s (.v .str dc1)) [],
      LoopSC cfg.P 2 (lb P_spec_foStack 1) (spec_foStack_L1a x0 x1 x6 x7 dc1 (⟨#[]⟩ : ByteArray) (0 : Int) xo5) (.exit 2) (spec_foStack_L1X1 dk1y0 dk1y1 dk1y6 dk1y7 dk1y8 dk1y9 dk1y10 dk1y29 dk1yo5),
      sizeOK (List.length dk1yo5 + List.length ([dk1y9] : List ByteArray))]) (st1 := spec_foStack_L0a dk1y0 dk1y1 dk1y6 (IntKind.wrap .i64 (dk1y7 + (1 : Int))) (dk1yo5 ++ ([dk1y9] : List ByteArray))) (by kernel_rfl) ⟨(decide_eq_true h1), h2, h3, h4, trivial⟩ next

theorem spec_foStack_L0a_i2 (x0 : (List ByteArray)) (x1 : (List ByteArray)) (x6 : Int) (x7 : Int) (xo5 : (List ByteArray)) (dc1 : ByteArray) (dk1y0 : (List ByteArray)) (dk1y1 : (List ByteArray)) (dk1y6 : Int) (dk1y7 : Int) (dk1y8 : ByteArray) (dk1y9 : ByteArray) (dk1y10 : Int) (dk1y29 : Bool) (dk1yo5 : (List ByteArray))
    (h1 : ¬ (x7 < ((List.length x0 : Nat) : Int)))
    (h2 : x6 < ((List.length x1 : Nat) : Int))
    (h3 : SC cfg.P i_spec_foTree [.s (.v (.sl .str) x0), .s (.v (.int .i64) x7)] (.s (.v .str dc1)) [])
    (h4 : LoopSC cfg.P 2 (lb P_spec_foStack 1) (spec_foStack_L1a x0 x1 x6 x7 dc1 (⟨#[]⟩ : ByteArray) (0 : Int) xo5) (.exit 2) (spec_foStack_L1X1 dk1y0 dk1y1 dk1y6 dk1y7 dk1y8 dk1y9 dk1y10 dk1y29 dk1yo5))
    (h5 : sizeOK (List.length dk1yo5 + List.length ([dk1y9] : List ByteArray)))
    {e : AEx} {st : St} (next : LoopSC cfg.P 2 (lb P_spec_foStack 0) (spec_foStack_L0a dk1y0 dk1y1 dk1y6 (IntKind.wrap .i64 (dk1y7 + (1 : Int))) (dk1yo5 ++ ([dk1y9] : List ByteArray))) e st) :
    LoopSC cfg.P 2 (lb P_spec_foStack 0) (spec_foStack_L0a x0 x1 x6 x7 xo5) e st :=
  loop_iter cfgOK (f := i_spec_foStack) (its := [.bool false, .bool true, .res (.s (.v .str dc1)) [] [] [], .loop (fun _ => (.exit 2, spec_foStack_L1X1 dk1y0 dk1y1 dk1y6 dk1y7 dk1y8 dk1y9 dk1y10 dk1y29 dk1yo5))])
    (ps := [decide (x7 < ((List.length x0 : Nat) : Int)) = false,
      decide (x6 < ((List.length x1 : Nat) : Int)) = true,
      SC cfg.P i_spec_foTree [.s (.v (.sl .str) x0), .s (.v (.int .i64) x7)] (.s (.v .str dc1)) [],
      LoopSC cfg.P 2 (lb P_spec_foStack 1) (spec_foStack_L1a x0 x1 x6 x7 dc1 (⟨#[]⟩ : ByteArray) (0 : Int) xo5) (.exit 2) (spec_foStack_L1X1 dk1y0 dk1y1 dk1y6 dk1y7 dk1y8 dk1y9 dk1y10 dk1y29 dk1yo5),
      sizeOK (List.length dk1yo5 + List.length ([dk1y9] : List ByteArray))]) (st1 := spec_foStack_L0a dk1y0 dk1y1 dk1y6 (IntKind.wrap .i64 (dk1y7 + (1 : Int))) (dk1yo5 ++ ([dk1y9] : List ByteArray))) (by kernel_rfl) ⟨(decide_eq_false h1), (decide_eq_true h2), h3, h4, h5, trivial⟩ next

theorem spec_foStack_L0a_x3 (x0 : (List ByteArray)) (x1 : (List ByteArray)) (x6 : Int) (x7 : Int) (xo5 : (List ByteArray))
    (h1 : ¬ (x7 < ((List.length x0 : Nat) : Int)))
    (h2 : ¬ (x6 < ((List.length x1 : Nat) : Int))) :
    LoopSC cfg.P 2 (lb P_spec_foStack 0) (spec_foStack_L0a x0 x1 x6 x7 xo5) (.exit 0) (spec_foStack_L0X1 x0 x1 x6 x7 false xo5) :=
  loop_out cfgOK (f := i_spec_foStack) (its := [.bool false, .bool false])
    (ps := [decide (x7 < ((List.length x0 : Nat) : Int)) = false,
      decide (x6 < ((List.length x1 : Nat) : Int)) = false]) (by kernel_rfl) ⟨(decide_eq_false h1), (decide_eq_false h2), trivial⟩ (fun h => by cases h)

theorem spec_foStack_L1a_i1 (x0 : (List ByteArray)) (x1 : (List ByteArray)) (x6 : Int) (x7 : Int) (x8 : ByteArray) (x9 : ByteArray) (x10 : Int) (xo5 : (List ByteArray)) (dc1 : ByteArray)
    (h1 : x10 < ((x8).size : Int))
    (h2 : 0 ≤ x10)
    (h3 : (bt x8 x10) = (46 : Int))
    (h4 : SC cfg.P i_spec_foTree [.s (.v (.sl .str) x1), .s (.v (.int .i64) x6)] (.s (.v .str dc1)) [])
    (h5 : (x9).size + (dc1).size ≤ 2 ^ 62)
    {e : AEx} {st : St} (next : LoopSC cfg.P 2 (lb P_spec_foStack 1) (spec_foStack_L1a x0 x1 (IntKind.wrap .i64 (x6 + (1 : Int))) x7 x8 (x9 ++ dc1) (IntKind.wrap .i64 (x10 + (1 : Int))) xo5) e st) :
    LoopSC cfg.P 2 (lb P_spec_foStack 1) (spec_foStack_L1a x0 x1 x6 x7 x8 x9 x10 xo5) e st :=
  loop_iter cfgOK (f := i_spec_foStack) (its := [.bool true, .bool true, .res (.s (.v .str dc1)) [] [] []])
    (ps := [decide (x10 < ((x8).size : Int)) = true,
      0 ≤ x10,
      x10 < ((x8).size : Int),
      ((bt x8 x10) == (46 : Int)) = true,
      SC cfg.P i_spec_foTree [.s (.v (.sl .str) x1), .s (.v (.int .i64) x6)] (.s (.v .str dc1)) [],
      (x9).size + (dc1).size ≤ 2 ^ 62]) (st1 := spec_foStack_L1a x0 x1 (IntKind.wrap .i64 (x6 + (1 : Int))) x7 x8 (x9 ++ dc1) (IntKind.wrap .i64 (x10 + (1 : Int))) xo5) (by kernel_rfl) ⟨(decide_eq_true h1), h2, h1, (beq_t h3), h4, h5, trivial⟩ next

theorem spec_foStack_L1a_i2 (x0 : (List ByteArray)) (x1 : (List ByteArray)) (x6 : Int) (x7 : Int) (x8 : ByteArray) (x9 : ByteArray) (x10 : Int) (xo5 : (List ByteArray))
    (h1 : x10 < ((x8).size : Int))
    (h2 : 0 ≤ x10)
    (h3 : (bt x8 x10) ≠ (46 : Int))
    (h4 : x10 ≤ (IntKind.wrap .i64 (x10 + (1 : Int))))
    (h5 : (IntKind.wrap .i64 (x10 + (1 : Int))) ≤ ((x8).size : Int))
    (h6 : (x9).size + ((ByteArray.extract x8 (x10).toNat ((IntKind.wrap .i64 (x10 + (1 : Int)))).toNat)).size ≤ 2 ^ 62)
    {e : AEx} {st : St} (next : LoopSC cfg.P 2 (lb P_spec_foStack 1) (spec_foStack_L1a x0 x1 x6 x7 x8 (x9 ++ (ByteArray.extract x8 (x10).toNat ((IntKind.wrap .i64 (x10 + (1 : Int)))).toNat)) (IntKind.wrap .i64 (x10 + (1 : Int))) xo5) e st) :
    LoopSC cfg.P 2 (lb P_spec_foStack 1) (spec_foStack_L1a x0 x1 x6 x7 x8 x9 x10 xo5) e st :=
  loop_iter cfgOK (f := i_spec_foStack) (its := [.bool true, .bool false])
    (ps := [decide (x10 < ((x8).size : Int)) = true,
      0 ≤ x10,
      x10 < ((x8).size : Int),
      ((bt x8 x10) == (46 : Int)) = false,
      0 ≤ x10,
      x10 ≤ (IntKind.wrap .i64 (x10 + (1 : Int))),
      (IntKind.wrap .i64 (x10 + (1 : Int))) ≤ ((x8).size : Int),
      (x9).size + ((ByteArray.extract x8 (x10).toNat ((IntKind.wrap .i64 (x10 + (1 : Int)))).toNat)).size ≤ 2 ^ 62]) (st1 := spec_foStack_L1a x0 x1 x6 x7 x8 (x9 ++ (ByteArray.extract x8 (x10).toNat ((IntKind.wrap .i64 (x10 + (1 : Int)))).toNat)) (IntKind.wrap .i64 (x10 + (1 : Int))) xo5) (by kernel_rfl) ⟨(decide_eq_true h1), h2, h1, (beq_f h3), h2, h4, h5, h6, trivial⟩ next

theorem spec_foStack_L1a_x3 (x0 : (List ByteArray)) (x1 : (List ByteArray)) (x6 : Int) (x7 : Int) (x8 : ByteArray) (x9 : ByteArray) (x10 : Int) (xo5 : (List ByteArray))
    (h1 : ¬ (x10 < ((x8).size : Int))) :
    LoopSC cfg.P 2 (lb P_spec_foStack 1) (spec_foStack_L1a x0 x1 x6 x7 x8 x9 x10 xo5) (.exit 2) (spec_foStack_L1X1 x0 x1 x6 x7 x8 x9 x10 false xo5) :=
  loop_out cfgOK (f := i_spec_foStack) (its := [.bool false])
    (ps := [decide (x10 < ((x8).size : Int)) = false]) (by kernel_rfl) ⟨(decide_eq_false h1), trivial⟩ (fun h => by cases h)

theorem spec_foStack_p1 (a0 : (List ByteArray)) (a1 : (List ByteArray)) (k1y0 : (List ByteArray)) (k1y1 : (List ByteArray)) (k1y6 : Int) (k1y7 : Int) (k1y20 : Bool) (k1yo5 : (List ByteArray)) (c1 : (List ByteArray))
    (h1 : LoopSC cfg.P 2 (lb P_spec_foStack 0) (spec_foStack_L0a a0 a1 (0 : Int) (0 : Int) ([] : List ByteArray)) (.exit 0) (spec_foStack_L0X1 k1y0 k1y1 k1y6 k1y7 k1y20 k1yo5))
    (h2 : SC cfg.P i_spec_wdShort [.s (.v (.sl .str) k1yo5)] (.s (.own t_string .str c1)) []) :
    SC cfg.P i_spec_foStack [.s (.v (.sl .str) a0), .s (.v (.sl .str) a1)] (.s (.own t_string .str c1)) [] :=
  SC_of_run cfgOK (its := [.loop (fun _ => (.exit 0, spec_foStack_L0X1 k1y0 k1y1 k1y6 k1y7 k1y20 k1yo5)), .res (.s (.own t_string .str c1)) [] [] [55]])
    (ps := [LoopSC cfg.P 2 (lb P_spec_foStack 0) (spec_foStack_L0a a0 a1 (0 : Int) (0 : Int) ([] : List ByteArray)) (.exit 0) (spec_foStack_L0X1 k1y0 k1y1 k1y6 k1y7 k1y20 k1yo5),
      SC cfg.P i_spec_wdShort [.s (.v (.sl .str) k1yo5)] (.s (.own t_string .str c1)) []]) (by kernel_rfl) ⟨h1, h2, trivial⟩ get_spec_foStack (by decide)

/-! ### impl_forest_stack -/


def impl_forest_stack_L0a (x0 : (List Tr)) (x1 : (List Tr)) (x6 : Int) (x7 : Int) (xo5 : (List Tr)) : St := mkSt 37 [(0, .s (.v (.sl .tree) x0)), (1, .s (.v (.sl .tree) x1)), (5, .s (.osl 5 0)), (6, .s (.v (.int .i64) x6)), (7, .s (.v (.int .i64) x7))] [(5, .row t_pimpl_node .tree xo5 0 false)]

def impl_forest_stack_L0X1 (y0 : (List Tr)) (y1 : (List Tr)) (y6 : Int) (y7 : Int) (y18 : Bool) (yo5 : (List Tr)) : St := mkSt 37 [(0, .s (.v (.sl .tree) y0)), (1, .s (.v (.sl .tree) y1)), (5, .s (.osl 5 0)), (6, .s (.v (.int .i64) y6)), (7, .s (.v (.int .i64) y7)), (18, .s (.v .bool y18))] [(5, .row t_pimpl_node .tree yo5 0 false)]

theorem impl_forest_stack_L0a_i1 (x0 : (List Tr)) (x1 : (List Tr)) (x6 : Int) (x7 : Int) (xo5 : (List Tr)) (dc1 : Tr) (dc2 : Tr) (dc3 : Int)
    (h1 : x7 < ((List.length x0 : Nat) : Int))
    (h2 : SC cfg.P i_impl_forest_tree [.s (.v (.sl .tree) x0), .s (.v (.int .i64) x7)] (.s (.v .tree dc1)) [])
    (h3 : SC cfg.P i_impl_node_grown [.s (.v .tree dc1), .s (.v (.int .i64) x6), .fn i_impl_forest_tree [.v (.sl .tree) x1] []] (.s (.v .tree dc2)) [])
    (h4 : sizeOK (List.length xo5 + List.length ([dc2] : List Tr)))
    (h5 : SC cfg.P i_impl_node_leaves [.s (.v .tree dc1)] (.s (.v (.int .i64) dc3)) [])
    {e : AEx} {st : St} (next : LoopSC cfg.P 2 (lb P_impl_forest_stack 0) (impl_forest_stack_L0a x0 x1 (IntKind.wrap .i64 (x6 + dc3)) (IntKind.wrap .i64 (x7 + (1 : Int))) (xo5 ++ ([dc2] : List Tr))) e st) :
    LoopSC cfg.P 2 (lb P_impl_forest_stack 0) (impl_forest_stack_L0a x0 x1 x6 x7 xo5) e st :=
  loop_iter cfgOK (f := i_impl_forest_stack) (its := [.bool true, .res (.s (.v .tree dc1)) [] [] [], .res (.s (.v .tree dc2)) [] [] [], .res (.s (.v (.int .i64) dc3)) [] [] []])
    (ps := [decide (x7 < ((List.length x0 : Nat) : Int)) = true,
      SC cfg.P i_impl_forest_tree [.s (.v (.sl .tree) x0), .s (.v (.int .i64) x7)] (.s (.v .tree dc1)) [],
      SC cfg.P i_impl_node_grown [.s (.v .tree dc1), .s (.v (.int .i64) x6), .fn i_impl_forest_tree [.v (.sl .tree) x1] []] (.s (.v .tree dc2)) [],
      sizeOK (List.length xo5 + List.length ([dc2] : List Tr)),
      SC cfg.P i_impl_node_leaves [.s (.v .tree dc1)] (.s (.v (.int .i64) dc3)) []]) (st1 := impl_forest_stack_L0a x0 x1 (IntKind.wrap .i64 (x6 + dc3)) (IntKind.wrap .i64 (x7 + (1 : Int))) (xo5 ++ ([dc2] : List Tr))) (by kernel_rfl) ⟨(decide_eq_true h1), h2, h3, h4, h5, trivial⟩ next

theorem impl_forest_stack_L0a_i2 (x0 : (List Tr)) (x1 : (List Tr)) (x6 : Int) (x7 : Int) (xo5 : (List Tr)) (dc1 : Tr) (dc2 : Tr) (dc3 : Int)
    (h1 : ¬ (x7 < ((List.length x0 : Nat) : Int)))
    (h2 : x6 < ((List.length x1 : Nat) : Int))
    (h3 : SC cfg.P i_impl_forest_tree [.s (.v (.sl .tree) x0), .s (.v (.int .i64) x7)] (.s (.v .tree dc1)) [])
    (h4 : SC cfg.P i_impl_node_grown [.s (.v .tree dc1), .s (.v (.int .i64) x6), .fn i_impl_forest_tree [.v (.sl .tree) x1] []] (.s (.v .tree dc2)) [])
    (h5 : sizeOK (List.length xo5 + List.length ([dc2] : List Tr)))
    (h6 : SC cfg.P i_impl_node_leaves [.s (.v .tree dc1)] (.s (.v (.int .i64) dc3)) [])
    {e : AEx} {st : St} (next : LoopSC cfg.P 2 (lb P_impl_forest_stack 0) (impl_forest_stack_L0a x0 x1 (IntKind.wrap .i64 (x6 + dc3)) (IntKind.wrap .i64 (x7 + (1 : Int))) (xo5 ++ ([dc2] : List Tr))) e st) :
    LoopSC cfg.P 2 (lb P_impl_forest_stack 0) (impl_forest_stack_L0a x0 x1 x6 x7 xo5) e st :=
  loop_iter cfgOK (f := i_impl_forest_stack) (its := [.bool false, .bool true, .res (.s (.v .tree dc1)) [] [] [], .res (.s (.v .tree dc2)) [] [] [], .res (.s (.v (.int .i64) dc3)) [] [] []])
    (ps := [decide (x7 < ((List.length x0 : Nat) : Int)) = false,
      decide (x6 < ((List.length x1 : Nat) : Int)) = true,
      SC cfg.P i_impl_forest_tree [.s (.v (.sl .tree) x0), .s (.v (.int .i64) x7)] (.s (.v .tree dc1)) [],
      SC cfg.P i_impl_node_grown [.s (.v .tree dc1), .s (.v (.int .i64) x6), .fn i_impl_forest_tree [.v (.sl .tree) x1] []] (.s (.v .tree dc2)) [],
      sizeOK (List.length xo5 + List.length ([dc2] : List Tr)),
      SC cfg.P i_impl_node_leaves [.s (.v .tree dc1)] (.s (.v (.int .i64) dc3)) []]) (st1 := impl_forest_stack_L0a x0 x1 (IntKind.wrap .i64 (x6 + dc3)) (IntKind.wrap .i64 (x7 + (1 : Int))) (xo5 ++ ([dc2] : List Tr))) (by kernel_rfl) ⟨(decide_eq_false h1), (decide_eq_true h2), h3, h4, h5, h6, trivial⟩ next

theorem impl_forest_stack_L0a_x3 (x0 : (List Tr)) (x1 : (List Tr)) (x6 : Int) (x7 : Int) (xo5 : (List Tr))
    (h1 : ¬ (x7 < ((List.length x0 : Nat) : Int)))
    (h2 : ¬ (x6 < ((List.length x1 : Nat) : Int))) :
    LoopSC cfg.P 2 (lb P_impl_forest_stack 0) (impl_forest_stack_L0a x0 x1 x6 x7 xo5) (.exit 0) (impl_forest_stack_L0X1 x0 x1 x6 x7 false xo5) :=
  loop_out cfgOK (f := i_impl_forest_stack) (its := [.bool false, .bool false])
    (ps := [decide (x7 < ((List.length x0 : Nat) : Int)) = false,
      decide (x6 < ((List.length x1 : Nat) : Int)) = false]) (by kernel_rfl) ⟨(decide_eq_false h1), (decide_eq_false h2), trivial⟩ (fun h => by cases h)

theorem impl_forest_stack_p1 (a0 : (List Tr)) (a1 : (List Tr)) (k1y0 : (List Tr)) (k1y1 : (List Tr)) (k1y6 : Int) (k1y7 : Int) (k1y18 : Bool) (k1yo5 : (List Tr))
    (h1 : LoopSC cfg.P 2 (lb P_impl_forest_stack 0) (impl_forest_stack_L0a a0 a1 (0 : Int) (0 : Int) ([] : List Tr)) (.exit 0) (impl_forest_stack_L0X1 k1y0 k1y1 k1y6 k1y7 k1y18 k1yo5)) :
    SC cfg.P i_impl_forest_stack [.s (.v (.sl .tree) a0), .s (.v (.sl .tree) a1)] (.s (.own t_pimpl_node .tree k1yo5)) [] :=
  SC_of_run cfgOK (its := [.loop (fun _ => (.exit 0, impl_forest_stack_L0X1 k1y0 k1y1 k1y6 k1y7 k1y18 k1yo5))])
    (ps := [LoopSC cfg.P 2 (lb P_impl_forest_stack 0) (impl_forest_stack_L0a a0 a1 (0 : Int) (0 : Int) ([] : List Tr)) (.exit 0) (impl_forest_stack_L0X1 k1y0 k1y1 k1y6 k1y7 k1y18 k1yo5)]) (by kernel_rfl) ⟨h1, trivial⟩ get_impl_forest_stack (by decide)

/-! ### impl_node_grown -/


theorem impl_node_grown_p1 (a1 : Int) (a2F : FuncId) (a2f : (List Tr)) (c1 : Tr)
    (h1 : SC cfg.P a2F [.s (.v (.sl .tree) a2f), .s (.v (.int .i64) a1)] (.s (.v .tree c1)) []) :
    SC cfg.P i_impl_node_grown [.s (.v .tree Tr.leaf), .s (.v (.int .i64) a1), .fn a2F [.v (.sl .tree) a2f] []] (.s (.v .tree c1)) [] :=
  SC_of_run cfgOK (its := [.bool true, .res (.s (.v .tree c1)) [] [] []])
    (ps := [Tr.leaf.isLeaf = true,
      SC cfg.P a2F [.s (.v (.sl .tree) a2f), .s (.v (.int .i64) a1)] (.s (.v .tree c1)) []]) (by kernel_rfl) ⟨rfl, h1, trivial⟩ get_impl_node_grown (by decide)

theorem impl_node_grown_p2 (a0l : Tr) (a0r : Tr) (a1 : Int) (a2F : FuncId) (a2f : (List Tr)) (c1 : Tr) (c2 : Int) (c3 : Tr)
    (h1 : SC cfg.P i_impl_node_grown [.s (.v .tree a0l), .s (.v (.int .i64) a1), .fn a2F [.v (.sl .tree) a2f] []] (.s (.v .tree c1)) [])
    (h2 : SC cfg.P i_impl_node_leaves [.s (.v .tree a0l)] (.s (.v (.int .i64) c2)) [])
    (h3 : SC cfg.P i_impl_node_grown [.s (.v .tree a0r), .s (.v (.int .i64) (IntKind.wrap .i64 (a1 + c2))), .fn a2F [.v (.sl .tree) a2f] []] (.s (.v .tree c3)) []) :
    SC cfg.P i_impl_node_grown [.s (.v .tree (Tr.node a0l a0r)), .s (.v (.int .i64) a1), .fn a2F [.v (.sl .tree) a2f] []] (.s (.v .tree (Tr.node c1 c3))) [] :=
  SC_of_run cfgOK (its := [.bool false, .res (.s (.v .tree c1)) [] [] [], .res (.s (.v (.int .i64) c2)) [] [] [], .res (.s (.v .tree c3)) [] [] []])
    (ps := [(Tr.node a0l a0r).isLeaf = false,
      SC cfg.P i_impl_node_grown [.s (.v .tree a0l), .s (.v (.int .i64) a1), .fn a2F [.v (.sl .tree) a2f] []] (.s (.v .tree c1)) [],
      SC cfg.P i_impl_node_leaves [.s (.v .tree a0l)] (.s (.v (.int .i64) c2)) [],
      SC cfg.P i_impl_node_grown [.s (.v .tree a0r), .s (.v (.int .i64) (IntKind.wrap .i64 (a1 + c2))), .fn a2F [.v (.sl .tree) a2f] []] (.s (.v .tree c3)) []]) (by kernel_rfl) ⟨rfl, h1, h2, h3, trivial⟩ get_impl_node_grown (by decide)

end Go.AI
