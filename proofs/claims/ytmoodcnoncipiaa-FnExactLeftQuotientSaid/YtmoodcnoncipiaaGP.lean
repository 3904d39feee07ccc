/- A part of the road: what it proves stands in its last texts. -/
import Derived.Test.YtmoodcnoncipiaaSIds
import Derived.Test.YtmoodcnoncipiaaProg
set_option autoImplicit false
set_option maxRecDepth 100000
set_option linter.unusedVariables false
namespace Go.AI
open Go.Proofs

/-! ### laws_FnExactCommonForest -/


theorem laws_FnExactCommonForest_p1 (a0 : (List ByteArray)) (a1 : (List ByteArray)) (c1 : Int)
    (h1 : SC cfg.P i_laws_szStringS [.s (.v (.sl .str) a0), .s (.v (.int .i64) (1048576 : Int))] (.s (.v (.int .i64) c1)) [])
    (h2 : c1 < (0 : Int)) :
    SC cfg.P i_laws_FnExactCommonForest [.s (.v (.sl .str) a0), .s (.v (.sl .str) a1)] (.s (.v .bool true)) [] :=
  SC_of_run cfgOK (its := [.res (.s (.v (.int .i64) c1)) [] [] [], .bool true])
    (ps := [SC cfg.P i_laws_szStringS [.s (.v (.sl .str) a0), .s (.v (.int .i64) (1048576 : Int))] (.s (.v (.int .i64) c1)) [],
      decide (c1 < (0 : Int)) = true]) (by kernel_rfl) ⟨h1, (decide_eq_true h2), trivial⟩ get_laws_FnExactCommonForest (by decide)

theorem laws_FnExactCommonForest_p2 (a0 : (List ByteArray)) (a1 : (List ByteArray)) (c1 : Int) (c2 : Int)
    (h1 : SC cfg.P i_laws_szStringS [.s (.v (.sl .str) a0), .s (.v (.int .i64) (1048576 : Int))] (.s (.v (.int .i64) c1)) [])
    (h2 : ¬ (c1 < (0 : Int)))
    (h3 : SC cfg.P i_laws_szStringS [.s (.v (.sl .str) a1), .s (.v (.int .i64) c1)] (.s (.v (.int .i64) c2)) [])
    (h4 : c2 < (0 : Int)) :
    SC cfg.P i_laws_FnExactCommonForest [.s (.v (.sl .str) a0), .s (.v (.sl .str) a1)] (.s (.v .bool true)) [] :=
  SC_of_run cfgOK (its := [.res (.s (.v (.int .i64) c1)) [] [] [], .bool false, .res (.s (.v (.int .i64) c2)) [] [] [], .bool true])
    (ps := [SC cfg.P i_laws_szStringS [.s (.v (.sl .str) a0), .s (.v (.int .i64) (1048576 : Int))] (.s (.v (.int .i64) c1)) [],
      decide (c1 < (0 : Int)) = false,
      SC cfg.P i_laws_szStringS [.s (.v (.sl .str) a1), .s (.v (.int .i64) c1)] (.s (.v (.int .i64) c2)) [],
      decide (c2 < (0 : Int)) = true]) (by kernel_rfl) ⟨h1, (decide_eq_false h2), h3, (decide_eq_true h4), trivial⟩ get_laws_FnExactCommonForest (by decide)

theorem laws_FnExactCommonForest_p3 (a0 : (List ByteArray)) (a1 : (List ByteArray)) (c1 : Int) (c2 : Int) (c3 : (List ByteArray)) (c4 : (List ByteArray)) (c5a : (List ByteArray)) (c5b : Bool) (c6 : (List ByteArray)) (c7 : (List ByteArray)) (c8a : (List ByteArray)) (c8b : Bool) (c10 : (List ByteArray)) (c12 : (List ByteArray)) (c14 : Int) (c14o0 : (List ByteArray)) (c15 : Int) (c15o0 : (List ByteArray)) (c17 : Int) (c17o0 : (List ByteArray)) (c18 : Int) (c19 : (List ByteArray)) (c20 : (List ByteArray)) (c21a : (List ByteArray)) (c21b : Bool) (c23 : Int)
    (h1 : SC cfg.P i_laws_szStringS [.s (.v (.sl .str) a0), .s (.v (.int .i64) (1048576 : Int))] (.s (.v (.int .i64) c1)) [])
    (h2 : ¬ (c1 < (0 : Int)))
    (h3 : SC cfg.P i_laws_szStringS [.s (.v (.sl .str) a1), .s (.v (.int .i64) c1)] (.s (.v (.int .i64) c2)) [])
    (h4 : ¬ (c2 < (0 : Int)))
    (h5 : SC cfg.P i_laws_toStringS [.s (.v (.sl .str) a0)] (.s (.own t_string .str c3)) [])
    (h6 : SC cfg.P i_laws_toStringS [.s (.v (.sl .str) a1)] (.s (.own t_string .str c4)) [])
    (h7 : SC cfg.P i_spec_CommonForest [.s (.v (.sl .str) c3), .s (.v (.sl .str) c4)] (.tup [.own t_string .str c5a, .v .bool c5b]) [])
    (h8 : SC cfg.P i_laws_toStringS [.s (.v (.sl .str) a0)] (.s (.own t_string .str c6)) [])
    (h9 : SC cfg.P i_laws_toStringS [.s (.v (.sl .str) a1)] (.s (.own t_string .str c7)) [])
    (h10 : SC cfg.P i_impl_CommonForest [.s (.v (.sl .str) c6), .s (.v (.sl .str) c7)] (.tup [.own t_string .str c8a, .v .bool c8b]) [])
    (h11 : SC cfg.P i_laws_eqStringS [.s (.v (.sl .str) c8a), .s (.v (.sl .str) c5a)] (.s (.v .bool true)) [])
    (h12 : (!(c8b == c5b)) = false)
    (h13 : SC cfg.P i_laws_toStringS [.s (.v (.sl .str) a0)] (.s (.own t_string .str c10)) [])
    (h14 : SC cfg.P i_laws_eqStringS [.s (.v (.sl .str) c6), .s (.v (.sl .str) c10)] (.s (.v .bool true)) [])
    (h15 : SC cfg.P i_laws_toStringS [.s (.v (.sl .str) a1)] (.s (.own t_string .str c12)) [])
    (h16 : SC cfg.P i_laws_eqStringS [.s (.v (.sl .str) c7), .s (.v (.sl .str) c12)] (.s (.v .bool true)) [])
    (h17 : SC cfg.P i_laws_markStringS [.s (.msl t_string .str c6), .s (.v (.int .i64) (1 : Int))] (.s (.v (.int .i64) c14)) [.row t_string .str c14o0])
    (h18 : SC cfg.P i_laws_markStringS [.s (.msl t_string .str c7), .s (.v (.int .i64) c14)] (.s (.v (.int .i64) c15)) [.row t_string .str c15o0])
    (h19 : ¬ (c15 < (0 : Int)))
    (h20 : SC cfg.P i_laws_markStringS [.s (.msl t_string .str c8a), .s (.v (.int .i64) (1 : Int))] (.s (.v (.int .i64) c17)) [.row t_string .str c17o0])
    (h21 : SC cfg.P i_laws_heldStringS [.s (.v (.sl .str) c17o0), .s (.v (.int .i64) (1 : Int))] (.s (.v (.int .i64) c18)) [])
    (h22 : ¬ (c18 < (0 : Int)))
    (h23 : c18 = c17)
    (h24 : SC cfg.P i_laws_toStringS [.s (.v (.sl .str) a0)] (.s (.own t_string .str c19)) [])
    (h25 : SC cfg.P i_laws_toStringS [.s (.v (.sl .str) a1)] (.s (.own t_string .str c20)) [])
    (h26 : SC cfg.P i_impl_CommonForest [.s (.v (.sl .str) c19), .s (.v (.sl .str) c20)] (.tup [.own t_string .str c21a, .v .bool c21b]) [])
    (h27 : SC cfg.P i_laws_eqStringS [.s (.v (.sl .str) c21a), .s (.v (.sl .str) c5a)] (.s (.v .bool true)) [])
    (h28 : (!(c21b == c5b)) = false)
    (h29 : SC cfg.P i_laws_heldStringS [.s (.v (.sl .str) c17o0), .s (.v (.int .i64) (1 : Int))] (.s (.v (.int .i64) c23)) [])
    (h30 : ¬ (c23 < (0 : Int)))
    (h31 : c23 = c17) :
    SC cfg.P i_laws_FnExactCommonForest [.s (.v (.sl .str) a0), .s (.v (.sl .str) a1)] (.s (.v .bool true)) [] :=
  SC_of_run cfgOK (its := [.res (.s (.v (.int .i64) c1)) [] [] [], .bool false, .res (.s (.v (.int .i64) c2)) [] [] [], .bool false, .res (.s (.own t_string .str c3)) [] [] [29], .res (.s (.own t_string .str c4)) [] [] [31], .res (.tup [.own t_string .str c5a, .v .bool c5b]) [] [] [32], .res (.s (.own t_string .str c6)) [] [] [36], .res (.s (.own t_string .str c7)) [] [] [38], .res (.tup [.own t_string .str c8a, .v .bool c8b]) [] [] [42], .res (.s (.v .bool true)) [] [] [], .bool false, .res (.s (.own t_string .str c10)) [] [] [56], .res (.s (.v .bool true)) [] [] [], .res (.s (.own t_string .str c12)) [] [] [61], .res (.s (.v .bool true)) [] [] [], .res (.s (.v (.int .i64) c14)) [.row t_string .str c14o0] [0] [], .res (.s (.v (.int .i64) c15)) [.row t_string .str c15o0] [0] [], .bool false, .res (.s (.v .bool true)) [] [] [], .bool false, .res (.s (.v (.int .i64) c17)) [.row t_string .str c17o0] [0] [], .res (.s (.v (.int .i64) c18)) [] [] [], .bool false, .bool false, .res (.s (.own t_string .str c19)) [] [] [96], .res (.s (.own t_string .str c20)) [] [] [98], .res (.tup [.own t_string .str c21a, .v .bool c21b]) [] [] [99], .res (.s (.v .bool true)) [] [] [], .bool false, .res (.s (.v (.int .i64) c23)) [] [] [], .bool false, .bool false])
    (ps := [SC cfg.P i_laws_szStringS [.s (.v (.sl .str) a0), .s (.v (.int .i64) (1048576 : Int))] (.s (.v (.int .i64) c1)) [],
      decide (c1 < (0 : Int)) = false,
      SC cfg.P i_laws_szStringS [.s (.v (.sl .str) a1), .s (.v (.int .i64) c1)] (.s (.v (.int .i64) c2)) [],
      decide (c2 < (0 : Int)) = false,
      SC cfg.P i_laws_toStringS [.s (.v (.sl .str) a0)] (.s (.own t_string .str c3)) [],
      SC cfg.P i_laws_toStringS [.s (.v (.sl .str) a1)] (.s (.own t_string .str c4)) [],
      SC cfg.P i_spec_CommonForest [.s (.v (.sl .str) c3), .s (.v (.sl .str) c4)] (.tup [.own t_string .str c5a, .v .bool c5b]) [],
      SC cfg.P i_laws_toStringS [.s (.v (.sl .str) a0)] (.s (.own t_string .str c6)) [],
      SC cfg.P i_laws_toStringS [.s (.v (.sl .str) a1)] (.s (.own t_string .str c7)) [],
      SC cfg.P i_impl_CommonForest [.s (.v (.sl .str) c6), .s (.v (.sl .str) c7)] (.tup [.own t_string .str c8a, .v .bool c8b]) [],
      SC cfg.P i_laws_eqStringS [.s (.v (.sl .str) c8a), .s (.v (.sl .str) c5a)] (.s (.v .bool true)) [],
      (!(c8b == c5b)) = false,
      SC cfg.P i_laws_toStringS [.s (.v (.sl .str) a0)] (.s (.own t_string .str c10)) [],
      SC cfg.P i_laws_eqStringS [.s (.v (.sl .str) c6), .s (.v (.sl .str) c10)] (.s (.v .bool true)) [],
      SC cfg.P i_laws_toStringS [.s (.v (.sl .str) a1)] (.s (.own t_string .str c12)) [],
      SC cfg.P i_laws_eqStringS [.s (.v (.sl .str) c7), .s (.v (.sl .str) c12)] (.s (.v .bool true)) [],
      SC cfg.P i_laws_markStringS [.s (.msl t_string .str c6), .s (.v (.int .i64) (1 : Int))] (.s (.v (.int .i64) c14)) [.row t_string .str c14o0],
      SC cfg.P i_laws_markStringS [.s (.msl t_string .str c7), .s (.v (.int .i64) c14)] (.s (.v (.int .i64) c15)) [.row t_string .str c15o0],
      decide (c15 < (0 : Int)) = false,
      SC cfg.P i_laws_eqStringS [.s (.v (.sl .str) c8a), .s (.v (.sl .str) c5a)] (.s (.v .bool true)) [],
      (!(c8b == c5b)) = false,
      SC cfg.P i_laws_markStringS [.s (.msl t_string .str c8a), .s (.v (.int .i64) (1 : Int))] (.s (.v (.int .i64) c17)) [.row t_string .str c17o0],
      SC cfg.P i_laws_heldStringS [.s (.v (.sl .str) c17o0), .s (.v (.int .i64) (1 : Int))] (.s (.v (.int .i64) c18)) [],
      decide (c18 < (0 : Int)) = false,
      (c18 != c17) = false,
      SC cfg.P i_laws_toStringS [.s (.v (.sl .str) a0)] (.s (.own t_string .str c19)) [],
      SC cfg.P i_laws_toStringS [.s (.v (.sl .str) a1)] (.s (.own t_string .str c20)) [],
      SC cfg.P i_impl_CommonForest [.s (.v (.sl .str) c19), .s (.v (.sl .str) c20)] (.tup [.own t_string .str c21a, .v .bool c21b]) [],
      SC cfg.P i_laws_eqStringS [.s (.v (.sl .str) c21a), .s (.v (.sl .str) c5a)] (.s (.v .bool true)) [],
      (!(c21b == c5b)) = false,
      SC cfg.P i_laws_heldStringS [.s (.v (.sl .str) c17o0), .s (.v (.int .i64) (1 : Int))] (.s (.v (.int .i64) c23)) [],
      decide (c23 < (0 : Int)) = false,
      (c23 != c17) = false]) (by kernel_rfl) ⟨h1, (decide_eq_false h2), h3, (decide_eq_false h4), h5, h6, h7, h8, h9, h10, h11, h12, h13, h14, h15, h16, h17, h18, (decide_eq_false h19), h11, h12, h20, h21, (decide_eq_false h22), (bne_f h23), h24, h25, h26, h27, h28, h29, (decide_eq_false h30), (bne_f h31), trivial⟩ get_laws_FnExactCommonForest (by decide)

/-! ### laws_FnExactJoinForests -/


theorem laws_FnExactJoinForests_p1 (a0 : (List ByteArray)) (a1 : (List ByteArray)) (c1 : Int)
    (h1 : SC cfg.P i_laws_szStringS [.s (.v (.sl .str) a0), .s (.v (.int .i64) (1048576 : Int))] (.s (.v (.int .i64) c1)) [])
    (h2 : c1 < (0 : Int)) :
    SC cfg.P i_laws_FnExactJoinForests [.s (.v (.sl .str) a0), .s (.v (.sl .str) a1)] (.s (.v .bool true)) [] :=
  SC_of_run cfgOK (its := [.res (.s (.v (.int .i64) c1)) [] [] [], .bool true])
    (ps := [SC cfg.P i_laws_szStringS [.s (.v (.sl .str) a0), .s (.v (.int .i64) (1048576 : Int))] (.s (.v (.int .i64) c1)) [],
      decide (c1 < (0 : Int)) = true]) (by kernel_rfl) ⟨h1, (decide_eq_true h2), trivial⟩ get_laws_FnExactJoinForests (by decide)

theorem laws_FnExactJoinForests_p2 (a0 : (List ByteArray)) (a1 : (List ByteArray)) (c1 : Int) (c2 : Int)
    (h1 : SC cfg.P i_laws_szStringS [.s (.v (.sl .str) a0), .s (.v (.int .i64) (1048576 : Int))] (.s (.v (.int .i64) c1)) [])
    (h2 : ¬ (c1 < (0 : Int)))
    (h3 : SC cfg.P i_laws_szStringS [.s (.v (.sl .str) a1), .s (.v (.int .i64) c1)] (.s (.v (.int .i64) c2)) [])
    (h4 : c2 < (0 : Int)) :
    SC cfg.P i_laws_FnExactJoinForests [.s (.v (.sl .str) a0), .s (.v (.sl .str) a1)] (.s (.v .bool true)) [] :=
  SC_of_run cfgOK (its := [.res (.s (.v (.int .i64) c1)) [] [] [], .bool false, .res (.s (.v (.int .i64) c2)) [] [] [], .bool true])
    (ps := [SC cfg.P i_laws_szStringS [.s (.v (.sl .str) a0), .s (.v (.int .i64) (1048576 : Int))] (.s (.v (.int .i64) c1)) [],
      decide (c1 < (0 : Int)) = false,
      SC cfg.P i_laws_szStringS [.s (.v (.sl .str) a1), .s (.v (.int .i64) c1)] (.s (.v (.int .i64) c2)) [],
      decide (c2 < (0 : Int)) = true]) (by kernel_rfl) ⟨h1, (decide_eq_false h2), h3, (decide_eq_true h4), trivial⟩ get_laws_FnExactJoinForests (by decide)

theorem laws_FnExactJoinForests_p3 (a0 : (List ByteArray)) (a1 : (List ByteArray)) (c1 : Int) (c2 : Int) (c3 : (List ByteArray)) (c4 : (List ByteArray)) (c5a : (List ByteArray)) (c5b : Bool) (c6 : (List ByteArray)) (c7 : (List ByteArray)) (c8a : (List ByteArray)) (c8b : Bool) (c10 : (List ByteArray)) (c12 : (List ByteArray)) (c14 : Int) (c14o0 : (List ByteArray)) (c15 : Int) (c15o0 : (List ByteArray)) (c17 : Int) (c17o0 : (List ByteArray)) (c18 : Int) (c19 : (List ByteArray)) (c20 : (List ByteArray)) (c21a : (List ByteArray)) (c21b : Bool) (c23 : Int)
    (h1 : SC cfg.P i_laws_szStringS [.s (.v (.sl .str) a0), .s (.v (.int .i64) (1048576 : Int))] (.s (.v (.int .i64) c1)) [])
    (h2 : ¬ (c1 < (0 : Int)))
    (h3 : SC cfg.P i_laws_szStringS [.s (.v (.sl .str) a1), .s (.v (.int .i64) c1)] (.s (.v (.int .i64) c2)) [])
    (h4 : ¬ (c2 < (0 : Int)))
    (h5 : SC cfg.P i_laws_toStringS [.s (.v (.sl .str) a0)] (.s (.own t_string .str c3)) [])
    (h6 : SC cfg.P i_laws_toStringS [.s (.v (.sl .str) a1)] (.s (.own t_string .str c4)) [])
    (h7 : SC cfg.P i_spec_JoinForests [.s (.v (.sl .str) c3), .s (.v (.sl .str) c4)] (.tup [.own t_string .str c5a, .v .bool c5b]) [])
    (h8 : SC cfg.P i_laws_toStringS [.s (.v (.sl .str) a0)] (.s (.own t_string .str c6)) [])
    (h9 : SC cfg.P i_laws_toStringS [.s (.v (.sl .str) a1)] (.s (.own t_string .str c7)) [])
    (h10 : SC cfg.P i_impl_JoinForests [.s (.v (.sl .str) c6), .s (.v (.sl .str) c7)] (.tup [.own t_string .str c8a, .v .bool c8b]) [])
    (h11 : SC cfg.P i_laws_eqStringS [.s (.v (.sl .str) c8a), .s (.v (.sl .str) c5a)] (.s (.v .bool true)) [])
    (h12 : (!(c8b == c5b)) = false)
    (h13 : SC cfg.P i_laws_toStringS [.s (.v (.sl .str) a0)] (.s (.own t_string .str c10)) [])
    (h14 : SC cfg.P i_laws_eqStringS [.s (.v (.sl .str) c6), .s (.v (.sl .str) c10)] (.s (.v .bool true)) [])
    (h15 : SC cfg.P i_laws_toStringS [.s (.v (.sl .str) a1)] (.s (.own t_string .str c12)) [])
    (h16 : SC cfg.P i_laws_eqStringS [.s (.v (.sl .str) c7), .s (.v (.sl .str) c12)] (.s (.v .bool true)) [])
    (h17 : SC cfg.P i_laws_markStringS [.s (.msl t_string .str c6), .s (.v (.int .i64) (1 : Int))] (.s (.v (.int .i64) c14)) [.row t_string .str c14o0])
    (h18 : SC cfg.P i_laws_markStringS [.s (.msl t_string .str c7), .s (.v (.int .i64) c14)] (.s (.v (.int .i64) c15)) [.row t_string .str c15o0])
    (h19 : ¬ (c15 < (0 : Int)))
    (h20 : SC cfg.P i_laws_markStringS [.s (.msl t_string .str c8a), .s (.v (.int .i64) (1 : Int))] (.s (.v (.int .i64) c17)) [.row t_string .str c17o0])
    (h21 : SC cfg.P i_laws_heldStringS [.s (.v (.sl .str) c17o0), .s (.v (.int .i64) (1 : Int))] (.s (.v (.int .i64) c18)) [])
    (h22 : ¬ (c18 < (0 : Int)))
    (h23 : c18 = c17)
    (h24 : SC cfg.P i_laws_toStringS [.s (.v (.sl .str) a0)] (.s (.own t_string .str c19)) [])
    (h25 : SC cfg.P i_laws_toStringS [.s (.v (.sl .str) a1)] (.s (.own t_string .str c20)) [])
    (h26 : SC cfg.P i_impl_JoinForests [.s (.v (.sl .str) c19), .s (.v (.sl .str) c20)] (.tup [.own t_string .str c21a, .v .bool c21b]) [])
    (h27 : SC cfg.P i_laws_eqStringS [.s (.v (.sl .str) c21a), .s (.v (.sl .str) c5a)] (.s (.v .bool true)) [])
    (h28 : (!(c21b == c5b)) = false)
    (h29 : SC cfg.P i_laws_heldStringS [.s (.v (.sl .str) c17o0), .s (.v (.int .i64) (1 : Int))] (.s (.v (.int .i64) c23)) [])
    (h30 : ¬ (c23 < (0 : Int)))
    (h31 : c23 = c17) :
    SC cfg.P i_laws_FnExactJoinForests [.s (.v (.sl .str) a0), .s (.v (.sl .str) a1)] (.s (.v .bool true)) [] :=
  SC_of_run cfgOK (its := [.res (.s (.v (.int .i64) c1)) [] [] [], .bool false, .res (.s (.v (.int .i64) c2)) [] [] [], .bool false, .res (.s (.own t_string .str c3)) [] [] [29], .res (.s (.own t_string .str c4)) [] [] [31], .res (.tup [.own t_string .str c5a, .v .bool c5b]) [] [] [32], .res (.s (.own t_string .str c6)) [] [] [36], .res (.s (.own t_string .str c7)) [] [] [38], .res (.tup [.own t_string .str c8a, .v .bool c8b]) [] [] [42], .res (.s (.v .bool true)) [] [] [], .bool false, .res (.s (.own t_string .str c10)) [] [] [56], .res (.s (.v .bool true)) [] [] [], .res (.s (.own t_string .str c12)) [] [] [61], .res (.s (.v .bool true)) [] [] [], .res (.s (.v (.int .i64) c14)) [.row t_string .str c14o0] [0] [], .res (.s (.v (.int .i64) c15)) [.row t_string .str c15o0] [0] [], .bool false, .res (.s (.v .bool true)) [] [] [], .bool false, .res (.s (.v (.int .i64) c17)) [.row t_string .str c17o0] [0] [], .res (.s (.v (.int .i64) c18)) [] [] [], .bool false, .bool false, .res (.s (.own t_string .str c19)) [] [] [96], .res (.s (.own t_string .str c20)) [] [] [98], .res (.tup [.own t_string .str c21a, .v .bool c21b]) [] [] [99], .res (.s (.v .bool true)) [] [] [], .bool false, .res (.s (.v (.int .i64) c23)) [] [] [], .bool false, .bool false])
    (ps := [SC cfg.P i_laws_szStringS [.s (.v (.sl .str) a0), .s (.v (.int .i64) (1048576 : Int))] (.s (.v (.int .i64) c1)) [],
      decide (c1 < (0 : Int)) = false,
      SC cfg.P i_laws_szStringS [.s (.v (.sl .str) a1), .s (.v (.int .i64) c1)] (.s (.v (.int .i64) c2)) [],
      decide (c2 < (0 : Int)) = false,
      SC cfg.P i_laws_toStringS [.s (.v (.sl .str) a0)] (.s (.own t_string .str c3)) [],
      SC cfg.P i_laws_toStringS [.s (.v (.sl .str) a1)] (.s (.own t_string .str c4)) [],
      SC cfg.P i_spec_JoinForests [.s (.v (.sl .str) c3), .s (.v (.sl .str) c4)] (.tup [.own t_string .str c5a, .v .bool c5b]) [],
      SC cfg.P i_laws_toStringS [.s (.v (.sl .str) a0)] (.s (.own t_string .str c6)) [],
      SC cfg.P i_laws_toStringS [.s (.v (.sl .str) a1)] (.s (.own t_string .str c7)) [],
      SC cfg.P i_impl_JoinForests [.s (.v (.sl .str) c6), .s (.v (.sl .str) c7)] (.tup [.own t_string .str c8a, .v .bool c8b]) [],
      SC cfg.P i_laws_eqStringS [.s (.v (.sl .str) c8a), .s (.v (.sl .str) c5a)] (.s (.v .bool true)) [],
      (!(c8b == c5b)) = false,
      SC cfg.P i_laws_toStringS [.s (.v (.sl .str) a0)] (.s (.own t_string .str c10)) [],
      SC cfg.P i_laws_eqStringS [.s (.v (.sl .str) c6), .s (.v (.sl .str) c10)] (.s (.v .bool true)) [],
      SC cfg.P i_laws_toStringS [.s (.v (.sl .str) a1)] (.s (.own t_string .str c12)) [],
      SC cfg.P i_laws_eqStringS [.s (.v (.sl .str) c7), .s (.v (.sl .str) c12)] (.s (.v .bool true)) [],
      SC cfg.P i_laws_markStringS [.s (.msl t_string .str c6), .s (.v (.int .i64) (1 : Int))] (.s (.v (.int .i64) c14)) [.row t_string .str c14o0],
      SC cfg.P i_laws_markStringS [.s (.msl t_string .str c7), .s (.v (.int .i64) c14)] (.s (.v (.int .i64) c15)) [.row t_string .str c15o0],
      decide (c15 < (0 : Int)) = false,
      SC cfg.P i_laws_eqStringS [.s (.v (.sl .str) c8a), .s (.v (.sl .str) c5a)] (.s (.v .bool true)) [],
      (!(c8b == c5b)) = false,
      SC cfg.P i_laws_markStringS [.s (.msl t_string .str c8a), .s (.v (.int .i64) (1 : Int))] (.s (.v (.int .i64) c17)) [.row t_string .str c17o0],
      SC cfg.P i_laws_heldStringS [.s (.v (.sl .str) c17o0), .s (.v (.int .i64) (1 : Int))] (.s (.v (.int .i64) c18)) [],
      decide (c18 < (0 : Int)) = false,
      (c18 != c17) = false,
      SC cfg.P i_laws_toStringS [.s (.v (.sl .str) a0)] (.s (.own t_string .str c19)) [],
      SC cfg.P i_laws_toStringS [.s (.v (.sl .str) a1)] (.s (.own t_string .str c20)) [],
      SC cfg.P i_impl_JoinForests [.s (.v (.sl .str) c19), .s (.v (.sl .str) c20)] (.tup [.own t_string .str c21a, .v .bool c21b]) [],
      SC cfg.P i_laws_eqStringS [.s (.v (.sl .str) c21a), .s (.v (.sl .str) c5a)] (.s (.v .bool true)) [],
      (!(c21b == c5b)) = false,
      SC cfg.P i_laws_heldStringS [.s (.v (.sl .str) c17o0), .s (.v (.int .i64) (1 : Int))] (.s (.v (.int .i64) c23)) [],
      decide (c23 < (0 : Int)) = false,
      (c23 != c17) = false]) (by kernel_rfl) ⟨h1, (decide_eq_false h2), h3, (decide_eq_false h4), h5, h6, h7, h8, h9, h10, h11, h12, h13, h14, h15, h16, h17, h18, (decide_eq_false h19), h11, h12, h20, h21, (decide_eq_false h22), (bne_f h23), h24, h25, h26, h27, h28, h29, (decide_eq_false h30), (bne_f h31), trivial⟩ get_laws_FnExactJoinForests (by decide)

/-! ### spec_CommonForest -/


def spec_CommonForest_L0a (x0 : (List ByteArray)) (x1 : (List ByteArray)) (x7 : Int) (xo6 : (List ByteArray)) : St := mkSt 42 [(0, .s (.v (.sl .str) x0)), (1, .s (.v (.sl .str) x1)), (6, .s (.osl 6 0)), (7, .s (.v (.int .i64) x7))] [(6, .row t_string .str xo6 0 false)]

def spec_CommonForest_L0X1 (y0 : (List ByteArray)) (y1 : (List ByteArray)) (y7 : Int) (y25 : Bool) (yo6 : (List ByteArray)) : St := mkSt 42 [(0, .s (.v (.sl .str) y0)), (1, .s (.v (.sl .str) y1)), (6, .s (.osl 6 0)), (7, .s (.v (.int .i64) y7)), (25, .s (.v .bool y25))] [(6, .row t_string .str yo6 0 false)]

theorem spec_CommonForest_L0a_i1 (x0 : (List ByteArray)) (x1 : (List ByteArray)) (x7 : Int) (xo6 : (List ByteArray)) (dc1 : ByteArray) (dc2 : ByteArray) (dc3 : ByteArray)
    (h1 : x7 < ((List.length x0 : Nat) : Int))
    (h2 : SC cfg.P i_spec_foTree [.s (.v (.sl .str) x0), .s (.v (.int .i64) x7)] (.s (.v .str dc1)) [])
    (h3 : SC cfg.P i_spec_foTree [.s (.v (.sl .str) x1), .s (.v (.int .i64) x7)] (.s (.v .str dc2)) [])
    (h4 : SC cfg.P i_spec_trCommon [.s (.v .str dc1), .s (.v .str dc2)] (.s (.v .str dc3)) [])
    (h5 : sizeOK (List.length xo6 + List.length ([dc3] : List ByteArray)))
    {e : AEx} {st : St} (next : LoopSC cfg.P 2 (lb P_spec_CommonForest 0) (spec_CommonForest_L0a x0 x1 (IntKind.wrap .i64 (x7 + (1 : Int))) (xo6 ++ ([dc3] : List ByteArray))) e st) :
    LoopSC cfg.P 2 (lb P_spec_CommonForest 0) (spec_CommonForest_L0a x0 x1 x7 xo6) e st :=
  loop_iter cfgOK (f := i_spec_CommonForest) (its := [.bool true, .res (.s (.v .str dc1)) [] [] [], .res (.s (.v .str dc2)) [] [] [], .res (.s (.v .str dc3)) [] [] []])
    (ps := [decide (x7 < ((List.length x0 : Nat) : Int)) = true,
      SC cfg.P i_spec_foTree [.s (.v (.sl .str) x0), .s (.v (.int .i64) x7)] (.s (.v .str dc1)) [],
      SC cfg.P i_spec_foTree [.s (.v (.sl .str) x1), .s (.v (.int .i64) x7)] (.s (.v .str dc2)) [],
      SC cfg.P i_spec_trCommon [.s (.v .str dc1), .s (.v .str dc2)] (.s (.v .str dc3)) [],
      sizeOK (List.length xo6 + List.length ([dc3] : List ByteArray))]) (st1 := spec_CommonForest_L0a x0 x1 (IntKind.wrap .i64 (x7 + (1 : Int))) (xo6 ++ ([dc3] : List ByteArray))) (by kernel_rfl) ⟨(decide_eq_true h1), h2, h3, h4, h5, trivial⟩ next

theorem spec_CommonForest_L0a_i2 (x0 : (List ByteArray)) (x1 : (List ByteArray)) (x7 : Int) (xo6 : (List ByteArray)) (dc1 : ByteArray) (dc2 : ByteArray) (dc3 : ByteArray)
    (h1 : ¬ (x7 < ((List.length x0 : Nat) : Int)))
    (h2 : x7 < ((List.length x1 : Nat) : Int))
    (h3 : SC cfg.P i_spec_foTree [.s (.v (.sl .str) x0), .s (.v (.int .i64) x7)] (.s (.v .str dc1)) [])
    (h4 : SC cfg.P i_spec_foTree [.s (.v (.sl .str) x1), .s (.v (.int .i64) x7)] (.s (.v .str dc2)) [])
    (h5 : SC cfg.P i_spec_trCommon [.s (.v .str dc1), .s (.v .str dc2)] (.s (.v .str dc3)) [])
    (h6 : sizeOK (List.length xo6 + List.length ([dc3] : List ByteArray)))
    {e : AEx} {st : St} (next : LoopSC cfg.P 2 (lb P_spec_CommonForest 0) (spec_CommonForest_L0a x0 x1 (IntKind.wrap .i64 (x7 + (1 : Int))) (xo6 ++ ([dc3] : List ByteArray))) e st) :
    LoopSC cfg.P 2 (lb P_spec_CommonForest 0) (spec_CommonForest_L0a x0 x1 x7 xo6) e st :=
  loop_iter cfgOK (f := i_spec_CommonForest) (its := [.bool false, .bool true, .res (.s (.v .str dc1)) [] [] [], .res (.s (.v .str dc2)) [] [] [], .res (.s (.v .str dc3)) [] [] []])
    (ps := [decide (x7 < ((List.length x0 : Nat) : Int)) = false,
      decide (x7 < ((List.length x1 : Nat) : Int)) = true,
      SC cfg.P i_spec_foTree [.s (.v (.sl .str) x0), .s (.v (.int .i64) x7)] (.s (.v .str dc1)) [],
      SC cfg.P i_spec_foTree [.s (.v (.sl .str) x1), .s (.v (.int .i64) x7)] (.s (.v .str dc2)) [],
      SC cfg.P i_spec_trCommon [.s (.v .str dc1), .s (.v .str dc2)] (.s (.v .str dc3)) [],
      sizeOK (List.length xo6 + List.length ([dc3] : List ByteArray))]) (st1 := spec_CommonForest_L0a x0 x1 (IntKind.wrap .i64 (x7 + (1 : Int))) (xo6 ++ ([dc3] : List ByteArray))) (by kernel_rfl) ⟨(decide_eq_false h1), (decide_eq_true h2), h3, h4, h5, h6, trivial⟩ next

theorem spec_CommonForest_L0a_x3 (x0 : (List ByteArray)) (x1 : (List ByteArray)) (x7 : Int) (xo6 : (List ByteArray))
    (h1 : ¬ (x7 < ((List.length x0 : Nat) : Int)))
    (h2 : ¬ (x7 < ((List.length x1 : Nat) : Int))) :
    LoopSC cfg.P 2 (lb P_spec_CommonForest 0) (spec_CommonForest_L0a x0 x1 x7 xo6) (.exit 0) (spec_CommonForest_L0X1 x0 x1 x7 false xo6) :=
  loop_out cfgOK (f := i_spec_CommonForest) (its := [.bool false, .bool false])
    (ps := [decide (x7 < ((List.length x0 : Nat) : Int)) = false,
      decide (x7 < ((List.length x1 : Nat) : Int)) = false]) (by kernel_rfl) ⟨(decide_eq_false h1), (decide_eq_false h2), trivial⟩ (fun h => by cases h)

theorem spec_CommonForest_p1 (a0 : (List ByteArray)) (a1 : (List ByteArray)) (k1y0 : (List ByteArray)) (k1y1 : (List ByteArray)) (k1y7 : Int) (k1y25 : Bool) (k1yo6 : (List ByteArray)) (c3a : (List ByteArray)) (c3b : Bool)
    (h1 : SC cfg.P i_spec_foGood [.s (.v (.sl .str) a0)] (.s (.v .bool true)) [])
    (h2 : SC cfg.P i_spec_foGood [.s (.v (.sl .str) a1)] (.s (.v .bool true)) [])
    (h3 : LoopSC cfg.P 2 (lb P_spec_CommonForest 0) (spec_CommonForest_L0a a0 a1 (0 : Int) ([] : List ByteArray)) (.exit 0) (spec_CommonForest_L0X1 k1y0 k1y1 k1y7 k1y25 k1yo6))
    (h4 : SC cfg.P i_spec_foIf [.s (.v (.sl .str) k1yo6)] (.tup [.own t_string .str c3a, .v .bool c3b]) []) :
    SC cfg.P i_spec_CommonForest [.s (.v (.sl .str) a0), .s (.v (.sl .str) a1)] (.tup [.own t_string .str c3a, .v .bool c3b]) [] :=
  SC_of_run cfgOK (its := [.res (.s (.v .bool true)) [] [] [], .res (.s (.v .bool true)) [] [] [], .loop (fun _ => (.exit 0, spec_CommonForest_L0X1 k1y0 k1y1 k1y7 k1y25 k1yo6)), .res (.tup [.own t_string .str c3a, .v .bool c3b]) [] [] [40]])
    (ps := [SC cfg.P i_spec_foGood [.s (.v (.sl .str) a0)] (.s (.v .bool true)) [],
      SC cfg.P i_spec_foGood [.s (.v (.sl .str) a1)] (.s (.v .bool true)) [],
      LoopSC cfg.P 2 (lb P_spec_CommonForest 0) (spec_CommonForest_L0a a0 a1 (0 : Int) ([] : List ByteArray)) (.exit 0) (spec_CommonForest_L0X1 k1y0 k1y1 k1y7 k1y25 k1yo6),
      SC cfg.P i_spec_foIf [.s (.v (.sl .str) k1yo6)] (.tup [.own t_string .str c3a, .v .bool c3b]) []]) (by kernel_rfl) ⟨h1, h2, h3, h4, trivial⟩ get_spec_CommonForest (by decide)

theorem spec_CommonForest_p2 (a0 : (List ByteArray)) (a1 : (List ByteArray))
    (h1 : SC cfg.P i_spec_foGood [.s (.v (.sl .str) a0)] (.s (.v .bool true)) [])
    (h2 : SC cfg.P i_spec_foGood [.s (.v (.sl .str) a1)] (.s (.v .bool false)) []) :
    SC cfg.P i_spec_CommonForest [.s (.v (.sl .str) a0), .s (.v (.sl .str) a1)] (.tup [.own t_string .str ([] : List ByteArray), .v .bool false]) [] :=
  SC_of_run cfgOK (its := [.res (.s (.v .bool true)) [] [] [], .res (.s (.v .bool false)) [] [] []])
    (ps := [SC cfg.P i_spec_foGood [.s (.v (.sl .str) a0)] (.s (.v .bool true)) [],
      SC cfg.P i_spec_foGood [.s (.v (.sl .str) a1)] (.s (.v .bool false)) []]) (by kernel_rfl) ⟨h1, h2, trivial⟩ get_spec_CommonForest (by decide)

theorem spec_CommonForest_p3 (a0 : (List ByteArray)) (a1 : (List ByteArray))
    (h1 : SC cfg.P i_spec_foGood [.s (.v (.sl .str) a0)] (.s (.v .bool false)) []) :
    SC cfg.P i_spec_CommonForest [.s (.v (.sl .str) a0), .s (.v (.sl .str) a1)] (.tup [.own t_string .str ([] : List ByteArray), .v .bool false]) [] :=
  SC_of_run cfgOK (its := [.res (.s (.v .bool false)) [] [] []])
    (ps := [SC cfg.P i_spec_foGood [.s (.v (.sl .str) a0)] (.s (.v .bool false)) []]) (by kernel_rfl) ⟨h1, trivial⟩ get_spec_CommonForest (by decide)

/-! ### impl_CommonForest -/


theorem impl_CommonForest_p1 (a0 : (List ByteArray)) (a1 : (List ByteArray)) (c1a : (List Tr)) (c1b : (List Tr)) (c2 : (List Tr)) (c3a : (List ByteArray)) (c3b : Bool)
    (h1 : SC cfg.P i_impl_twoForests [.s (.v (.sl .str) a0), .s (.v (.sl .str) a1)] (.tup [.v (.sl .tree) c1a, .v (.sl .tree) c1b, .v .bool true]) [])
    (h2 : SC cfg.P i_impl_each [.s (.v (.sl .tree) c1a), .s (.v (.sl .tree) c1b), .fn i_impl_common [] []] (.s (.own t_pimpl_node .tree c2)) [])
    (h3 : SC cfg.P i_impl_forest_texts [.s (.v (.sl .tree) c2)] (.tup [.own t_string .str c3a, .v .bool c3b]) []) :
    SC cfg.P i_impl_CommonForest [.s (.v (.sl .str) a0), .s (.v (.sl .str) a1)] (.tup [.own t_string .str c3a, .v .bool c3b]) [] :=
  SC_of_run cfgOK (its := [.res (.tup [.v (.sl .tree) c1a, .v (.sl .tree) c1b, .v .bool true]) [] [] [], .res (.s (.own t_pimpl_node .tree c2)) [] [] [20], .res (.tup [.own t_string .str c3a, .v .bool c3b]) [] [] [22]])
    (ps := [SC cfg.P i_impl_twoForests [.s (.v (.sl .str) a0), .s (.v (.sl .str) a1)] (.tup [.v (.sl .tree) c1a, .v (.sl .tree) c1b, .v .bool true]) [],
      SC cfg.P i_impl_each [.s (.v (.sl .tree) c1a), .s (.v (.sl .tree) c1b), .fn i_impl_common [] []] (.s (.own t_pimpl_node .tree c2)) [],
      SC cfg.P i_impl_forest_texts [.s (.v (.sl .tree) c2)] (.tup [.own t_string .str c3a, .v .bool c3b]) []]) (by kernel_rfl) ⟨h1, h2, h3, trivial⟩ get_impl_CommonForest (by decide)

theorem impl_CommonForest_p2 (a0 : (List ByteArray)) (a1 : (List ByteArray)) (c1a : (List Tr)) (c1b : (List Tr))
    (h1 : SC cfg.P i_impl_twoForests [.s (.v (.sl .str) a0), .s (.v (.sl .str) a1)] (.tup [.v (.sl .tree) c1a, .v (.sl .tree) c1b, .v .bool false]) []) :
    SC cfg.P i_impl_CommonForest [.s (.v (.sl .str) a0), .s (.v (.sl .str) a1)] (.tup [.own t_string .str ([] : List ByteArray), .v .bool false]) [] :=
  SC_of_run cfgOK (its := [.res (.tup [.v (.sl .tree) c1a, .v (.sl .tree) c1b, .v .bool false]) [] [] []])
    (ps := [SC cfg.P i_impl_twoForests [.s (.v (.sl .str) a0), .s (.v (.sl .str) a1)] (.tup [.v (.sl .tree) c1a, .v (.sl .tree) c1b, .v .bool false]) []]) (by kernel_rfl) ⟨h1, trivial⟩ get_impl_CommonForest (by decide)

/-! ### spec_JoinForests -/


def spec_JoinForests_L0a (x0 : (List ByteArray)) (x1 : (List ByteArray)) (x7 : Int) (xo6 : (List ByteArray)) : St := mkSt 42 [(0, .s (.v (.sl .str) x0)), (1, .s (.v (.sl .str) x1)), (6, .s (.osl 6 0)), (7, .s (.v (.int .i64) x7))] [(6, .row t_string .str xo6 0 false)]

def spec_JoinForests_L0X1 (y0 : (List ByteArray)) (y1 : (List ByteArray)) (y7 : Int) (y25 : Bool) (yo6 : (List ByteArray)) : St := mkSt 42 [(0, .s (.v (.sl .str) y0)), (1, .s (.v (.sl .str) y1)), (6, .s (.osl 6 0)), (7, .s (.v (.int .i64) y7)), (25, .s (.v .bool y25))] [(6, .row t_string .str yo6 0 false)]

theorem spec_JoinForests_L0a_i1 (x0 : (List ByteArray)) (x1 : (List ByteArray)) (x7 : Int) (xo6 : (List ByteArray)) (dc1 : ByteArray) (dc2 : ByteArray) (dc3 : ByteArray)
    (h1 : x7 < ((List.length x0 : Nat) : Int))
    (h2 : SC cfg.P i_spec_foTree [.s (.v (.sl .str) x0), .s (.v (.int .i64) x7)] (.s (.v .str dc1)) [])
    (h3 : SC cfg.P i_spec_foTree [.s (.v (.sl .str) x1), .s (.v (.int .i64) x7)] (.s (.v .str dc2)) [])
    (h4 : SC cfg.P i_spec_trJoin [.s (.v .str dc1), .s (.v .str dc2)] (.s (.v .str dc3)) [])
    (h5 : sizeOK (List.length xo6 + List.length ([dc3] : List ByteArray)))
    {e : AEx} {st : St} (next : LoopSC cfg.P 2 (lb P_spec_JoinForests 0) (spec_JoinForests_L0a x0 x1 (IntKind.wrap .i64 (x7 + (1 : Int))) (xo6 ++ ([dc3] : List ByteArray))) e st) :
    LoopSC cfg.P 2 (lb P_spec_JoinForests 0) (spec_JoinForests_L0a x0 x1 x7 xo6) e st :=
  loop_iter cfgOK (f := i_spec_JoinForests) (its := [.bool true, .res (.s (.v .str dc1)) [] [] [], .res (.s (.v .str dc2)) [] [] [], .res (.s (.v .str dc3)) [] [] []])
    (ps := [decide (x7 < ((List.length x0 : Nat) : Int)) = true,
      SC cfg.P i_spec_foTree [.s (.v (.sl .str) x0), .s (.v (.int .i64) x7)] (.s (.v .str dc1)) [],
      SC cfg.P i_spec_foTree [.s (.v (.sl .str) x1), .s (.v (.int .i64) x7)] (.s (.v .str dc2)) [],
      SC cfg.P i_spec_trJoin [.s (.v .str dc1), .s (.v .str dc2)] (.s (.v .str dc3)) [],
      sizeOK (List.length xo6 + List.length ([dc3] : List ByteArray))]) (st1 := spec_JoinForests_L0a x0 x1 (IntKind.wrap .i64 (x7 + (1 : Int))) (xo6 ++ ([dc3] : List ByteArray))) (by kernel_rfl) ⟨(decide_eq_true h1), h2, h3, h4, h5, trivial⟩ next

theorem spec_JoinForests_L0a_i2 (x0 : (List ByteArray)) (x1 : (List ByteArray)) (x7 : Int) (xo6 : (List ByteArray)) (dc1 : ByteArray) (dc2 : ByteArray) (dc3 : ByteArray)
    (h1 : ¬ (x7 < ((List.length x0 : Nat) : Int)))
    (h2 : x7 < ((List.length x1 : Nat) : Int))
    (h3 : SC cfg.P i_spec_foTree [.s (.v (.sl .str) x0), .s (.v (.int .i64) x7)] (.s (.v .str dc1)) [])
    (h4 : SC cfg.P i_spec_foTree [.s (.v (.sl .str) x1), .s (.v (.int .i64) x7)] (.s (.v .str dc2)) [])
    (h5 : SC cfg.P i_spec_trJoin [.s (.v .str dc1), .s (.v .str dc2)] (.s (.v .str dc3)) [])
    (h6 : sizeOK (List.length xo6 + List.length ([dc3] : List ByteArray)))
    {e : AEx} {st : St} (next : LoopSC cfg.P 2 (lb P_spec_JoinForests 0) (spec_JoinForests_L0a x0 x1 (IntKind.wrap .i64 (x7 + (1 : Int))) (xo6 ++ ([dc3] : List ByteArray))) e st) :
    LoopSC cfg.P 2 (lb P_spec_JoinForests 0) (spec_JoinForests_L0a x0 x1 x7 xo6) e st :=
  loop_iter cfgOK (f := i_spec_JoinForests) (its := [.bool false, .bool true, .res (.s (.v .str dc1)) [] [] [], .res (.s (.v .str dc2)) [] [] [], .res (.s (.v .str dc3)) [] [] []])
    (ps := [decide (x7 < ((List.length x0 : Nat) : Int)) = false,
      decide (x7 < ((List.length x1 : Nat) : Int)) = true,
      SC cfg.P i_spec_foTree [.s (.v (.sl .str) x0), .s (.v (.int .i64) x7)] (.s (.v .str dc1)) [],
      SC cfg.P i_spec_foTree [.s (.v (.sl .str) x1), .s (.v (.int .i64) x7)] (.s (.v .str dc2)) [],
      SC cfg.P i_spec_trJoin [.s (.v .str dc1), .s (.v .str dc2)] (.s (.v .str dc3)) [],
      sizeOK (List.length xo6 + List.length ([dc3] : List ByteArray))]) (st1 := spec_JoinForests_L0a x0 x1 (IntKind.wrap .i64 (x7 + (1 : Int))) (xo6 ++ ([dc3] : List ByteArray))) (by kernel_rfl) ⟨(decide_eq_false h1), (decide_eq_true h2), h3, h4, h5, h6, trivial⟩ next

theorem spec_JoinForests_L0a_x3 (x0 : (List ByteArray)) (x1 : (List ByteArray)) (x7 : Int) (xo6 : (List ByteArray))
    (h1 : ¬ (x7 < ((List.length x0 : Nat) : Int)))
    (h2 : ¬ (x7 < ((List.length x1 : Nat) : Int))) :
    LoopSC cfg.P 2 (lb P_spec_JoinForests 0) (spec_JoinForests_L0a x0 x1 x7 xo6) (.exit 0) (spec_JoinForests_L0X1 x0 x1 x7 false xo6) :=
  loop_out cfgOK (f := i_spec_JoinForests) (its := [.bool false, .bool false])
    (ps := [decide (x7 < ((List.length x0 : Nat) : Int)) = false,
      decide (x7 < ((List.length x1 : Nat) : Int)) = false]) (by kernel_rfl) ⟨(decide_eq_false h1), (decide_eq_false h2), trivial⟩ (fun h => by cases h)

theorem spec_JoinForests_p1 (a0 : (List ByteArray)) (a1 : (List ByteArray)) (k1y0 : (List ByteArray)) (k1y1 : (List ByteArray)) (k1y7 : Int) (k1y25 : Bool) (k1yo6 : (List ByteArray)) (c3a : (List ByteArray)) (c3b : Bool)
    (h1 : SC cfg.P i_spec_foGood [.s (.v (.sl .str) a0)] (.s (.v .bool true)) [])
    (h2 : SC cfg.P i_spec_foGood [.s (.v (.sl .str) a1)] (.s (.v .bool true)) [])
    (h3 : LoopSC cfg.P 2 (lb P_spec_JoinForests 0) (spec_JoinForests_L0a a0 a1 (0 : Int) ([] : List ByteArray)) (.exit 0) (spec_JoinForests_L0X1 k1y0 k1y1 k1y7 k1y25 k1yo6))
    (h4 : SC cfg.P i_spec_foIf [.s (.v (.sl .str) k1yo6)] (.tup [.own t_string .str c3a, .v .bool c3b]) []) :
    SC cfg.P i_spec_JoinForests [.s (.v (.sl .str) a0), .s (.v (.sl .str) a1)] (.tup [.own t_string .str c3a, .v .bool c3b]) [] :=
  SC_of_run cfgOK (its := [.res (.s (.v .bool true)) [] [] [], .res (.s (.v .bool true)) [] [] [], .loop (fun _ => (.exit 0, spec_JoinForests_L0X1 k1y0 k1y1 k1y7 k1y25 k1yo6)), .res (.tup [.own t_string .str c3a, .v .bool c3b]) [] [] [40]])
    (ps := [SC cfg.P i_spec_foGood [.s (.v (.sl .str) a0)] (.s (.v .bool true)) [],
      SC cfg.P i_spec_foGood [.s (.v (.sl .str) a1)] (.s (.v .bool true)) [],
      LoopSC cfg.P 2 (lb P_spec_JoinForests 0) (spec_JoinForests_L0a a0 a1 (0 : Int) ([] : List ByteArray)) (.exit 0) (spec_JoinForests_L0X1 k1y0 k1y1 k1y7 k1y25 k1yo6),
      SC cfg.P i_spec_foIf [.s (.v (.sl .str) k1yo6)] (.tup [.own t_string .str c3a, .v .bool c3b]) []]) (by kernel_rfl) ⟨h1, h2, h3, h4, trivial⟩ get_spec_JoinForests (by decide)

theorem spec_JoinForests_p2 (a0 : (List ByteArray)) (a1 : (List ByteArray))
    (h1 : SC cfg.P i_spec_foGood [.s (.v (.sl .str) a0)] (.s (.v .bool true)) [])
    (h2 : SC cfg.P i_spec_foGood [.s (.v (.sl .str) a1)] (.s (.v .bool false)) []) :
    SC cfg.P i_spec_JoinForests [.s (.v (.sl .str) a0), .s (.v (.sl .str) a1)] (.tup [.own t_string .str ([] : List ByteArray), .v .bool false]) [] :=
  SC_of_run cfgOK (its := [.res (.s (.v .bool true)) [] [] [], .res (.s (.v .bool false)) [] [] []])
    (ps := [SC cfg.P i_spec_foGood [.s (.v (.sl .str) a0)] (.s (.v .bool true)) [],
      SC cfg.P i_spec_foGood [.s (.v (.sl .str) a1)] (.s (.v .bool false)) []]) (by kernel_rfl) ⟨h1, h2, trivial⟩ get_spec_JoinForests (by decide)

theorem spec_JoinForests_p3 (a0 : (List ByteArray)) (a1 : (List ByteArray))
    (h1 : SC cfg.P i_spec_foGood [.s (.v (.sl .str) a0)] (.s (.v .bool false)) []) :
    SC cfg.P i_spec_JoinForests [.s (.v (.sl .str) a0), .s (.v (.sl .str) a1)] (.tup [.own t_string .str ([] : List ByteArray), .v .bool false]) [] :=
  SC_of_run cfgOK (its := [.res (.s (.v .bool false)) [] [] []])
    (ps := [SC cfg.P i_spec_foGood [.s (.v (.sl .str) a0)] (.s (.v .bool false)) []]) (by kernel_rfl) ⟨h1, trivial⟩ get_spec_JoinForests (by decide)

/-! ### impl_JoinForests -/


theorem impl_JoinForests_p1 (a0 : (List ByteArray)) (a1 : (List ByteArray)) (c1a : (List Tr)) (c1b : (List Tr)) (c2 : (List Tr)) (c3a : (List ByteArray)) (c3b : Bool)
    (h1 : SC cfg.P i_impl_twoForests [.s (.v (.sl .str) a0), .s (.v (.sl .str) a1)] (.tup [.v (.sl .tree) c1a, .v (.sl .tree) c1b, .v .bool true]) [])
    (h2 : SC cfg.P i_impl_each [.s (.v (.sl .tree) c1a), .s (.v (.sl .tree) c1b), .fn i_impl_join [] []] (.s (.own t_pimpl_node .tree c2)) [])
    (h3 : SC cfg.P i_impl_forest_texts [.s (.v (.sl .tree) c2)] (.tup [.own t_string .str c3a, .v .bool c3b]) []) :
    SC cfg.P i_impl_JoinForests [.s (.v (.sl .str) a0), .s (.v (.sl .str) a1)] (.tup [.own t_string .str c3a, .v .bool c3b]) [] :=
  SC_of_run cfgOK (its := [.res (.tup [.v (.sl .tree) c1a, .v (.sl .tree) c1b, .v .bool true]) [] [] [], .res (.s (.own t_pimpl_node .tree c2)) [] [] [20], .res (.tup [.own t_string .str c3a, .v .bool c3b]) [] [] [22]])
    (ps := [SC cfg.P i_impl_twoForests [.s (.v (.sl .str) a0), .s (.v (.sl .str) a1)] (.tup [.v (.sl .tree) c1a, .v (.sl .tree) c1b, .v .bool true]) [],
      SC cfg.P i_impl_each [.s (.v (.sl .tree) c1a), .s (.v (.sl .tree) c1b), .fn i_impl_join [] []] (.s (.own t_pimpl_node .tree c2)) [],
      SC cfg.P i_impl_forest_texts [.s (.v (.sl .tree) c2)] (.tup [.own t_string .str c3a, .v .bool c3b]) []]) (by kernel_rfl) ⟨h1, h2, h3, trivial⟩ get_impl_JoinForests (by decide)

theorem impl_JoinForests_p2 (a0 : (List ByteArray)) (a1 : (List ByteArray)) (c1a : (List Tr)) (c1b : (List Tr))
    (h1 : SC cfg.P i_impl_twoForests [.s (.v (.sl .str) a0), .s (.v (.sl .str) a1)] (.tup [.v (.sl .tree) c1a, .v (.sl .tree) c1b, .v .bool false]) []) :
    SC cfg.P i_impl_JoinForests [.s (.v (.sl .str) a0), .s (.v (.sl .str) a1)] (.tup [.own t_string .str ([] : List ByteArray), .v .bool false]) [] :=
  SC_of_run cfgOK (its := [.res (.tup [.v (.sl .tree) c1a, .v (.sl .tree) c1b, .v .bool false]) [] [] []])
    (ps := [SC cfg.P i_impl_twoForests [.s (.v (.sl .str) a0), .s (.v (.sl .str) a1)] (.tup [.v (.sl .tree) c1a, .v (.sl .tree) c1b, .v .bool false]) []]) (by kernel_rfl) ⟨h1, trivial⟩ get_impl_JoinForests (by decide)

/-! ### spec_trCommon -/


theorem spec_trCommon_p1 (a0 : ByteArray) (a1 : ByteArray)
    (h1 : SC cfg.P i_spec_trLeaf [.s (.v .str a0)] (.s (.v .bool true)) []) :
    SC cfg.P i_spec_trCommon [.s (.v .str a0), .s (.v .str a1)] (.s (.v .str (⟨#[46]⟩ : ByteArray))) [] :=
  SC_of_run cfgOK (its := [.res (.s (.v .bool true)) [] [] []])
    (ps := [SC cfg.P i_spec_trLeaf [.s (.v .str a0)] (.s (.v .bool true)) []]) (by kernel_rfl) ⟨h1, trivial⟩ get_spec_trCommon (by decide)

theorem spec_trCommon_p2 (a0 : ByteArray) (a1 : ByteArray)
    (h1 : SC cfg.P i_spec_trLeaf [.s (.v .str a0)] (.s (.v .bool false)) [])
    (h2 : SC cfg.P i_spec_trLeaf [.s (.v .str a1)] (.s (.v .bool true)) []) :
    SC cfg.P i_spec_trCommon [.s (.v .str a0), .s (.v .str a1)] (.s (.v .str (⟨#[46]⟩ : ByteArray))) [] :=
  SC_of_run cfgOK (its := [.res (.s (.v .bool false)) [] [] [], .res (.s (.v .bool true)) [] [] []])
    (ps := [SC cfg.P i_spec_trLeaf [.s (.v .str a0)] (.s (.v .bool false)) [],
      SC cfg.P i_spec_trLeaf [.s (.v .str a1)] (.s (.v .bool true)) []]) (by kernel_rfl) ⟨h1, h2, trivial⟩ get_spec_trCommon (by decide)

theorem spec_trCommon_p3 (a0 : ByteArray) (a1 : ByteArray) (c3a : ByteArray) (c3b : ByteArray) (c4a : ByteArray) (c4b : ByteArray) (c5 : ByteArray) (c6 : ByteArray) (c7 : ByteArray)
    (h1 : SC cfg.P i_spec_trLeaf [.s (.v .str a0)] (.s (.v .bool false)) [])
    (h2 : SC cfg.P i_spec_trLeaf [.s (.v .str a1)] (.s (.v .bool false)) [])
    (h3 : SC cfg.P i_spec_trSides [.s (.v .str a0)] (.tup [.v .str c3a, .v .str c3b]) [])
    (h4 : SC cfg.P i_spec_trSides [.s (.v .str a1)] (.tup [.v .str c4a, .v .str c4b]) [])
    (h5 : SC cfg.P i_spec_trCommon [.s (.v .str c3a), .s (.v .str c4a)] (.s (.v .str c5)) [])
    (h6 : SC cfg.P i_spec_trCommon [.s (.v .str c3b), .s (.v .str c4b)] (.s (.v .str c6)) [])
    (h7 : SC cfg.P i_spec_trOf [.s (.v .str c5), .s (.v .str c6)] (.s (.v .str c7)) []) :
    SC cfg.P i_spec_trCommon [.s (.v .str a0), .s (.v .str a1)] (.s (.v .str c7)) [] :=
  SC_of_run cfgOK (its := [.res (.s (.v .bool false)) [] [] [], .res (.s (.v .bool false)) [] [] [], .res (.tup [.v .str c3a, .v .str c3b]) [] [] [], .res (.tup [.v .str c4a, .v .str c4b]) [] [] [], .res (.s (.v .str c5)) [] [] [], .res (.s (.v .str c6)) [] [] [], .res (.s (.v .str c7)) [] [] []])
    (ps := [SC cfg.P i_spec_trLeaf [.s (.v .str a0)] (.s (.v .bool false)) [],
      SC cfg.P i_spec_trLeaf [.s (.v .str a1)] (.s (.v .bool false)) [],
      SC cfg.P i_spec_trSides [.s (.v .str a0)] (.tup [.v .str c3a, .v .str c3b]) [],
      SC cfg.P i_spec_trSides [.s (.v .str a1)] (.tup [.v .str c4a, .v .str c4b]) [],
      SC cfg.P i_spec_trCommon [.s (.v .str c3a), .s (.v .str c4a)] (.s (.v .str c5)) [],
      SC cfg.P i_spec_trCommon [.s (.v .str c3b), .s (.v .str c4b)] (.s (.v .str c6)) [],
      SC cfg.P i_spec_trOf [.s (.v .str c5), .s (.v .str c6)] (.s (.v .str c7)) []]) (by kernel_rfl) ⟨h1, h2, h3, h4, h5, h6, h7, trivial⟩ get_spec_trCommon (by decide)

/-! ### impl_each -/


def impl_each_L0a (x0 : (List Tr)) (x1 : (List Tr)) (xF2 : FuncId) (x13 : Int) (x14 : Int) (xo7 : (List Tr)) : St := mkSt 30 [(0, .s (.v (.sl .tree) x0)), (1, .s (.v (.sl .tree) x1)), (2, .fn xF2 [] []), (7, .s (.osl 7 0)), (13, .s (.v (.int .i64) x13)), (14, .s (.v (.int .i64) x14))] [(7, .row t_pimpl_node .tree xo7 0 false)]

def impl_each_L0X1 (y0 : (List Tr)) (y1 : (List Tr)) (yF2 : FuncId) (y13 : Int) (y14 : Int) (y15 : Bool) (yo7 : (List Tr)) : St := mkSt 30 [(0, .s (.v (.sl .tree) y0)), (1, .s (.v (.sl .tree) y1)), (2, .fn yF2 [] []), (7, .s (.osl 7 0)), (13, .s (.v (.int .i64) y13)), (14, .s (.v (.int .i64) y14)), (15, .s (.v .bool y15))] [(7, .row t_pimpl_node .tree yo7 0 false)]

theorem impl_each_L0a_i1 (x0 : (List Tr)) (x1 : (List Tr)) (xF2 : FuncId) (x13 : Int) (x14 : Int) (xo7 : (List Tr)) (dc1 : Tr) (dc2 : Tr) (dc3 : Tr)
    (h1 : x14 < x13)
    (h2 : SC cfg.P i_impl_forest_tree [.s (.v (.sl .tree) x0), .s (.v (.int .i64) x14)] (.s (.v .tree dc1)) [])
    (h3 : SC cfg.P i_impl_forest_tree [.s (.v (.sl .tree) x1), .s (.v (.int .i64) x14)] (.s (.v .tree dc2)) [])
    (h4 : SC cfg.P xF2 [.s (.v .tree dc1), .s (.v .tree dc2)] (.s (.v .tree dc3)) [])
    (h5 : sizeOK (List.length xo7 + List.length ([dc3] : List Tr)))
    {e : AEx} {st : St} (next : LoopSC cfg.P 3 (lb P_impl_each 0) (impl_each_L0a x0 x1 xF2 x13 (IntKind.wrap .i64 (x14 + (1 : Int))) (xo7 ++ ([dc3] : List Tr))) e st) :
    LoopSC cfg.P 3 (lb P_impl_each 0) (impl_each_L0a x0 x1 xF2 x13 x14 xo7) e st :=
  loop_iter cfgOK (f := i_impl_each) (its := [.bool true, .res (.s (.v .tree dc1)) [] [] [], .res (.s (.v .tree dc2)) [] [] [], .res (.s (.v .tree dc3)) [] [] []])
    (ps := [decide (x14 < x13) = true,
      SC cfg.P i_impl_forest_tree [.s (.v (.sl .tree) x0), .s (.v (.int .i64) x14)] (.s (.v .tree dc1)) [],
      SC cfg.P i_impl_forest_tree [.s (.v (.sl .tree) x1), .s (.v (.int .i64) x14)] (.s (.v .tree dc2)) [],
      SC cfg.P xF2 [.s (.v .tree dc1), .s (.v .tree dc2)] (.s (.v .tree dc3)) [],
      sizeOK (List.length xo7 + List.length ([dc3] : List Tr))]) (st1 := impl_each_L0a x0 x1 xF2 x13 (IntKind.wrap .i64 (x14 + (1 : Int))) (xo7 ++ ([dc3] : List Tr))) (by kernel_rfl) ⟨(decide_eq_true h1), h2, h3, h4, h5, trivial⟩ next

theorem impl_each_L0a_x2 (x0 : (List Tr)) (x1 : (List Tr)) (xF2 : FuncId) (x13 : Int) (x14 : Int) (xo7 : (List Tr))
    (h1 : ¬ (x14 < x13)) :
    LoopSC cfg.P 3 (lb P_impl_each 0) (impl_each_L0a x0 x1 xF2 x13 x14 xo7) (.exit 0) (impl_each_L0X1 x0 x1 xF2 x13 x14 false xo7) :=
  loop_out cfgOK (f := i_impl_each) (its := [.bool false])
    (ps := [decide (x14 < x13) = false]) (by kernel_rfl) ⟨(decide_eq_false h1), trivial⟩ (fun h => by cases h)

theorem impl_each_p1 (a0 : (List Tr)) (a1 : (List Tr)) (a2F : FuncId) (k1y0 : (List Tr)) (k1y1 : (List Tr)) (k1yF2 : FuncId) (k1y13 : Int) (k1y14 : Int) (k1y15 : Bool) (k1yo7 : (List Tr))
    (h1 : LoopSC cfg.P 3 (lb P_impl_each 0) (impl_each_L0a a0 a1 a2F (maxI ((List.length a0 : Nat) : Int) ((List.length a1 : Nat) : Int)) (0 : Int) ([] : List Tr)) (.exit 0) (impl_each_L0X1 k1y0 k1y1 k1yF2 k1y13 k1y14 k1y15 k1yo7)) :
    SC cfg.P i_impl_each [.s (.v (.sl .tree) a0), .s (.v (.sl .tree) a1), .fn a2F [] []] (.s (.own t_pimpl_node .tree k1yo7)) [] :=
  SC_of_run cfgOK (its := [.loop (fun _ => (.exit 0, impl_each_L0X1 k1y0 k1y1 k1yF2 k1y13 k1y14 k1y15 k1yo7))])
    (ps := [LoopSC cfg.P 3 (lb P_impl_each 0) (impl_each_L0a a0 a1 a2F (maxI ((List.length a0 : Nat) : Int) ((List.length a1 : Nat) : Int)) (0 : Int) ([] : List Tr)) (.exit 0) (impl_each_L0X1 k1y0 k1y1 k1yF2 k1y13 k1y14 k1y15 k1yo7)]) (by kernel_rfl) ⟨h1, trivial⟩ get_impl_each (by decide)

/-! ### impl_common -/


theorem impl_common_p1 (a1 : Tr)
     :
    SC cfg.P i_impl_common [.s (.v .tree Tr.leaf), .s (.v .tree a1)] (.s (.v .tree Tr.leaf)) [] :=
  SC_of_run cfgOK (its := [.bool true])
    (ps := [Tr.leaf.isLeaf = true]) (by kernel_rfl) ⟨rfl, trivial⟩ get_impl_common (by decide)

theorem impl_common_p2 (a0l : Tr) (a0r : Tr)
     :
    SC cfg.P i_impl_common [.s (.v .tree (Tr.node a0l a0r)), .s (.v .tree Tr.leaf)] (.s (.v .tree Tr.leaf)) [] :=
  SC_of_run cfgOK (its := [.bool false, .bool true])
    (ps := [(Tr.node a0l a0r).isLeaf = false,
      Tr.leaf.isLeaf = true]) (by kernel_rfl) ⟨rfl, rfl, trivial⟩ get_impl_common (by decide)

theorem impl_common_p3 (a0l : Tr) (a0r : Tr) (a1l : Tr) (a1r : Tr) (c1 : Tr) (c2 : Tr)
    (h1 : SC cfg.P i_impl_common [.s (.v .tree a0l), .s (.v .tree a1l)] (.s (.v .tree c1)) [])
    (h2 : SC cfg.P i_impl_common [.s (.v .tree a0r), .s (.v .tree a1r)] (.s (.v .tree c2)) []) :
    SC cfg.P i_impl_common [.s (.v .tree (Tr.node a0l a0r)), .s (.v .tree (Tr.node a1l a1r))] (.s (.v .tree (Tr.node c1 c2))) [] :=
  SC_of_run cfgOK (its := [.bool false, .bool false, .res (.s (.v .tree c1)) [] [] [], .res (.s (.v .tree c2)) [] [] []])
    (ps := [(Tr.node a0l a0r).isLeaf = false,
      (Tr.node a1l a1r).isLeaf = false,
      SC cfg.P i_impl_common [.s (.v .tree a0l), .s (.v .tree a1l)] (.s (.v .tree c1)) [],
      SC cfg.P i_impl_common [.s (.v .tree a0r), .s (.v .tree a1r)] (.s (.v .tree c2)) []]) (by kernel_rfl) ⟨rfl, rfl, h1, h2, trivial⟩ get_impl_common (by decide)

/-! ### spec_trJoin -/


theorem spec_trJoin_p1 (a0 : ByteArray) (a1 : ByteArray)
    (h1 : SC cfg.P i_spec_trLeaf [.s (.v .str a0)] (.s (.v .bool true)) []) :
    SC cfg.P i_spec_trJoin [.s (.v .str a0), .s (.v .str a1)] (.s (.v .str a1)) [] :=
  SC_of_run cfgOK (its := [.res (.s (.v .bool true)) [] [] []])
    (ps := [SC cfg.P i_spec_trLeaf [.s (.v .str a0)] (.s (.v .bool true)) []]) (by kernel_rfl) ⟨h1, trivial⟩ get_spec_trJoin (by decide)

theorem spec_trJoin_p2 (a0 : ByteArray) (a1 : ByteArray)
    (h1 : SC cfg.P i_spec_trLeaf [.s (.v .str a0)] (.s (.v .bool false)) [])
    (h2 : SC cfg.P i_spec_trLeaf [.s (.v .str a1)] (.s (.v .bool true)) []) :
    SC cfg.P i_spec_trJoin [.s (.v .str a0), .s (.v .str a1)] (.s (.v .str a0)) [] :=
  SC_of_run cfgOK (its := [.res (.s (.v .bool false)) [] [] [], .res (.s (.v .bool true)) [] [] []])
    (ps := [SC cfg.P i_spec_trLeaf [.s (.v .str a0)] (.s (.v .bool false)) [],
      SC cfg.P i_spec_trLeaf [.s (.v .str a1)] (.s (.v .bool true)) []]) (by kernel_rfl) ⟨h1, h2, trivial⟩ get_spec_trJoin (by decide)

theorem spec_trJoin_p3 (a0 : ByteArray) (a1 : ByteArray) (c3a : ByteArray) (c3b : ByteArray) (c4a : ByteArray) (c4b : ByteArray) (c5 : ByteArray) (c6 : ByteArray) (c7 : ByteArray)
    (h1 : SC cfg.P i_spec_trLeaf [.s (.v .str a0)] (.s (.v .bool false)) [])
    (h2 : SC cfg.P i_spec_trLeaf [.s (.v .str a1)] (.s (.v .bool false)) [])
    (h3 : SC cfg.P i_spec_trSides [.s (.v .str a0)] (.tup [.v .str c3a, .v .str c3b]) [])
    (h4 : SC cfg.P i_spec_trSides [.s (.v .str a1)] (.tup [.v .str c4a, .v .str c4b]) [])
    (h5 : SC cfg.P i_spec_trJoin [.s (.v .str c3a), .s (.v .str c4a)] (.s (.v .str c5)) [])
    (h6 : SC cfg.P i_spec_trJoin [.s (.v .str c3b), .s (.v .str c4b)] (.s (.v .str c6)) [])
    (h7 : SC cfg.P i_spec_trOf [.s (.v .str c5), .s (.v .str c6)] (.s (.v .str c7)) []) :
    SC cfg.P i_spec_trJoin [.s (.v .str a0), .s (.v .str a1)] (.s (.v .str c7)) [] :=
  SC_of_run cfgOK (its := [.res (.s (.v .bool false)) [] [] [], .res (.s (.v .bool false)) [] [] [], .res (.tup [.v .str c3a, .v .str c3b]) [] [] [], .res (.tup [.v .str c4a, .v .str c4b]) [] [] [], .res (.s (.v .str c5)) [] [] [], .res (.s (.v .str c6)) [] [] [], .res (.s (.v .str c7)) [] [] []])
    (ps := [SC cfg.P i_spec_trLeaf [.s (.v .str a0)] (.s (.v .bool false)) [],
      SC cfg.P i_spec_trLeaf [.s (.v .str a1)] (.s (.v .bool false)) [],
      SC cfg.P i_spec_trSides [.s (.v .str a0)] (.tup [.v .str c3a, .v .str c3b]) [],
      SC cfg.P i_spec_trSides [.s (.v .str a1)] (.tup [.v .str c4a, .v .str c4b]) [],
      SC cfg.P i_spec_trJoin [.s (.v .str c3a), .s (.v .str c4a)] (.s (.v .str c5)) [],
      SC cfg.P i_spec_trJoin [.s (.v .str c3b), .s (.v .str c4b)] (.s (.v .str c6)) [],
      SC cfg.P i_spec_trOf [.s (.v .str c5), .s (.v .str c6)] (.s (.v .str c7)) []]) (by kernel_rfl) ⟨h1, h2, h3, h4, h5, h6, h7, trivial⟩ get_spec_trJoin (by decide)

/-! ### impl_join -/


theorem impl_join_p1 (a1 : Tr)
     :
    SC cfg.P i_impl_join [.s (.v .tree Tr.leaf), .s (.v .tree a1)] (.s (.v .tree a1)) [] :=
  SC_of_run cfgOK (its := [.bool true])
    (ps := [Tr.leaf.isLeaf = true]) (by kernel_rfl) ⟨rfl, trivial⟩ get_impl_join (by decide)

theorem impl_join_p2 (a0l : Tr) (a0r : Tr)
     :
    SC cfg.P i_impl_join [.s (.v .tree (Tr.node a0l a0r)), .s (.v .tree Tr.leaf)] (.s (.v .tree (Tr.node a0l a0r))) [] :=
  SC_of_run cfgOK (its := [.bool false, .bool true])
    (ps := [(Tr.node a0l a0r).isLeaf = false,
      Tr.leaf.isLeaf = true]) (by kernel_rfl) ⟨rfl, rfl, trivial⟩ get_impl_join (by decide)

theorem impl_join_p3 (a0l : Tr) (a0r : Tr) (a1l : Tr) (a1r : Tr) (c1 : Tr) (c2 : Tr)
    (h1 : SC cfg.P i_impl_join [.s (.v .tree a0l), .s (.v .tree a1l)] (.s (.v .tree c1)) [])
    (h2 : SC cfg.P i_impl_join [.s (.v .tree a0r), .s (.v .tree a1r)] (.s (.v .tree c2)) []) :
    SC cfg.P i_impl_join [.s (.v .tree (Tr.node a0l a0r)), .s (.v .tree (Tr.node a1l a1r))] (.s (.v .tree (Tr.node c1 c2))) [] :=
  SC_of_run cfgOK (its := [.bool false, .bool false, .res (.s (.v .tree c1)) [] [] [], .res (.s (.v .tree c2)) [] [] []])
    (ps := [(Tr.node a0l a0r).isLeaf = false,
      (Tr.node a1l a1r).isLeaf = false,
      SC cfg.P i_impl_join [.s (.v .tree a0l), .s (.v .tree a1l)] (.s (.v .tree c1)) [],
      SC cfg.P i_impl_join [.s (.v .tree a0r), .s (.v .tree a1r)] (.s (.v .tree c2)) []]) (by kernel_rfl) ⟨rfl, rfl, h1, h2, trivial⟩ get_impl_join (by decide)

/-! ### spec_trOf -/


theorem spec_trOf_p1 (a0 : ByteArray) (a1 : ByteArray)
    (h1 : ((⟨#[40]⟩ : ByteArray)).size + (a0).size ≤ 2 ^ 62)
    (h2 : (((⟨#[40]⟩ : ByteArray) ++ a0)).size + (a1).size ≤ 2 ^ 62)
    (h3 : ((((⟨#[40]⟩ : ByteArray) ++ a0) ++ a1)).size + ((⟨#[41]⟩ : ByteArray)).size ≤ 2 ^ 62) :
    SC cfg.P i_spec_trOf [.s (.v .str a0), .s (.v .str a1)] (.s (.v .str ((((⟨#[40]⟩ : ByteArray) ++ a0) ++ a1) ++ (⟨#[41]⟩ : ByteArray)))) [] :=
  SC_of_run cfgOK (its := [])
    (ps := [((⟨#[40]⟩ : ByteArray)).size + (a0).size ≤ 2 ^ 62,
      (((⟨#[40]⟩ : ByteArray) ++ a0)).size + (a1).size ≤ 2 ^ 62,
      ((((⟨#[40]⟩ : ByteArray) ++ a0) ++ a1)).size + ((⟨#[41]⟩ : ByteArray)).size ≤ 2 ^ 62]) (by kernel_rfl) ⟨h1, h2, h3, trivial⟩ get_spec_trOf (by decide)

end Go.AI
