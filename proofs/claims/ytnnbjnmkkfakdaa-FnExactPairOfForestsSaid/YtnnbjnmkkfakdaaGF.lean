/- A part of the road: what it proves stands in its last texts. -/
import Derived.Test.YtnnbjnmkkfakdaaSIds
import Derived.Test.YtnnbjnmkkfakdaaProg
set_option autoImplicit false
set_option maxRecDepth 100000
set_option linter.unusedVariables false
namespace Go.AI
open Go.Proofs

/-! ### laws_FnExactPairOfForests -/


theorem laws_FnExactPairOfForests_p1 (a0 : (List ByteArray)) (a1 : (List ByteArray)) (c1 : Int)
    (h1 : SC cfg.P i_laws_szStringS [.s (.v (.sl .str) a0), .s (.v (.int .i64) (1048576 : Int))] (.s (.v (.int .i64) c1)) [])
    (h2 : c1 < (0 : Int)) :
    SC cfg.P i_laws_FnExactPairOfForests [.s (.v (.sl .str) a0), .s (.v (.sl .str) a1)] (.s (.v .bool true)) [] :=
  SC_of_run cfgOK (its := [.res (.s (.v (.int .i64) c1)) [] [] [], .bool true])
    (ps := [SC cfg.P i_laws_szStringS [.s (.v (.sl .str) a0), .s (.v (.int .i64) (1048576 : Int))] (.s (.v (.int .i64) c1)) [],
      decide (c1 < (0 : Int)) = true]) (by kernel_rfl) ⟨h1, (decide_eq_true h2), trivial⟩ get_laws_FnExactPairOfForests (by decide)

theorem laws_FnExactPairOfForests_p2 (a0 : (List ByteArray)) (a1 : (List ByteArray)) (c1 : Int) (c2 : Int)
    (h1 : SC cfg.P i_laws_szStringS [.s (.v (.sl .str) a0), .s (.v (.int .i64) (1048576 : Int))] (.s (.v (.int .i64) c1)) [])
    (h2 : ¬ (c1 < (0 : Int)))
    (h3 : SC cfg.P i_laws_szStringS [.s (.v (.sl .str) a1), .s (.v (.int .i64) c1)] (.s (.v (.int .i64) c2)) [])
    (h4 : c2 < (0 : Int)) :
    SC cfg.P i_laws_FnExactPairOfForests [.s (.v (.sl .str) a0), .s (.v (.sl .str) a1)] (.s (.v .bool true)) [] :=
  SC_of_run cfgOK (its := [.res (.s (.v (.int .i64) c1)) [] [] [], .bool false, .res (.s (.v (.int .i64) c2)) [] [] [], .bool true])
    (ps := [SC cfg.P i_laws_szStringS [.s (.v (.sl .str) a0), .s (.v (.int .i64) (1048576 : Int))] (.s (.v (.int .i64) c1)) [],
      decide (c1 < (0 : Int)) = false,
      SC cfg.P i_laws_szStringS [.s (.v (.sl .str) a1), .s (.v (.int .i64) c1)] (.s (.v (.int .i64) c2)) [],
      decide (c2 < (0 : Int)) = true]) (by kernel_rfl) ⟨h1, (decide_eq_false h2), h3, (decide_eq_true h4), trivial⟩ get_laws_FnExactPairOfForests (by decide)

theorem laws_FnExactPairOfForests_p3 (a0 : (List ByteArray)) (a1 : (List ByteArray)) (c1 : Int) (c2 : Int) (c3 : (List ByteArray)) (c4 : (List ByteArray)) (c5a : (ByteArray × ByteArray)) (c5b : Bool) (c6 : (List ByteArray)) (c7 : (List ByteArray)) (c8a : (ByteArray × ByteArray)) (c8b : Bool) (c10 : (List ByteArray)) (c12 : (List ByteArray))
    (h1 : SC cfg.P i_laws_szStringS [.s (.v (.sl .str) a0), .s (.v (.int .i64) (1048576 : Int))] (.s (.v (.int .i64) c1)) [])
    (h2 : ¬ (c1 < (0 : Int)))
    (h3 : SC cfg.P i_laws_szStringS [.s (.v (.sl .str) a1), .s (.v (.int .i64) c1)] (.s (.v (.int .i64) c2)) [])
    (h4 : ¬ (c2 < (0 : Int)))
    (h5 : SC cfg.P i_laws_toStringS [.s (.v (.sl .str) a0)] (.s (.own t_string .str c3)) [])
    (h6 : SC cfg.P i_laws_toStringS [.s (.v (.sl .str) a1)] (.s (.own t_string .str c4)) [])
    (h7 : SC cfg.P i_spec_PairOfForests [.s (.v (.sl .str) c3), .s (.v (.sl .str) c4)] (.tup [.v (.pr .str .str) c5a, .v .bool c5b]) [])
    (h8 : SC cfg.P i_laws_toStringS [.s (.v (.sl .str) a0)] (.s (.own t_string .str c6)) [])
    (h9 : SC cfg.P i_laws_toStringS [.s (.v (.sl .str) a1)] (.s (.own t_string .str c7)) [])
    (h10 : SC cfg.P i_impl_PairOfForests [.s (.v (.sl .str) c6), .s (.v (.sl .str) c7)] (.tup [.v (.pr .str .str) c8a, .v .bool c8b]) [])
    (h11 : SC cfg.P i_laws_eqPair [.s (.v (.pr .str .str) c8a), .s (.v (.pr .str .str) c5a)] (.s (.v .bool true)) [])
    (h12 : (!(c8b == c5b)) = false)
    (h13 : SC cfg.P i_laws_toStringS [.s (.v (.sl .str) a0)] (.s (.own t_string .str c10)) [])
    (h14 : SC cfg.P i_laws_eqStringS [.s (.v (.sl .str) c6), .s (.v (.sl .str) c10)] (.s (.v .bool true)) [])
    (h15 : SC cfg.P i_laws_toStringS [.s (.v (.sl .str) a1)] (.s (.own t_string .str c12)) [])
    (h16 : SC cfg.P i_laws_eqStringS [.s (.v (.sl .str) c7), .s (.v (.sl .str) c12)] (.s (.v .bool true)) []) :
    SC cfg.P i_laws_FnExactPairOfForests [.s (.v (.sl .str) a0), .s (.v (.sl .str) a1)] (.s (.v .bool true)) [] :=
  SC_of_run cfgOK (its := [.res (.s (.v (.int .i64) c1)) [] [] [], .bool false, .res (.s (.v (.int .i64) c2)) [] [] [], .bool false, .res (.s (.own t_string .str c3)) [] [] [24], .res (.s (.own t_string .str c4)) [] [] [26], .res (.tup [.v (.pr .str .str) c5a, .v .bool c5b]) [] [] [], .res (.s (.own t_string .str c6)) [] [] [31], .res (.s (.own t_string .str c7)) [] [] [33], .res (.tup [.v (.pr .str .str) c8a, .v .bool c8b]) [] [] [], .res (.s (.v .bool true)) [] [] [], .bool false, .res (.s (.own t_string .str c10)) [] [] [51], .res (.s (.v .bool true)) [] [] [], .res (.s (.own t_string .str c12)) [] [] [56], .res (.s (.v .bool true)) [] [] []])
    (ps := [SC cfg.P i_laws_szStringS [.s (.v (.sl .str) a0), .s (.v (.int .i64) (1048576 : Int))] (.s (.v (.int .i64) c1)) [],
      decide (c1 < (0 : Int)) = false,
      SC cfg.P i_laws_szStringS [.s (.v (.sl .str) a1), .s (.v (.int .i64) c1)] (.s (.v (.int .i64) c2)) [],
      decide (c2 < (0 : Int)) = false,
      SC cfg.P i_laws_toStringS [.s (.v (.sl .str) a0)] (.s (.own t_string .str c3)) [],
      SC cfg.P i_laws_toStringS [.s (.v (.sl .str) a1)] (.s (.own t_string .str c4)) [],
      SC cfg.P i_spec_PairOfForests [.s (.v (.sl .str) c3), .s (.v (.sl .str) c4)] (.tup [.v (.pr .str .str) c5a, .v .bool c5b]) [],
      SC cfg.P i_laws_toStringS [.s (.v (.sl .str) a0)] (.s (.own t_string .str c6)) [],
      SC cfg.P i_laws_toStringS [.s (.v (.sl .str) a1)] (.s (.own t_string .str c7)) [],
      SC cfg.P i_impl_PairOfForests [.s (.v (.sl .str) c6), .s (.v (.sl .str) c7)] (.tup [.v (.pr .str .str) c8a, .v .bool c8b]) [],
      SC cfg.P i_laws_eqPair [.s (.v (.pr .str .str) c8a), .s (.v (.pr .str .str) c5a)] (.s (.v .bool true)) [],
      (!(c8b == c5b)) = false,
      SC cfg.P i_laws_toStringS [.s (.v (.sl .str) a0)] (.s (.own t_string .str c10)) [],
      SC cfg.P i_laws_eqStringS [.s (.v (.sl .str) c6), .s (.v (.sl .str) c10)] (.s (.v .bool true)) [],
      SC cfg.P i_laws_toStringS [.s (.v (.sl .str) a1)] (.s (.own t_string .str c12)) [],
      SC cfg.P i_laws_eqStringS [.s (.v (.sl .str) c7), .s (.v (.sl .str) c12)] (.s (.v .bool true)) []]) (by kernel_rfl) ⟨h1, (decide_eq_false h2), h3, (decide_eq_false h4), h5, h6, h7, h8, h9, h10, h11, h12, h13, h14, h15, h16, trivial⟩ get_laws_FnExactPairOfForests (by decide)

/-! ### spec_PairOfForests -/


theorem spec_PairOfForests_p1 (a0 : (List ByteArray)) (a1 : (List ByteArray)) (c3 : (ByteArray × ByteArray)) (c4 : (ByteArray × ByteArray)) (c5 : (ByteArray × ByteArray)) (c6 : (ByteArray × ByteArray)) (c7a : (ByteArray × ByteArray)) (c7b : Bool)
    (h1 : SC cfg.P i_spec_foGood [.s (.v (.sl .str) a0)] (.s (.v .bool true)) [])
    (h2 : SC cfg.P i_spec_foGood [.s (.v (.sl .str) a1)] (.s (.v .bool true)) [])
    (h3 : SC cfg.P i_spec_foPair [.s (.v (.sl .str) a0)] (.s (.v (.pr .str .str) c3)) [])
    (h4 : SC cfg.P i_spec_foPair [.s (.v (.sl .str) a1)] (.s (.v (.pr .str .str) c4)) [])
    (h5 : SC cfg.P i_spec_prInverse [.s (.v (.pr .str .str) c4)] (.s (.v (.pr .str .str) c5)) [])
    (h6 : SC cfg.P i_spec_prTimes [.s (.v (.pr .str .str) c3), .s (.v (.pr .str .str) c5)] (.s (.v (.pr .str .str) c6)) [])
    (h7 : SC cfg.P i_spec_prIf [.s (.v (.pr .str .str) c6)] (.tup [.v (.pr .str .str) c7a, .v .bool c7b]) []) :
    SC cfg.P i_spec_PairOfForests [.s (.v (.sl .str) a0), .s (.v (.sl .str) a1)] (.tup [.v (.pr .str .str) c7a, .v .bool c7b]) [] :=
  SC_of_run cfgOK (its := [.res (.s (.v .bool true)) [] [] [], .res (.s (.v .bool true)) [] [] [], .res (.s (.v (.pr .str .str) c3)) [] [] [], .res (.s (.v (.pr .str .str) c4)) [] [] [], .res (.s (.v (.pr .str .str) c5)) [] [] [], .res (.s (.v (.pr .str .str) c6)) [] [] [], .res (.tup [.v (.pr .str .str) c7a, .v .bool c7b]) [] [] []])
    (ps := [SC cfg.P i_spec_foGood [.s (.v (.sl .str) a0)] (.s (.v .bool true)) [],
      SC cfg.P i_spec_foGood [.s (.v (.sl .str) a1)] (.s (.v .bool true)) [],
      SC cfg.P i_spec_foPair [.s (.v (.sl .str) a0)] (.s (.v (.pr .str .str) c3)) [],
      SC cfg.P i_spec_foPair [.s (.v (.sl .str) a1)] (.s (.v (.pr .str .str) c4)) [],
      SC cfg.P i_spec_prInverse [.s (.v (.pr .str .str) c4)] (.s (.v (.pr .str .str) c5)) [],
      SC cfg.P i_spec_prTimes [.s (.v (.pr .str .str) c3), .s (.v (.pr .str .str) c5)] (.s (.v (.pr .str .str) c6)) [],
      SC cfg.P i_spec_prIf [.s (.v (.pr .str .str) c6)] (.tup [.v (.pr .str .str) c7a, .v .bool c7b]) []]) (by kernel_rfl) ⟨h1, h2, h3, h4, h5, h6, h7, trivial⟩ get_spec_PairOfForests (by decide)

theorem spec_PairOfForests_p2 (a0 : (List ByteArray)) (a1 : (List ByteArray))
    (h1 : SC cfg.P i_spec_foGood [.s (.v (.sl .str) a0)] (.s (.v .bool true)) [])
    (h2 : SC cfg.P i_spec_foGood [.s (.v (.sl .str) a1)] (.s (.v .bool false)) []) :
    SC cfg.P i_spec_PairOfForests [.s (.v (.sl .str) a0), .s (.v (.sl .str) a1)] (.tup [.v (.pr .str .str) ((⟨#[]⟩ : ByteArray), (⟨#[]⟩ : ByteArray)), .v .bool false]) [] :=
  SC_of_run cfgOK (its := [.res (.s (.v .bool true)) [] [] [], .res (.s (.v .bool false)) [] [] []])
    (ps := [SC cfg.P i_spec_foGood [.s (.v (.sl .str) a0)] (.s (.v .bool true)) [],
      SC cfg.P i_spec_foGood [.s (.v (.sl .str) a1)] (.s (.v .bool false)) []]) (by kernel_rfl) ⟨h1, h2, trivial⟩ get_spec_PairOfForests (by decide)

theorem spec_PairOfForests_p3 (a0 : (List ByteArray)) (a1 : (List ByteArray))
    (h1 : SC cfg.P i_spec_foGood [.s (.v (.sl .str) a0)] (.s (.v .bool false)) []) :
    SC cfg.P i_spec_PairOfForests [.s (.v (.sl .str) a0), .s (.v (.sl .str) a1)] (.tup [.v (.pr .str .str) ((⟨#[]⟩ : ByteArray), (⟨#[]⟩ : ByteArray)), .v .bool false]) [] :=
  SC_of_run cfgOK (its := [.res (.s (.v .bool false)) [] [] []])
    (ps := [SC cfg.P i_spec_foGood [.s (.v (.sl .str) a0)] (.s (.v .bool false)) []]) (by kernel_rfl) ⟨h1, trivial⟩ get_spec_PairOfForests (by decide)

/-! ### impl_PairOfForests -/


theorem impl_PairOfForests_p1 (a0 : (List ByteArray)) (a1 : (List ByteArray)) (c1a : (List Tr)) (c1b : (List Tr)) (c2 : (Tr × Tr)) (c3 : (Tr × Tr)) (c4 : (Tr × Tr)) (c5 : (Tr × Tr)) (c6a : (ByteArray × ByteArray)) (c6b : Bool)
    (h1 : SC cfg.P i_impl_twoForests [.s (.v (.sl .str) a0), .s (.v (.sl .str) a1)] (.tup [.v (.sl .tree) c1a, .v (.sl .tree) c1b, .v .bool true]) [])
    (h2 : SC cfg.P i_impl_forest_pair [.s (.v (.sl .tree) c1a)] (.s (.v (.pr .tree .tree) c2)) [])
    (h3 : SC cfg.P i_impl_forest_pair [.s (.v (.sl .tree) c1b)] (.s (.v (.pr .tree .tree) c3)) [])
    (h4 : SC cfg.P i_impl_pair_inverse [.s (.v (.pr .tree .tree) c3)] (.s (.v (.pr .tree .tree) c4)) [])
    (h5 : SC cfg.P i_impl_pair_times [.s (.v (.pr .tree .tree) c2), .s (.v (.pr .tree .tree) c4)] (.s (.v (.pr .tree .tree) c5)) [])
    (h6 : SC cfg.P i_impl_pair_fits [.s (.v (.pr .tree .tree) c5)] (.tup [.v (.pr .str .str) c6a, .v .bool c6b]) []) :
    SC cfg.P i_impl_PairOfForests [.s (.v (.sl .str) a0), .s (.v (.sl .str) a1)] (.tup [.v (.pr .str .str) c6a, .v .bool c6b]) [] :=
  SC_of_run cfgOK (its := [.res (.tup [.v (.sl .tree) c1a, .v (.sl .tree) c1b, .v .bool true]) [] [] [], .res (.s (.v (.pr .tree .tree) c2)) [] [] [], .res (.s (.v (.pr .tree .tree) c3)) [] [] [], .res (.s (.v (.pr .tree .tree) c4)) [] [] [], .res (.s (.v (.pr .tree .tree) c5)) [] [] [], .res (.tup [.v (.pr .str .str) c6a, .v .bool c6b]) [] [] []])
    (ps := [SC cfg.P i_impl_twoForests [.s (.v (.sl .str) a0), .s (.v (.sl .str) a1)] (.tup [.v (.sl .tree) c1a, .v (.sl .tree) c1b, .v .bool true]) [],
      SC cfg.P i_impl_forest_pair [.s (.v (.sl .tree) c1a)] (.s (.v (.pr .tree .tree) c2)) [],
      SC cfg.P i_impl_forest_pair [.s (.v (.sl .tree) c1b)] (.s (.v (.pr .tree .tree) c3)) [],
      SC cfg.P i_impl_pair_inverse [.s (.v (.pr .tree .tree) c3)] (.s (.v (.pr .tree .tree) c4)) [],
      SC cfg.P i_impl_pair_times [.s (.v (.pr .tree .tree) c2), .s (.v (.pr .tree .tree) c4)] (.s (.v (.pr .tree .tree) c5)) [],
      SC cfg.P i_impl_pair_fits [.s (.v (.pr .tree .tree) c5)] (.tup [.v (.pr .str .str) c6a, .v .bool c6b]) []]) (by kernel_rfl) ⟨h1, h2, h3, h4, h5, h6, trivial⟩ get_impl_PairOfForests (by decide)

theorem impl_PairOfForests_p2 (a0 : (List ByteArray)) (a1 : (List ByteArray)) (c1a : (List Tr)) (c1b : (List Tr))
    (h1 : SC cfg.P i_impl_twoForests [.s (.v (.sl .str) a0), .s (.v (.sl .str) a1)] (.tup [.v (.sl .tree) c1a, .v (.sl .tree) c1b, .v .bool false]) []) :
    SC cfg.P i_impl_PairOfForests [.s (.v (.sl .str) a0), .s (.v (.sl .str) a1)] (.tup [.v (.pr .str .str) ((⟨#[]⟩ : ByteArray), (⟨#[]⟩ : ByteArray)), .v .bool false]) [] :=
  SC_of_run cfgOK (its := [.res (.tup [.v (.sl .tree) c1a, .v (.sl .tree) c1b, .v .bool false]) [] [] []])
    (ps := [SC cfg.P i_impl_twoForests [.s (.v (.sl .str) a0), .s (.v (.sl .str) a1)] (.tup [.v (.sl .tree) c1a, .v (.sl .tree) c1b, .v .bool false]) []]) (by kernel_rfl) ⟨h1, trivial⟩ get_impl_PairOfForests (by decide)

end Go.AI
