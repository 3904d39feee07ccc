/- A part of the road: what it proves stands in its last texts. -/
import Derived.Test.YtnnbjnmkkfakdaaSIds
import Derived.Test.YtnnbjnmkkfakdaaProg
set_option autoImplicit false
set_option maxRecDepth 100000
set_option linter.unusedVariables false
namespace Go.AI
open Go.Proofs

/-! ### laws_FnExactForestsOfPair -/


theorem laws_FnExactForestsOfPair_p1 (a0 : (ByteArray × ByteArray)) (c1 : Int)
    (h1 : SC cfg.P i_laws_szPair [.s (.v (.pr .str .str) a0), .s (.v (.int .i64) (1048576 : Int))] (.s (.v (.int .i64) c1)) [])
    (h2 : c1 < (0 : Int)) :
    SC cfg.P i_laws_FnExactForestsOfPair [.s (.v (.pr .str .str) a0)] (.s (.v .bool true)) [] :=
  SC_of_run cfgOK (its := [.res (.s (.v (.int .i64) c1)) [] [] [], .bool true])
    (ps := [SC cfg.P i_laws_szPair [.s (.v (.pr .str .str) a0), .s (.v (.int .i64) (1048576 : Int))] (.s (.v (.int .i64) c1)) [],
      decide (c1 < (0 : Int)) = true]) (by kernel_rfl) ⟨h1, (decide_eq_true h2), trivial⟩ get_laws_FnExactForestsOfPair (by decide)

theorem laws_FnExactForestsOfPair_p2 (a0 : (ByteArray × ByteArray)) (c1 : Int) (c2 : (ByteArray × ByteArray)) (c3a : (List ByteArray)) (c3b : (List ByteArray)) (c3c : Bool) (c4 : (ByteArray × ByteArray)) (c5a : (List ByteArray)) (c5b : (List ByteArray)) (c5c : Bool) (c8 : Int) (c8o0 : (List ByteArray)) (c9 : Int) (c9o0 : (List ByteArray)) (c10 : Int) (c11 : Int) (c12 : (ByteArray × ByteArray)) (c13a : (List ByteArray)) (c13b : (List ByteArray)) (c13c : Bool) (c16 : Int) (c17 : Int)
    (h1 : SC cfg.P i_laws_szPair [.s (.v (.pr .str .str) a0), .s (.v (.int .i64) (1048576 : Int))] (.s (.v (.int .i64) c1)) [])
    (h2 : ¬ (c1 < (0 : Int)))
    (h3 : SC cfg.P i_laws_toPair [.s (.v (.pr .str .str) a0)] (.s (.v (.pr .str .str) c2)) [])
    (h4 : SC cfg.P i_spec_ForestsOfPair [.s (.v (.pr .str .str) c2)] (.tup [.own t_string .str c3a, .own t_string .str c3b, .v .bool c3c]) [])
    (h5 : SC cfg.P i_laws_toPair [.s (.v (.pr .str .str) a0)] (.s (.v (.pr .str .str) c4)) [])
    (h6 : SC cfg.P i_impl_ForestsOfPair [.s (.v (.pr .str .str) c4)] (.tup [.own t_string .str c5a, .own t_string .str c5b, .v .bool c5c]) [])
    (h7 : SC cfg.P i_laws_eqStringS [.s (.v (.sl .str) c5a), .s (.v (.sl .str) c3a)] (.s (.v .bool true)) [])
    (h8 : SC cfg.P i_laws_eqStringS [.s (.v (.sl .str) c5b), .s (.v (.sl .str) c3b)] (.s (.v .bool true)) [])
    (h9 : (!(c5c == c3c)) = false)
    (h10 : SC cfg.P i_laws_markStringS [.s (.msl t_string .str c5a), .s (.v (.int .i64) (1 : Int))] (.s (.v (.int .i64) c8)) [.row t_string .str c8o0])
    (h11 : SC cfg.P i_laws_markStringS [.s (.msl t_string .str c5b), .s (.v (.int .i64) c8)] (.s (.v (.int .i64) c9)) [.row t_string .str c9o0])
    (h12 : SC cfg.P i_laws_heldStringS [.s (.v (.sl .str) c8o0), .s (.v (.int .i64) (1 : Int))] (.s (.v (.int .i64) c10)) [])
    (h13 : ¬ (c10 < (0 : Int)))
    (h14 : SC cfg.P i_laws_heldStringS [.s (.v (.sl .str) c9o0), .s (.v (.int .i64) c10)] (.s (.v (.int .i64) c11)) [])
    (h15 : ¬ (c11 < (0 : Int)))
    (h16 : c11 = c9)
    (h17 : SC cfg.P i_laws_toPair [.s (.v (.pr .str .str) a0)] (.s (.v (.pr .str .str) c12)) [])
    (h18 : SC cfg.P i_impl_ForestsOfPair [.s (.v (.pr .str .str) c12)] (.tup [.own t_string .str c13a, .own t_string .str c13b, .v .bool c13c]) [])
    (h19 : SC cfg.P i_laws_eqStringS [.s (.v (.sl .str) c13a), .s (.v (.sl .str) c3a)] (.s (.v .bool true)) [])
    (h20 : SC cfg.P i_laws_eqStringS [.s (.v (.sl .str) c13b), .s (.v (.sl .str) c3b)] (.s (.v .bool true)) [])
    (h21 : (!(c13c == c3c)) = false)
    (h22 : SC cfg.P i_laws_heldStringS [.s (.v (.sl .str) c8o0), .s (.v (.int .i64) (1 : Int))] (.s (.v (.int .i64) c16)) [])
    (h23 : ¬ (c16 < (0 : Int)))
    (h24 : SC cfg.P i_laws_heldStringS [.s (.v (.sl .str) c9o0), .s (.v (.int .i64) c16)] (.s (.v (.int .i64) c17)) [])
    (h25 : ¬ (c17 < (0 : Int)))
    (h26 : c17 = c9) :
    SC cfg.P i_laws_FnExactForestsOfPair [.s (.v (.pr .str .str) a0)] (.s (.v .bool true)) [] :=
  SC_of_run cfgOK (its := [.res (.s (.v (.int .i64) c1)) [] [] [], .bool false, .res (.s (.v (.pr .str .str) c2)) [] [] [], .res (.tup [.own t_string .str c3a, .own t_string .str c3b, .v .bool c3c]) [] [] [23, 102], .res (.s (.v (.pr .str .str) c4)) [] [] [], .res (.tup [.own t_string .str c5a, .own t_string .str c5b, .v .bool c5c]) [] [] [30, 101], .res (.s (.v .bool true)) [] [] [], .res (.s (.v .bool true)) [] [] [], .bool false, .res (.s (.v (.int .i64) c8)) [.row t_string .str c8o0] [0] [], .res (.s (.v (.int .i64) c9)) [.row t_string .str c9o0] [0] [], .res (.s (.v (.int .i64) c10)) [] [] [], .bool false, .res (.s (.v (.int .i64) c11)) [] [] [], .bool false, .bool false, .res (.s (.v (.pr .str .str) c12)) [] [] [], .res (.tup [.own t_string .str c13a, .own t_string .str c13b, .v .bool c13c]) [] [] [71, 100], .res (.s (.v .bool true)) [] [] [], .res (.s (.v .bool true)) [] [] [], .bool false, .res (.s (.v (.int .i64) c16)) [] [] [], .bool false, .res (.s (.v (.int .i64) c17)) [] [] [], .bool false, .bool false])
    (ps := [SC cfg.P i_laws_szPair [.s (.v (.pr .str .str) a0), .s (.v (.int .i64) (1048576 : Int))] (.s (.v (.int .i64) c1)) [],
      decide (c1 < (0 : Int)) = false,
      SC cfg.P i_laws_toPair [.s (.v (.pr .str .str) a0)] (.s (.v (.pr .str .str) c2)) [],
      SC cfg.P i_spec_ForestsOfPair [.s (.v (.pr .str .str) c2)] (.tup [.own t_string .str c3a, .own t_string .str c3b, .v .bool c3c]) [],
      SC cfg.P i_laws_toPair [.s (.v (.pr .str .str) a0)] (.s (.v (.pr .str .str) c4)) [],
      SC cfg.P i_impl_ForestsOfPair [.s (.v (.pr .str .str) c4)] (.tup [.own t_string .str c5a, .own t_string .str c5b, .v .bool c5c]) [],
      SC cfg.P i_laws_eqStringS [.s (.v (.sl .str) c5a), .s (.v (.sl .str) c3a)] (.s (.v .bool true)) [],
      SC cfg.P i_laws_eqStringS [.s (.v (.sl .str) c5b), .s (.v (.sl .str) c3b)] (.s (.v .bool true)) [],
      (!(c5c == c3c)) = false,
      SC cfg.P i_laws_markStringS [.s (.msl t_string .str c5a), .s (.v (.int .i64) (1 : Int))] (.s (.v (.int .i64) c8)) [.row t_string .str c8o0],
      SC cfg.P i_laws_markStringS [.s (.msl t_string .str c5b), .s (.v (.int .i64) c8)] (.s (.v (.int .i64) c9)) [.row t_string .str c9o0],
      SC cfg.P i_laws_heldStringS [.s (.v (.sl .str) c8o0), .s (.v (.int .i64) (1 : Int))] (.s (.v (.int .i64) c10)) [],
      decide (c10 < (0 : Int)) = false,
      SC cfg.P i_laws_heldStringS [.s (.v (.sl .str) c9o0), .s (.v (.int .i64) c10)] (.s (.v (.int .i64) c11)) [],
      decide (c11 < (0 : Int)) = false,
      (c11 != c9) = false,
      SC cfg.P i_laws_toPair [.s (.v (.pr .str .str) a0)] (.s (.v (.pr .str .str) c12)) [],
      SC cfg.P i_impl_ForestsOfPair [.s (.v (.pr .str .str) c12)] (.tup [.own t_string .str c13a, .own t_string .str c13b, .v .bool c13c]) [],
      SC cfg.P i_laws_eqStringS [.s (.v (.sl .str) c13a), .s (.v (.sl .str) c3a)] (.s (.v .bool true)) [],
      SC cfg.P i_laws_eqStringS [.s (.v (.sl .str) c13b), .s (.v (.sl .str) c3b)] (.s (.v .bool true)) [],
      (!(c13c == c3c)) = false,
      SC cfg.P i_laws_heldStringS [.s (.v (.sl .str) c8o0), .s (.v (.int .i64) (1 : Int))] (.s (.v (.int .i64) c16)) [],
      decide (c16 < (0 : Int)) = false,
      SC cfg.P i_laws_heldStringS [.s (.v (.sl .str) c9o0), .s (.v (.int .i64) c16)] (.s (.v (.int .i64) c17)) [],
      decide (c17 < (0 : Int)) = false,
      (c17 != c9) = false]) (by kernel_rfl) ⟨h1, (decide_eq_false h2), h3, h4, h5, h6, h7, h8, h9, h10, h11, h12, (decide_eq_false h13), h14, (decide_eq_false h15), (bne_f h16), h17, h18, h19, h20, h21, h22, (decide_eq_false h23), h24, (decide_eq_false h25), (bne_f h26), trivial⟩ get_laws_FnExactForestsOfPair (by decide)

/-! ### spec_ForestsOfPair -/


theorem spec_ForestsOfPair_p1 (a0 : (ByteArray × ByteArray)) (c2 : (ByteArray × ByteArray)) (c3 : (List ByteArray)) (c4a : (List ByteArray)) (c5 : (List ByteArray)) (c6a : (List ByteArray))
    (h1 : SC cfg.P i_spec_prGood [.s (.v (.pr .str .str) a0)] (.s (.v .bool true)) [])
    (h2 : SC cfg.P i_spec_prReduce [.s (.v (.pr .str .str) a0), .s (.v (.sl (.int .i64)) ([] : List Int))] (.s (.v (.pr .str .str) c2)) [])
    (h3 : SC cfg.P i_spec_foHanging [.s (.v .str c2.1)] (.s (.own t_string .str c3)) [])
    (h4 : SC cfg.P i_spec_foIf [.s (.v (.sl .str) c3)] (.tup [.own t_string .str c4a, .v .bool true]) [])
    (h5 : SC cfg.P i_spec_foHanging [.s (.v .str c2.2)] (.s (.own t_string .str c5)) [])
    (h6 : SC cfg.P i_spec_foIf [.s (.v (.sl .str) c5)] (.tup [.own t_string .str c6a, .v .bool true]) []) :
    SC cfg.P i_spec_ForestsOfPair [.s (.v (.pr .str .str) a0)] (.tup [.own t_string .str c4a, .own t_string .str c6a, .v .bool true]) [] :=
  SC_of_run cfgOK (its := [.res (.s (.v .bool true)) [] [] [], .res (.s (.v (.pr .str .str) c2)) [] [] [], .res (.s (.own t_string .str c3)) [] [] [17], .res (.tup [.own t_string .str c4a, .v .bool true]) [] [] [18], .res (.s (.own t_string .str c5)) [] [] [24], .res (.tup [.own t_string .str c6a, .v .bool true]) [] [] [25]])
    (ps := [SC cfg.P i_spec_prGood [.s (.v (.pr .str .str) a0)] (.s (.v .bool true)) [],
      SC cfg.P i_spec_prReduce [.s (.v (.pr .str .str) a0), .s (.v (.sl (.int .i64)) ([] : List Int))] (.s (.v (.pr .str .str) c2)) [],
      SC cfg.P i_spec_foHanging [.s (.v .str c2.1)] (.s (.own t_string .str c3)) [],
      SC cfg.P i_spec_foIf [.s (.v (.sl .str) c3)] (.tup [.own t_string .str c4a, .v .bool true]) [],
      SC cfg.P i_spec_foHanging [.s (.v .str c2.2)] (.s (.own t_string .str c5)) [],
      SC cfg.P i_spec_foIf [.s (.v (.sl .str) c5)] (.tup [.own t_string .str c6a, .v .bool true]) []]) (by kernel_rfl) ⟨h1, h2, h3, h4, h5, h6, trivial⟩ get_spec_ForestsOfPair (by decide)

theorem spec_ForestsOfPair_p2 (a0 : (ByteArray × ByteArray)) (c2 : (ByteArray × ByteArray)) (c3 : (List ByteArray)) (c4a : (List ByteArray)) (c5 : (List ByteArray)) (c6a : (List ByteArray))
    (h1 : SC cfg.P i_spec_prGood [.s (.v (.pr .str .str) a0)] (.s (.v .bool true)) [])
    (h2 : SC cfg.P i_spec_prReduce [.s (.v (.pr .str .str) a0), .s (.v (.sl (.int .i64)) ([] : List Int))] (.s (.v (.pr .str .str) c2)) [])
    (h3 : SC cfg.P i_spec_foHanging [.s (.v .str c2.1)] (.s (.own t_string .str c3)) [])
    (h4 : SC cfg.P i_spec_foIf [.s (.v (.sl .str) c3)] (.tup [.own t_string .str c4a, .v .bool true]) [])
    (h5 : SC cfg.P i_spec_foHanging [.s (.v .str c2.2)] (.s (.own t_string .str c5)) [])
    (h6 : SC cfg.P i_spec_foIf [.s (.v (.sl .str) c5)] (.tup [.own t_string .str c6a, .v .bool false]) []) :
    SC cfg.P i_spec_ForestsOfPair [.s (.v (.pr .str .str) a0)] (.tup [.own t_string .str ([] : List ByteArray), .own t_string .str ([] : List ByteArray), .v .bool false]) [] :=
  SC_of_run cfgOK (its := [.res (.s (.v .bool true)) [] [] [], .res (.s (.v (.pr .str .str) c2)) [] [] [], .res (.s (.own t_string .str c3)) [] [] [17], .res (.tup [.own t_string .str c4a, .v .bool true]) [] [] [18], .res (.s (.own t_string .str c5)) [] [] [24], .res (.tup [.own t_string .str c6a, .v .bool false]) [] [] [25]])
    (ps := [SC cfg.P i_spec_prGood [.s (.v (.pr .str .str) a0)] (.s (.v .bool true)) [],
      SC cfg.P i_spec_prReduce [.s (.v (.pr .str .str) a0), .s (.v (.sl (.int .i64)) ([] : List Int))] (.s (.v (.pr .str .str) c2)) [],
      SC cfg.P i_spec_foHanging [.s (.v .str c2.1)] (.s (.own t_string .str c3)) [],
      SC cfg.P i_spec_foIf [.s (.v (.sl .str) c3)] (.tup [.own t_string .str c4a, .v .bool true]) [],
      SC cfg.P i_spec_foHanging [.s (.v .str c2.2)] (.s (.own t_string .str c5)) [],
      SC cfg.P i_spec_foIf [.s (.v (.sl .str) c5)] (.tup [.own t_string .str c6a, .v .bool false]) []]) (by kernel_rfl) ⟨h1, h2, h3, h4, h5, h6, trivial⟩ get_spec_ForestsOfPair (by decide)

theorem spec_ForestsOfPair_p3 (a0 : (ByteArray × ByteArray)) (c2 : (ByteArray × ByteArray)) (c3 : (List ByteArray)) (c4a : (List ByteArray)) (c5 : (List ByteArray)) (c6a : (List ByteArray)) (c6b : Bool)
    (h1 : SC cfg.P i_spec_prGood [.s (.v (.pr .str .str) a0)] (.s (.v .bool true)) [])
    (h2 : SC cfg.P i_spec_prReduce [.s (.v (.pr .str .str) a0), .s (.v (.sl (.int .i64)) ([] : List Int))] (.s (.v (.pr .str .str) c2)) [])
    (h3 : SC cfg.P i_spec_foHanging [.s (.v .str c2.1)] (.s (.own t_string .str c3)) [])
    (h4 : SC cfg.P i_spec_foIf [.s (.v (.sl .str) c3)] (.tup [.own t_string .str c4a, .v .bool false]) [])
    (h5 : SC cfg.P i_spec_foHanging [.s (.v .str c2.2)] (.s (.own t_string .str c5)) [])
    (h6 : SC cfg.P i_spec_foIf [.s (.v (.sl .str) c5)] (.tup [.own t_string .str c6a, .v .bool c6b]) []) :
    SC cfg.P i_spec_ForestsOfPair [.s (.v (.pr .str .str) a0)] (.tup [.own t_string .str ([] : List ByteArray), .own t_string .str ([] : List ByteArray), .v .bool false]) [] :=
  SC_of_run cfgOK (its := [.res (.s (.v .bool true)) [] [] [], .res (.s (.v (.pr .str .str) c2)) [] [] [], .res (.s (.own t_string .str c3)) [] [] [17], .res (.tup [.own t_string .str c4a, .v .bool false]) [] [] [18], .res (.s (.own t_string .str c5)) [] [] [24], .res (.tup [.own t_string .str c6a, .v .bool c6b]) [] [] [25]])
    (ps := [SC cfg.P i_spec_prGood [.s (.v (.pr .str .str) a0)] (.s (.v .bool true)) [],
      SC cfg.P i_spec_prReduce [.s (.v (.pr .str .str) a0), .s (.v (.sl (.int .i64)) ([] : List Int))] (.s (.v (.pr .str .str) c2)) [],
      SC cfg.P i_spec_foHanging [.s (.v .str c2.1)] (.s (.own t_string .str c3)) [],
      SC cfg.P i_spec_foIf [.s (.v (.sl .str) c3)] (.tup [.own t_string .str c4a, .v .bool false]) [],
      SC cfg.P i_spec_foHanging [.s (.v .str c2.2)] (.s (.own t_string .str c5)) [],
      SC cfg.P i_spec_foIf [.s (.v (.sl .str) c5)] (.tup [.own t_string .str c6a, .v .bool c6b]) []]) (by kernel_rfl) ⟨h1, h2, h3, h4, h5, h6, trivial⟩ get_spec_ForestsOfPair (by decide)

theorem spec_ForestsOfPair_p4 (a0 : (ByteArray × ByteArray))
    (h1 : SC cfg.P i_spec_prGood [.s (.v (.pr .str .str) a0)] (.s (.v .bool false)) []) :
    SC cfg.P i_spec_ForestsOfPair [.s (.v (.pr .str .str) a0)] (.tup [.own t_string .str ([] : List ByteArray), .own t_string .str ([] : List ByteArray), .v .bool false]) [] :=
  SC_of_run cfgOK (its := [.res (.s (.v .bool false)) [] [] []])
    (ps := [SC cfg.P i_spec_prGood [.s (.v (.pr .str .str) a0)] (.s (.v .bool false)) []]) (by kernel_rfl) ⟨h1, trivial⟩ get_spec_ForestsOfPair (by decide)

/-! ### impl_ForestsOfPair -/


theorem impl_ForestsOfPair_p1 (a0 : (ByteArray × ByteArray)) (c1a : (Tr × Tr)) (c2 : (Tr × Tr)) (c3 : (List Tr)) (c4a : (List ByteArray)) (c5 : (List Tr)) (c6a : (List ByteArray))
    (h1 : SC cfg.P i_impl_pairOf [.s (.v (.pr .str .str) a0)] (.tup [.v (.pr .tree .tree) c1a, .v .bool true]) [])
    (h2 : SC cfg.P i_impl_pair_reduced [.s (.v (.pr .tree .tree) c1a)] (.s (.v (.pr .tree .tree) c2)) [])
    (h3 : SC cfg.P i_impl_hanging [.s (.v .tree c2.1)] (.s (.v (.sl .tree) c3)) [])
    (h4 : SC cfg.P i_impl_forest_texts [.s (.v (.sl .tree) c3)] (.tup [.own t_string .str c4a, .v .bool true]) [])
    (h5 : SC cfg.P i_impl_hanging [.s (.v .tree c2.2)] (.s (.v (.sl .tree) c5)) [])
    (h6 : SC cfg.P i_impl_forest_texts [.s (.v (.sl .tree) c5)] (.tup [.own t_string .str c6a, .v .bool true]) []) :
    SC cfg.P i_impl_ForestsOfPair [.s (.v (.pr .str .str) a0)] (.tup [.own t_string .str c4a, .own t_string .str c6a, .v .bool true]) [] :=
  SC_of_run cfgOK (its := [.res (.tup [.v (.pr .tree .tree) c1a, .v .bool true]) [] [] [], .res (.s (.v (.pr .tree .tree) c2)) [] [] [], .res (.s (.v (.sl .tree) c3)) [] [] [], .res (.tup [.own t_string .str c4a, .v .bool true]) [] [] [24], .res (.s (.v (.sl .tree) c5)) [] [] [], .res (.tup [.own t_string .str c6a, .v .bool true]) [] [] [31]])
    (ps := [SC cfg.P i_impl_pairOf [.s (.v (.pr .str .str) a0)] (.tup [.v (.pr .tree .tree) c1a, .v .bool true]) [],
      SC cfg.P i_impl_pair_reduced [.s (.v (.pr .tree .tree) c1a)] (.s (.v (.pr .tree .tree) c2)) [],
      SC cfg.P i_impl_hanging [.s (.v .tree c2.1)] (.s (.v (.sl .tree) c3)) [],
      SC cfg.P i_impl_forest_texts [.s (.v (.sl .tree) c3)] (.tup [.own t_string .str c4a, .v .bool true]) [],
      SC cfg.P i_impl_hanging [.s (.v .tree c2.2)] (.s (.v (.sl .tree) c5)) [],
      SC cfg.P i_impl_forest_texts [.s (.v (.sl .tree) c5)] (.tup [.own t_string .str c6a, .v .bool true]) []]) (by kernel_rfl) ⟨h1, h2, h3, h4, h5, h6, trivial⟩ get_impl_ForestsOfPair (by decide)

theorem impl_ForestsOfPair_p2 (a0 : (ByteArray × ByteArray)) (c1a : (Tr × Tr)) (c2 : (Tr × Tr)) (c3 : (List Tr)) (c4a : (List ByteArray)) (c5 : (List Tr)) (c6a : (List ByteArray))
    (h1 : SC cfg.P i_impl_pairOf [.s (.v (.pr .str .str) a0)] (.tup [.v (.pr .tree .tree) c1a, .v .bool true]) [])
    (h2 : SC cfg.P i_impl_pair_reduced [.s (.v (.pr .tree .tree) c1a)] (.s (.v (.pr .tree .tree) c2)) [])
    (h3 : SC cfg.P i_impl_hanging [.s (.v .tree c2.1)] (.s (.v (.sl .tree) c3)) [])
    (h4 : SC cfg.P i_impl_forest_texts [.s (.v (.sl .tree) c3)] (.tup [.own t_string .str c4a, .v .bool true]) [])
    (h5 : SC cfg.P i_impl_hanging [.s (.v .tree c2.2)] (.s (.v (.sl .tree) c5)) [])
    (h6 : SC cfg.P i_impl_forest_texts [.s (.v (.sl .tree) c5)] (.tup [.own t_string .str c6a, .v .bool false]) []) :
    SC cfg.P i_impl_ForestsOfPair [.s (.v (.pr .str .str) a0)] (.tup [.own t_string .str ([] : List ByteArray), .own t_string .str ([] : List ByteArray), .v .bool false]) [] :=
  SC_of_run cfgOK (its := [.res (.tup [.v (.pr .tree .tree) c1a, .v .bool true]) [] [] [], .res (.s (.v (.pr .tree .tree) c2)) [] [] [], .res (.s (.v (.sl .tree) c3)) [] [] [], .res (.tup [.own t_string .str c4a, .v .bool true]) [] [] [24], .res (.s (.v (.sl .tree) c5)) [] [] [], .res (.tup [.own t_string .str c6a, .v .bool false]) [] [] [31]])
    (ps := [SC cfg.P i_impl_pairOf [.s (.v (.pr .str .str) a0)] (.tup [.v (.pr .tree .tree) c1a, .v .bool true]) [],
      SC cfg.P i_impl_pair_reduced [.s (.v (.pr .tree .tree) c1a)] (.s (.v (.pr .tree .tree) c2)) [],
      SC cfg.P i_impl_hanging [.s (.v .tree c2.1)] (.s (.v (.sl .tree) c3)) [],
      SC cfg.P i_impl_forest_texts [.s (.v (.sl .tree) c3)] (.tup [.own t_string .str c4a, .v .bool true]) [],
      SC cfg.P i_impl_hanging [.s (.v .tree c2.2)] (.s (.v (.sl .tree) c5)) [],
      SC cfg.P i_impl_forest_texts [.s (.v (.sl .tree) c5)] (.tup [.own t_string .str c6a, .v .bool false]) []]) (by kernel_rfl) ⟨h1, h2, h3, h4, h5, h6, trivial⟩ get_impl_ForestsOfPair (by decide)

theorem impl_ForestsOfPair_p3 (a0 : (ByteArray × ByteArray)) (c1a : (Tr × Tr)) (c2 : (Tr × Tr)) (c3 : (List Tr)) (c4a : (List ByteArray)) (c5 : (List Tr)) (c6a : (List ByteArray)) (c6b : Bool)
    (h1 : SC cfg.P i_impl_pairOf [.s (.v (.pr .str .str) a0)] (.tup [.v (.pr .tree .tree) c1a, .v .bool true]) [])
    (h2 : SC cfg.P i_impl_pair_reduced [.s (.v (.pr .tree .tree) c1a)] (.s (.v (.pr .tree .tree) c2)) [])
    (h3 : SC cfg.P i_impl_hanging [.s (.v .tree c2.1)] (.s (.v (.sl .tree) c3)) [])
    (h4 : SC cfg.P i_impl_forest_texts [.s (.v (.sl .tree) c3)] (.tup [.own t_string .str c4a, .v .bool false]) [])
    (h5 : SC cfg.P i_impl_hanging [.s (.v .tree c2.2)] (.s (.v (.sl .tree) c5)) [])
    (h6 : SC cfg.P i_impl_forest_texts [.s (.v (.sl .tree) c5)] (.tup [.own t_string .str c6a, .v .bool c6b]) []) :
    SC cfg.P i_impl_ForestsOfPair [.s (.v (.pr .str .str) a0)] (.tup [.own t_string .str ([] : List ByteArray), .own t_string .str ([] : List ByteArray), .v .bool false]) [] :=
  SC_of_run cfgOK (its := [.res (.tup [.v (.pr .tree .tree) c1a, .v .bool true]) [] [] [], .res (.s (.v (.pr .tree .tree) c2)) [] [] [], .res (.s (.v (.sl .tree) c3)) [] [] [], .res (.tup [.own t_string .str c4a, .v .bool false]) [] [] [24], .res (.s (.v (.sl .tree) c5)) [] [] [], .res (.tup [.own t_string .str c6a, .v .bool c6b]) [] [] [31]])
    (ps := [SC cfg.P i_impl_pairOf [.s (.v (.pr .str .str) a0)] (.tup [.v (.pr .tree .tree) c1a, .v .bool true]) [],
      SC cfg.P i_impl_pair_reduced [.s (.v (.pr .tree .tree) c1a)] (.s (.v (.pr .tree .tree) c2)) [],
      SC cfg.P i_impl_hanging [.s (.v .tree c2.1)] (.s (.v (.sl .tree) c3)) [],
      SC cfg.P i_impl_forest_texts [.s (.v (.sl .tree) c3)] (.tup [.own t_string .str c4a, .v .bool false]) [],
      SC cfg.P i_impl_hanging [.s (.v .tree c2.2)] (.s (.v (.sl .tree) c5)) [],
      SC cfg.P i_impl_forest_texts [.s (.v (.sl .tree) c5)] (.tup [.own t_string .str c6a, .v .bool c6b]) []]) (by kernel_rfl) ⟨h1, h2, h3, h4, h5, h6, trivial⟩ get_impl_ForestsOfPair (by decide)

theorem impl_ForestsOfPair_p4 (a0 : (ByteArray × ByteArray)) (c1a : (Tr × Tr))
    (h1 : SC cfg.P i_impl_pairOf [.s (.v (.pr .str .str) a0)] (.tup [.v (.pr .tree .tree) c1a, .v .bool false]) []) :
    SC cfg.P i_impl_ForestsOfPair [.s (.v (.pr .str .str) a0)] (.tup [.own t_string .str ([] : List ByteArray), .own t_string .str ([] : List ByteArray), .v .bool false]) [] :=
  SC_of_run cfgOK (its := [.res (.tup [.v (.pr .tree .tree) c1a, .v .bool false]) [] [] []])
    (ps := [SC cfg.P i_impl_pairOf [.s (.v (.pr .str .str) a0)] (.tup [.v (.pr .tree .tree) c1a, .v .bool false]) []]) (by kernel_rfl) ⟨h1, trivial⟩ get_impl_ForestsOfPair (by decide)

/-! ### spec_foHanging -/


def spec_foHanging_L0a (x0 : ByteArray) (xo3 : (List ByteArray)) : St := mkSt 21 [(0, .s (.v .str x0)), (3, .s (.osl 3 0))] [(3, .row t_string .str xo3 0 false)]

def spec_foHanging_L0X1 (y0 : ByteArray) (y8 : Bool) (yo3 : (List ByteArray)) : St := mkSt 21 [(0, .s (.v .str y0)), (3, .s (.osl 3 0)), (8, .s (.v .bool y8))] [(3, .row t_string .str yo3 0 false)]

theorem spec_foHanging_L0a_x1 (x0 : ByteArray) (xo3 : (List ByteArray))
    (h1 : SC cfg.P i_spec_trLeaf [.s (.v .str x0)] (.s (.v .bool true)) []) :
    LoopSC cfg.P 1 (lb P_spec_foHanging 0) (spec_foHanging_L0a x0 xo3) (.exit 0) (spec_foHanging_L0X1 x0 false xo3) :=
  loop_out cfgOK (f := i_spec_foHanging) (its := [.res (.s (.v .bool true)) [] [] []])
    (ps := [SC cfg.P i_spec_trLeaf [.s (.v .str x0)] (.s (.v .bool true)) []]) (by kernel_rfl) ⟨h1, trivial⟩ (fun h => by cases h)

theorem spec_foHanging_L0a_i2 (x0 : ByteArray) (xo3 : (List ByteArray)) (dc2a : ByteArray) (dc2b : ByteArray)
    (h1 : SC cfg.P i_spec_trLeaf [.s (.v .str x0)] (.s (.v .bool false)) [])
    (h2 : SC cfg.P i_spec_trSides [.s (.v .str x0)] (.tup [.v .str dc2a, .v .str dc2b]) [])
    (h3 : sizeOK (List.length xo3 + List.length ([dc2a] : List ByteArray)))
    {e : AEx} {st : St} (next : LoopSC cfg.P 1 (lb P_spec_foHanging 0) (spec_foHanging_L0a dc2b (xo3 ++ ([dc2a] : List ByteArray))) e st) :
    LoopSC cfg.P 1 (lb P_spec_foHanging 0) (spec_foHanging_L0a x0 xo3) e st :=
  loop_iter cfgOK (f := i_spec_foHanging) (its := [.res (.s (.v .bool false)) [] [] [], .res (.tup [.v .str dc2a, .v .str dc2b]) [] [] []])
    (ps := [SC cfg.P i_spec_trLeaf [.s (.v .str x0)] (.s (.v .bool false)) [],
      SC cfg.P i_spec_trSides [.s (.v .str x0)] (.tup [.v .str dc2a, .v .str dc2b]) [],
      sizeOK (List.length xo3 + List.length ([dc2a] : List ByteArray))]) (st1 := spec_foHanging_L0a dc2b (xo3 ++ ([dc2a] : List ByteArray))) (by kernel_rfl) ⟨h1, h2, h3, trivial⟩ next

theorem spec_foHanging_p1 (a0 : ByteArray) (k1y0 : ByteArray) (k1y8 : Bool) (k1yo3 : (List ByteArray)) (c1 : (List ByteArray))
    (h1 : LoopSC cfg.P 1 (lb P_spec_foHanging 0) (spec_foHanging_L0a a0 ([] : List ByteArray)) (.exit 0) (spec_foHanging_L0X1 k1y0 k1y8 k1yo3))
    (h2 : SC cfg.P i_spec_wdShort [.s (.v (.sl .str) k1yo3)] (.s (.own t_string .str c1)) []) :
    SC cfg.P i_spec_foHanging [.s (.v .str a0)] (.s (.own t_string .str c1)) [] :=
  SC_of_run cfgOK (its := [.loop (fun _ => (.exit 0, spec_foHanging_L0X1 k1y0 k1y8 k1yo3)), .res (.s (.own t_string .str c1)) [] [] [20]])
    (ps := [LoopSC cfg.P 1 (lb P_spec_foHanging 0) (spec_foHanging_L0a a0 ([] : List ByteArray)) (.exit 0) (spec_foHanging_L0X1 k1y0 k1y8 k1yo3),
      SC cfg.P i_spec_wdShort [.s (.v (.sl .str) k1yo3)] (.s (.own t_string .str c1)) []]) (by kernel_rfl) ⟨h1, h2, trivial⟩ get_spec_foHanging (by decide)

/-! ### impl_hanging -/


def impl_hanging_L0a (x0 : Tr) (xo3 : (List Tr)) : St := mkSt 19 [(0, .s (.v .tree x0)), (3, .s (.osl 3 0))] [(3, .row t_pimpl_node .tree xo3 0 false)]

def impl_hanging_L0X1 (y0 : Tr) (y5 : Bool) (yo3 : (List Tr)) : St := mkSt 19 [(0, .s (.v .tree y0)), (3, .s (.osl 3 0)), (5, .s (.v .bool y5))] [(3, .row t_pimpl_node .tree yo3 0 false)]

theorem impl_hanging_L0a_x1 (xo3 : (List Tr))
     :
    LoopSC cfg.P 1 (lb P_impl_hanging 0) (impl_hanging_L0a Tr.leaf xo3) (.exit 0) (impl_hanging_L0X1 Tr.leaf false xo3) :=
  loop_out cfgOK (f := i_impl_hanging) (its := [.bool false])
    (ps := [(!Tr.leaf.isLeaf) = false]) (by kernel_rfl) ⟨rfl, trivial⟩ (fun h => by cases h)

theorem impl_hanging_L0a_i2 (x0l : Tr) (x0r : Tr) (xo3 : (List Tr))
    (h1 : sizeOK (List.length xo3 + List.length ([x0l] : List Tr)))
    {e : AEx} {st : St} (next : LoopSC cfg.P 1 (lb P_impl_hanging 0) (impl_hanging_L0a x0r (xo3 ++ ([x0l] : List Tr))) e st) :
    LoopSC cfg.P 1 (lb P_impl_hanging 0) (impl_hanging_L0a (Tr.node x0l x0r) xo3) e st :=
  loop_iter cfgOK (f := i_impl_hanging) (its := [.bool true])
    (ps := [(!(Tr.node x0l x0r).isLeaf) = true,
      sizeOK (List.length xo3 + List.length ([x0l] : List Tr))]) (st1 := impl_hanging_L0a x0r (xo3 ++ ([x0l] : List Tr))) (by kernel_rfl) ⟨rfl, h1, trivial⟩ next

theorem impl_hanging_p1 (a0 : Tr) (k1y0 : Tr) (k1y5 : Bool) (k1yo3 : (List Tr)) (c1 : (List Tr))
    (h1 : LoopSC cfg.P 1 (lb P_impl_hanging 0) (impl_hanging_L0a a0 ([] : List Tr)) (.exit 0) (impl_hanging_L0X1 k1y0 k1y5 k1yo3))
    (h2 : SC cfg.P i_impl_forest_trimmed [.s (.v (.sl .tree) k1yo3)] (.s (.v (.sl .tree) c1)) []) :
    SC cfg.P i_impl_hanging [.s (.v .tree a0)] (.s (.v (.sl .tree) c1)) [] :=
  SC_of_run cfgOK (its := [.loop (fun _ => (.exit 0, impl_hanging_L0X1 k1y0 k1y5 k1yo3)), .res (.s (.v (.sl .tree) c1)) [] [] []])
    (ps := [LoopSC cfg.P 1 (lb P_impl_hanging 0) (impl_hanging_L0a a0 ([] : List Tr)) (.exit 0) (impl_hanging_L0X1 k1y0 k1y5 k1yo3),
      SC cfg.P i_impl_forest_trimmed [.s (.v (.sl .tree) k1yo3)] (.s (.v (.sl .tree) c1)) []]) (by kernel_rfl) ⟨h1, h2, trivial⟩ get_impl_hanging (by decide)

end Go.AI
