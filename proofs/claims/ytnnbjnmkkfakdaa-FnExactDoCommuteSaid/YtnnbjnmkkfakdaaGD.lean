/- A part of the road: what it proves stands in its last texts. -/
import Derived.Test.YtnnbjnmkkfakdaaSIds
import Derived.Test.YtnnbjnmkkfakdaaProg
set_option autoImplicit false
set_option maxRecDepth 100000
set_option linter.unusedVariables false
namespace Go.AI
open Go.Proofs

/-! ### laws_FnExactDoCommute -/


theorem laws_FnExactDoCommute_p1 (a0 : (ByteArray × ByteArray)) (a1 : (ByteArray × ByteArray)) (c1 : Int)
    (h1 : SC cfg.P i_laws_szPair [.s (.v (.pr .str .str) a0), .s (.v (.int .i64) (1048576 : Int))] (.s (.v (.int .i64) c1)) [])
    (h2 : c1 < (0 : Int)) :
    SC cfg.P i_laws_FnExactDoCommute [.s (.v (.pr .str .str) a0), .s (.v (.pr .str .str) a1)] (.s (.v .bool true)) [] :=
  SC_of_run cfgOK (its := [.res (.s (.v (.int .i64) c1)) [] [] [], .bool true])
    (ps := [SC cfg.P i_laws_szPair [.s (.v (.pr .str .str) a0), .s (.v (.int .i64) (1048576 : Int))] (.s (.v (.int .i64) c1)) [],
      decide (c1 < (0 : Int)) = true]) (by kernel_rfl) ⟨h1, (decide_eq_true h2), trivial⟩ get_laws_FnExactDoCommute (by decide)

theorem laws_FnExactDoCommute_p2 (a0 : (ByteArray × ByteArray)) (a1 : (ByteArray × ByteArray)) (c1 : Int) (c2 : Int)
    (h1 : SC cfg.P i_laws_szPair [.s (.v (.pr .str .str) a0), .s (.v (.int .i64) (1048576 : Int))] (.s (.v (.int .i64) c1)) [])
    (h2 : ¬ (c1 < (0 : Int)))
    (h3 : SC cfg.P i_laws_szPair [.s (.v (.pr .str .str) a1), .s (.v (.int .i64) c1)] (.s (.v (.int .i64) c2)) [])
    (h4 : c2 < (0 : Int)) :
    SC cfg.P i_laws_FnExactDoCommute [.s (.v (.pr .str .str) a0), .s (.v (.pr .str .str) a1)] (.s (.v .bool true)) [] :=
  SC_of_run cfgOK (its := [.res (.s (.v (.int .i64) c1)) [] [] [], .bool false, .res (.s (.v (.int .i64) c2)) [] [] [], .bool true])
    (ps := [SC cfg.P i_laws_szPair [.s (.v (.pr .str .str) a0), .s (.v (.int .i64) (1048576 : Int))] (.s (.v (.int .i64) c1)) [],
      decide (c1 < (0 : Int)) = false,
      SC cfg.P i_laws_szPair [.s (.v (.pr .str .str) a1), .s (.v (.int .i64) c1)] (.s (.v (.int .i64) c2)) [],
      decide (c2 < (0 : Int)) = true]) (by kernel_rfl) ⟨h1, (decide_eq_false h2), h3, (decide_eq_true h4), trivial⟩ get_laws_FnExactDoCommute (by decide)

theorem laws_FnExactDoCommute_p3 (a0 : (ByteArray × ByteArray)) (a1 : (ByteArray × ByteArray)) (c1 : Int) (c2 : Int) (c3 : (ByteArray × ByteArray)) (c4 : (ByteArray × ByteArray)) (c5a : Bool) (c5b : Bool) (c6 : (ByteArray × ByteArray)) (c7 : (ByteArray × ByteArray)) (c8a : Bool) (c8b : Bool)
    (h1 : SC cfg.P i_laws_szPair [.s (.v (.pr .str .str) a0), .s (.v (.int .i64) (1048576 : Int))] (.s (.v (.int .i64) c1)) [])
    (h2 : ¬ (c1 < (0 : Int)))
    (h3 : SC cfg.P i_laws_szPair [.s (.v (.pr .str .str) a1), .s (.v (.int .i64) c1)] (.s (.v (.int .i64) c2)) [])
    (h4 : ¬ (c2 < (0 : Int)))
    (h5 : SC cfg.P i_laws_toPair [.s (.v (.pr .str .str) a0)] (.s (.v (.pr .str .str) c3)) [])
    (h6 : SC cfg.P i_laws_toPair [.s (.v (.pr .str .str) a1)] (.s (.v (.pr .str .str) c4)) [])
    (h7 : SC cfg.P i_spec_DoCommute [.s (.v (.pr .str .str) c3), .s (.v (.pr .str .str) c4)] (.tup [.v .bool c5a, .v .bool c5b]) [])
    (h8 : SC cfg.P i_laws_toPair [.s (.v (.pr .str .str) a0)] (.s (.v (.pr .str .str) c6)) [])
    (h9 : SC cfg.P i_laws_toPair [.s (.v (.pr .str .str) a1)] (.s (.v (.pr .str .str) c7)) [])
    (h10 : SC cfg.P i_impl_DoCommute [.s (.v (.pr .str .str) c6), .s (.v (.pr .str .str) c7)] (.tup [.v .bool c8a, .v .bool c8b]) [])
    (h11 : (!(c8a == c5a)) = false)
    (h12 : (!(c8b == c5b)) = false) :
    SC cfg.P i_laws_FnExactDoCommute [.s (.v (.pr .str .str) a0), .s (.v (.pr .str .str) a1)] (.s (.v .bool true)) [] :=
  SC_of_run cfgOK (its := [.res (.s (.v (.int .i64) c1)) [] [] [], .bool false, .res (.s (.v (.int .i64) c2)) [] [] [], .bool false, .res (.s (.v (.pr .str .str) c3)) [] [] [], .res (.s (.v (.pr .str .str) c4)) [] [] [], .res (.tup [.v .bool c5a, .v .bool c5b]) [] [] [], .res (.s (.v (.pr .str .str) c6)) [] [] [], .res (.s (.v (.pr .str .str) c7)) [] [] [], .res (.tup [.v .bool c8a, .v .bool c8b]) [] [] [], .bool false, .bool false])
    (ps := [SC cfg.P i_laws_szPair [.s (.v (.pr .str .str) a0), .s (.v (.int .i64) (1048576 : Int))] (.s (.v (.int .i64) c1)) [],
      decide (c1 < (0 : Int)) = false,
      SC cfg.P i_laws_szPair [.s (.v (.pr .str .str) a1), .s (.v (.int .i64) c1)] (.s (.v (.int .i64) c2)) [],
      decide (c2 < (0 : Int)) = false,
      SC cfg.P i_laws_toPair [.s (.v (.pr .str .str) a0)] (.s (.v (.pr .str .str) c3)) [],
      SC cfg.P i_laws_toPair [.s (.v (.pr .str .str) a1)] (.s (.v (.pr .str .str) c4)) [],
      SC cfg.P i_spec_DoCommute [.s (.v (.pr .str .str) c3), .s (.v (.pr .str .str) c4)] (.tup [.v .bool c5a, .v .bool c5b]) [],
      SC cfg.P i_laws_toPair [.s (.v (.pr .str .str) a0)] (.s (.v (.pr .str .str) c6)) [],
      SC cfg.P i_laws_toPair [.s (.v (.pr .str .str) a1)] (.s (.v (.pr .str .str) c7)) [],
      SC cfg.P i_impl_DoCommute [.s (.v (.pr .str .str) c6), .s (.v (.pr .str .str) c7)] (.tup [.v .bool c8a, .v .bool c8b]) [],
      (!(c8a == c5a)) = false,
      (!(c8b == c5b)) = false]) (by kernel_rfl) ⟨h1, (decide_eq_false h2), h3, (decide_eq_false h4), h5, h6, h7, h8, h9, h10, h11, h12, trivial⟩ get_laws_FnExactDoCommute (by decide)

/-! ### spec_DoCommute -/


theorem spec_DoCommute_p1 (a0 : (ByteArray × ByteArray)) (a1 : (ByteArray × ByteArray)) (c3 : (ByteArray × ByteArray)) (c4a : (ByteArray × ByteArray)) (c5 : (ByteArray × ByteArray)) (c6a : (ByteArray × ByteArray))
    (h1 : SC cfg.P i_spec_prGood [.s (.v (.pr .str .str) a0)] (.s (.v .bool true)) [])
    (h2 : SC cfg.P i_spec_prGood [.s (.v (.pr .str .str) a1)] (.s (.v .bool true)) [])
    (h3 : SC cfg.P i_spec_prTimes [.s (.v (.pr .str .str) a0), .s (.v (.pr .str .str) a1)] (.s (.v (.pr .str .str) c3)) [])
    (h4 : SC cfg.P i_spec_prIf [.s (.v (.pr .str .str) c3)] (.tup [.v (.pr .str .str) c4a, .v .bool true]) [])
    (h5 : SC cfg.P i_spec_prTimes [.s (.v (.pr .str .str) a1), .s (.v (.pr .str .str) a0)] (.s (.v (.pr .str .str) c5)) [])
    (h6 : SC cfg.P i_spec_prIf [.s (.v (.pr .str .str) c5)] (.tup [.v (.pr .str .str) c6a, .v .bool true]) [])
    (h7 : (((c4a.1).toList == (c6a.1).toList) && ((c4a.2).toList == (c6a.2).toList)) = true) :
    SC cfg.P i_spec_DoCommute [.s (.v (.pr .str .str) a0), .s (.v (.pr .str .str) a1)] (.tup [.v .bool true, .v .bool true]) [] :=
  SC_of_run cfgOK (its := [.res (.s (.v .bool true)) [] [] [], .res (.s (.v .bool true)) [] [] [], .res (.s (.v (.pr .str .str) c3)) [] [] [], .res (.tup [.v (.pr .str .str) c4a, .v .bool true]) [] [] [], .res (.s (.v (.pr .str .str) c5)) [] [] [], .res (.tup [.v (.pr .str .str) c6a, .v .bool true]) [] [] [], .bool true])
    (ps := [SC cfg.P i_spec_prGood [.s (.v (.pr .str .str) a0)] (.s (.v .bool true)) [],
      SC cfg.P i_spec_prGood [.s (.v (.pr .str .str) a1)] (.s (.v .bool true)) [],
      SC cfg.P i_spec_prTimes [.s (.v (.pr .str .str) a0), .s (.v (.pr .str .str) a1)] (.s (.v (.pr .str .str) c3)) [],
      SC cfg.P i_spec_prIf [.s (.v (.pr .str .str) c3)] (.tup [.v (.pr .str .str) c4a, .v .bool true]) [],
      SC cfg.P i_spec_prTimes [.s (.v (.pr .str .str) a1), .s (.v (.pr .str .str) a0)] (.s (.v (.pr .str .str) c5)) [],
      SC cfg.P i_spec_prIf [.s (.v (.pr .str .str) c5)] (.tup [.v (.pr .str .str) c6a, .v .bool true]) [],
      (((c4a.1).toList == (c6a.1).toList) && ((c4a.2).toList == (c6a.2).toList)) = true]) (by kernel_rfl) ⟨h1, h2, h3, h4, h5, h6, h7, trivial⟩ get_spec_DoCommute (by decide)

theorem spec_DoCommute_p2 (a0 : (ByteArray × ByteArray)) (a1 : (ByteArray × ByteArray)) (c3 : (ByteArray × ByteArray)) (c4a : (ByteArray × ByteArray)) (c5 : (ByteArray × ByteArray)) (c6a : (ByteArray × ByteArray))
    (h1 : SC cfg.P i_spec_prGood [.s (.v (.pr .str .str) a0)] (.s (.v .bool true)) [])
    (h2 : SC cfg.P i_spec_prGood [.s (.v (.pr .str .str) a1)] (.s (.v .bool true)) [])
    (h3 : SC cfg.P i_spec_prTimes [.s (.v (.pr .str .str) a0), .s (.v (.pr .str .str) a1)] (.s (.v (.pr .str .str) c3)) [])
    (h4 : SC cfg.P i_spec_prIf [.s (.v (.pr .str .str) c3)] (.tup [.v (.pr .str .str) c4a, .v .bool true]) [])
    (h5 : SC cfg.P i_spec_prTimes [.s (.v (.pr .str .str) a1), .s (.v (.pr .str .str) a0)] (.s (.v (.pr .str .str) c5)) [])
    (h6 : SC cfg.P i_spec_prIf [.s (.v (.pr .str .str) c5)] (.tup [.v (.pr .str .str) c6a, .v .bool true]) [])
    (h7 : (((c4a.1).toList == (c6a.1).toList) && ((c4a.2).toList == (c6a.2).toList)) = false) :
    SC cfg.P i_spec_DoCommute [.s (.v (.pr .str .str) a0), .s (.v (.pr .str .str) a1)] (.tup [.v .bool false, .v .bool true]) [] :=
  SC_of_run cfgOK (its := [.res (.s (.v .bool true)) [] [] [], .res (.s (.v .bool true)) [] [] [], .res (.s (.v (.pr .str .str) c3)) [] [] [], .res (.tup [.v (.pr .str .str) c4a, .v .bool true]) [] [] [], .res (.s (.v (.pr .str .str) c5)) [] [] [], .res (.tup [.v (.pr .str .str) c6a, .v .bool true]) [] [] [], .bool false])
    (ps := [SC cfg.P i_spec_prGood [.s (.v (.pr .str .str) a0)] (.s (.v .bool true)) [],
      SC cfg.P i_spec_prGood [.s (.v (.pr .str .str) a1)] (.s (.v .bool true)) [],
      SC cfg.P i_spec_prTimes [.s (.v (.pr .str .str) a0), .s (.v (.pr .str .str) a1)] (.s (.v (.pr .str .str) c3)) [],
      SC cfg.P i_spec_prIf [.s (.v (.pr .str .str) c3)] (.tup [.v (.pr .str .str) c4a, .v .bool true]) [],
      SC cfg.P i_spec_prTimes [.s (.v (.pr .str .str) a1), .s (.v (.pr .str .str) a0)] (.s (.v (.pr .str .str) c5)) [],
      SC cfg.P i_spec_prIf [.s (.v (.pr .str .str) c5)] (.tup [.v (.pr .str .str) c6a, .v .bool true]) [],
      (((c4a.1).toList == (c6a.1).toList) && ((c4a.2).toList == (c6a.2).toList)) = false]) (by kernel_rfl) ⟨h1, h2, h3, h4, h5, h6, h7, trivial⟩ get_spec_DoCommute (by decide)

theorem spec_DoCommute_p3 (a0 : (ByteArray × ByteArray)) (a1 : (ByteArray × ByteArray)) (c3 : (ByteArray × ByteArray)) (c4a : (ByteArray × ByteArray)) (c5 : (ByteArray × ByteArray)) (c6a : (ByteArray × ByteArray))
    (h1 : SC cfg.P i_spec_prGood [.s (.v (.pr .str .str) a0)] (.s (.v .bool true)) [])
    (h2 : SC cfg.P i_spec_prGood [.s (.v (.pr .str .str) a1)] (.s (.v .bool true)) [])
    (h3 : SC cfg.P i_spec_prTimes [.s (.v (.pr .str .str) a0), .s (.v (.pr .str .str) a1)] (.s (.v (.pr .str .str) c3)) [])
    (h4 : SC cfg.P i_spec_prIf [.s (.v (.pr .str .str) c3)] (.tup [.v (.pr .str .str) c4a, .v .bool true]) [])
    (h5 : SC cfg.P i_spec_prTimes [.s (.v (.pr .str .str) a1), .s (.v (.pr .str .str) a0)] (.s (.v (.pr .str .str) c5)) [])
    (h6 : SC cfg.P i_spec_prIf [.s (.v (.pr .str .str) c5)] (.tup [.v (.pr .str .str) c6a, .v .bool false]) []) :
    SC cfg.P i_spec_DoCommute [.s (.v (.pr .str .str) a0), .s (.v (.pr .str .str) a1)] (.tup [.v .bool false, .v .bool false]) [] :=
  SC_of_run cfgOK (its := [.res (.s (.v .bool true)) [] [] [], .res (.s (.v .bool true)) [] [] [], .res (.s (.v (.pr .str .str) c3)) [] [] [], .res (.tup [.v (.pr .str .str) c4a, .v .bool true]) [] [] [], .res (.s (.v (.pr .str .str) c5)) [] [] [], .res (.tup [.v (.pr .str .str) c6a, .v .bool false]) [] [] []])
    (ps := [SC cfg.P i_spec_prGood [.s (.v (.pr .str .str) a0)] (.s (.v .bool true)) [],
      SC cfg.P i_spec_prGood [.s (.v (.pr .str .str) a1)] (.s (.v .bool true)) [],
      SC cfg.P i_spec_prTimes [.s (.v (.pr .str .str) a0), .s (.v (.pr .str .str) a1)] (.s (.v (.pr .str .str) c3)) [],
      SC cfg.P i_spec_prIf [.s (.v (.pr .str .str) c3)] (.tup [.v (.pr .str .str) c4a, .v .bool true]) [],
      SC cfg.P i_spec_prTimes [.s (.v (.pr .str .str) a1), .s (.v (.pr .str .str) a0)] (.s (.v (.pr .str .str) c5)) [],
      SC cfg.P i_spec_prIf [.s (.v (.pr .str .str) c5)] (.tup [.v (.pr .str .str) c6a, .v .bool false]) []]) (by kernel_rfl) ⟨h1, h2, h3, h4, h5, h6, trivial⟩ get_spec_DoCommute (by decide)

theorem spec_DoCommute_p4 (a0 : (ByteArray × ByteArray)) (a1 : (ByteArray × ByteArray)) (c3 : (ByteArray × ByteArray)) (c4a : (ByteArray × ByteArray)) (c5 : (ByteArray × ByteArray)) (c6a : (ByteArray × ByteArray)) (c6b : Bool)
    (h1 : SC cfg.P i_spec_prGood [.s (.v (.pr .str .str) a0)] (.s (.v .bool true)) [])
    (h2 : SC cfg.P i_spec_prGood [.s (.v (.pr .str .str) a1)] (.s (.v .bool true)) [])
    (h3 : SC cfg.P i_spec_prTimes [.s (.v (.pr .str .str) a0), .s (.v (.pr .str .str) a1)] (.s (.v (.pr .str .str) c3)) [])
    (h4 : SC cfg.P i_spec_prIf [.s (.v (.pr .str .str) c3)] (.tup [.v (.pr .str .str) c4a, .v .bool false]) [])
    (h5 : SC cfg.P i_spec_prTimes [.s (.v (.pr .str .str) a1), .s (.v (.pr .str .str) a0)] (.s (.v (.pr .str .str) c5)) [])
    (h6 : SC cfg.P i_spec_prIf [.s (.v (.pr .str .str) c5)] (.tup [.v (.pr .str .str) c6a, .v .bool c6b]) []) :
    SC cfg.P i_spec_DoCommute [.s (.v (.pr .str .str) a0), .s (.v (.pr .str .str) a1)] (.tup [.v .bool false, .v .bool false]) [] :=
  SC_of_run cfgOK (its := [.res (.s (.v .bool true)) [] [] [], .res (.s (.v .bool true)) [] [] [], .res (.s (.v (.pr .str .str) c3)) [] [] [], .res (.tup [.v (.pr .str .str) c4a, .v .bool false]) [] [] [], .res (.s (.v (.pr .str .str) c5)) [] [] [], .res (.tup [.v (.pr .str .str) c6a, .v .bool c6b]) [] [] []])
    (ps := [SC cfg.P i_spec_prGood [.s (.v (.pr .str .str) a0)] (.s (.v .bool true)) [],
      SC cfg.P i_spec_prGood [.s (.v (.pr .str .str) a1)] (.s (.v .bool true)) [],
      SC cfg.P i_spec_prTimes [.s (.v (.pr .str .str) a0), .s (.v (.pr .str .str) a1)] (.s (.v (.pr .str .str) c3)) [],
      SC cfg.P i_spec_prIf [.s (.v (.pr .str .str) c3)] (.tup [.v (.pr .str .str) c4a, .v .bool false]) [],
      SC cfg.P i_spec_prTimes [.s (.v (.pr .str .str) a1), .s (.v (.pr .str .str) a0)] (.s (.v (.pr .str .str) c5)) [],
      SC cfg.P i_spec_prIf [.s (.v (.pr .str .str) c5)] (.tup [.v (.pr .str .str) c6a, .v .bool c6b]) []]) (by kernel_rfl) ⟨h1, h2, h3, h4, h5, h6, trivial⟩ get_spec_DoCommute (by decide)

theorem spec_DoCommute_p5 (a0 : (ByteArray × ByteArray)) (a1 : (ByteArray × ByteArray))
    (h1 : SC cfg.P i_spec_prGood [.s (.v (.pr .str .str) a0)] (.s (.v .bool true)) [])
    (h2 : SC cfg.P i_spec_prGood [.s (.v (.pr .str .str) a1)] (.s (.v .bool false)) []) :
    SC cfg.P i_spec_DoCommute [.s (.v (.pr .str .str) a0), .s (.v (.pr .str .str) a1)] (.tup [.v .bool false, .v .bool false]) [] :=
  SC_of_run cfgOK (its := [.res (.s (.v .bool true)) [] [] [], .res (.s (.v .bool false)) [] [] []])
    (ps := [SC cfg.P i_spec_prGood [.s (.v (.pr .str .str) a0)] (.s (.v .bool true)) [],
      SC cfg.P i_spec_prGood [.s (.v (.pr .str .str) a1)] (.s (.v .bool false)) []]) (by kernel_rfl) ⟨h1, h2, trivial⟩ get_spec_DoCommute (by decide)

theorem spec_DoCommute_p6 (a0 : (ByteArray × ByteArray)) (a1 : (ByteArray × ByteArray))
    (h1 : SC cfg.P i_spec_prGood [.s (.v (.pr .str .str) a0)] (.s (.v .bool false)) []) :
    SC cfg.P i_spec_DoCommute [.s (.v (.pr .str .str) a0), .s (.v (.pr .str .str) a1)] (.tup [.v .bool false, .v .bool false]) [] :=
  SC_of_run cfgOK (its := [.res (.s (.v .bool false)) [] [] []])
    (ps := [SC cfg.P i_spec_prGood [.s (.v (.pr .str .str) a0)] (.s (.v .bool false)) []]) (by kernel_rfl) ⟨h1, trivial⟩ get_spec_DoCommute (by decide)

/-! ### impl_DoCommute -/


theorem impl_DoCommute_p1 (a0 : (ByteArray × ByteArray)) (a1 : (ByteArray × ByteArray)) (c1a : (Tr × Tr)) (c1b : (Tr × Tr)) (c2 : (Tr × Tr)) (c3 : (Tr × Tr)) (c4 : Int)
    (h1 : SC cfg.P i_impl_two [.s (.v (.pr .str .str) a0), .s (.v (.pr .str .str) a1)] (.tup [.v (.pr .tree .tree) c1a, .v (.pr .tree .tree) c1b, .v .bool true]) [])
    (h2 : SC cfg.P i_impl_pair_times [.s (.v (.pr .tree .tree) c1a), .s (.v (.pr .tree .tree) c1b)] (.s (.v (.pr .tree .tree) c2)) [])
    (h3 : SC cfg.P i_impl_pair_times [.s (.v (.pr .tree .tree) c1b), .s (.v (.pr .tree .tree) c1a)] (.s (.v (.pr .tree .tree) c3)) [])
    (h4 : SC cfg.P i_impl_node_carets [.s (.v .tree c2.1)] (.s (.v (.int .i64) c4)) [])
    (h5 : c4 > (8 : Int)) :
    SC cfg.P i_impl_DoCommute [.s (.v (.pr .str .str) a0), .s (.v (.pr .str .str) a1)] (.tup [.v .bool false, .v .bool false]) [] :=
  SC_of_run cfgOK (its := [.res (.tup [.v (.pr .tree .tree) c1a, .v (.pr .tree .tree) c1b, .v .bool true]) [] [] [], .res (.s (.v (.pr .tree .tree) c2)) [] [] [], .res (.s (.v (.pr .tree .tree) c3)) [] [] [], .res (.s (.v (.int .i64) c4)) [] [] [], .bool true])
    (ps := [SC cfg.P i_impl_two [.s (.v (.pr .str .str) a0), .s (.v (.pr .str .str) a1)] (.tup [.v (.pr .tree .tree) c1a, .v (.pr .tree .tree) c1b, .v .bool true]) [],
      SC cfg.P i_impl_pair_times [.s (.v (.pr .tree .tree) c1a), .s (.v (.pr .tree .tree) c1b)] (.s (.v (.pr .tree .tree) c2)) [],
      SC cfg.P i_impl_pair_times [.s (.v (.pr .tree .tree) c1b), .s (.v (.pr .tree .tree) c1a)] (.s (.v (.pr .tree .tree) c3)) [],
      SC cfg.P i_impl_node_carets [.s (.v .tree c2.1)] (.s (.v (.int .i64) c4)) [],
      decide (c4 > (8 : Int)) = true]) (by kernel_rfl) ⟨h1, h2, h3, h4, (decide_eq_true h5), trivial⟩ get_impl_DoCommute (by decide)

theorem impl_DoCommute_p2 (a0 : (ByteArray × ByteArray)) (a1 : (ByteArray × ByteArray)) (c1a : (Tr × Tr)) (c1b : (Tr × Tr)) (c2 : (Tr × Tr)) (c3 : (Tr × Tr)) (c4 : Int) (c5 : Int)
    (h1 : SC cfg.P i_impl_two [.s (.v (.pr .str .str) a0), .s (.v (.pr .str .str) a1)] (.tup [.v (.pr .tree .tree) c1a, .v (.pr .tree .tree) c1b, .v .bool true]) [])
    (h2 : SC cfg.P i_impl_pair_times [.s (.v (.pr .tree .tree) c1a), .s (.v (.pr .tree .tree) c1b)] (.s (.v (.pr .tree .tree) c2)) [])
    (h3 : SC cfg.P i_impl_pair_times [.s (.v (.pr .tree .tree) c1b), .s (.v (.pr .tree .tree) c1a)] (.s (.v (.pr .tree .tree) c3)) [])
    (h4 : SC cfg.P i_impl_node_carets [.s (.v .tree c2.1)] (.s (.v (.int .i64) c4)) [])
    (h5 : ¬ (c4 > (8 : Int)))
    (h6 : SC cfg.P i_impl_node_carets [.s (.v .tree c3.1)] (.s (.v (.int .i64) c5)) [])
    (h7 : c5 > (8 : Int)) :
    SC cfg.P i_impl_DoCommute [.s (.v (.pr .str .str) a0), .s (.v (.pr .str .str) a1)] (.tup [.v .bool false, .v .bool false]) [] :=
  SC_of_run cfgOK (its := [.res (.tup [.v (.pr .tree .tree) c1a, .v (.pr .tree .tree) c1b, .v .bool true]) [] [] [], .res (.s (.v (.pr .tree .tree) c2)) [] [] [], .res (.s (.v (.pr .tree .tree) c3)) [] [] [], .res (.s (.v (.int .i64) c4)) [] [] [], .bool false, .res (.s (.v (.int .i64) c5)) [] [] [], .bool true])
    (ps := [SC cfg.P i_impl_two [.s (.v (.pr .str .str) a0), .s (.v (.pr .str .str) a1)] (.tup [.v (.pr .tree .tree) c1a, .v (.pr .tree .tree) c1b, .v .bool true]) [],
      SC cfg.P i_impl_pair_times [.s (.v (.pr .tree .tree) c1a), .s (.v (.pr .tree .tree) c1b)] (.s (.v (.pr .tree .tree) c2)) [],
      SC cfg.P i_impl_pair_times [.s (.v (.pr .tree .tree) c1b), .s (.v (.pr .tree .tree) c1a)] (.s (.v (.pr .tree .tree) c3)) [],
      SC cfg.P i_impl_node_carets [.s (.v .tree c2.1)] (.s (.v (.int .i64) c4)) [],
      decide (c4 > (8 : Int)) = false,
      SC cfg.P i_impl_node_carets [.s (.v .tree c3.1)] (.s (.v (.int .i64) c5)) [],
      decide (c5 > (8 : Int)) = true]) (by kernel_rfl) ⟨h1, h2, h3, h4, (decide_eq_false h5), h6, (decide_eq_true h7), trivial⟩ get_impl_DoCommute (by decide)

theorem impl_DoCommute_p3 (a0 : (ByteArray × ByteArray)) (a1 : (ByteArray × ByteArray)) (c1a : (Tr × Tr)) (c1b : (Tr × Tr)) (c2 : (Tr × Tr)) (c3 : (Tr × Tr)) (c4 : Int) (c5 : Int) (c6 : ByteArray) (c7 : ByteArray)
    (h1 : SC cfg.P i_impl_two [.s (.v (.pr .str .str) a0), .s (.v (.pr .str .str) a1)] (.tup [.v (.pr .tree .tree) c1a, .v (.pr .tree .tree) c1b, .v .bool true]) [])
    (h2 : SC cfg.P i_impl_pair_times [.s (.v (.pr .tree .tree) c1a), .s (.v (.pr .tree .tree) c1b)] (.s (.v (.pr .tree .tree) c2)) [])
    (h3 : SC cfg.P i_impl_pair_times [.s (.v (.pr .tree .tree) c1b), .s (.v (.pr .tree .tree) c1a)] (.s (.v (.pr .tree .tree) c3)) [])
    (h4 : SC cfg.P i_impl_node_carets [.s (.v .tree c2.1)] (.s (.v (.int .i64) c4)) [])
    (h5 : ¬ (c4 > (8 : Int)))
    (h6 : SC cfg.P i_impl_node_carets [.s (.v .tree c3.1)] (.s (.v (.int .i64) c5)) [])
    (h7 : ¬ (c5 > (8 : Int)))
    (h8 : SC cfg.P i_impl_pair_text [.s (.v (.pr .tree .tree) c2)] (.s (.v .str c6)) [])
    (h9 : SC cfg.P i_impl_pair_text [.s (.v (.pr .tree .tree) c3)] (.s (.v .str c7)) [])
    (h10 : c6 = c7) :
    SC cfg.P i_impl_DoCommute [.s (.v (.pr .str .str) a0), .s (.v (.pr .str .str) a1)] (.tup [.v .bool true, .v .bool true]) [] :=
  SC_of_run cfgOK (its := [.res (.tup [.v (.pr .tree .tree) c1a, .v (.pr .tree .tree) c1b, .v .bool true]) [] [] [], .res (.s (.v (.pr .tree .tree) c2)) [] [] [], .res (.s (.v (.pr .tree .tree) c3)) [] [] [], .res (.s (.v (.int .i64) c4)) [] [] [], .bool false, .res (.s (.v (.int .i64) c5)) [] [] [], .bool false, .res (.s (.v .str c6)) [] [] [], .res (.s (.v .str c7)) [] [] [], .bool true])
    (ps := [SC cfg.P i_impl_two [.s (.v (.pr .str .str) a0), .s (.v (.pr .str .str) a1)] (.tup [.v (.pr .tree .tree) c1a, .v (.pr .tree .tree) c1b, .v .bool true]) [],
      SC cfg.P i_impl_pair_times [.s (.v (.pr .tree .tree) c1a), .s (.v (.pr .tree .tree) c1b)] (.s (.v (.pr .tree .tree) c2)) [],
      SC cfg.P i_impl_pair_times [.s (.v (.pr .tree .tree) c1b), .s (.v (.pr .tree .tree) c1a)] (.s (.v (.pr .tree .tree) c3)) [],
      SC cfg.P i_impl_node_carets [.s (.v .tree c2.1)] (.s (.v (.int .i64) c4)) [],
      decide (c4 > (8 : Int)) = false,
      SC cfg.P i_impl_node_carets [.s (.v .tree c3.1)] (.s (.v (.int .i64) c5)) [],
      decide (c5 > (8 : Int)) = false,
      SC cfg.P i_impl_pair_text [.s (.v (.pr .tree .tree) c2)] (.s (.v .str c6)) [],
      SC cfg.P i_impl_pair_text [.s (.v (.pr .tree .tree) c3)] (.s (.v .str c7)) [],
      ((c6).toList == (c7).toList) = true]) (by kernel_rfl) ⟨h1, h2, h3, h4, (decide_eq_false h5), h6, (decide_eq_false h7), h8, h9, (seq_t h10), trivial⟩ get_impl_DoCommute (by decide)

theorem impl_DoCommute_p4 (a0 : (ByteArray × ByteArray)) (a1 : (ByteArray × ByteArray)) (c1a : (Tr × Tr)) (c1b : (Tr × Tr)) (c2 : (Tr × Tr)) (c3 : (Tr × Tr)) (c4 : Int) (c5 : Int) (c6 : ByteArray) (c7 : ByteArray)
    (h1 : SC cfg.P i_impl_two [.s (.v (.pr .str .str) a0), .s (.v (.pr .str .str) a1)] (.tup [.v (.pr .tree .tree) c1a, .v (.pr .tree .tree) c1b, .v .bool true]) [])
    (h2 : SC cfg.P i_impl_pair_times [.s (.v (.pr .tree .tree) c1a), .s (.v (.pr .tree .tree) c1b)] (.s (.v (.pr .tree .tree) c2)) [])
    (h3 : SC cfg.P i_impl_pair_times [.s (.v (.pr .tree .tree) c1b), .s (.v (.pr .tree .tree) c1a)] (.s (.v (.pr .tree .tree) c3)) [])
    (h4 : SC cfg.P i_impl_node_carets [.s (.v .tree c2.1)] (.s (.v (.int .i64) c4)) [])
    (h5 : ¬ (c4 > (8 : Int)))
    (h6 : SC cfg.P i_impl_node_carets [.s (.v .tree c3.1)] (.s (.v (.int .i64) c5)) [])
    (h7 : ¬ (c5 > (8 : Int)))
    (h8 : SC cfg.P i_impl_pair_text [.s (.v (.pr .tree .tree) c2)] (.s (.v .str c6)) [])
    (h9 : SC cfg.P i_impl_pair_text [.s (.v (.pr .tree .tree) c3)] (.s (.v .str c7)) [])
    (h10 : c6 ≠ c7) :
    SC cfg.P i_impl_DoCommute [.s (.v (.pr .str .str) a0), .s (.v (.pr .str .str) a1)] (.tup [.v .bool false, .v .bool true]) [] :=
  SC_of_run cfgOK (its := [.res (.tup [.v (.pr .tree .tree) c1a, .v (.pr .tree .tree) c1b, .v .bool true]) [] [] [], .res (.s (.v (.pr .tree .tree) c2)) [] [] [], .res (.s (.v (.pr .tree .tree) c3)) [] [] [], .res (.s (.v (.int .i64) c4)) [] [] [], .bool false, .res (.s (.v (.int .i64) c5)) [] [] [], .bool false, .res (.s (.v .str c6)) [] [] [], .res (.s (.v .str c7)) [] [] [], .bool false])
    (ps := [SC cfg.P i_impl_two [.s (.v (.pr .str .str) a0), .s (.v (.pr .str .str) a1)] (.tup [.v (.pr .tree .tree) c1a, .v (.pr .tree .tree) c1b, .v .bool true]) [],
      SC cfg.P i_impl_pair_times [.s (.v (.pr .tree .tree) c1a), .s (.v (.pr .tree .tree) c1b)] (.s (.v (.pr .tree .tree) c2)) [],
      SC cfg.P i_impl_pair_times [.s (.v (.pr .tree .tree) c1b), .s (.v (.pr .tree .tree) c1a)] (.s (.v (.pr .tree .tree) c3)) [],
      SC cfg.P i_impl_node_carets [.s (.v .tree c2.1)] (.s (.v (.int .i64) c4)) [],
      decide (c4 > (8 : Int)) = false,
      SC cfg.P i_impl_node_carets [.s (.v .tree c3.1)] (.s (.v (.int .i64) c5)) [],
      decide (c5 > (8 : Int)) = false,
      SC cfg.P i_impl_pair_text [.s (.v (.pr .tree .tree) c2)] (.s (.v .str c6)) [],
      SC cfg.P i_impl_pair_text [.s (.v (.pr .tree .tree) c3)] (.s (.v .str c7)) [],
      ((c6).toList == (c7).toList) = false]) (by kernel_rfl) ⟨h1, h2, h3, h4, (decide_eq_false h5), h6, (decide_eq_false h7), h8, h9, (seq_f h10), trivial⟩ get_impl_DoCommute (by decide)

theorem impl_DoCommute_p5 (a0 : (ByteArray × ByteArray)) (a1 : (ByteArray × ByteArray)) (c1a : (Tr × Tr)) (c1b : (Tr × Tr))
    (h1 : SC cfg.P i_impl_two [.s (.v (.pr .str .str) a0), .s (.v (.pr .str .str) a1)] (.tup [.v (.pr .tree .tree) c1a, .v (.pr .tree .tree) c1b, .v .bool false]) []) :
    SC cfg.P i_impl_DoCommute [.s (.v (.pr .str .str) a0), .s (.v (.pr .str .str) a1)] (.tup [.v .bool false, .v .bool false]) [] :=
  SC_of_run cfgOK (its := [.res (.tup [.v (.pr .tree .tree) c1a, .v (.pr .tree .tree) c1b, .v .bool false]) [] [] []])
    (ps := [SC cfg.P i_impl_two [.s (.v (.pr .str .str) a0), .s (.v (.pr .str .str) a1)] (.tup [.v (.pr .tree .tree) c1a, .v (.pr .tree .tree) c1b, .v .bool false]) []]) (by kernel_rfl) ⟨h1, trivial⟩ get_impl_DoCommute (by decide)

/-! ### impl_pair_text -/


theorem impl_pair_text_p1 (a0 : (Tr × Tr)) (c1 : ByteArray) (c2 : ByteArray)
    (h1 : SC cfg.P i_impl_node_text [.s (.v .tree a0.1)] (.s (.v .str c1)) [])
    (h2 : (c1).size + ((⟨#[62]⟩ : ByteArray)).size ≤ 2 ^ 62)
    (h3 : SC cfg.P i_impl_node_text [.s (.v .tree a0.2)] (.s (.v .str c2)) [])
    (h4 : ((c1 ++ (⟨#[62]⟩ : ByteArray))).size + (c2).size ≤ 2 ^ 62) :
    SC cfg.P i_impl_pair_text [.s (.v (.pr .tree .tree) a0)] (.s (.v .str ((c1 ++ (⟨#[62]⟩ : ByteArray)) ++ c2))) [] :=
  SC_of_run cfgOK (its := [.res (.s (.v .str c1)) [] [] [], .res (.s (.v .str c2)) [] [] []])
    (ps := [SC cfg.P i_impl_node_text [.s (.v .tree a0.1)] (.s (.v .str c1)) [],
      (c1).size + ((⟨#[62]⟩ : ByteArray)).size ≤ 2 ^ 62,
      SC cfg.P i_impl_node_text [.s (.v .tree a0.2)] (.s (.v .str c2)) [],
      ((c1 ++ (⟨#[62]⟩ : ByteArray))).size + (c2).size ≤ 2 ^ 62]) (by kernel_rfl) ⟨h1, h2, h3, h4, trivial⟩ get_impl_pair_text (by decide)

end Go.AI
