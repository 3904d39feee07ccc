/- A part of the road: what it proves stands in its last texts. -/
import Derived.Test.YtnnbjnmkkfakdaaSIds
import Derived.Test.YtnnbjnmkkfakdaaProg
set_option autoImplicit false
set_option maxRecDepth 100000
set_option linter.unusedVariables false
namespace Go.AI
open Go.Proofs

/-! ### laws_FnExactDistanceOf -/


theorem laws_FnExactDistanceOf_p1 (a0 : (ByteArray × ByteArray)) (a1 : (ByteArray × ByteArray)) (c1 : Int)
    (h1 : SC cfg.P i_laws_szPair [.s (.v (.pr .str .str) a0), .s (.v (.int .i64) (1048576 : Int))] (.s (.v (.int .i64) c1)) [])
    (h2 : c1 < (0 : Int)) :
    SC cfg.P i_laws_FnExactDistanceOf [.s (.v (.pr .str .str) a0), .s (.v (.pr .str .str) a1)] (.s (.v .bool true)) [] :=
  SC_of_run cfgOK (its := [.res (.s (.v (.int .i64) c1)) [] [] [], .bool true])
    (ps := [SC cfg.P i_laws_szPair [.s (.v (.pr .str .str) a0), .s (.v (.int .i64) (1048576 : Int))] (.s (.v (.int .i64) c1)) [],
      decide (c1 < (0 : Int)) = true]) (by kernel_rfl) ⟨h1, (decide_eq_true h2), trivial⟩ get_laws_FnExactDistanceOf (by decide)

theorem laws_FnExactDistanceOf_p2 (a0 : (ByteArray × ByteArray)) (a1 : (ByteArray × ByteArray)) (c1 : Int) (c2 : Int)
    (h1 : SC cfg.P i_laws_szPair [.s (.v (.pr .str .str) a0), .s (.v (.int .i64) (1048576 : Int))] (.s (.v (.int .i64) c1)) [])
    (h2 : ¬ (c1 < (0 : Int)))
    (h3 : SC cfg.P i_laws_szPair [.s (.v (.pr .str .str) a1), .s (.v (.int .i64) c1)] (.s (.v (.int .i64) c2)) [])
    (h4 : c2 < (0 : Int)) :
    SC cfg.P i_laws_FnExactDistanceOf [.s (.v (.pr .str .str) a0), .s (.v (.pr .str .str) a1)] (.s (.v .bool true)) [] :=
  SC_of_run cfgOK (its := [.res (.s (.v (.int .i64) c1)) [] [] [], .bool false, .res (.s (.v (.int .i64) c2)) [] [] [], .bool true])
    (ps := [SC cfg.P i_laws_szPair [.s (.v (.pr .str .str) a0), .s (.v (.int .i64) (1048576 : Int))] (.s (.v (.int .i64) c1)) [],
      decide (c1 < (0 : Int)) = false,
      SC cfg.P i_laws_szPair [.s (.v (.pr .str .str) a1), .s (.v (.int .i64) c1)] (.s (.v (.int .i64) c2)) [],
      decide (c2 < (0 : Int)) = true]) (by kernel_rfl) ⟨h1, (decide_eq_false h2), h3, (decide_eq_true h4), trivial⟩ get_laws_FnExactDistanceOf (by decide)

theorem laws_FnExactDistanceOf_p3 (a0 : (ByteArray × ByteArray)) (a1 : (ByteArray × ByteArray)) (c1 : Int) (c2 : Int) (c3 : (ByteArray × ByteArray)) (c4 : (ByteArray × ByteArray)) (c5a : Int) (c5b : Bool) (c6 : (ByteArray × ByteArray)) (c7 : (ByteArray × ByteArray)) (c8a : Int) (c8b : Bool)
    (h1 : SC cfg.P i_laws_szPair [.s (.v (.pr .str .str) a0), .s (.v (.int .i64) (1048576 : Int))] (.s (.v (.int .i64) c1)) [])
    (h2 : ¬ (c1 < (0 : Int)))
    (h3 : SC cfg.P i_laws_szPair [.s (.v (.pr .str .str) a1), .s (.v (.int .i64) c1)] (.s (.v (.int .i64) c2)) [])
    (h4 : ¬ (c2 < (0 : Int)))
    (h5 : SC cfg.P i_laws_toPair [.s (.v (.pr .str .str) a0)] (.s (.v (.pr .str .str) c3)) [])
    (h6 : SC cfg.P i_laws_toPair [.s (.v (.pr .str .str) a1)] (.s (.v (.pr .str .str) c4)) [])
    (h7 : SC cfg.P i_spec_DistanceOf [.s (.v (.pr .str .str) c3), .s (.v (.pr .str .str) c4)] (.tup [.v (.int .i64) c5a, .v .bool c5b]) [])
    (h8 : SC cfg.P i_laws_toPair [.s (.v (.pr .str .str) a0)] (.s (.v (.pr .str .str) c6)) [])
    (h9 : SC cfg.P i_laws_toPair [.s (.v (.pr .str .str) a1)] (.s (.v (.pr .str .str) c7)) [])
    (h10 : SC cfg.P i_impl_DistanceOf [.s (.v (.pr .str .str) c6), .s (.v (.pr .str .str) c7)] (.tup [.v (.int .i64) c8a, .v .bool c8b]) [])
    (h11 : c8a = c5a)
    (h12 : (!(c8b == c5b)) = false) :
    SC cfg.P i_laws_FnExactDistanceOf [.s (.v (.pr .str .str) a0), .s (.v (.pr .str .str) a1)] (.s (.v .bool true)) [] :=
  SC_of_run cfgOK (its := [.res (.s (.v (.int .i64) c1)) [] [] [], .bool false, .res (.s (.v (.int .i64) c2)) [] [] [], .bool false, .res (.s (.v (.pr .str .str) c3)) [] [] [], .res (.s (.v (.pr .str .str) c4)) [] [] [], .res (.tup [.v (.int .i64) c5a, .v .bool c5b]) [] [] [], .res (.s (.v (.pr .str .str) c6)) [] [] [], .res (.s (.v (.pr .str .str) c7)) [] [] [], .res (.tup [.v (.int .i64) c8a, .v .bool c8b]) [] [] [], .bool false, .bool false])
    (ps := [SC cfg.P i_laws_szPair [.s (.v (.pr .str .str) a0), .s (.v (.int .i64) (1048576 : Int))] (.s (.v (.int .i64) c1)) [],
      decide (c1 < (0 : Int)) = false,
      SC cfg.P i_laws_szPair [.s (.v (.pr .str .str) a1), .s (.v (.int .i64) c1)] (.s (.v (.int .i64) c2)) [],
      decide (c2 < (0 : Int)) = false,
      SC cfg.P i_laws_toPair [.s (.v (.pr .str .str) a0)] (.s (.v (.pr .str .str) c3)) [],
      SC cfg.P i_laws_toPair [.s (.v (.pr .str .str) a1)] (.s (.v (.pr .str .str) c4)) [],
      SC cfg.P i_spec_DistanceOf [.s (.v (.pr .str .str) c3), .s (.v (.pr .str .str) c4)] (.tup [.v (.int .i64) c5a, .v .bool c5b]) [],
      SC cfg.P i_laws_toPair [.s (.v (.pr .str .str) a0)] (.s (.v (.pr .str .str) c6)) [],
      SC cfg.P i_laws_toPair [.s (.v (.pr .str .str) a1)] (.s (.v (.pr .str .str) c7)) [],
      SC cfg.P i_impl_DistanceOf [.s (.v (.pr .str .str) c6), .s (.v (.pr .str .str) c7)] (.tup [.v (.int .i64) c8a, .v .bool c8b]) [],
      (c8a != c5a) = false,
      (!(c8b == c5b)) = false]) (by kernel_rfl) ⟨h1, (decide_eq_false h2), h3, (decide_eq_false h4), h5, h6, h7, h8, h9, h10, (bne_f h11), h12, trivial⟩ get_laws_FnExactDistanceOf (by decide)

/-! ### spec_DistanceOf -/


theorem spec_DistanceOf_p1 (a0 : (ByteArray × ByteArray)) (a1 : (ByteArray × ByteArray)) (c3 : (ByteArray × ByteArray)) (c4 : (ByteArray × ByteArray)) (c5 : Int)
    (h1 : SC cfg.P i_spec_prGood [.s (.v (.pr .str .str) a0)] (.s (.v .bool true)) [])
    (h2 : SC cfg.P i_spec_prGood [.s (.v (.pr .str .str) a1)] (.s (.v .bool true)) [])
    (h3 : SC cfg.P i_spec_prInverse [.s (.v (.pr .str .str) a0)] (.s (.v (.pr .str .str) c3)) [])
    (h4 : SC cfg.P i_spec_prTimes [.s (.v (.pr .str .str) c3), .s (.v (.pr .str .str) a1)] (.s (.v (.pr .str .str) c4)) [])
    (h5 : SC cfg.P i_spec_lnOf [.s (.v (.pr .str .str) c4)] (.s (.v (.int .i64) c5)) []) :
    SC cfg.P i_spec_DistanceOf [.s (.v (.pr .str .str) a0), .s (.v (.pr .str .str) a1)] (.tup [.v (.int .i64) c5, .v .bool true]) [] :=
  SC_of_run cfgOK (its := [.res (.s (.v .bool true)) [] [] [], .res (.s (.v .bool true)) [] [] [], .res (.s (.v (.pr .str .str) c3)) [] [] [], .res (.s (.v (.pr .str .str) c4)) [] [] [], .res (.s (.v (.int .i64) c5)) [] [] []])
    (ps := [SC cfg.P i_spec_prGood [.s (.v (.pr .str .str) a0)] (.s (.v .bool true)) [],
      SC cfg.P i_spec_prGood [.s (.v (.pr .str .str) a1)] (.s (.v .bool true)) [],
      SC cfg.P i_spec_prInverse [.s (.v (.pr .str .str) a0)] (.s (.v (.pr .str .str) c3)) [],
      SC cfg.P i_spec_prTimes [.s (.v (.pr .str .str) c3), .s (.v (.pr .str .str) a1)] (.s (.v (.pr .str .str) c4)) [],
      SC cfg.P i_spec_lnOf [.s (.v (.pr .str .str) c4)] (.s (.v (.int .i64) c5)) []]) (by kernel_rfl) ⟨h1, h2, h3, h4, h5, trivial⟩ get_spec_DistanceOf (by decide)

theorem spec_DistanceOf_p2 (a0 : (ByteArray × ByteArray)) (a1 : (ByteArray × ByteArray))
    (h1 : SC cfg.P i_spec_prGood [.s (.v (.pr .str .str) a0)] (.s (.v .bool true)) [])
    (h2 : SC cfg.P i_spec_prGood [.s (.v (.pr .str .str) a1)] (.s (.v .bool false)) []) :
    SC cfg.P i_spec_DistanceOf [.s (.v (.pr .str .str) a0), .s (.v (.pr .str .str) a1)] (.tup [.v (.int .i64) (0 : Int), .v .bool false]) [] :=
  SC_of_run cfgOK (its := [.res (.s (.v .bool true)) [] [] [], .res (.s (.v .bool false)) [] [] []])
    (ps := [SC cfg.P i_spec_prGood [.s (.v (.pr .str .str) a0)] (.s (.v .bool true)) [],
      SC cfg.P i_spec_prGood [.s (.v (.pr .str .str) a1)] (.s (.v .bool false)) []]) (by kernel_rfl) ⟨h1, h2, trivial⟩ get_spec_DistanceOf (by decide)

theorem spec_DistanceOf_p3 (a0 : (ByteArray × ByteArray)) (a1 : (ByteArray × ByteArray))
    (h1 : SC cfg.P i_spec_prGood [.s (.v (.pr .str .str) a0)] (.s (.v .bool false)) []) :
    SC cfg.P i_spec_DistanceOf [.s (.v (.pr .str .str) a0), .s (.v (.pr .str .str) a1)] (.tup [.v (.int .i64) (0 : Int), .v .bool false]) [] :=
  SC_of_run cfgOK (its := [.res (.s (.v .bool false)) [] [] []])
    (ps := [SC cfg.P i_spec_prGood [.s (.v (.pr .str .str) a0)] (.s (.v .bool false)) []]) (by kernel_rfl) ⟨h1, trivial⟩ get_spec_DistanceOf (by decide)

/-! ### impl_DistanceOf -/


theorem impl_DistanceOf_p1 (a0 : (ByteArray × ByteArray)) (a1 : (ByteArray × ByteArray)) (c1a : (Tr × Tr)) (c1b : (Tr × Tr)) (c2 : (Tr × Tr)) (c3 : (Tr × Tr)) (c4 : Int)
    (h1 : SC cfg.P i_impl_two [.s (.v (.pr .str .str) a0), .s (.v (.pr .str .str) a1)] (.tup [.v (.pr .tree .tree) c1a, .v (.pr .tree .tree) c1b, .v .bool true]) [])
    (h2 : SC cfg.P i_impl_pair_inverse [.s (.v (.pr .tree .tree) c1a)] (.s (.v (.pr .tree .tree) c2)) [])
    (h3 : SC cfg.P i_impl_pair_times [.s (.v (.pr .tree .tree) c2), .s (.v (.pr .tree .tree) c1b)] (.s (.v (.pr .tree .tree) c3)) [])
    (h4 : SC cfg.P i_impl_pair_length [.s (.v (.pr .tree .tree) c3)] (.s (.v (.int .i64) c4)) []) :
    SC cfg.P i_impl_DistanceOf [.s (.v (.pr .str .str) a0), .s (.v (.pr .str .str) a1)] (.tup [.v (.int .i64) c4, .v .bool true]) [] :=
  SC_of_run cfgOK (its := [.res (.tup [.v (.pr .tree .tree) c1a, .v (.pr .tree .tree) c1b, .v .bool true]) [] [] [], .res (.s (.v (.pr .tree .tree) c2)) [] [] [], .res (.s (.v (.pr .tree .tree) c3)) [] [] [], .res (.s (.v (.int .i64) c4)) [] [] []])
    (ps := [SC cfg.P i_impl_two [.s (.v (.pr .str .str) a0), .s (.v (.pr .str .str) a1)] (.tup [.v (.pr .tree .tree) c1a, .v (.pr .tree .tree) c1b, .v .bool true]) [],
      SC cfg.P i_impl_pair_inverse [.s (.v (.pr .tree .tree) c1a)] (.s (.v (.pr .tree .tree) c2)) [],
      SC cfg.P i_impl_pair_times [.s (.v (.pr .tree .tree) c2), .s (.v (.pr .tree .tree) c1b)] (.s (.v (.pr .tree .tree) c3)) [],
      SC cfg.P i_impl_pair_length [.s (.v (.pr .tree .tree) c3)] (.s (.v (.int .i64) c4)) []]) (by kernel_rfl) ⟨h1, h2, h3, h4, trivial⟩ get_impl_DistanceOf (by decide)

theorem impl_DistanceOf_p2 (a0 : (ByteArray × ByteArray)) (a1 : (ByteArray × ByteArray)) (c1a : (Tr × Tr)) (c1b : (Tr × Tr))
    (h1 : SC cfg.P i_impl_two [.s (.v (.pr .str .str) a0), .s (.v (.pr .str .str) a1)] (.tup [.v (.pr .tree .tree) c1a, .v (.pr .tree .tree) c1b, .v .bool false]) []) :
    SC cfg.P i_impl_DistanceOf [.s (.v (.pr .str .str) a0), .s (.v (.pr .str .str) a1)] (.tup [.v (.int .i64) (0 : Int), .v .bool false]) [] :=
  SC_of_run cfgOK (its := [.res (.tup [.v (.pr .tree .tree) c1a, .v (.pr .tree .tree) c1b, .v .bool false]) [] [] []])
    (ps := [SC cfg.P i_impl_two [.s (.v (.pr .str .str) a0), .s (.v (.pr .str .str) a1)] (.tup [.v (.pr .tree .tree) c1a, .v (.pr .tree .tree) c1b, .v .bool false]) []]) (by kernel_rfl) ⟨h1, trivial⟩ get_impl_DistanceOf (by decide)

end Go.AI
