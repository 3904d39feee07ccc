/- A part of the road: what it proves stands in its last texts. -/
import Derived.Test.YtlkjnlhpdjbjdaaSIds
import Derived.Test.YtlkjnlhpdjbjdaaProg
set_option autoImplicit false
set_option maxRecDepth 100000
set_option linter.unusedVariables false
namespace Go.AI
open Go.Proofs

/-! ### laws_FnExactMovedIntervals -/


theorem laws_FnExactMovedIntervals_p1 (a0 : (ByteArray × ByteArray)) (c1 : Int)
    (h1 : SC cfg.P i_laws_szPair [.s (.v (.pr .str .str) a0), .s (.v (.int .i64) (1048576 : Int))] (.s (.v (.int .i64) c1)) [])
    (h2 : c1 < (0 : Int)) :
    SC cfg.P i_laws_FnExactMovedIntervals [.s (.v (.pr .str .str) a0)] (.s (.v .bool true)) [] :=
  SC_of_run cfgOK (its := [.res (.s (.v (.int .i64) c1)) [] [] [], .bool true])
    (ps := [SC cfg.P i_laws_szPair [.s (.v (.pr .str .str) a0), .s (.v (.int .i64) (1048576 : Int))] (.s (.v (.int .i64) c1)) [],
      decide (c1 < (0 : Int)) = true]) (by kernel_rfl) ⟨h1, (decide_eq_true h2), trivial⟩ get_laws_FnExactMovedIntervals (by decide)

theorem laws_FnExactMovedIntervals_p2 (a0 : (ByteArray × ByteArray)) (c1 : Int) (c2 : (ByteArray × ByteArray)) (c3a : (List (List (Int × Int)))) (c3b : Bool) (c4 : (ByteArray × ByteArray)) (c5a : (List (List (Int × Int)))) (c5b : Bool) (c7 : Int) (c8 : Int) (c9 : (ByteArray × ByteArray)) (c10a : (List (List (Int × Int)))) (c10b : Bool) (c12 : Int)
    (h1 : SC cfg.P i_laws_szPair [.s (.v (.pr .str .str) a0), .s (.v (.int .i64) (1048576 : Int))] (.s (.v (.int .i64) c1)) [])
    (h2 : ¬ (c1 < (0 : Int)))
    (h3 : SC cfg.P i_laws_toPair [.s (.v (.pr .str .str) a0)] (.s (.v (.pr .str .str) c2)) [])
    (h4 : SC cfg.P i_spec_MovedIntervals [.s (.v (.pr .str .str) c2)] (.tup [.own t_Simpl_Ratio (.sl (.pr (.int .i64) (.int .i64))) c3a, .v .bool c3b]) [])
    (h5 : SC cfg.P i_laws_toPair [.s (.v (.pr .str .str) a0)] (.s (.v (.pr .str .str) c4)) [])
    (h6 : SC cfg.P i_impl_MovedIntervals [.s (.v (.pr .str .str) c4)] (.tup [.own t_Simpl_Ratio (.sl (.pr (.int .i64) (.int .i64))) c5a, .v .bool c5b]) [])
    (h7 : SC cfg.P i_laws_eqRatioSS [.s (.v (.sl (.sl (.pr (.int .i64) (.int .i64)))) c5a), .s (.v (.sl (.sl (.pr (.int .i64) (.int .i64)))) c3a)] (.s (.v .bool true)) [])
    (h8 : (!(c5b == c3b)) = false)
    (h9 : SC cfg.P i_laws_markRatioSS [.s (.v (.sl (.sl (.pr (.int .i64) (.int .i64)))) c5a), .s (.v (.int .i64) (1 : Int))] (.s (.v (.int .i64) c7)) [])
    (h10 : SC cfg.P i_laws_heldRatioSS [.s (.v (.sl (.sl (.pr (.int .i64) (.int .i64)))) c5a), .s (.v (.int .i64) (1 : Int))] (.s (.v (.int .i64) c8)) [])
    (h11 : ¬ (c8 < (0 : Int)))
    (h12 : c8 = c7)
    (h13 : SC cfg.P i_laws_toPair [.s (.v (.pr .str .str) a0)] (.s (.v (.pr .str .str) c9)) [])
    (h14 : SC cfg.P i_impl_MovedIntervals [.s (.v (.pr .str .str) c9)] (.tup [.own t_Simpl_Ratio (.sl (.pr (.int .i64) (.int .i64))) c10a, .v .bool c10b]) [])
    (h15 : SC cfg.P i_laws_eqRatioSS [.s (.v (.sl (.sl (.pr (.int .i64) (.int .i64)))) c10a), .s (.v (.sl (.sl (.pr (.int .i64) (.int .i64)))) c3a)] (.s (.v .bool true)) [])
    (h16 : (!(c10b == c3b)) = false)
    (h17 : SC cfg.P i_laws_heldRatioSS [.s (.v (.sl (.sl (.pr (.int .i64) (.int .i64)))) c5a), .s (.v (.int .i64) (1 : Int))] (.s (.v (.int .i64) c12)) [])
    (h18 : ¬ (c12 < (0 : Int)))
    (h19 : c12 = c7) :
    SC cfg.P i_laws_FnExactMovedIntervals [.s (.v (.pr .str .str) a0)] (.s (.v .bool true)) [] :=
  SC_of_run cfgOK (its := [.res (.s (.v (.int .i64) c1)) [] [] [], .bool false, .res (.s (.v (.pr .str .str) c2)) [] [] [], .res (.tup [.own t_Simpl_Ratio (.sl (.pr (.int .i64) (.int .i64))) c3a, .v .bool c3b]) [] [] [20], .res (.s (.v (.pr .str .str) c4)) [] [] [], .res (.tup [.own t_Simpl_Ratio (.sl (.pr (.int .i64) (.int .i64))) c5a, .v .bool c5b]) [] [] [26], .res (.s (.v .bool true)) [] [] [], .bool false, .res (.s (.v (.int .i64) c7)) [] [] [], .res (.s (.v (.int .i64) c8)) [] [] [], .bool false, .bool false, .res (.s (.v (.pr .str .str) c9)) [] [] [], .res (.tup [.own t_Simpl_Ratio (.sl (.pr (.int .i64) (.int .i64))) c10a, .v .bool c10b]) [] [] [52], .res (.s (.v .bool true)) [] [] [], .bool false, .res (.s (.v (.int .i64) c12)) [] [] [], .bool false, .bool false])
    (ps := [SC cfg.P i_laws_szPair [.s (.v (.pr .str .str) a0), .s (.v (.int .i64) (1048576 : Int))] (.s (.v (.int .i64) c1)) [],
      decide (c1 < (0 : Int)) = false,
      SC cfg.P i_laws_toPair [.s (.v (.pr .str .str) a0)] (.s (.v (.pr .str .str) c2)) [],
      SC cfg.P i_spec_MovedIntervals [.s (.v (.pr .str .str) c2)] (.tup [.own t_Simpl_Ratio (.sl (.pr (.int .i64) (.int .i64))) c3a, .v .bool c3b]) [],
      SC cfg.P i_laws_toPair [.s (.v (.pr .str .str) a0)] (.s (.v (.pr .str .str) c4)) [],
      SC cfg.P i_impl_MovedIntervals [.s (.v (.pr .str .str) c4)] (.tup [.own t_Simpl_Ratio (.sl (.pr (.int .i64) (.int .i64))) c5a, .v .bool c5b]) [],
      SC cfg.P i_laws_eqRatioSS [.s (.v (.sl (.sl (.pr (.int .i64) (.int .i64)))) c5a), .s (.v (.sl (.sl (.pr (.int .i64) (.int .i64)))) c3a)] (.s (.v .bool true)) [],
      (!(c5b == c3b)) = false,
      SC cfg.P i_laws_markRatioSS [.s (.v (.sl (.sl (.pr (.int .i64) (.int .i64)))) c5a), .s (.v (.int .i64) (1 : Int))] (.s (.v (.int .i64) c7)) [],
      SC cfg.P i_laws_heldRatioSS [.s (.v (.sl (.sl (.pr (.int .i64) (.int .i64)))) c5a), .s (.v (.int .i64) (1 : Int))] (.s (.v (.int .i64) c8)) [],
      decide (c8 < (0 : Int)) = false,
      (c8 != c7) = false,
      SC cfg.P i_laws_toPair [.s (.v (.pr .str .str) a0)] (.s (.v (.pr .str .str) c9)) [],
      SC cfg.P i_impl_MovedIntervals [.s (.v (.pr .str .str) c9)] (.tup [.own t_Simpl_Ratio (.sl (.pr (.int .i64) (.int .i64))) c10a, .v .bool c10b]) [],
      SC cfg.P i_laws_eqRatioSS [.s (.v (.sl (.sl (.pr (.int .i64) (.int .i64)))) c10a), .s (.v (.sl (.sl (.pr (.int .i64) (.int .i64)))) c3a)] (.s (.v .bool true)) [],
      (!(c10b == c3b)) = false,
      SC cfg.P i_laws_heldRatioSS [.s (.v (.sl (.sl (.pr (.int .i64) (.int .i64)))) c5a), .s (.v (.int .i64) (1 : Int))] (.s (.v (.int .i64) c12)) [],
      decide (c12 < (0 : Int)) = false,
      (c12 != c7) = false]) (by kernel_rfl) ⟨h1, (decide_eq_false h2), h3, h4, h5, h6, h7, h8, h9, h10, (decide_eq_false h11), (bne_f h12), h13, h14, h15, h16, h17, (decide_eq_false h18), (bne_f h19), trivial⟩ get_laws_FnExactMovedIntervals (by decide)

/-! ### spec_MovedIntervals -/


theorem spec_MovedIntervals_p1 (a0 : (ByteArray × ByteArray)) (c2 : (List (List (Int × Int))))
    (h1 : SC cfg.P i_spec_prGood [.s (.v (.pr .str .str) a0)] (.s (.v .bool true)) [])
    (h2 : SC cfg.P i_spec_obMoved [.s (.v (.pr .str .str) a0)] (.s (.own t_Simpl_Ratio (.sl (.pr (.int .i64) (.int .i64))) c2)) []) :
    SC cfg.P i_spec_MovedIntervals [.s (.v (.pr .str .str) a0)] (.tup [.own t_Simpl_Ratio (.sl (.pr (.int .i64) (.int .i64))) c2, .v .bool true]) [] :=
  SC_of_run cfgOK (its := [.res (.s (.v .bool true)) [] [] [], .res (.s (.own t_Simpl_Ratio (.sl (.pr (.int .i64) (.int .i64))) c2)) [] [] [8]])
    (ps := [SC cfg.P i_spec_prGood [.s (.v (.pr .str .str) a0)] (.s (.v .bool true)) [],
      SC cfg.P i_spec_obMoved [.s (.v (.pr .str .str) a0)] (.s (.own t_Simpl_Ratio (.sl (.pr (.int .i64) (.int .i64))) c2)) []]) (by kernel_rfl) ⟨h1, h2, trivial⟩ get_spec_MovedIntervals (by decide)

theorem spec_MovedIntervals_p2 (a0 : (ByteArray × ByteArray))
    (h1 : SC cfg.P i_spec_prGood [.s (.v (.pr .str .str) a0)] (.s (.v .bool false)) []) :
    SC cfg.P i_spec_MovedIntervals [.s (.v (.pr .str .str) a0)] (.tup [.own t_Simpl_Ratio (.sl (.pr (.int .i64) (.int .i64))) ([] : List (List (Int × Int))), .v .bool false]) [] :=
  SC_of_run cfgOK (its := [.res (.s (.v .bool false)) [] [] []])
    (ps := [SC cfg.P i_spec_prGood [.s (.v (.pr .str .str) a0)] (.s (.v .bool false)) []]) (by kernel_rfl) ⟨h1, trivial⟩ get_spec_MovedIntervals (by decide)

/-! ### impl_MovedIntervals -/


theorem impl_MovedIntervals_p1 (a0 : (ByteArray × ByteArray)) (c1a : (Tr × Tr)) (c2 : (List (List (Int × Int))))
    (h1 : SC cfg.P i_impl_pairOf [.s (.v (.pr .str .str) a0)] (.tup [.v (.pr .tree .tree) c1a, .v .bool true]) [])
    (h2 : SC cfg.P i_impl_pair_moved [.s (.v (.pr .tree .tree) c1a)] (.s (.own t_Simpl_Ratio (.sl (.pr (.int .i64) (.int .i64))) c2)) []) :
    SC cfg.P i_impl_MovedIntervals [.s (.v (.pr .str .str) a0)] (.tup [.own t_Simpl_Ratio (.sl (.pr (.int .i64) (.int .i64))) c2, .v .bool true]) [] :=
  SC_of_run cfgOK (its := [.res (.tup [.v (.pr .tree .tree) c1a, .v .bool true]) [] [] [], .res (.s (.own t_Simpl_Ratio (.sl (.pr (.int .i64) (.int .i64))) c2)) [] [] [14]])
    (ps := [SC cfg.P i_impl_pairOf [.s (.v (.pr .str .str) a0)] (.tup [.v (.pr .tree .tree) c1a, .v .bool true]) [],
      SC cfg.P i_impl_pair_moved [.s (.v (.pr .tree .tree) c1a)] (.s (.own t_Simpl_Ratio (.sl (.pr (.int .i64) (.int .i64))) c2)) []]) (by kernel_rfl) ⟨h1, h2, trivial⟩ get_impl_MovedIntervals (by decide)

theorem impl_MovedIntervals_p2 (a0 : (ByteArray × ByteArray)) (c1a : (Tr × Tr))
    (h1 : SC cfg.P i_impl_pairOf [.s (.v (.pr .str .str) a0)] (.tup [.v (.pr .tree .tree) c1a, .v .bool false]) []) :
    SC cfg.P i_impl_MovedIntervals [.s (.v (.pr .str .str) a0)] (.tup [.own t_Simpl_Ratio (.sl (.pr (.int .i64) (.int .i64))) ([] : List (List (Int × Int))), .v .bool false]) [] :=
  SC_of_run cfgOK (its := [.res (.tup [.v (.pr .tree .tree) c1a, .v .bool false]) [] [] []])
    (ps := [SC cfg.P i_impl_pairOf [.s (.v (.pr .str .str) a0)] (.tup [.v (.pr .tree .tree) c1a, .v .bool false]) []]) (by kernel_rfl) ⟨h1, trivial⟩ get_impl_MovedIntervals (by decide)

end Go.AI
