/- A part of the road: what it proves stands in its last texts. -/
import Derived.Test.YtcbhdileamhklaaSIds
import Derived.Test.YtcbhdileamhklaaProg
set_option autoImplicit false
set_option maxRecDepth 100000
set_option linter.unusedVariables false
namespace Go.AI
open Go.Proofs

/-! ### spec_DrawSortedWord -/


theorem spec_DrawSortedWord_p1 (a0 : (List Int)) (c1 : (List Int))
    (h1 : SC cfg.P i_spec_DrawIsWord [.s (.v (.sl (.int .u8)) a0)] (.s (.v (.sl (.int .i64)) c1)) []) :
    SC cfg.P i_spec_DrawSortedWord [.s (.v (.sl (.int .u8)) a0)] (.s (.v (.sl (.int .i64)) c1)) [] :=
  SC_of_run cfgOK (its := [.res (.s (.v (.sl (.int .i64)) c1)) [] [] []])
    (ps := [SC cfg.P i_spec_DrawIsWord [.s (.v (.sl (.int .u8)) a0)] (.s (.v (.sl (.int .i64)) c1)) []]) (by kernel_rfl) ⟨h1, trivial⟩ get_spec_DrawSortedWord (by decide)

/-! ### spec_DrawRuleStep -/


theorem spec_DrawRuleStep_p1 (a0 : (List Int)) (c1 : (List Int))
    (h1 : SC cfg.P i_spec_DrawIsWord [.s (.v (.sl (.int .u8)) a0)] (.s (.v (.sl (.int .i64)) c1)) []) :
    SC cfg.P i_spec_DrawRuleStep [.s (.v (.sl (.int .u8)) a0)] (.s (.v (.sl (.int .i64)) c1)) [] :=
  SC_of_run cfgOK (its := [.res (.s (.v (.sl (.int .i64)) c1)) [] [] []])
    (ps := [SC cfg.P i_spec_DrawIsWord [.s (.v (.sl (.int .u8)) a0)] (.s (.v (.sl (.int .i64)) c1)) []]) (by kernel_rfl) ⟨h1, trivial⟩ get_spec_DrawRuleStep (by decide)

/-! ### spec_DrawDropStep -/


theorem spec_DrawDropStep_p1 (a0 : (List Int)) (c1 : (List Int)) (c1o0 : ((List Int) × (Int × Int))) (c3o0 : ((List Int) × (Int × Int)))
    (h1 : SC cfg.P i_spec_l1Cur_letters [.s (.mbx (.pr (.sl (.int .u8)) (.pr (.int .i64) (.int .u64))) (a0, ((0 : Int), (0 : Int)))), .s (.v (.int .i64) (8 : Int))] (.s (.v (.sl (.int .i64)) c1)) [.box (.pr (.sl (.int .u8)) (.pr (.int .i64) (.int .u64))) c1o0])
    (h2 : SC cfg.P i_spec_wdGood [.s (.v (.sl (.int .i64)) c1)] (.s (.v .bool true)) [])
    (h3 : SC cfg.P i_spec_l1Cur_one [.s (.mbx (.pr (.sl (.int .u8)) (.pr (.int .i64) (.int .u64))) c1o0), .s (.v (.int .i64) (4 : Int))] (.s (.v .bool true)) [.box (.pr (.sl (.int .u8)) (.pr (.int .i64) (.int .u64))) c3o0]) :
    SC cfg.P i_spec_DrawDropStep [.s (.v (.sl (.int .u8)) a0)] (.s (.v (.sl (.int .i64)) c1)) [] :=
  SC_of_run cfgOK (its := [.res (.s (.v (.sl (.int .i64)) c1)) [.box (.pr (.sl (.int .u8)) (.pr (.int .i64) (.int .u64))) c1o0] [] [], .res (.s (.v .bool true)) [] [] [], .res (.s (.v .bool true)) [.box (.pr (.sl (.int .u8)) (.pr (.int .i64) (.int .u64))) c3o0] [] []])
    (ps := [SC cfg.P i_spec_l1Cur_letters [.s (.mbx (.pr (.sl (.int .u8)) (.pr (.int .i64) (.int .u64))) (a0, ((0 : Int), (0 : Int)))), .s (.v (.int .i64) (8 : Int))] (.s (.v (.sl (.int .i64)) c1)) [.box (.pr (.sl (.int .u8)) (.pr (.int .i64) (.int .u64))) c1o0],
      SC cfg.P i_spec_wdGood [.s (.v (.sl (.int .i64)) c1)] (.s (.v .bool true)) [],
      SC cfg.P i_spec_l1Cur_one [.s (.mbx (.pr (.sl (.int .u8)) (.pr (.int .i64) (.int .u64))) c1o0), .s (.v (.int .i64) (4 : Int))] (.s (.v .bool true)) [.box (.pr (.sl (.int .u8)) (.pr (.int .i64) (.int .u64))) c3o0]]) (by kernel_rfl) ⟨h1, h2, h3, trivial⟩ get_spec_DrawDropStep (by decide)

theorem spec_DrawDropStep_p2 (a0 : (List Int)) (c1 : (List Int)) (c1o0 : ((List Int) × (Int × Int))) (c3o0 : ((List Int) × (Int × Int))) (c4a : (List Int)) (c4b : Int)
    (h1 : SC cfg.P i_spec_l1Cur_letters [.s (.mbx (.pr (.sl (.int .u8)) (.pr (.int .i64) (.int .u64))) (a0, ((0 : Int), (0 : Int)))), .s (.v (.int .i64) (8 : Int))] (.s (.v (.sl (.int .i64)) c1)) [.box (.pr (.sl (.int .u8)) (.pr (.int .i64) (.int .u64))) c1o0])
    (h2 : SC cfg.P i_spec_wdGood [.s (.v (.sl (.int .i64)) c1)] (.s (.v .bool true)) [])
    (h3 : SC cfg.P i_spec_l1Cur_one [.s (.mbx (.pr (.sl (.int .u8)) (.pr (.int .i64) (.int .u64))) c1o0), .s (.v (.int .i64) (4 : Int))] (.s (.v .bool false)) [.box (.pr (.sl (.int .u8)) (.pr (.int .i64) (.int .u64))) c3o0])
    (h4 : SC cfg.P i_spec_wdSort [.s (.v (.sl (.int .i64)) c1)] (.tup [.v (.sl (.int .i64)) c4a, .v (.int .i64) c4b]) [])
    (h5 : SC cfg.P i_spec_wdGood [.s (.v (.sl (.int .i64)) c4a)] (.s (.v .bool true)) []) :
    SC cfg.P i_spec_DrawDropStep [.s (.v (.sl (.int .u8)) a0)] (.s (.v (.sl (.int .i64)) c4a)) [] :=
  SC_of_run cfgOK (its := [.res (.s (.v (.sl (.int .i64)) c1)) [.box (.pr (.sl (.int .u8)) (.pr (.int .i64) (.int .u64))) c1o0] [] [], .res (.s (.v .bool true)) [] [] [], .res (.s (.v .bool false)) [.box (.pr (.sl (.int .u8)) (.pr (.int .i64) (.int .u64))) c3o0] [] [], .res (.tup [.v (.sl (.int .i64)) c4a, .v (.int .i64) c4b]) [] [] [], .res (.s (.v .bool true)) [] [] []])
    (ps := [SC cfg.P i_spec_l1Cur_letters [.s (.mbx (.pr (.sl (.int .u8)) (.pr (.int .i64) (.int .u64))) (a0, ((0 : Int), (0 : Int)))), .s (.v (.int .i64) (8 : Int))] (.s (.v (.sl (.int .i64)) c1)) [.box (.pr (.sl (.int .u8)) (.pr (.int .i64) (.int .u64))) c1o0],
      SC cfg.P i_spec_wdGood [.s (.v (.sl (.int .i64)) c1)] (.s (.v .bool true)) [],
      SC cfg.P i_spec_l1Cur_one [.s (.mbx (.pr (.sl (.int .u8)) (.pr (.int .i64) (.int .u64))) c1o0), .s (.v (.int .i64) (4 : Int))] (.s (.v .bool false)) [.box (.pr (.sl (.int .u8)) (.pr (.int .i64) (.int .u64))) c3o0],
      SC cfg.P i_spec_wdSort [.s (.v (.sl (.int .i64)) c1)] (.tup [.v (.sl (.int .i64)) c4a, .v (.int .i64) c4b]) [],
      SC cfg.P i_spec_wdGood [.s (.v (.sl (.int .i64)) c4a)] (.s (.v .bool true)) []]) (by kernel_rfl) ⟨h1, h2, h3, h4, h5, trivial⟩ get_spec_DrawDropStep (by decide)

theorem spec_DrawDropStep_p3 (a0 : (List Int)) (c1 : (List Int)) (c1o0 : ((List Int) × (Int × Int))) (c3o0 : ((List Int) × (Int × Int))) (c4a : (List Int)) (c4b : Int)
    (h1 : SC cfg.P i_spec_l1Cur_letters [.s (.mbx (.pr (.sl (.int .u8)) (.pr (.int .i64) (.int .u64))) (a0, ((0 : Int), (0 : Int)))), .s (.v (.int .i64) (8 : Int))] (.s (.v (.sl (.int .i64)) c1)) [.box (.pr (.sl (.int .u8)) (.pr (.int .i64) (.int .u64))) c1o0])
    (h2 : SC cfg.P i_spec_wdGood [.s (.v (.sl (.int .i64)) c1)] (.s (.v .bool true)) [])
    (h3 : SC cfg.P i_spec_l1Cur_one [.s (.mbx (.pr (.sl (.int .u8)) (.pr (.int .i64) (.int .u64))) c1o0), .s (.v (.int .i64) (4 : Int))] (.s (.v .bool false)) [.box (.pr (.sl (.int .u8)) (.pr (.int .i64) (.int .u64))) c3o0])
    (h4 : SC cfg.P i_spec_wdSort [.s (.v (.sl (.int .i64)) c1)] (.tup [.v (.sl (.int .i64)) c4a, .v (.int .i64) c4b]) [])
    (h5 : SC cfg.P i_spec_wdGood [.s (.v (.sl (.int .i64)) c4a)] (.s (.v .bool false)) []) :
    SC cfg.P i_spec_DrawDropStep [.s (.v (.sl (.int .u8)) a0)] (.s (.v (.sl (.int .i64)) c1)) [] :=
  SC_of_run cfgOK (its := [.res (.s (.v (.sl (.int .i64)) c1)) [.box (.pr (.sl (.int .u8)) (.pr (.int .i64) (.int .u64))) c1o0] [] [], .res (.s (.v .bool true)) [] [] [], .res (.s (.v .bool false)) [.box (.pr (.sl (.int .u8)) (.pr (.int .i64) (.int .u64))) c3o0] [] [], .res (.tup [.v (.sl (.int .i64)) c4a, .v (.int .i64) c4b]) [] [] [], .res (.s (.v .bool false)) [] [] []])
    (ps := [SC cfg.P i_spec_l1Cur_letters [.s (.mbx (.pr (.sl (.int .u8)) (.pr (.int .i64) (.int .u64))) (a0, ((0 : Int), (0 : Int)))), .s (.v (.int .i64) (8 : Int))] (.s (.v (.sl (.int .i64)) c1)) [.box (.pr (.sl (.int .u8)) (.pr (.int .i64) (.int .u64))) c1o0],
      SC cfg.P i_spec_wdGood [.s (.v (.sl (.int .i64)) c1)] (.s (.v .bool true)) [],
      SC cfg.P i_spec_l1Cur_one [.s (.mbx (.pr (.sl (.int .u8)) (.pr (.int .i64) (.int .u64))) c1o0), .s (.v (.int .i64) (4 : Int))] (.s (.v .bool false)) [.box (.pr (.sl (.int .u8)) (.pr (.int .i64) (.int .u64))) c3o0],
      SC cfg.P i_spec_wdSort [.s (.v (.sl (.int .i64)) c1)] (.tup [.v (.sl (.int .i64)) c4a, .v (.int .i64) c4b]) [],
      SC cfg.P i_spec_wdGood [.s (.v (.sl (.int .i64)) c4a)] (.s (.v .bool false)) []]) (by kernel_rfl) ⟨h1, h2, h3, h4, h5, trivial⟩ get_spec_DrawDropStep (by decide)

theorem spec_DrawDropStep_p4 (a0 : (List Int)) (c1 : (List Int)) (c1o0 : ((List Int) × (Int × Int)))
    (h1 : SC cfg.P i_spec_l1Cur_letters [.s (.mbx (.pr (.sl (.int .u8)) (.pr (.int .i64) (.int .u64))) (a0, ((0 : Int), (0 : Int)))), .s (.v (.int .i64) (8 : Int))] (.s (.v (.sl (.int .i64)) c1)) [.box (.pr (.sl (.int .u8)) (.pr (.int .i64) (.int .u64))) c1o0])
    (h2 : SC cfg.P i_spec_wdGood [.s (.v (.sl (.int .i64)) c1)] (.s (.v .bool false)) []) :
    SC cfg.P i_spec_DrawDropStep [.s (.v (.sl (.int .u8)) a0)] (.s (.v (.sl (.int .i64)) c1)) [] :=
  SC_of_run cfgOK (its := [.res (.s (.v (.sl (.int .i64)) c1)) [.box (.pr (.sl (.int .u8)) (.pr (.int .i64) (.int .u64))) c1o0] [] [], .res (.s (.v .bool false)) [] [] []])
    (ps := [SC cfg.P i_spec_l1Cur_letters [.s (.mbx (.pr (.sl (.int .u8)) (.pr (.int .i64) (.int .u64))) (a0, ((0 : Int), (0 : Int)))), .s (.v (.int .i64) (8 : Int))] (.s (.v (.sl (.int .i64)) c1)) [.box (.pr (.sl (.int .u8)) (.pr (.int .i64) (.int .u64))) c1o0],
      SC cfg.P i_spec_wdGood [.s (.v (.sl (.int .i64)) c1)] (.s (.v .bool false)) []]) (by kernel_rfl) ⟨h1, h2, trivial⟩ get_spec_DrawDropStep (by decide)

/-! ### spec_DrawFreeReduce -/


theorem spec_DrawFreeReduce_p1 (a0 : (List Int)) (c1 : (List Int)) (c1o0 : ((List Int) × (Int × Int))) (c2o0 : ((List Int) × (Int × Int))) (c3 : (List Int)) (c3o0 : ((List Int) × (Int × Int)))
    (h1 : SC cfg.P i_spec_l1Cur_sureWord [.s (.mbx (.pr (.sl (.int .u8)) (.pr (.int .i64) (.int .u64))) (a0, ((0 : Int), (0 : Int)))), .s (.v (.int .i64) (18 : Int)), .s (.v (.int .i64) (2 : Int))] (.s (.v (.sl (.int .i64)) c1)) [.box (.pr (.sl (.int .u8)) (.pr (.int .i64) (.int .u64))) c1o0])
    (h2 : SC cfg.P i_spec_l1Cur_one [.s (.mbx (.pr (.sl (.int .u8)) (.pr (.int .i64) (.int .u64))) c1o0), .s (.v (.int .i64) (12 : Int))] (.s (.v .bool true)) [.box (.pr (.sl (.int .u8)) (.pr (.int .i64) (.int .u64))) c2o0])
    (h3 : SC cfg.P i_spec_l1Cur_letters [.s (.mbx (.pr (.sl (.int .u8)) (.pr (.int .i64) (.int .u64))) c2o0), .s (.v (.int .i64) (6 : Int))] (.s (.v (.sl (.int .i64)) c3)) [.box (.pr (.sl (.int .u8)) (.pr (.int .i64) (.int .u64))) c3o0]) :
    SC cfg.P i_spec_DrawFreeReduce [.s (.v (.sl (.int .u8)) a0)] (.s (.v (.sl (.int .i64)) c3)) [] :=
  SC_of_run cfgOK (its := [.res (.s (.v (.sl (.int .i64)) c1)) [.box (.pr (.sl (.int .u8)) (.pr (.int .i64) (.int .u64))) c1o0] [] [], .res (.s (.v .bool true)) [.box (.pr (.sl (.int .u8)) (.pr (.int .i64) (.int .u64))) c2o0] [] [], .res (.s (.v (.sl (.int .i64)) c3)) [.box (.pr (.sl (.int .u8)) (.pr (.int .i64) (.int .u64))) c3o0] [] []])
    (ps := [SC cfg.P i_spec_l1Cur_sureWord [.s (.mbx (.pr (.sl (.int .u8)) (.pr (.int .i64) (.int .u64))) (a0, ((0 : Int), (0 : Int)))), .s (.v (.int .i64) (18 : Int)), .s (.v (.int .i64) (2 : Int))] (.s (.v (.sl (.int .i64)) c1)) [.box (.pr (.sl (.int .u8)) (.pr (.int .i64) (.int .u64))) c1o0],
      SC cfg.P i_spec_l1Cur_one [.s (.mbx (.pr (.sl (.int .u8)) (.pr (.int .i64) (.int .u64))) c1o0), .s (.v (.int .i64) (12 : Int))] (.s (.v .bool true)) [.box (.pr (.sl (.int .u8)) (.pr (.int .i64) (.int .u64))) c2o0],
      SC cfg.P i_spec_l1Cur_letters [.s (.mbx (.pr (.sl (.int .u8)) (.pr (.int .i64) (.int .u64))) c2o0), .s (.v (.int .i64) (6 : Int))] (.s (.v (.sl (.int .i64)) c3)) [.box (.pr (.sl (.int .u8)) (.pr (.int .i64) (.int .u64))) c3o0]]) (by kernel_rfl) ⟨h1, h2, h3, trivial⟩ get_spec_DrawFreeReduce (by decide)

theorem spec_DrawFreeReduce_p2 (a0 : (List Int)) (c1 : (List Int)) (c1o0 : ((List Int) × (Int × Int))) (c2o0 : ((List Int) × (Int × Int)))
    (h1 : SC cfg.P i_spec_l1Cur_sureWord [.s (.mbx (.pr (.sl (.int .u8)) (.pr (.int .i64) (.int .u64))) (a0, ((0 : Int), (0 : Int)))), .s (.v (.int .i64) (18 : Int)), .s (.v (.int .i64) (2 : Int))] (.s (.v (.sl (.int .i64)) c1)) [.box (.pr (.sl (.int .u8)) (.pr (.int .i64) (.int .u64))) c1o0])
    (h2 : SC cfg.P i_spec_l1Cur_one [.s (.mbx (.pr (.sl (.int .u8)) (.pr (.int .i64) (.int .u64))) c1o0), .s (.v (.int .i64) (12 : Int))] (.s (.v .bool false)) [.box (.pr (.sl (.int .u8)) (.pr (.int .i64) (.int .u64))) c2o0]) :
    SC cfg.P i_spec_DrawFreeReduce [.s (.v (.sl (.int .u8)) a0)] (.s (.v (.sl (.int .i64)) c1)) [] :=
  SC_of_run cfgOK (its := [.res (.s (.v (.sl (.int .i64)) c1)) [.box (.pr (.sl (.int .u8)) (.pr (.int .i64) (.int .u64))) c1o0] [] [], .res (.s (.v .bool false)) [.box (.pr (.sl (.int .u8)) (.pr (.int .i64) (.int .u64))) c2o0] [] []])
    (ps := [SC cfg.P i_spec_l1Cur_sureWord [.s (.mbx (.pr (.sl (.int .u8)) (.pr (.int .i64) (.int .u64))) (a0, ((0 : Int), (0 : Int)))), .s (.v (.int .i64) (18 : Int)), .s (.v (.int .i64) (2 : Int))] (.s (.v (.sl (.int .i64)) c1)) [.box (.pr (.sl (.int .u8)) (.pr (.int .i64) (.int .u64))) c1o0],
      SC cfg.P i_spec_l1Cur_one [.s (.mbx (.pr (.sl (.int .u8)) (.pr (.int .i64) (.int .u64))) c1o0), .s (.v (.int .i64) (12 : Int))] (.s (.v .bool false)) [.box (.pr (.sl (.int .u8)) (.pr (.int .i64) (.int .u64))) c2o0]]) (by kernel_rfl) ⟨h1, h2, trivial⟩ get_spec_DrawFreeReduce (by decide)

end Go.AI
