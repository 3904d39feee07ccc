/- A part of the road: what it proves stands in its last texts. -/
import Derived.Test.YtnhjfdkogbelaaaSIds
import Derived.Test.YtnhjfdkogbelaaaProg
set_option autoImplicit false
set_option maxRecDepth 100000
set_option linter.unusedVariables false
namespace Go.AI
open Go.Proofs

/-! ### spec_DrawAreApart -/


theorem spec_DrawAreApart_p1 (a0 : (List Int)) (c1a : (ByteArray × ByteArray)) (c1b : (ByteArray × ByteArray))
    (h1 : SC cfg.P i_spec_DrawDoCommute [.s (.v (.sl (.int .u8)) a0)] (.tup [.v (.pr .str .str) c1a, .v (.pr .str .str) c1b]) []) :
    SC cfg.P i_spec_DrawAreApart [.s (.v (.sl (.int .u8)) a0)] (.tup [.v (.pr .str .str) c1a, .v (.pr .str .str) c1b]) [] :=
  SC_of_run cfgOK (its := [.res (.tup [.v (.pr .str .str) c1a, .v (.pr .str .str) c1b]) [] [] []])
    (ps := [SC cfg.P i_spec_DrawDoCommute [.s (.v (.sl (.int .u8)) a0)] (.tup [.v (.pr .str .str) c1a, .v (.pr .str .str) c1b]) []]) (by kernel_rfl) ⟨h1, trivial⟩ get_spec_DrawAreApart (by decide)

/-! ### impl_DoCommute -/


theorem impl_DoCommute_p1 (a0 : (ByteArray × ByteArray)) (a1 : (ByteArray × ByteArray)) (c1a : (Tr × Tr)) (c1b : (Tr × Tr)) (c2 : (Tr × Tr)) (c3 : (Tr × Tr)) (c4 : Int)
    (h1 : SC cfg.P i_impl_two [.s (.v (.pr .str .str) a0), .s (.v (.pr .str .str) a1)] (.tup [.v (.pr .tree .tree) c1a, .v (.pr .tree .tree) c1b, .v .bool true]) [])
    (h2 : SC cfg.P i_impl_pair_times [.s (.v (.pr .tree .tree) c1a), .s (.v (.pr .tree .tree) c1b)] (.s (.v (.pr .tree .tree) c2)) [])
    (h3 : SC cfg.P i_impl_pair_times [.s (.v (.pr .tree .tree) c1b), .s (.v (.pr .tree .tree) c1a)] (.s (.v (.pr .tree .tree) c3)) [])
    (h4 : SC cfg.P i_impl_node_carets [.s (.v .tree c2.1)] (.s (.v (.int .i64) c4)) [])
    (h5 : c4 > (8 : Int)) :
    SC cfg.P i_impl_DoCommute [.s (.v (.pr .str .str) a0), .s (.v (.pr .str .str) a1)] (.tup [.v .bool false, .v .bool false]) [] :=
  SC_of_run cfgOK (its := [.res (.tup [.v (.pr .tree .tree) c1a, .v (.pr .tree .tree) c1b, .v .bool true]) [] [] [], .res (.s (.v (.pr .tree .tree) c2)) [] [] [], .res (.s (.v (.pr .tree .tree) c3)) [] [] [], .res (.s (.v (.int .i64) c4)) [] [] [], .bool true])
    (ps := [SC cfg.P i_impl_two [.s (.v (.pr .str .str) a0), .s (.v (.pr .str .str) a1)] (.tup [.v (.pr .tree .tree) c1a, .v (.pr .tree .tree) c1b, .v .bool true]) [],
      SC cfg.P i_impl_pair_times [.s (.v (.pr .tree .tree) c1a), .s (.v (.pr .tree .tree) c1b)] (.s (.v (.pr .tree .tree) c2)) [],
      SC cfg.P i_impl_pair_times [.s (.v (.pr .tree .tree) c1b), .s (.v (.pr .tree .tree) c1a)] (.s (.v (.pr .tree .tree) c3)) [],
      SC cfg.P i_impl_node_carets [.s (.v .tree c2.1)] (.s (.v (.int .i64) c4)) [],
      decide (c4 > (8 : Int)) = true]) (by kernel_rfl) ⟨h1, h2, h3, h4, (decide_eq_true h5), trivial⟩ get_impl_DoCommute (by decide)

theorem impl_DoCommute_p2 (a0 : (ByteArray × ByteArray)) (a1 : (ByteArray × ByteArray)) (c1a : (Tr × Tr)) (c1b : (Tr × Tr)) (c2 : (Tr × Tr)) (c3 : (Tr × Tr)) (c4 : Int) (c5 : Int)
    (h1 : SC cfg.P i_impl_two [.s (.v (.pr .str .str) a0), .s (.v (.pr .str .str) a1)] (.tup [.v (.pr .tree .tree) c1a, .v (.pr .tree .tree) c1b, .v .bool true]) [])
    (h2 : SC cfg.P i_impl_pair_times [.s (.v (.pr .tree .tree) c1a), .s (.v (.pr .tree .tree) c1b)] (.s (.v (.pr .tree .tree) c2)) [])
    (h3 : SC cfg.P i_impl_pair_times [.s (.v (.pr .tree .tree) c1b), .s (.v (.pr .tree .tree) c1a)] (.s (.v (.pr .tree .tree) c3)) [])
    (h4 : SC cfg.P i_impl_node_carets [.s (.v .tree c2.1)] (.s (.v (.int .i64) c4)) [])
    (h5 : ¬ (c4 > (8 : Int)))
    (h6 : SC cfg.P i_impl_node_carets [.s (.v .tree c3.1)] (.s (.v (.int .i64) c5)) [])
    (h7 : c5 > (8 : Int)) :
    SC cfg.P i_impl_DoCommute [.s (.v (.pr .str .str) a0), .s (.v (.pr .str .str) a1)] (.tup [.v .bool false, .v .bool false]) [] :=
  SC_of_run cfgOK (its := [.res (.tup [.v (.pr .tree .tree) c1a, .v (.pr .tree .tree) c1b, .v .bool true]) [] [] [], .res (.s (.v (.pr .tree .tree) c2)) [] [] [], .res (.s (.v (.pr .tree .tree) c3)) [] [] [], .res (.s (.v (.int .i64) c4)) [] [] [], .bool false, .res (.s (.v (.int .i64) c5)) [] [] [], .bool true])
    (ps := [SC cfg.P i_impl_two [.s (.v (.pr .str .str) a0), .s (.v (.pr .str .str) a1)] (.tup [.v (.pr .tree .tree) c1a, .v (.pr .tree .tree) c1b, .v .bool true]) [],
      SC cfg.P i_impl_pair_times [.s (.v (.pr .tree .tree) c1a), .s (.v (.pr .tree .tree) c1b)] (.s (.v (.pr .tree .tree) c2)) [],
      SC cfg.P i_impl_pair_times [.s (.v (.pr .tree .tree) c1b), .s (.v (.pr .tree .tree) c1a)] (.s (.v (.pr .tree .tree) c3)) [],
      SC cfg.P i_impl_node_carets [.s (.v .tree c2.1)] (.s (.v (.int .i64) c4)) [],
      decide (c4 > (8 : Int)) = false,
      SC cfg.P i_impl_node_carets [.s (.v .tree c3.1)] (.s (.v (.int .i64) c5)) [],
      decide (c5 > (8 : Int)) = true]) (by kernel_rfl) ⟨h1, h2, h3, h4, (decide_eq_false h5), h6, (decide_eq_true h7), trivial⟩ get_impl_DoCommute (by decide)

theorem impl_DoCommute_p3 (a0 : (ByteArray × ByteArray)) (a1 : (ByteArray × ByteArray)) (c1a : (Tr × Tr)) (c1b : (Tr × Tr)) (c2 : (Tr × Tr)) (c3 : (Tr × Tr)) (c4 : Int) (c5 : Int) (c6 : ByteArray) (c7 : ByteArray)
    (h1 : SC cfg.P i_impl_two [.s (.v (.pr .str .str) a0), .s (.v (.pr .str .str) a1)] (.tup [.v (.pr .tree .tree) c1a, .v (.pr .tree .tree) c1b, .v .bool true]) [])
    (h2 : SC cfg.P i_impl_pair_times [.s (.v (.pr .tree .tree) c1a), .s (.v (.pr .tree .tree) c1b)] (.s (.v (.pr .tree .tree) c2)) [])
    (h3 : SC cfg.P i_impl_pair_times [.s (.v (.pr .tree .tree) c1b), .s (.v (.pr .tree .tree) c1a)] (.s (.v (.pr .tree .tree) c3)) [])
    (h4 : SC cfg.P i_impl_node_carets [.s (.v .tree c2.1)] (.s (.v (.int .i64) c4)) [])
    (h5 : ¬ (c4 > (8 : Int)))
    (h6 : SC cfg.P i_impl_node_carets [.s (.v .tree c3.1)] (.s (.v (.int .i64) c5)) [])
    (h7 : ¬ (c5 > (8 : Int)))
    (h8 : SC cfg.P i_impl_pair_text [.s (.v (.pr .tree .tree) c2)] (.s (.v .str c6)) [])
    (h9 : SC cfg.P i_impl_pair_text [.s (.v (.pr .tree .tree) c3)] (.s (.v .str c7)) [])
    (h10 : c6 = c7) :
    SC cfg.P i_impl_DoCommute [.s (.v (.pr .str .str) a0), .s (.v (.pr .str .str) a1)] (.tup [.v .bool true, .v .bool true]) [] :=
  SC_of_run cfgOK (its := [.res (.tup [.v (.pr .tree .tree) c1a, .v (.pr .tree .tree) c1b, .v .bool true]) [] [] [], .res (.s (.v (.pr .tree .tree) c2)) [] [] [], .res (.s (.v (.pr .tree .tree) c3)) [] [] [], .res (.s (.v (.int .i64) c4)) [] [] [], .bool false, .res (.s (.v (.int .i64) c5)) [] [] [], .bool false, .res (.s (.v .str c6)) [] [] [], .res (.s (.v .str c7)) [] [] [], .bool true])
    (ps := [SC cfg.P i_impl_two [.s (.v (.pr .str .str) a0), .s (.v (.pr .str .str) a1)] (.tup [.v (.pr .tree .tree) c1a, .v (.pr .tree .tree) c1b, .v .bool true]) [],
      SC cfg.P i_impl_pair_times [.s (.v (.pr .tree .tree) c1a), .s (.v (.pr .tree .tree) c1b)] (.s (.v (.pr .tree .tree) c2)) [],
      SC cfg.P i_impl_pair_times [.s (.v (.pr .tree .tree) c1b), .s (.v (.pr .tree .tree) c1a)] (.s (.v (.pr .tree .tree) c3)) [],
      SC cfg.P i_impl_node_carets [.s (.v .tree c2.1)] (.s (.v (.int .i64) c4)) [],
      decide (c4 > (8 : Int)) = false,
      SC cfg.P i_impl_node_carets [.s (.v .tree c3.1)] (.s (.v (.int .i64) c5)) [],
      decide (c5 > (8 : Int)) = false,
      SC cfg.P i_impl_pair_text [.s (.v (.pr .tree .tree) c2)] (.s (.v .str c6)) [],
      SC cfg.P i_impl_pair_text [.s (.v (.pr .tree .tree) c3)] (.s (.v .str c7)) [],
      ((c6).toList == (c7).toList) = true]) (by kernel_rfl) ⟨h1, h2, h3, h4, (decide_eq_false h5), h6, (decide_eq_false h7), h8, h9, (seq_t h10), trivial⟩ get_impl_DoCommute (by decide)

theorem impl_DoCommute_p4 (a0 : (ByteArray × ByteArray)) (a1 : (ByteArray × ByteArray)) (c1a : (Tr × Tr)) (c1b : (Tr × Tr)) (c2 : (Tr × Tr)) (c3 : (Tr × Tr)) (c4 : Int) (c5 : Int) (c6 : ByteArray) (c7 : ByteArray)
    (h1 : SC cfg.P i_impl_two [.s (.v (.pr .str .str) a0), .s (.v (.pr .str .str) a1)] (.tup [.v (.pr .tree .tree) c1a, .v (.pr .tree .tree) c1b, .v .bool true]) [])
    (h2 : SC cfg.P i_impl_pair_times [.s (.v (.pr .tree .tree) c1a), .s (.v (.pr .tree .tree) c1b)] (.s (.v (.pr .tree .tree) c2)) [])
    (h3 : SC cfg.P i_impl_pair_times [.s (.v (.pr .tree .tree) c1b), .s (.v (.pr .tree .tree) c1a)] (.s (.v (.pr .tree .tree) c3)) [])
    (h4 : SC cfg.P i_impl_node_carets [.s (.v .tree c2.1)] (.s (.v (.int .i64) c4)) [])
    (h5 : ¬ (c4 > (8 : Int)))
    (h6 : SC cfg.P i_impl_node_carets [.s (.v .tree c3.1)] (.s (.v (.int .i64) c5)) [])
    (h7 : ¬ (c5 > (8 : Int)))
    (h8 : SC cfg.P i_impl_pair_text [.s (.v (.pr .tree .tree) c2)] (.s (.v .str c6)) [])
    (h9 : SC cfg.P i_impl_pair_text [.s (.v (.pr .tree .tree) c3)] (.s (.v .str c7)) [])
    (h10 : c6 ≠ c7) :
    SC cfg.P i_impl_DoCommute [.s (.v (.pr .str .str) a0), .s (.v (.pr .str .str) a1)] (.tup [.v .bool false, .v .bool true]) [] :=
  SC_of_run cfgOK (its := [.res (.tup [.v (.pr .tree .tree) c1a, .v (.pr .tree .tree) c1b, .v .bool true]) [] [] [], .res (.s (.v (.pr .tree .tree) c2)) [] [] [], .res (.s (.v (.pr .tree .tree) c3)) [] [] [], .res (.s (.v (.int .i64) c4)) [] [] [], .bool false, .res (.s (.v (.int .i64) c5)) [] [] [], .bool false, .res (.s (.v .str c6)) [] [] [], .res (.s (.v .str c7)) [] [] [], .bool false])
    (ps := [SC cfg.P i_impl_two [.s (.v (.pr .str .str) a0), .s (.v (.pr .str .str) a1)] (.tup [.v (.pr .tree .tree) c1a, .v (.pr .tree .tree) c1b, .v .bool true]) [],
      SC cfg.P i_impl_pair_times [.s (.v (.pr .tree .tree) c1a), .s (.v (.pr .tree .tree) c1b)] (.s (.v (.pr .tree .tree) c2)) [],
      SC cfg.P i_impl_pair_times [.s (.v (.pr .tree .tree) c1b), .s (.v (.pr .tree .tree) c1a)] (.s (.v (.pr .tree .tree) c3)) [],
      SC cfg.P i_impl_node_carets [.s (.v .tree c2.1)] (.s (.v (.int .i64) c4)) [],
      decide (c4 > (8 : Int)) = false,
      SC cfg.P i_impl_node_carets [.s (.v .tree c3.1)] (.s (.v (.int .i64) c5)) [],
      decide (c5 > (8 : Int)) = false,
      SC cfg.P i_impl_pair_text [.s (.v (.pr .tree .tree) c2)] (.s (.v .str c6)) [],
      SC cfg.P i_impl_pair_text [.s (.v (.pr .tree .tree) c3)] (.s (.v .str c7)) [],
      ((c6).toList == (c7).toList) = false]) (by kernel_rfl) ⟨h1, h2, h3, h4, (decide_eq_false h5), h6, (decide_eq_false h7), h8, h9, (seq_f h10), trivial⟩ get_impl_DoCommute (by decide)

theorem impl_DoCommute_p5 (a0 : (ByteArray × ByteArray)) (a1 : (ByteArray × ByteArray)) (c1a : (Tr × Tr)) (c1b : (Tr × Tr))
    (h1 : SC cfg.P i_impl_two [.s (.v (.pr .str .str) a0), .s (.v (.pr .str .str) a1)] (.tup [.v (.pr .tree .tree) c1a, .v (.pr .tree .tree) c1b, .v .bool false]) []) :
    SC cfg.P i_impl_DoCommute [.s (.v (.pr .str .str) a0), .s (.v (.pr .str .str) a1)] (.tup [.v .bool false, .v .bool false]) [] :=
  SC_of_run cfgOK (its := [.res (.tup [.v (.pr .tree .tree) c1a, .v (.pr .tree .tree) c1b, .v .bool false]) [] [] []])
    (ps := [SC cfg.P i_impl_two [.s (.v (.pr .str .str) a0), .s (.v (.pr .str .str) a1)] (.tup [.v (.pr .tree .tree) c1a, .v (.pr .tree .tree) c1b, .v .bool false]) []]) (by kernel_rfl) ⟨h1, trivial⟩ get_impl_DoCommute (by decide)

/-! ### spec_DoCommute -/


theorem spec_DoCommute_p1 (a0 : (ByteArray × ByteArray)) (a1 : (ByteArray × ByteArray)) (c3 : (ByteArray × ByteArray)) (c4a : (ByteArray × ByteArray)) (c5 : (ByteArray × ByteArray)) (c6a : (ByteArray × ByteArray))
    (h1 : SC cfg.P i_spec_prGood [.s (.v (.pr .str .str) a0)] (.s (.v .bool true)) [])
    (h2 : SC cfg.P i_spec_prGood [.s (.v (.pr .str .str) a1)] (.s (.v .bool true)) [])
    (h3 : SC cfg.P i_spec_prTimes [.s (.v (.pr .str .str) a0), .s (.v (.pr .str .str) a1)] (.s (.v (.pr .str .str) c3)) [])
    (h4 : SC cfg.P i_spec_prIf [.s (.v (.pr .str .str) c3)] (.tup [.v (.pr .str .str) c4a, .v .bool true]) [])
    (h5 : SC cfg.P i_spec_prTimes [.s (.v (.pr .str .str) a1), .s (.v (.pr .str .str) a0)] (.s (.v (.pr .str .str) c5)) [])
    (h6 : SC cfg.P i_spec_prIf [.s (.v (.pr .str .str) c5)] (.tup [.v (.pr .str .str) c6a, .v .bool true]) [])
    (h7 : (((c4a.1).toList == (c6a.1).toList) && ((c4a.2).toList == (c6a.2).toList)) = true) :
    SC cfg.P i_spec_DoCommute [.s (.v (.pr .str .str) a0), .s (.v (.pr .str .str) a1)] (.tup [.v .bool true, .v .bool true]) [] :=
  SC_of_run cfgOK (its := [.res (.s (.v .bool true)) [] [] [], .res (.s (.v .bool true)) [] [] [], .res (.s (.v (.pr .str .str) c3)) [] [] [], .res (.tup [.v (.pr .str .str) c4a, .v .bool true]) [] [] [], .res (.s (.v (.pr .str .str) c5)) [] [] [], .res (.tup [.v (.pr .str .str) c6a, .v .bool true]) [] [] [], .bool true])
    (ps := [SC cfg.P i_spec_prGood [.s (.v (.pr .str .str) a0)] (.s (.v .bool true)) [],
      SC cfg.P i_spec_prGood [.s (.v (.pr .str .str) a1)] (.s (.v .bool true)) [],
      SC cfg.P i_spec_prTimes [.s (.v (.pr .str .str) a0), .s (.v (.pr .str .str) a1)] (.s (.v (.pr .str .str) c3)) [],
      SC cfg.P i_spec_prIf [.s (.v (.pr .str .str) c3)] (.tup [.v (.pr .str .str) c4a, .v .bool true]) [],
      SC cfg.P i_spec_prTimes [.s (.v (.pr .str .str) a1), .s (.v (.pr .str .str) a0)] (.s (.v (.pr .str .str) c5)) [],
      SC cfg.P i_spec_prIf [.s (.v (.pr .str .str) c5)] (.tup [.v (.pr .str .str) c6a, .v .bool true]) [],
      (((c4a.1).toList == (c6a.1).toList) && ((c4a.2).toList == (c6a.2).toList)) = true]) (by kernel_rfl) ⟨h1, h2, h3, h4, h5, h6, h7, trivial⟩ get_spec_DoCommute (by decide)

theorem spec_DoCommute_p2 (a0 : (ByteArray × ByteArray)) (a1 : (ByteArray × ByteArray)) (c3 : (ByteArray × ByteArray)) (c4a : (ByteArray × ByteArray)) (c5 : (ByteArray × ByteArray)) (c6a : (ByteArray × ByteArray))
    (h1 : SC cfg.P i_spec_prGood [.s (.v (.pr .str .str) a0)] (.s (.v .bool true)) [])
    (h2 : SC cfg.P i_spec_prGood [.s (.v (.pr .str .str) a1)] (.s (.v .bool true)) [])
    (h3 : SC cfg.P i_spec_prTimes [.s (.v (.pr .str .str) a0), .s (.v (.pr .str .str) a1)] (.s (.v (.pr .str .str) c3)) [])
    (h4 : SC cfg.P i_spec_prIf [.s (.v (.pr .str .str) c3)] (.tup [.v (.pr .str .str) c4a, .v .bool true]) [])
    (h5 : SC cfg.P i_spec_prTimes [.s (.v (.pr .str .str) a1), .s (.v (.pr .str .str) a0)] (.s (.v (.pr .str .str) c5)) [])
    (h6 : SC cfg.P i_spec_prIf [.s (.v (.pr .str .str) c5)] (.tup [.v (.pr .str .str) c6a, .v .bool true]) [])
    (h7 : (((c4a.1).toList == (c6a.1).toList) && ((c4a.2).toList == (c6a.2).toList)) = false) :
    SC cfg.P i_spec_DoCommute [.s (.v (.pr .str .str) a0), .s (.v (.pr .str .str) a1)] (.tup [.v .bool false, .v .bool true]) [] :=
  SC_of_run cfgOK (its := [.res (.s (.v .bool true)) [] [] [], .res (.s (.v .bool true)) [] [] [], .res (.s (.v (.pr .str .str) c3)) [] [] [], .res (.tup [.v (.pr .str .str) c4a, .v .bool true]) [] [] [], .res (.s (.v (.pr .str .str) c5)) [] [] [], .res (.tup [.v (.pr .str .str) c6a, .v .bool true]) [] [] [], .bool false])
    (ps := [SC cfg.P i_spec_prGood [.s (.v (.pr .str .str) a0)] (.s (.v .bool true)) [],
      SC cfg.P i_spec_prGood [.s (.v (.pr .str .str) a1)] (.s (.v .bool true)) [],
      SC cfg.P i_spec_prTimes [.s (.v (.pr .str .str) a0), .s (.v (.pr .str .str) a1)] (.s (.v (.pr .str .str) c3)) [],
      SC cfg.P i_spec_prIf [.s (.v (.pr .str .str) c3)] (.tup [.v (.pr .str .str) c4a, .v .bool true]) [],
      SC cfg.P i_spec_prTimes [.s (.v (.pr .str .str) a1), .s (.v (.pr .str .str) a0)] (.s (.v (.pr .str .str) c5)) [],
      SC cfg.P i_spec_prIf [.s (.v (.pr .str .str) c5)] (.tup [.v (.pr .str .str) c6a, .v .bool true]) [],
      (((c4a.1).toList == (c6a.1).toList) && ((c4a.2).toList == (c6a.2).toList)) = false]) (by kernel_rfl) ⟨h1, h2, h3, h4, h5, h6, h7, trivial⟩ get_spec_DoCommute (by decide)

theorem spec_DoCommute_p3 (a0 : (ByteArray × ByteArray)) (a1 : (ByteArray × ByteArray)) (c3 : (ByteArray × ByteArray)) (c4a : (ByteArray × ByteArray)) (c5 : (ByteArray × ByteArray)) (c6a : (ByteArray × ByteArray))
    (h1 : SC cfg.P i_spec_prGood [.s (.v (.pr .str .str) a0)] (.s (.v .bool true)) [])
    (h2 : SC cfg.P i_spec_prGood [.s (.v (.pr .str .str) a1)] (.s (.v .bool true)) [])
    (h3 : SC cfg.P i_spec_prTimes [.s (.v (.pr .str .str) a0), .s (.v (.pr .str .str) a1)] (.s (.v (.pr .str .str) c3)) [])
    (h4 : SC cfg.P i_spec_prIf [.s (.v (.pr .str .str) c3)] (.tup [.v (.pr .str .str) c4a, .v .bool true]) [])
    (h5 : SC cfg.P i_spec_prTimes [.s (.v (.pr .str .str) a1), .s (.v (.pr .str .str) a0)] (.s (.v (.pr .str .str) c5)) [])
    (h6 : SC cfg.P i_spec_prIf [.s (.v (.pr .str .str) c5)] (.tup [.v (.pr .str .str) c6a, .v .bool false]) []) :
    SC cfg.P i_spec_DoCommute [.s (.v (.pr .str .str) a0), .s (.v (.pr .str .str) a1)] (.tup [.v .bool false, .v .bool false]) [] :=
  SC_of_run cfgOK (its := [.res (.s (.v .bool true)) [] [] [], .res (.s (.v .bool true)) [] [] [], .res (.s (.v (.pr .str .str) c3)) [] [] [], .res (.tup [.v (.pr .str .str) c4a, .v .bool true]) [] [] [], .res (.s (.v (.pr .str .str) c5)) [] [] [], .res (.tup [.v (.pr .str .str) c6a, .v .bool false]) [] [] []])
    (ps := [SC cfg.P i_spec_prGood [.s (.v (.pr .str .str) a0)] (.s (.v .bool true)) [],
      SC cfg.P i_spec_prGood [.s (.v (.pr .str .str) a1)] (.s (.v .bool true)) [],
      SC cfg.P i_spec_prTimes [.s (.v (.pr .str .str) a0), .s (.v (.pr .str .str) a1)] (.s (.v (.pr .str .str) c3)) [],
      SC cfg.P i_spec_prIf [.s (.v (.pr .str .str) c3)] (.tup [.v (.pr .str .str) c4a, .v .bool true]) [],
      SC cfg.P i_spec_prTimes [.s (.v (.pr .str .str) a1), .s (.v (.pr .str .str) a0)] (.s (.v (.pr .str .str) c5)) [],
      SC cfg.P i_spec_prIf [.s (.v (.pr .str .str) c5)] (.tup [.v (.pr .str .str) c6a, .v .bool false]) []]) (by kernel_rfl) ⟨h1, h2, h3, h4, h5, h6, trivial⟩ get_spec_DoCommute (by decide)

theorem spec_DoCommute_p4 (a0 : (ByteArray × ByteArray)) (a1 : (ByteArray × ByteArray)) (c3 : (ByteArray × ByteArray)) (c4a : (ByteArray × ByteArray)) (c5 : (ByteArray × ByteArray)) (c6a : (ByteArray × ByteArray)) (c6b : Bool)
    (h1 : SC cfg.P i_spec_prGood [.s (.v (.pr .str .str) a0)] (.s (.v .bool true)) [])
    (h2 : SC cfg.P i_spec_prGood [.s (.v (.pr .str .str) a1)] (.s (.v .bool true)) [])
    (h3 : SC cfg.P i_spec_prTimes [.s (.v (.pr .str .str) a0), .s (.v (.pr .str .str) a1)] (.s (.v (.pr .str .str) c3)) [])
    (h4 : SC cfg.P i_spec_prIf [.s (.v (.pr .str .str) c3)] (.tup [.v (.pr .str .str) c4a, .v .bool false]) [])
    (h5 : SC cfg.P i_spec_prTimes [.s (.v (.pr .str .str) a1), .s (.v (.pr .str .str) a0)] (.s (.v (.pr .str .str) c5)) [])
    (h6 : SC cfg.P i_spec_prIf [.s (.v (.pr .str .str) c5)] (.tup [.v (.pr .str .str) c6a, .v .bool c6b]) []) :
    SC cfg.P i_spec_DoCommute [.s (.v (.pr .str .str) a0), .s (.v (.pr .str .str) a1)] (.tup [.v .bool false, .v .bool false]) [] :=
  SC_of_run cfgOK (its := [.res (.s (.v .bool true)) [] [] [], .res (.s (.v .bool true)) [] [] [], .res (.s (.v (.pr .str .str) c3)) [] [] [], .res (.tup [.v (.pr .str .str) c4a, .v .bool false]) [] [] [], .res (.s (.v (.pr .str .str) c5)) [] [] [], .res (.tup [.v (.pr .str .str) c6a, .v .bool c6b]) [] [] []])
    (ps := [SC cfg.P i_spec_prGood [.s (.v (.pr .str .str) a0)] (.s (.v .bool true)) [],
      SC cfg.P i_spec_prGood [.s (.v (.pr .str .str) a1)] (.s (.v .bool true)) [],
      SC cfg.P i_spec_prTimes [.s (.v (.pr .str .str) a0), .s (.v (.pr .str .str) a1)] (.s (.v (.pr .str .str) c3)) [],
      SC cfg.P i_spec_prIf [.s (.v (.pr .str .str) c3)] (.tup [.v (.pr .str .str) c4a, .v .bool false]) [],
      SC cfg.P i_spec_prTimes [.s (.v (.pr .str .str) a1), .s (.v (.pr .str .str) a0)] (.s (.v (.pr .str .str) c5)) [],
      SC cfg.P i_spec_prIf [.s (.v (.pr .str .str) c5)] (.tup [.v (.pr .str .str) c6a, .v .bool c6b]) []]) (by kernel_rfl) ⟨h1, h2, h3, h4, h5, h6, trivial⟩ get_spec_DoCommute (by decide)

theorem spec_DoCommute_p5 (a0 : (ByteArray × ByteArray)) (a1 : (ByteArray × ByteArray))
    (h1 : SC cfg.P i_spec_prGood [.s (.v (.pr .str .str) a0)] (.s (.v .bool true)) [])
    (h2 : SC cfg.P i_spec_prGood [.s (.v (.pr .str .str) a1)] (.s (.v .bool false)) []) :
    SC cfg.P i_spec_DoCommute [.s (.v (.pr .str .str) a0), .s (.v (.pr .str .str) a1)] (.tup [.v .bool false, .v .bool false]) [] :=
  SC_of_run cfgOK (its := [.res (.s (.v .bool true)) [] [] [], .res (.s (.v .bool false)) [] [] []])
    (ps := [SC cfg.P i_spec_prGood [.s (.v (.pr .str .str) a0)] (.s (.v .bool true)) [],
      SC cfg.P i_spec_prGood [.s (.v (.pr .str .str) a1)] (.s (.v .bool false)) []]) (by kernel_rfl) ⟨h1, h2, trivial⟩ get_spec_DoCommute (by decide)

theorem spec_DoCommute_p6 (a0 : (ByteArray × ByteArray)) (a1 : (ByteArray × ByteArray))
    (h1 : SC cfg.P i_spec_prGood [.s (.v (.pr .str .str) a0)] (.s (.v .bool false)) []) :
    SC cfg.P i_spec_DoCommute [.s (.v (.pr .str .str) a0), .s (.v (.pr .str .str) a1)] (.tup [.v .bool false, .v .bool false]) [] :=
  SC_of_run cfgOK (its := [.res (.s (.v .bool false)) [] [] []])
    (ps := [SC cfg.P i_spec_prGood [.s (.v (.pr .str .str) a0)] (.s (.v .bool false)) []]) (by kernel_rfl) ⟨h1, trivial⟩ get_spec_DoCommute (by decide)

/-! ### spec_DrawDoCommute -/


theorem spec_DrawDoCommute_p1 (a0 : (List Int)) (c1a : (ByteArray × ByteArray)) (c1b : (ByteArray × ByteArray)) (c1o0 : ((List Int) × (Int × Int)))
    (h1 : SC cfg.P i_spec_l1Cur_apart [.s (.mbx (.pr (.sl (.int .u8)) (.pr (.int .i64) (.int .u64))) (a0, ((0 : Int), (0 : Int))))] (.tup [.v (.pr .str .str) c1a, .v (.pr .str .str) c1b]) [.box (.pr (.sl (.int .u8)) (.pr (.int .i64) (.int .u64))) c1o0]) :
    SC cfg.P i_spec_DrawDoCommute [.s (.v (.sl (.int .u8)) a0)] (.tup [.v (.pr .str .str) c1a, .v (.pr .str .str) c1b]) [] :=
  SC_of_run cfgOK (its := [.res (.tup [.v (.pr .str .str) c1a, .v (.pr .str .str) c1b]) [.box (.pr (.sl (.int .u8)) (.pr (.int .i64) (.int .u64))) c1o0] [] []])
    (ps := [SC cfg.P i_spec_l1Cur_apart [.s (.mbx (.pr (.sl (.int .u8)) (.pr (.int .i64) (.int .u64))) (a0, ((0 : Int), (0 : Int))))] (.tup [.v (.pr .str .str) c1a, .v (.pr .str .str) c1b]) [.box (.pr (.sl (.int .u8)) (.pr (.int .i64) (.int .u64))) c1o0]]) (by kernel_rfl) ⟨h1, trivial⟩ get_spec_DrawDoCommute (by decide)

/-! ### impl_ProductPair -/


theorem impl_ProductPair_p1 (a0 : (ByteArray × ByteArray)) (a1 : (ByteArray × ByteArray)) (c1a : (Tr × Tr)) (c1b : (Tr × Tr)) (c2 : (Tr × Tr)) (c3a : (ByteArray × ByteArray)) (c3b : Bool)
    (h1 : SC cfg.P i_impl_two [.s (.v (.pr .str .str) a0), .s (.v (.pr .str .str) a1)] (.tup [.v (.pr .tree .tree) c1a, .v (.pr .tree .tree) c1b, .v .bool true]) [])
    (h2 : SC cfg.P i_impl_pair_times [.s (.v (.pr .tree .tree) c1a), .s (.v (.pr .tree .tree) c1b)] (.s (.v (.pr .tree .tree) c2)) [])
    (h3 : SC cfg.P i_impl_pair_fits [.s (.v (.pr .tree .tree) c2)] (.tup [.v (.pr .str .str) c3a, .v .bool c3b]) []) :
    SC cfg.P i_impl_ProductPair [.s (.v (.pr .str .str) a0), .s (.v (.pr .str .str) a1)] (.tup [.v (.pr .str .str) c3a, .v .bool c3b]) [] :=
  SC_of_run cfgOK (its := [.res (.tup [.v (.pr .tree .tree) c1a, .v (.pr .tree .tree) c1b, .v .bool true]) [] [] [], .res (.s (.v (.pr .tree .tree) c2)) [] [] [], .res (.tup [.v (.pr .str .str) c3a, .v .bool c3b]) [] [] []])
    (ps := [SC cfg.P i_impl_two [.s (.v (.pr .str .str) a0), .s (.v (.pr .str .str) a1)] (.tup [.v (.pr .tree .tree) c1a, .v (.pr .tree .tree) c1b, .v .bool true]) [],
      SC cfg.P i_impl_pair_times [.s (.v (.pr .tree .tree) c1a), .s (.v (.pr .tree .tree) c1b)] (.s (.v (.pr .tree .tree) c2)) [],
      SC cfg.P i_impl_pair_fits [.s (.v (.pr .tree .tree) c2)] (.tup [.v (.pr .str .str) c3a, .v .bool c3b]) []]) (by kernel_rfl) ⟨h1, h2, h3, trivial⟩ get_impl_ProductPair (by decide)

theorem impl_ProductPair_p2 (a0 : (ByteArray × ByteArray)) (a1 : (ByteArray × ByteArray)) (c1a : (Tr × Tr)) (c1b : (Tr × Tr))
    (h1 : SC cfg.P i_impl_two [.s (.v (.pr .str .str) a0), .s (.v (.pr .str .str) a1)] (.tup [.v (.pr .tree .tree) c1a, .v (.pr .tree .tree) c1b, .v .bool false]) []) :
    SC cfg.P i_impl_ProductPair [.s (.v (.pr .str .str) a0), .s (.v (.pr .str .str) a1)] (.tup [.v (.pr .str .str) ((⟨#[]⟩ : ByteArray), (⟨#[]⟩ : ByteArray)), .v .bool false]) [] :=
  SC_of_run cfgOK (its := [.res (.tup [.v (.pr .tree .tree) c1a, .v (.pr .tree .tree) c1b, .v .bool false]) [] [] []])
    (ps := [SC cfg.P i_impl_two [.s (.v (.pr .str .str) a0), .s (.v (.pr .str .str) a1)] (.tup [.v (.pr .tree .tree) c1a, .v (.pr .tree .tree) c1b, .v .bool false]) []]) (by kernel_rfl) ⟨h1, trivial⟩ get_impl_ProductPair (by decide)

/-! ### spec_l1Cur_apart -/


theorem spec_l1Cur_apart_p1 (a0 : ((List Int) × (Int × Int))) (c1 : (ByteArray × ByteArray)) (c1o0 : ((List Int) × (Int × Int))) (c2 : (ByteArray × ByteArray)) (c2o0 : ((List Int) × (Int × Int))) (c5o0 : ((List Int) × (Int × Int))) (c6 : ByteArray) (c7 : ByteArray) (c8 : ByteArray) (c9 : ByteArray)
    (h1 : SC cfg.P i_spec_l1Cur_pair [.s (.mbx (.pr (.sl (.int .u8)) (.pr (.int .i64) (.int .u64))) a0), .s (.v (.int .i64) (3 : Int))] (.s (.v (.pr .str .str) c1)) [.box (.pr (.sl (.int .u8)) (.pr (.int .i64) (.int .u64))) c1o0])
    (h2 : SC cfg.P i_spec_l1Cur_pair [.s (.mbx (.pr (.sl (.int .u8)) (.pr (.int .i64) (.int .u64))) c1o0), .s (.v (.int .i64) (3 : Int))] (.s (.v (.pr .str .str) c2)) [.box (.pr (.sl (.int .u8)) (.pr (.int .i64) (.int .u64))) c2o0])
    (h3 : SC cfg.P i_spec_prGood [.s (.v (.pr .str .str) c1)] (.s (.v .bool true)) [])
    (h4 : SC cfg.P i_spec_prGood [.s (.v (.pr .str .str) c2)] (.s (.v .bool true)) [])
    (h5 : SC cfg.P i_spec_l1Cur_one [.s (.mbx (.pr (.sl (.int .u8)) (.pr (.int .i64) (.int .u64))) c2o0), .s (.v (.int .i64) (2 : Int))] (.s (.v .bool true)) [.box (.pr (.sl (.int .u8)) (.pr (.int .i64) (.int .u64))) c5o0])
    (h6 : SC cfg.P i_spec_trOf [.s (.v .str c1.1), .s (.v .str (⟨#[46]⟩ : ByteArray))] (.s (.v .str c6)) [])
    (h7 : SC cfg.P i_spec_trOf [.s (.v .str c1.2), .s (.v .str (⟨#[46]⟩ : ByteArray))] (.s (.v .str c7)) [])
    (h8 : SC cfg.P i_spec_trOf [.s (.v .str (⟨#[46]⟩ : ByteArray)), .s (.v .str c2.1)] (.s (.v .str c8)) [])
    (h9 : SC cfg.P i_spec_trOf [.s (.v .str (⟨#[46]⟩ : ByteArray)), .s (.v .str c2.2)] (.s (.v .str c9)) []) :
    SC cfg.P i_spec_l1Cur_apart [.s (.mbx (.pr (.sl (.int .u8)) (.pr (.int .i64) (.int .u64))) a0)] (.tup [.v (.pr .str .str) (c6, c7), .v (.pr .str .str) (c8, c9)]) [.box (.pr (.sl (.int .u8)) (.pr (.int .i64) (.int .u64))) c5o0] :=
  SC_of_run cfgOK (its := [.res (.s (.v (.pr .str .str) c1)) [.box (.pr (.sl (.int .u8)) (.pr (.int .i64) (.int .u64))) c1o0] [] [], .res (.s (.v (.pr .str .str) c2)) [.box (.pr (.sl (.int .u8)) (.pr (.int .i64) (.int .u64))) c2o0] [] [], .res (.s (.v .bool true)) [] [] [], .res (.s (.v .bool true)) [] [] [], .res (.s (.v .bool true)) [.box (.pr (.sl (.int .u8)) (.pr (.int .i64) (.int .u64))) c5o0] [] [], .res (.s (.v .str c6)) [] [] [], .res (.s (.v .str c7)) [] [] [], .res (.s (.v .str c8)) [] [] [], .res (.s (.v .str c9)) [] [] []])
    (ps := [SC cfg.P i_spec_l1Cur_pair [.s (.mbx (.pr (.sl (.int .u8)) (.pr (.int .i64) (.int .u64))) a0), .s (.v (.int .i64) (3 : Int))] (.s (.v (.pr .str .str) c1)) [.box (.pr (.sl (.int .u8)) (.pr (.int .i64) (.int .u64))) c1o0],
      SC cfg.P i_spec_l1Cur_pair [.s (.mbx (.pr (.sl (.int .u8)) (.pr (.int .i64) (.int .u64))) c1o0), .s (.v (.int .i64) (3 : Int))] (.s (.v (.pr .str .str) c2)) [.box (.pr (.sl (.int .u8)) (.pr (.int .i64) (.int .u64))) c2o0],
      SC cfg.P i_spec_prGood [.s (.v (.pr .str .str) c1)] (.s (.v .bool true)) [],
      SC cfg.P i_spec_prGood [.s (.v (.pr .str .str) c2)] (.s (.v .bool true)) [],
      SC cfg.P i_spec_l1Cur_one [.s (.mbx (.pr (.sl (.int .u8)) (.pr (.int .i64) (.int .u64))) c2o0), .s (.v (.int .i64) (2 : Int))] (.s (.v .bool true)) [.box (.pr (.sl (.int .u8)) (.pr (.int .i64) (.int .u64))) c5o0],
      SC cfg.P i_spec_trOf [.s (.v .str c1.1), .s (.v .str (⟨#[46]⟩ : ByteArray))] (.s (.v .str c6)) [],
      SC cfg.P i_spec_trOf [.s (.v .str c1.2), .s (.v .str (⟨#[46]⟩ : ByteArray))] (.s (.v .str c7)) [],
      SC cfg.P i_spec_trOf [.s (.v .str (⟨#[46]⟩ : ByteArray)), .s (.v .str c2.1)] (.s (.v .str c8)) [],
      SC cfg.P i_spec_trOf [.s (.v .str (⟨#[46]⟩ : ByteArray)), .s (.v .str c2.2)] (.s (.v .str c9)) []]) (by kernel_rfl) ⟨h1, h2, h3, h4, h5, h6, h7, h8, h9, trivial⟩ get_spec_l1Cur_apart (by decide)

theorem spec_l1Cur_apart_p2 (a0 : ((List Int) × (Int × Int))) (c1 : (ByteArray × ByteArray)) (c1o0 : ((List Int) × (Int × Int))) (c2 : (ByteArray × ByteArray)) (c2o0 : ((List Int) × (Int × Int))) (c5o0 : ((List Int) × (Int × Int)))
    (h1 : SC cfg.P i_spec_l1Cur_pair [.s (.mbx (.pr (.sl (.int .u8)) (.pr (.int .i64) (.int .u64))) a0), .s (.v (.int .i64) (3 : Int))] (.s (.v (.pr .str .str) c1)) [.box (.pr (.sl (.int .u8)) (.pr (.int .i64) (.int .u64))) c1o0])
    (h2 : SC cfg.P i_spec_l1Cur_pair [.s (.mbx (.pr (.sl (.int .u8)) (.pr (.int .i64) (.int .u64))) c1o0), .s (.v (.int .i64) (3 : Int))] (.s (.v (.pr .str .str) c2)) [.box (.pr (.sl (.int .u8)) (.pr (.int .i64) (.int .u64))) c2o0])
    (h3 : SC cfg.P i_spec_prGood [.s (.v (.pr .str .str) c1)] (.s (.v .bool true)) [])
    (h4 : SC cfg.P i_spec_prGood [.s (.v (.pr .str .str) c2)] (.s (.v .bool true)) [])
    (h5 : SC cfg.P i_spec_l1Cur_one [.s (.mbx (.pr (.sl (.int .u8)) (.pr (.int .i64) (.int .u64))) c2o0), .s (.v (.int .i64) (2 : Int))] (.s (.v .bool false)) [.box (.pr (.sl (.int .u8)) (.pr (.int .i64) (.int .u64))) c5o0]) :
    SC cfg.P i_spec_l1Cur_apart [.s (.mbx (.pr (.sl (.int .u8)) (.pr (.int .i64) (.int .u64))) a0)] (.tup [.v (.pr .str .str) c1, .v (.pr .str .str) c2]) [.box (.pr (.sl (.int .u8)) (.pr (.int .i64) (.int .u64))) c5o0] :=
  SC_of_run cfgOK (its := [.res (.s (.v (.pr .str .str) c1)) [.box (.pr (.sl (.int .u8)) (.pr (.int .i64) (.int .u64))) c1o0] [] [], .res (.s (.v (.pr .str .str) c2)) [.box (.pr (.sl (.int .u8)) (.pr (.int .i64) (.int .u64))) c2o0] [] [], .res (.s (.v .bool true)) [] [] [], .res (.s (.v .bool true)) [] [] [], .res (.s (.v .bool false)) [.box (.pr (.sl (.int .u8)) (.pr (.int .i64) (.int .u64))) c5o0] [] []])
    (ps := [SC cfg.P i_spec_l1Cur_pair [.s (.mbx (.pr (.sl (.int .u8)) (.pr (.int .i64) (.int .u64))) a0), .s (.v (.int .i64) (3 : Int))] (.s (.v (.pr .str .str) c1)) [.box (.pr (.sl (.int .u8)) (.pr (.int .i64) (.int .u64))) c1o0],
      SC cfg.P i_spec_l1Cur_pair [.s (.mbx (.pr (.sl (.int .u8)) (.pr (.int .i64) (.int .u64))) c1o0), .s (.v (.int .i64) (3 : Int))] (.s (.v (.pr .str .str) c2)) [.box (.pr (.sl (.int .u8)) (.pr (.int .i64) (.int .u64))) c2o0],
      SC cfg.P i_spec_prGood [.s (.v (.pr .str .str) c1)] (.s (.v .bool true)) [],
      SC cfg.P i_spec_prGood [.s (.v (.pr .str .str) c2)] (.s (.v .bool true)) [],
      SC cfg.P i_spec_l1Cur_one [.s (.mbx (.pr (.sl (.int .u8)) (.pr (.int .i64) (.int .u64))) c2o0), .s (.v (.int .i64) (2 : Int))] (.s (.v .bool false)) [.box (.pr (.sl (.int .u8)) (.pr (.int .i64) (.int .u64))) c5o0]]) (by kernel_rfl) ⟨h1, h2, h3, h4, h5, trivial⟩ get_spec_l1Cur_apart (by decide)

theorem spec_l1Cur_apart_p3 (a0 : ((List Int) × (Int × Int))) (c1 : (ByteArray × ByteArray)) (c1o0 : ((List Int) × (Int × Int))) (c2 : (ByteArray × ByteArray)) (c2o0 : ((List Int) × (Int × Int)))
    (h1 : SC cfg.P i_spec_l1Cur_pair [.s (.mbx (.pr (.sl (.int .u8)) (.pr (.int .i64) (.int .u64))) a0), .s (.v (.int .i64) (3 : Int))] (.s (.v (.pr .str .str) c1)) [.box (.pr (.sl (.int .u8)) (.pr (.int .i64) (.int .u64))) c1o0])
    (h2 : SC cfg.P i_spec_l1Cur_pair [.s (.mbx (.pr (.sl (.int .u8)) (.pr (.int .i64) (.int .u64))) c1o0), .s (.v (.int .i64) (3 : Int))] (.s (.v (.pr .str .str) c2)) [.box (.pr (.sl (.int .u8)) (.pr (.int .i64) (.int .u64))) c2o0])
    (h3 : SC cfg.P i_spec_prGood [.s (.v (.pr .str .str) c1)] (.s (.v .bool true)) [])
    (h4 : SC cfg.P i_spec_prGood [.s (.v (.pr .str .str) c2)] (.s (.v .bool false)) []) :
    SC cfg.P i_spec_l1Cur_apart [.s (.mbx (.pr (.sl (.int .u8)) (.pr (.int .i64) (.int .u64))) a0)] (.tup [.v (.pr .str .str) c1, .v (.pr .str .str) c2]) [.box (.pr (.sl (.int .u8)) (.pr (.int .i64) (.int .u64))) c2o0] :=
  SC_of_run cfgOK (its := [.res (.s (.v (.pr .str .str) c1)) [.box (.pr (.sl (.int .u8)) (.pr (.int .i64) (.int .u64))) c1o0] [] [], .res (.s (.v (.pr .str .str) c2)) [.box (.pr (.sl (.int .u8)) (.pr (.int .i64) (.int .u64))) c2o0] [] [], .res (.s (.v .bool true)) [] [] [], .res (.s (.v .bool false)) [] [] []])
    (ps := [SC cfg.P i_spec_l1Cur_pair [.s (.mbx (.pr (.sl (.int .u8)) (.pr (.int .i64) (.int .u64))) a0), .s (.v (.int .i64) (3 : Int))] (.s (.v (.pr .str .str) c1)) [.box (.pr (.sl (.int .u8)) (.pr (.int .i64) (.int .u64))) c1o0],
      SC cfg.P i_spec_l1Cur_pair [.s (.mbx (.pr (.sl (.int .u8)) (.pr (.int .i64) (.int .u64))) c1o0), .s (.v (.int .i64) (3 : Int))] (.s (.v (.pr .str .str) c2)) [.box (.pr (.sl (.int .u8)) (.pr (.int .i64) (.int .u64))) c2o0],
      SC cfg.P i_spec_prGood [.s (.v (.pr .str .str) c1)] (.s (.v .bool true)) [],
      SC cfg.P i_spec_prGood [.s (.v (.pr .str .str) c2)] (.s (.v .bool false)) []]) (by kernel_rfl) ⟨h1, h2, h3, h4, trivial⟩ get_spec_l1Cur_apart (by decide)

theorem spec_l1Cur_apart_p4 (a0 : ((List Int) × (Int × Int))) (c1 : (ByteArray × ByteArray)) (c1o0 : ((List Int) × (Int × Int))) (c2 : (ByteArray × ByteArray)) (c2o0 : ((List Int) × (Int × Int)))
    (h1 : SC cfg.P i_spec_l1Cur_pair [.s (.mbx (.pr (.sl (.int .u8)) (.pr (.int .i64) (.int .u64))) a0), .s (.v (.int .i64) (3 : Int))] (.s (.v (.pr .str .str) c1)) [.box (.pr (.sl (.int .u8)) (.pr (.int .i64) (.int .u64))) c1o0])
    (h2 : SC cfg.P i_spec_l1Cur_pair [.s (.mbx (.pr (.sl (.int .u8)) (.pr (.int .i64) (.int .u64))) c1o0), .s (.v (.int .i64) (3 : Int))] (.s (.v (.pr .str .str) c2)) [.box (.pr (.sl (.int .u8)) (.pr (.int .i64) (.int .u64))) c2o0])
    (h3 : SC cfg.P i_spec_prGood [.s (.v (.pr .str .str) c1)] (.s (.v .bool false)) []) :
    SC cfg.P i_spec_l1Cur_apart [.s (.mbx (.pr (.sl (.int .u8)) (.pr (.int .i64) (.int .u64))) a0)] (.tup [.v (.pr .str .str) c1, .v (.pr .str .str) c2]) [.box (.pr (.sl (.int .u8)) (.pr (.int .i64) (.int .u64))) c2o0] :=
  SC_of_run cfgOK (its := [.res (.s (.v (.pr .str .str) c1)) [.box (.pr (.sl (.int .u8)) (.pr (.int .i64) (.int .u64))) c1o0] [] [], .res (.s (.v (.pr .str .str) c2)) [.box (.pr (.sl (.int .u8)) (.pr (.int .i64) (.int .u64))) c2o0] [] [], .res (.s (.v .bool false)) [] [] []])
    (ps := [SC cfg.P i_spec_l1Cur_pair [.s (.mbx (.pr (.sl (.int .u8)) (.pr (.int .i64) (.int .u64))) a0), .s (.v (.int .i64) (3 : Int))] (.s (.v (.pr .str .str) c1)) [.box (.pr (.sl (.int .u8)) (.pr (.int .i64) (.int .u64))) c1o0],
      SC cfg.P i_spec_l1Cur_pair [.s (.mbx (.pr (.sl (.int .u8)) (.pr (.int .i64) (.int .u64))) c1o0), .s (.v (.int .i64) (3 : Int))] (.s (.v (.pr .str .str) c2)) [.box (.pr (.sl (.int .u8)) (.pr (.int .i64) (.int .u64))) c2o0],
      SC cfg.P i_spec_prGood [.s (.v (.pr .str .str) c1)] (.s (.v .bool false)) []]) (by kernel_rfl) ⟨h1, h2, h3, trivial⟩ get_spec_l1Cur_apart (by decide)

end Go.AI
