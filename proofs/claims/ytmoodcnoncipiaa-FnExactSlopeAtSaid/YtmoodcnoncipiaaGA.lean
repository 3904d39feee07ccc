/- A part of the road: what it proves stands in its last texts. -/
import Derived.Test.YtmoodcnoncipiaaSIds
import Derived.Test.YtmoodcnoncipiaaProg
set_option autoImplicit false
set_option maxRecDepth 100000
set_option linter.unusedVariables false
namespace Go.AI
open Go.Proofs

/-! ### laws_FnExactSlopeAt -/


theorem laws_FnExactSlopeAt_p1 (a0 : (ByteArray × ByteArray)) (a1 : (Int × Int)) (c1 : Int)
    (h1 : SC cfg.P i_laws_szPair [.s (.v (.pr .str .str) a0), .s (.v (.int .i64) (1048576 : Int))] (.s (.v (.int .i64) c1)) [])
    (h2 : c1 < (0 : Int)) :
    SC cfg.P i_laws_FnExactSlopeAt [.s (.v (.pr .str .str) a0), .s (.v (.pr (.int .i64) (.int .i64)) a1)] (.s (.v .bool true)) [] :=
  SC_of_run cfgOK (its := [.res (.s (.v (.int .i64) c1)) [] [] [], .bool true])
    (ps := [SC cfg.P i_laws_szPair [.s (.v (.pr .str .str) a0), .s (.v (.int .i64) (1048576 : Int))] (.s (.v (.int .i64) c1)) [],
      decide (c1 < (0 : Int)) = true]) (by kernel_rfl) ⟨h1, (decide_eq_true h2), trivial⟩ get_laws_FnExactSlopeAt (by decide)

theorem laws_FnExactSlopeAt_p2 (a0 : (ByteArray × ByteArray)) (a1 : (Int × Int)) (c1 : Int) (c2 : (ByteArray × ByteArray)) (c3 : (Int × Int)) (c4a : Int) (c4b : Bool) (c5 : (ByteArray × ByteArray)) (c6 : (Int × Int)) (c7a : Int) (c7b : Bool)
    (h1 : SC cfg.P i_laws_szPair [.s (.v (.pr .str .str) a0), .s (.v (.int .i64) (1048576 : Int))] (.s (.v (.int .i64) c1)) [])
    (h2 : ¬ (c1 < (0 : Int)))
    (h3 : SC cfg.P i_laws_toPair [.s (.v (.pr .str .str) a0)] (.s (.v (.pr .str .str) c2)) [])
    (h4 : SC cfg.P i_laws_toFraction [.s (.v (.pr (.int .i64) (.int .i64)) a1)] (.s (.v (.pr (.int .i64) (.int .i64)) c3)) [])
    (h5 : SC cfg.P i_spec_SlopeAt [.s (.v (.pr .str .str) c2), .s (.v (.pr (.int .i64) (.int .i64)) c3)] (.tup [.v (.int .i64) c4a, .v .bool c4b]) [])
    (h6 : SC cfg.P i_laws_toPair [.s (.v (.pr .str .str) a0)] (.s (.v (.pr .str .str) c5)) [])
    (h7 : SC cfg.P i_laws_toFraction [.s (.v (.pr (.int .i64) (.int .i64)) a1)] (.s (.v (.pr (.int .i64) (.int .i64)) c6)) [])
    (h8 : SC cfg.P i_impl_SlopeAt [.s (.v (.pr .str .str) c5), .s (.v (.pr (.int .i64) (.int .i64)) c6)] (.tup [.v (.int .i64) c7a, .v .bool c7b]) [])
    (h9 : c7a = c4a)
    (h10 : (!(c7b == c4b)) = false) :
    SC cfg.P i_laws_FnExactSlopeAt [.s (.v (.pr .str .str) a0), .s (.v (.pr (.int .i64) (.int .i64)) a1)] (.s (.v .bool true)) [] :=
  SC_of_run cfgOK (its := [.res (.s (.v (.int .i64) c1)) [] [] [], .bool false, .res (.s (.v (.pr .str .str) c2)) [] [] [], .res (.s (.v (.pr (.int .i64) (.int .i64)) c3)) [] [] [], .res (.tup [.v (.int .i64) c4a, .v .bool c4b]) [] [] [], .res (.s (.v (.pr .str .str) c5)) [] [] [], .res (.s (.v (.pr (.int .i64) (.int .i64)) c6)) [] [] [], .res (.tup [.v (.int .i64) c7a, .v .bool c7b]) [] [] [], .bool false, .bool false])
    (ps := [SC cfg.P i_laws_szPair [.s (.v (.pr .str .str) a0), .s (.v (.int .i64) (1048576 : Int))] (.s (.v (.int .i64) c1)) [],
      decide (c1 < (0 : Int)) = false,
      SC cfg.P i_laws_toPair [.s (.v (.pr .str .str) a0)] (.s (.v (.pr .str .str) c2)) [],
      SC cfg.P i_laws_toFraction [.s (.v (.pr (.int .i64) (.int .i64)) a1)] (.s (.v (.pr (.int .i64) (.int .i64)) c3)) [],
      SC cfg.P i_spec_SlopeAt [.s (.v (.pr .str .str) c2), .s (.v (.pr (.int .i64) (.int .i64)) c3)] (.tup [.v (.int .i64) c4a, .v .bool c4b]) [],
      SC cfg.P i_laws_toPair [.s (.v (.pr .str .str) a0)] (.s (.v (.pr .str .str) c5)) [],
      SC cfg.P i_laws_toFraction [.s (.v (.pr (.int .i64) (.int .i64)) a1)] (.s (.v (.pr (.int .i64) (.int .i64)) c6)) [],
      SC cfg.P i_impl_SlopeAt [.s (.v (.pr .str .str) c5), .s (.v (.pr (.int .i64) (.int .i64)) c6)] (.tup [.v (.int .i64) c7a, .v .bool c7b]) [],
      (c7a != c4a) = false,
      (!(c7b == c4b)) = false]) (by kernel_rfl) ⟨h1, (decide_eq_false h2), h3, h4, h5, h6, h7, h8, (bne_f h9), h10, trivial⟩ get_laws_FnExactSlopeAt (by decide)

/-! ### spec_SlopeAt -/


theorem spec_SlopeAt_p1 (a0 : (ByteArray × ByteArray)) (a1 : (Int × Int)) (c3 : (List Int)) (c4 : Int)
    (h1 : SC cfg.P i_spec_prGood [.s (.v (.pr .str .str) a0)] (.s (.v .bool true)) [])
    (h2 : SC cfg.P i_spec_mpGood [.s (.v (.pr (.int .i64) (.int .i64)) a1)] (.s (.v .bool true)) [])
    (h3 : SC cfg.P i_spec_mpSlopes [.s (.v (.pr .str .str) a0)] (.s (.v (.sl (.int .i64)) c3)) [])
    (h4 : SC cfg.P i_spec_mpLeaf [.s (.v .str a0.1), .s (.v (.pr (.int .i64) (.int .i64)) a1)] (.s (.v (.int .i64) c4)) [])
    (h5 : 0 ≤ c4)
    (h6 : c4 < (List.length c3 : Int)) :
    SC cfg.P i_spec_SlopeAt [.s (.v (.pr .str .str) a0), .s (.v (.pr (.int .i64) (.int .i64)) a1)] (.tup [.v (.int .i64) (List.getD c3 (c4).toNat (0 : Int)), .v .bool true]) [] :=
  SC_of_run cfgOK (its := [.res (.s (.v .bool true)) [] [] [], .res (.s (.v .bool true)) [] [] [], .res (.s (.v (.sl (.int .i64)) c3)) [] [] [], .res (.s (.v (.int .i64) c4)) [] [] []])
    (ps := [SC cfg.P i_spec_prGood [.s (.v (.pr .str .str) a0)] (.s (.v .bool true)) [],
      SC cfg.P i_spec_mpGood [.s (.v (.pr (.int .i64) (.int .i64)) a1)] (.s (.v .bool true)) [],
      SC cfg.P i_spec_mpSlopes [.s (.v (.pr .str .str) a0)] (.s (.v (.sl (.int .i64)) c3)) [],
      SC cfg.P i_spec_mpLeaf [.s (.v .str a0.1), .s (.v (.pr (.int .i64) (.int .i64)) a1)] (.s (.v (.int .i64) c4)) [],
      0 ≤ c4,
      c4 < (List.length c3 : Int)]) (by kernel_rfl) ⟨h1, h2, h3, h4, h5, h6, trivial⟩ get_spec_SlopeAt (by decide)

theorem spec_SlopeAt_p2 (a0 : (ByteArray × ByteArray)) (a1 : (Int × Int))
    (h1 : SC cfg.P i_spec_prGood [.s (.v (.pr .str .str) a0)] (.s (.v .bool true)) [])
    (h2 : SC cfg.P i_spec_mpGood [.s (.v (.pr (.int .i64) (.int .i64)) a1)] (.s (.v .bool false)) []) :
    SC cfg.P i_spec_SlopeAt [.s (.v (.pr .str .str) a0), .s (.v (.pr (.int .i64) (.int .i64)) a1)] (.tup [.v (.int .i64) (0 : Int), .v .bool false]) [] :=
  SC_of_run cfgOK (its := [.res (.s (.v .bool true)) [] [] [], .res (.s (.v .bool false)) [] [] []])
    (ps := [SC cfg.P i_spec_prGood [.s (.v (.pr .str .str) a0)] (.s (.v .bool true)) [],
      SC cfg.P i_spec_mpGood [.s (.v (.pr (.int .i64) (.int .i64)) a1)] (.s (.v .bool false)) []]) (by kernel_rfl) ⟨h1, h2, trivial⟩ get_spec_SlopeAt (by decide)

theorem spec_SlopeAt_p3 (a0 : (ByteArray × ByteArray)) (a1 : (Int × Int))
    (h1 : SC cfg.P i_spec_prGood [.s (.v (.pr .str .str) a0)] (.s (.v .bool false)) []) :
    SC cfg.P i_spec_SlopeAt [.s (.v (.pr .str .str) a0), .s (.v (.pr (.int .i64) (.int .i64)) a1)] (.tup [.v (.int .i64) (0 : Int), .v .bool false]) [] :=
  SC_of_run cfgOK (its := [.res (.s (.v .bool false)) [] [] []])
    (ps := [SC cfg.P i_spec_prGood [.s (.v (.pr .str .str) a0)] (.s (.v .bool false)) []]) (by kernel_rfl) ⟨h1, trivial⟩ get_spec_SlopeAt (by decide)

/-! ### impl_SlopeAt -/


theorem impl_SlopeAt_p1 (a0 : (ByteArray × ByteArray)) (a1 : (Int × Int)) (c1a : (Tr × Tr)) (c3 : (List (Int × (Int × (Int × Int))))) (c4 : Int) (c5 : (Int × (Int × (Int × Int)))) (c6 : Int)
    (h1 : SC cfg.P i_impl_pairOf [.s (.v (.pr .str .str) a0)] (.tup [.v (.pr .tree .tree) c1a, .v .bool true]) [])
    (h2 : SC cfg.P i_impl_IsFraction [.s (.v (.pr (.int .i64) (.int .i64)) a1)] (.s (.v .bool true)) [])
    (h3 : SC cfg.P i_impl_pair_pieces [.s (.v (.pr .tree .tree) c1a)] (.s (.v (.sl (.pr (.int .i64) (.pr (.int .i64) (.pr (.int .i64) (.int .i64))))) c3)) [])
    (h4 : SC cfg.P i_impl_Fraction_place [.s (.v (.pr (.int .i64) (.int .i64)) a1)] (.s (.v (.int .i64) c4)) [])
    (h5 : SC cfg.P i_impl_pieceAt [.s (.v (.sl (.pr (.int .i64) (.pr (.int .i64) (.pr (.int .i64) (.int .i64))))) c3), .s (.v (.int .i64) c4)] (.s (.v (.pr (.int .i64) (.pr (.int .i64) (.pr (.int .i64) (.int .i64)))) c5)) [])
    (h6 : SC cfg.P i_impl_piece_slope [.s (.v (.pr (.int .i64) (.pr (.int .i64) (.pr (.int .i64) (.int .i64)))) c5)] (.s (.v (.int .i64) c6)) []) :
    SC cfg.P i_impl_SlopeAt [.s (.v (.pr .str .str) a0), .s (.v (.pr (.int .i64) (.int .i64)) a1)] (.tup [.v (.int .i64) c6, .v .bool true]) [] :=
  SC_of_run cfgOK (its := [.res (.tup [.v (.pr .tree .tree) c1a, .v .bool true]) [] [] [], .res (.s (.v .bool true)) [] [] [], .res (.s (.v (.sl (.pr (.int .i64) (.pr (.int .i64) (.pr (.int .i64) (.int .i64))))) c3)) [] [] [], .res (.s (.v (.int .i64) c4)) [] [] [], .res (.s (.v (.pr (.int .i64) (.pr (.int .i64) (.pr (.int .i64) (.int .i64)))) c5)) [] [] [], .res (.s (.v (.int .i64) c6)) [] [] []])
    (ps := [SC cfg.P i_impl_pairOf [.s (.v (.pr .str .str) a0)] (.tup [.v (.pr .tree .tree) c1a, .v .bool true]) [],
      SC cfg.P i_impl_IsFraction [.s (.v (.pr (.int .i64) (.int .i64)) a1)] (.s (.v .bool true)) [],
      SC cfg.P i_impl_pair_pieces [.s (.v (.pr .tree .tree) c1a)] (.s (.v (.sl (.pr (.int .i64) (.pr (.int .i64) (.pr (.int .i64) (.int .i64))))) c3)) [],
      SC cfg.P i_impl_Fraction_place [.s (.v (.pr (.int .i64) (.int .i64)) a1)] (.s (.v (.int .i64) c4)) [],
      SC cfg.P i_impl_pieceAt [.s (.v (.sl (.pr (.int .i64) (.pr (.int .i64) (.pr (.int .i64) (.int .i64))))) c3), .s (.v (.int .i64) c4)] (.s (.v (.pr (.int .i64) (.pr (.int .i64) (.pr (.int .i64) (.int .i64)))) c5)) [],
      SC cfg.P i_impl_piece_slope [.s (.v (.pr (.int .i64) (.pr (.int .i64) (.pr (.int .i64) (.int .i64)))) c5)] (.s (.v (.int .i64) c6)) []]) (by kernel_rfl) ⟨h1, h2, h3, h4, h5, h6, trivial⟩ get_impl_SlopeAt (by decide)

theorem impl_SlopeAt_p2 (a0 : (ByteArray × ByteArray)) (a1 : (Int × Int)) (c1a : (Tr × Tr))
    (h1 : SC cfg.P i_impl_pairOf [.s (.v (.pr .str .str) a0)] (.tup [.v (.pr .tree .tree) c1a, .v .bool true]) [])
    (h2 : SC cfg.P i_impl_IsFraction [.s (.v (.pr (.int .i64) (.int .i64)) a1)] (.s (.v .bool false)) []) :
    SC cfg.P i_impl_SlopeAt [.s (.v (.pr .str .str) a0), .s (.v (.pr (.int .i64) (.int .i64)) a1)] (.tup [.v (.int .i64) (0 : Int), .v .bool false]) [] :=
  SC_of_run cfgOK (its := [.res (.tup [.v (.pr .tree .tree) c1a, .v .bool true]) [] [] [], .res (.s (.v .bool false)) [] [] []])
    (ps := [SC cfg.P i_impl_pairOf [.s (.v (.pr .str .str) a0)] (.tup [.v (.pr .tree .tree) c1a, .v .bool true]) [],
      SC cfg.P i_impl_IsFraction [.s (.v (.pr (.int .i64) (.int .i64)) a1)] (.s (.v .bool false)) []]) (by kernel_rfl) ⟨h1, h2, trivial⟩ get_impl_SlopeAt (by decide)

theorem impl_SlopeAt_p3 (a0 : (ByteArray × ByteArray)) (a1 : (Int × Int)) (c1a : (Tr × Tr))
    (h1 : SC cfg.P i_impl_pairOf [.s (.v (.pr .str .str) a0)] (.tup [.v (.pr .tree .tree) c1a, .v .bool false]) []) :
    SC cfg.P i_impl_SlopeAt [.s (.v (.pr .str .str) a0), .s (.v (.pr (.int .i64) (.int .i64)) a1)] (.tup [.v (.int .i64) (0 : Int), .v .bool false]) [] :=
  SC_of_run cfgOK (its := [.res (.tup [.v (.pr .tree .tree) c1a, .v .bool false]) [] [] []])
    (ps := [SC cfg.P i_impl_pairOf [.s (.v (.pr .str .str) a0)] (.tup [.v (.pr .tree .tree) c1a, .v .bool false]) []]) (by kernel_rfl) ⟨h1, trivial⟩ get_impl_SlopeAt (by decide)

end Go.AI
