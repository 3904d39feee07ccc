/- A part of the road: what it proves stands in its last texts. -/
import Derived.Test.YtmoodcnoncipiaaSIds
import Derived.Test.YtmoodcnoncipiaaProg
set_option autoImplicit false
set_option maxRecDepth 100000
set_option linter.unusedVariables false
namespace Go.AI
open Go.Proofs

/-! ### laws_FnExactSlopesBeside -/


theorem laws_FnExactSlopesBeside_p1 (a0 : (ByteArray × ByteArray)) (a1 : (Int × Int)) (c1 : Int)
    (h1 : SC cfg.P i_laws_szPair [.s (.v (.pr .str .str) a0), .s (.v (.int .i64) (1048576 : Int))] (.s (.v (.int .i64) c1)) [])
    (h2 : c1 < (0 : Int)) :
    SC cfg.P i_laws_FnExactSlopesBeside [.s (.v (.pr .str .str) a0), .s (.v (.pr (.int .i64) (.int .i64)) a1)] (.s (.v .bool true)) [] :=
  SC_of_run cfgOK (its := [.res (.s (.v (.int .i64) c1)) [] [] [], .bool true])
    (ps := [SC cfg.P i_laws_szPair [.s (.v (.pr .str .str) a0), .s (.v (.int .i64) (1048576 : Int))] (.s (.v (.int .i64) c1)) [],
      decide (c1 < (0 : Int)) = true]) (by kernel_rfl) ⟨h1, (decide_eq_true h2), trivial⟩ get_laws_FnExactSlopesBeside (by decide)

theorem laws_FnExactSlopesBeside_p2 (a0 : (ByteArray × ByteArray)) (a1 : (Int × Int)) (c1 : Int) (c2 : (ByteArray × ByteArray)) (c3 : (Int × Int)) (c4a : Int) (c4b : Int) (c4c : Bool) (c5 : (ByteArray × ByteArray)) (c6 : (Int × Int)) (c7a : Int) (c7b : Int) (c7c : Bool)
    (h1 : SC cfg.P i_laws_szPair [.s (.v (.pr .str .str) a0), .s (.v (.int .i64) (1048576 : Int))] (.s (.v (.int .i64) c1)) [])
    (h2 : ¬ (c1 < (0 : Int)))
    (h3 : SC cfg.P i_laws_toPair [.s (.v (.pr .str .str) a0)] (.s (.v (.pr .str .str) c2)) [])
    (h4 : SC cfg.P i_laws_toFraction [.s (.v (.pr (.int .i64) (.int .i64)) a1)] (.s (.v (.pr (.int .i64) (.int .i64)) c3)) [])
    (h5 : SC cfg.P i_spec_SlopesBeside [.s (.v (.pr .str .str) c2), .s (.v (.pr (.int .i64) (.int .i64)) c3)] (.tup [.v (.int .i64) c4a, .v (.int .i64) c4b, .v .bool c4c]) [])
    (h6 : SC cfg.P i_laws_toPair [.s (.v (.pr .str .str) a0)] (.s (.v (.pr .str .str) c5)) [])
    (h7 : SC cfg.P i_laws_toFraction [.s (.v (.pr (.int .i64) (.int .i64)) a1)] (.s (.v (.pr (.int .i64) (.int .i64)) c6)) [])
    (h8 : SC cfg.P i_impl_SlopesBeside [.s (.v (.pr .str .str) c5), .s (.v (.pr (.int .i64) (.int .i64)) c6)] (.tup [.v (.int .i64) c7a, .v (.int .i64) c7b, .v .bool c7c]) [])
    (h9 : c7a = c4a)
    (h10 : c7b = c4b)
    (h11 : (!(c7c == c4c)) = false) :
    SC cfg.P i_laws_FnExactSlopesBeside [.s (.v (.pr .str .str) a0), .s (.v (.pr (.int .i64) (.int .i64)) a1)] (.s (.v .bool true)) [] :=
  SC_of_run cfgOK (its := [.res (.s (.v (.int .i64) c1)) [] [] [], .bool false, .res (.s (.v (.pr .str .str) c2)) [] [] [], .res (.s (.v (.pr (.int .i64) (.int .i64)) c3)) [] [] [], .res (.tup [.v (.int .i64) c4a, .v (.int .i64) c4b, .v .bool c4c]) [] [] [], .res (.s (.v (.pr .str .str) c5)) [] [] [], .res (.s (.v (.pr (.int .i64) (.int .i64)) c6)) [] [] [], .res (.tup [.v (.int .i64) c7a, .v (.int .i64) c7b, .v .bool c7c]) [] [] [], .bool false, .bool false, .bool false])
    (ps := [SC cfg.P i_laws_szPair [.s (.v (.pr .str .str) a0), .s (.v (.int .i64) (1048576 : Int))] (.s (.v (.int .i64) c1)) [],
      decide (c1 < (0 : Int)) = false,
      SC cfg.P i_laws_toPair [.s (.v (.pr .str .str) a0)] (.s (.v (.pr .str .str) c2)) [],
      SC cfg.P i_laws_toFraction [.s (.v (.pr (.int .i64) (.int .i64)) a1)] (.s (.v (.pr (.int .i64) (.int .i64)) c3)) [],
      SC cfg.P i_spec_SlopesBeside [.s (.v (.pr .str .str) c2), .s (.v (.pr (.int .i64) (.int .i64)) c3)] (.tup [.v (.int .i64) c4a, .v (.int .i64) c4b, .v .bool c4c]) [],
      SC cfg.P i_laws_toPair [.s (.v (.pr .str .str) a0)] (.s (.v (.pr .str .str) c5)) [],
      SC cfg.P i_laws_toFraction [.s (.v (.pr (.int .i64) (.int .i64)) a1)] (.s (.v (.pr (.int .i64) (.int .i64)) c6)) [],
      SC cfg.P i_impl_SlopesBeside [.s (.v (.pr .str .str) c5), .s (.v (.pr (.int .i64) (.int .i64)) c6)] (.tup [.v (.int .i64) c7a, .v (.int .i64) c7b, .v .bool c7c]) [],
      (c7a != c4a) = false,
      (c7b != c4b) = false,
      (!(c7c == c4c)) = false]) (by kernel_rfl) ⟨h1, (decide_eq_false h2), h3, h4, h5, h6, h7, h8, (bne_f h9), (bne_f h10), h11, trivial⟩ get_laws_FnExactSlopesBeside (by decide)

/-! ### spec_SlopesBeside -/


theorem spec_SlopesBeside_p1 (a0 : (ByteArray × ByteArray)) (a1 : (Int × Int))
    (h1 : SC cfg.P i_spec_prGood [.s (.v (.pr .str .str) a0)] (.s (.v .bool true)) [])
    (h2 : SC cfg.P i_spec_mpGood [.s (.v (.pr (.int .i64) (.int .i64)) a1)] (.s (.v .bool true)) [])
    (h3 : a1.2 = (1 : Int)) :
    SC cfg.P i_spec_SlopesBeside [.s (.v (.pr .str .str) a0), .s (.v (.pr (.int .i64) (.int .i64)) a1)] (.tup [.v (.int .i64) (0 : Int), .v (.int .i64) (0 : Int), .v .bool false]) [] :=
  SC_of_run cfgOK (its := [.res (.s (.v .bool true)) [] [] [], .res (.s (.v .bool true)) [] [] [], .bool true])
    (ps := [SC cfg.P i_spec_prGood [.s (.v (.pr .str .str) a0)] (.s (.v .bool true)) [],
      SC cfg.P i_spec_mpGood [.s (.v (.pr (.int .i64) (.int .i64)) a1)] (.s (.v .bool true)) [],
      (a1.2 == (1 : Int)) = true]) (by kernel_rfl) ⟨h1, h2, (beq_t h3), trivial⟩ get_spec_SlopesBeside (by decide)

theorem spec_SlopesBeside_p2 (a0 : (ByteArray × ByteArray)) (a1 : (Int × Int)) (c3 : (List Int)) (c4 : Int) (c5 : (List (Int × Int)))
    (h1 : SC cfg.P i_spec_prGood [.s (.v (.pr .str .str) a0)] (.s (.v .bool true)) [])
    (h2 : SC cfg.P i_spec_mpGood [.s (.v (.pr (.int .i64) (.int .i64)) a1)] (.s (.v .bool true)) [])
    (h3 : a1.2 ≠ (1 : Int))
    (h4 : SC cfg.P i_spec_mpSlopes [.s (.v (.pr .str .str) a0)] (.s (.v (.sl (.int .i64)) c3)) [])
    (h5 : SC cfg.P i_spec_mpLeaf [.s (.v .str a0.1), .s (.v (.pr (.int .i64) (.int .i64)) a1)] (.s (.v (.int .i64) c4)) [])
    (h6 : 0 ≤ c4)
    (h7 : c4 < (List.length c3 : Int))
    (h8 : SC cfg.P i_spec_mpStarts [.s (.v .str a0.1)] (.s (.v (.sl (.pr (.int .i64) (.int .i64))) c5)) [])
    (h9 : c4 < (List.length c5 : Int))
    (h10 : (((List.getD c5 (c4).toNat ((0 : Int), (0 : Int))).1 == a1.1) && ((List.getD c5 (c4).toNat ((0 : Int), (0 : Int))).2 == a1.2)) = true)
    (h11 : 0 ≤ (IntKind.wrap .i64 (c4 - (1 : Int))))
    (h12 : (IntKind.wrap .i64 (c4 - (1 : Int))) < (List.length c3 : Int)) :
    SC cfg.P i_spec_SlopesBeside [.s (.v (.pr .str .str) a0), .s (.v (.pr (.int .i64) (.int .i64)) a1)] (.tup [.v (.int .i64) (List.getD c3 ((IntKind.wrap .i64 (c4 - (1 : Int)))).toNat (0 : Int)), .v (.int .i64) (List.getD c3 (c4).toNat (0 : Int)), .v .bool true]) [] :=
  SC_of_run cfgOK (its := [.res (.s (.v .bool true)) [] [] [], .res (.s (.v .bool true)) [] [] [], .bool false, .res (.s (.v (.sl (.int .i64)) c3)) [] [] [], .res (.s (.v (.int .i64) c4)) [] [] [], .res (.s (.v (.sl (.pr (.int .i64) (.int .i64))) c5)) [] [] [], .bool true])
    (ps := [SC cfg.P i_spec_prGood [.s (.v (.pr .str .str) a0)] (.s (.v .bool true)) [],
      SC cfg.P i_spec_mpGood [.s (.v (.pr (.int .i64) (.int .i64)) a1)] (.s (.v .bool true)) [],
      (a1.2 == (1 : Int)) = false,
      SC cfg.P i_spec_mpSlopes [.s (.v (.pr .str .str) a0)] (.s (.v (.sl (.int .i64)) c3)) [],
      SC cfg.P i_spec_mpLeaf [.s (.v .str a0.1), .s (.v (.pr (.int .i64) (.int .i64)) a1)] (.s (.v (.int .i64) c4)) [],
      0 ≤ c4,
      c4 < (List.length c3 : Int),
      SC cfg.P i_spec_mpStarts [.s (.v .str a0.1)] (.s (.v (.sl (.pr (.int .i64) (.int .i64))) c5)) [],
      0 ≤ c4,
      c4 < (List.length c5 : Int),
      (((List.getD c5 (c4).toNat ((0 : Int), (0 : Int))).1 == a1.1) && ((List.getD c5 (c4).toNat ((0 : Int), (0 : Int))).2 == a1.2)) = true,
      0 ≤ (IntKind.wrap .i64 (c4 - (1 : Int))),
      (IntKind.wrap .i64 (c4 - (1 : Int))) < (List.length c3 : Int),
      0 ≤ c4,
      c4 < (List.length c3 : Int)]) (by kernel_rfl) ⟨h1, h2, (beq_f h3), h4, h5, h6, h7, h8, h6, h9, h10, h11, h12, h6, h7, trivial⟩ get_spec_SlopesBeside (by decide)

theorem spec_SlopesBeside_p3 (a0 : (ByteArray × ByteArray)) (a1 : (Int × Int)) (c3 : (List Int)) (c4 : Int) (c5 : (List (Int × Int)))
    (h1 : SC cfg.P i_spec_prGood [.s (.v (.pr .str .str) a0)] (.s (.v .bool true)) [])
    (h2 : SC cfg.P i_spec_mpGood [.s (.v (.pr (.int .i64) (.int .i64)) a1)] (.s (.v .bool true)) [])
    (h3 : a1.2 ≠ (1 : Int))
    (h4 : SC cfg.P i_spec_mpSlopes [.s (.v (.pr .str .str) a0)] (.s (.v (.sl (.int .i64)) c3)) [])
    (h5 : SC cfg.P i_spec_mpLeaf [.s (.v .str a0.1), .s (.v (.pr (.int .i64) (.int .i64)) a1)] (.s (.v (.int .i64) c4)) [])
    (h6 : 0 ≤ c4)
    (h7 : c4 < (List.length c3 : Int))
    (h8 : SC cfg.P i_spec_mpStarts [.s (.v .str a0.1)] (.s (.v (.sl (.pr (.int .i64) (.int .i64))) c5)) [])
    (h9 : c4 < (List.length c5 : Int))
    (h10 : (((List.getD c5 (c4).toNat ((0 : Int), (0 : Int))).1 == a1.1) && ((List.getD c5 (c4).toNat ((0 : Int), (0 : Int))).2 == a1.2)) = false) :
    SC cfg.P i_spec_SlopesBeside [.s (.v (.pr .str .str) a0), .s (.v (.pr (.int .i64) (.int .i64)) a1)] (.tup [.v (.int .i64) (List.getD c3 (c4).toNat (0 : Int)), .v (.int .i64) (List.getD c3 (c4).toNat (0 : Int)), .v .bool true]) [] :=
  SC_of_run cfgOK (its := [.res (.s (.v .bool true)) [] [] [], .res (.s (.v .bool true)) [] [] [], .bool false, .res (.s (.v (.sl (.int .i64)) c3)) [] [] [], .res (.s (.v (.int .i64) c4)) [] [] [], .res (.s (.v (.sl (.pr (.int .i64) (.int .i64))) c5)) [] [] [], .bool false])
    (ps := [SC cfg.P i_spec_prGood [.s (.v (.pr .str .str) a0)] (.s (.v .bool true)) [],
      SC cfg.P i_spec_mpGood [.s (.v (.pr (.int .i64) (.int .i64)) a1)] (.s (.v .bool true)) [],
      (a1.2 == (1 : Int)) = false,
      SC cfg.P i_spec_mpSlopes [.s (.v (.pr .str .str) a0)] (.s (.v (.sl (.int .i64)) c3)) [],
      SC cfg.P i_spec_mpLeaf [.s (.v .str a0.1), .s (.v (.pr (.int .i64) (.int .i64)) a1)] (.s (.v (.int .i64) c4)) [],
      0 ≤ c4,
      c4 < (List.length c3 : Int),
      SC cfg.P i_spec_mpStarts [.s (.v .str a0.1)] (.s (.v (.sl (.pr (.int .i64) (.int .i64))) c5)) [],
      0 ≤ c4,
      c4 < (List.length c5 : Int),
      (((List.getD c5 (c4).toNat ((0 : Int), (0 : Int))).1 == a1.1) && ((List.getD c5 (c4).toNat ((0 : Int), (0 : Int))).2 == a1.2)) = false,
      0 ≤ c4,
      c4 < (List.length c3 : Int)]) (by kernel_rfl) ⟨h1, h2, (beq_f h3), h4, h5, h6, h7, h8, h6, h9, h10, h6, h7, trivial⟩ get_spec_SlopesBeside (by decide)

theorem spec_SlopesBeside_p4 (a0 : (ByteArray × ByteArray)) (a1 : (Int × Int))
    (h1 : SC cfg.P i_spec_prGood [.s (.v (.pr .str .str) a0)] (.s (.v .bool true)) [])
    (h2 : SC cfg.P i_spec_mpGood [.s (.v (.pr (.int .i64) (.int .i64)) a1)] (.s (.v .bool false)) []) :
    SC cfg.P i_spec_SlopesBeside [.s (.v (.pr .str .str) a0), .s (.v (.pr (.int .i64) (.int .i64)) a1)] (.tup [.v (.int .i64) (0 : Int), .v (.int .i64) (0 : Int), .v .bool false]) [] :=
  SC_of_run cfgOK (its := [.res (.s (.v .bool true)) [] [] [], .res (.s (.v .bool false)) [] [] []])
    (ps := [SC cfg.P i_spec_prGood [.s (.v (.pr .str .str) a0)] (.s (.v .bool true)) [],
      SC cfg.P i_spec_mpGood [.s (.v (.pr (.int .i64) (.int .i64)) a1)] (.s (.v .bool false)) []]) (by kernel_rfl) ⟨h1, h2, trivial⟩ get_spec_SlopesBeside (by decide)

theorem spec_SlopesBeside_p5 (a0 : (ByteArray × ByteArray)) (a1 : (Int × Int))
    (h1 : SC cfg.P i_spec_prGood [.s (.v (.pr .str .str) a0)] (.s (.v .bool false)) []) :
    SC cfg.P i_spec_SlopesBeside [.s (.v (.pr .str .str) a0), .s (.v (.pr (.int .i64) (.int .i64)) a1)] (.tup [.v (.int .i64) (0 : Int), .v (.int .i64) (0 : Int), .v .bool false]) [] :=
  SC_of_run cfgOK (its := [.res (.s (.v .bool false)) [] [] []])
    (ps := [SC cfg.P i_spec_prGood [.s (.v (.pr .str .str) a0)] (.s (.v .bool false)) []]) (by kernel_rfl) ⟨h1, trivial⟩ get_spec_SlopesBeside (by decide)

/-! ### impl_SlopesBeside -/


theorem impl_SlopesBeside_p1 (a0 : (ByteArray × ByteArray)) (a1 : (Int × Int)) (c1a : (Tr × Tr)) (c3 : (List (Int × (Int × (Int × Int))))) (c4 : Int) (c5 : (Int × (Int × (Int × Int)))) (c6 : Int) (c7 : Int) (c8 : (Int × (Int × (Int × Int)))) (c9 : Int)
    (h1 : SC cfg.P i_impl_pairOf [.s (.v (.pr .str .str) a0)] (.tup [.v (.pr .tree .tree) c1a, .v .bool true]) [])
    (h2 : SC cfg.P i_impl_isBetween [.s (.v (.pr (.int .i64) (.int .i64)) a1)] (.s (.v .bool true)) [])
    (h3 : SC cfg.P i_impl_pair_pieces [.s (.v (.pr .tree .tree) c1a)] (.s (.v (.sl (.pr (.int .i64) (.pr (.int .i64) (.pr (.int .i64) (.int .i64))))) c3)) [])
    (h4 : SC cfg.P i_impl_Fraction_place [.s (.v (.pr (.int .i64) (.int .i64)) a1)] (.s (.v (.int .i64) c4)) [])
    (h5 : SC cfg.P i_impl_pieceAt [.s (.v (.sl (.pr (.int .i64) (.pr (.int .i64) (.pr (.int .i64) (.int .i64))))) c3), .s (.v (.int .i64) (IntKind.wrap .i64 (c4 - (1 : Int))))] (.s (.v (.pr (.int .i64) (.pr (.int .i64) (.pr (.int .i64) (.int .i64)))) c5)) [])
    (h6 : SC cfg.P i_impl_piece_slope [.s (.v (.pr (.int .i64) (.pr (.int .i64) (.pr (.int .i64) (.int .i64)))) c5)] (.s (.v (.int .i64) c6)) [])
    (h7 : SC cfg.P i_impl_Fraction_place [.s (.v (.pr (.int .i64) (.int .i64)) a1)] (.s (.v (.int .i64) c7)) [])
    (h8 : SC cfg.P i_impl_pieceAt [.s (.v (.sl (.pr (.int .i64) (.pr (.int .i64) (.pr (.int .i64) (.int .i64))))) c3), .s (.v (.int .i64) c7)] (.s (.v (.pr (.int .i64) (.pr (.int .i64) (.pr (.int .i64) (.int .i64)))) c8)) [])
    (h9 : SC cfg.P i_impl_piece_slope [.s (.v (.pr (.int .i64) (.pr (.int .i64) (.pr (.int .i64) (.int .i64)))) c8)] (.s (.v (.int .i64) c9)) []) :
    SC cfg.P i_impl_SlopesBeside [.s (.v (.pr .str .str) a0), .s (.v (.pr (.int .i64) (.int .i64)) a1)] (.tup [.v (.int .i64) c6, .v (.int .i64) c9, .v .bool true]) [] :=
  SC_of_run cfgOK (its := [.res (.tup [.v (.pr .tree .tree) c1a, .v .bool true]) [] [] [], .res (.s (.v .bool true)) [] [] [], .res (.s (.v (.sl (.pr (.int .i64) (.pr (.int .i64) (.pr (.int .i64) (.int .i64))))) c3)) [] [] [], .res (.s (.v (.int .i64) c4)) [] [] [], .res (.s (.v (.pr (.int .i64) (.pr (.int .i64) (.pr (.int .i64) (.int .i64)))) c5)) [] [] [], .res (.s (.v (.int .i64) c6)) [] [] [], .res (.s (.v (.int .i64) c7)) [] [] [], .res (.s (.v (.pr (.int .i64) (.pr (.int .i64) (.pr (.int .i64) (.int .i64)))) c8)) [] [] [], .res (.s (.v (.int .i64) c9)) [] [] []])
    (ps := [SC cfg.P i_impl_pairOf [.s (.v (.pr .str .str) a0)] (.tup [.v (.pr .tree .tree) c1a, .v .bool true]) [],
      SC cfg.P i_impl_isBetween [.s (.v (.pr (.int .i64) (.int .i64)) a1)] (.s (.v .bool true)) [],
      SC cfg.P i_impl_pair_pieces [.s (.v (.pr .tree .tree) c1a)] (.s (.v (.sl (.pr (.int .i64) (.pr (.int .i64) (.pr (.int .i64) (.int .i64))))) c3)) [],
      SC cfg.P i_impl_Fraction_place [.s (.v (.pr (.int .i64) (.int .i64)) a1)] (.s (.v (.int .i64) c4)) [],
      SC cfg.P i_impl_pieceAt [.s (.v (.sl (.pr (.int .i64) (.pr (.int .i64) (.pr (.int .i64) (.int .i64))))) c3), .s (.v (.int .i64) (IntKind.wrap .i64 (c4 - (1 : Int))))] (.s (.v (.pr (.int .i64) (.pr (.int .i64) (.pr (.int .i64) (.int .i64)))) c5)) [],
      SC cfg.P i_impl_piece_slope [.s (.v (.pr (.int .i64) (.pr (.int .i64) (.pr (.int .i64) (.int .i64)))) c5)] (.s (.v (.int .i64) c6)) [],
      SC cfg.P i_impl_Fraction_place [.s (.v (.pr (.int .i64) (.int .i64)) a1)] (.s (.v (.int .i64) c7)) [],
      SC cfg.P i_impl_pieceAt [.s (.v (.sl (.pr (.int .i64) (.pr (.int .i64) (.pr (.int .i64) (.int .i64))))) c3), .s (.v (.int .i64) c7)] (.s (.v (.pr (.int .i64) (.pr (.int .i64) (.pr (.int .i64) (.int .i64)))) c8)) [],
      SC cfg.P i_impl_piece_slope [.s (.v (.pr (.int .i64) (.pr (.int .i64) (.pr (.int .i64) (.int .i64)))) c8)] (.s (.v (.int .i64) c9)) []]) (by kernel_rfl) ⟨h1, h2, h3, h4, h5, h6, h7, h8, h9, trivial⟩ get_impl_SlopesBeside (by decide)

theorem impl_SlopesBeside_p2 (a0 : (ByteArray × ByteArray)) (a1 : (Int × Int)) (c1a : (Tr × Tr))
    (h1 : SC cfg.P i_impl_pairOf [.s (.v (.pr .str .str) a0)] (.tup [.v (.pr .tree .tree) c1a, .v .bool true]) [])
    (h2 : SC cfg.P i_impl_isBetween [.s (.v (.pr (.int .i64) (.int .i64)) a1)] (.s (.v .bool false)) []) :
    SC cfg.P i_impl_SlopesBeside [.s (.v (.pr .str .str) a0), .s (.v (.pr (.int .i64) (.int .i64)) a1)] (.tup [.v (.int .i64) (0 : Int), .v (.int .i64) (0 : Int), .v .bool false]) [] :=
  SC_of_run cfgOK (its := [.res (.tup [.v (.pr .tree .tree) c1a, .v .bool true]) [] [] [], .res (.s (.v .bool false)) [] [] []])
    (ps := [SC cfg.P i_impl_pairOf [.s (.v (.pr .str .str) a0)] (.tup [.v (.pr .tree .tree) c1a, .v .bool true]) [],
      SC cfg.P i_impl_isBetween [.s (.v (.pr (.int .i64) (.int .i64)) a1)] (.s (.v .bool false)) []]) (by kernel_rfl) ⟨h1, h2, trivial⟩ get_impl_SlopesBeside (by decide)

theorem impl_SlopesBeside_p3 (a0 : (ByteArray × ByteArray)) (a1 : (Int × Int)) (c1a : (Tr × Tr))
    (h1 : SC cfg.P i_impl_pairOf [.s (.v (.pr .str .str) a0)] (.tup [.v (.pr .tree .tree) c1a, .v .bool false]) []) :
    SC cfg.P i_impl_SlopesBeside [.s (.v (.pr .str .str) a0), .s (.v (.pr (.int .i64) (.int .i64)) a1)] (.tup [.v (.int .i64) (0 : Int), .v (.int .i64) (0 : Int), .v .bool false]) [] :=
  SC_of_run cfgOK (its := [.res (.tup [.v (.pr .tree .tree) c1a, .v .bool false]) [] [] []])
    (ps := [SC cfg.P i_impl_pairOf [.s (.v (.pr .str .str) a0)] (.tup [.v (.pr .tree .tree) c1a, .v .bool false]) []]) (by kernel_rfl) ⟨h1, trivial⟩ get_impl_SlopesBeside (by decide)

/-! ### impl_isBetween -/


theorem impl_isBetween_p1 (a0 : (Int × Int))
    (h1 : SC cfg.P i_impl_IsFraction [.s (.v (.pr (.int .i64) (.int .i64)) a0)] (.s (.v .bool true)) [])
    (h2 : a0.2 > (1 : Int)) :
    SC cfg.P i_impl_isBetween [.s (.v (.pr (.int .i64) (.int .i64)) a0)] (.s (.v .bool true)) [] :=
  SC_of_run cfgOK (its := [.res (.s (.v .bool true)) [] [] [], .bool true])
    (ps := [SC cfg.P i_impl_IsFraction [.s (.v (.pr (.int .i64) (.int .i64)) a0)] (.s (.v .bool true)) [],
      decide (a0.2 > (1 : Int)) = true]) (by kernel_rfl) ⟨h1, (decide_eq_true h2), trivial⟩ get_impl_isBetween (by decide)

theorem impl_isBetween_p2 (a0 : (Int × Int))
    (h1 : SC cfg.P i_impl_IsFraction [.s (.v (.pr (.int .i64) (.int .i64)) a0)] (.s (.v .bool true)) [])
    (h2 : ¬ (a0.2 > (1 : Int))) :
    SC cfg.P i_impl_isBetween [.s (.v (.pr (.int .i64) (.int .i64)) a0)] (.s (.v .bool false)) [] :=
  SC_of_run cfgOK (its := [.res (.s (.v .bool true)) [] [] [], .bool false])
    (ps := [SC cfg.P i_impl_IsFraction [.s (.v (.pr (.int .i64) (.int .i64)) a0)] (.s (.v .bool true)) [],
      decide (a0.2 > (1 : Int)) = false]) (by kernel_rfl) ⟨h1, (decide_eq_false h2), trivial⟩ get_impl_isBetween (by decide)

theorem impl_isBetween_p3 (a0 : (Int × Int))
    (h1 : SC cfg.P i_impl_IsFraction [.s (.v (.pr (.int .i64) (.int .i64)) a0)] (.s (.v .bool false)) []) :
    SC cfg.P i_impl_isBetween [.s (.v (.pr (.int .i64) (.int .i64)) a0)] (.s (.v .bool false)) [] :=
  SC_of_run cfgOK (its := [.res (.s (.v .bool false)) [] [] []])
    (ps := [SC cfg.P i_impl_IsFraction [.s (.v (.pr (.int .i64) (.int .i64)) a0)] (.s (.v .bool false)) []]) (by kernel_rfl) ⟨h1, trivial⟩ get_impl_isBetween (by decide)

end Go.AI
