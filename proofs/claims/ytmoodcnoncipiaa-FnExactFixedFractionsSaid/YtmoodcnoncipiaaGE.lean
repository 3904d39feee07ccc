/- A part of the road: what it proves stands in its last texts. -/
import Derived.Test.YtmoodcnoncipiaaSIds
import Derived.Test.YtmoodcnoncipiaaProg
set_option autoImplicit false
set_option maxRecDepth 100000
set_option linter.unusedVariables false
namespace Go.AI
open Go.Proofs

/-! ### laws_FnExactFixedFractions -/


theorem laws_FnExactFixedFractions_p1 (a0 : (ByteArray × ByteArray)) (c1 : Int)
    (h1 : SC cfg.P i_laws_szPair [.s (.v (.pr .str .str) a0), .s (.v (.int .i64) (1048576 : Int))] (.s (.v (.int .i64) c1)) [])
    (h2 : c1 < (0 : Int)) :
    SC cfg.P i_laws_FnExactFixedFractions [.s (.v (.pr .str .str) a0)] (.s (.v .bool true)) [] :=
  SC_of_run cfgOK (its := [.res (.s (.v (.int .i64) c1)) [] [] [], .bool true])
    (ps := [SC cfg.P i_laws_szPair [.s (.v (.pr .str .str) a0), .s (.v (.int .i64) (1048576 : Int))] (.s (.v (.int .i64) c1)) [],
      decide (c1 < (0 : Int)) = true]) (by kernel_rfl) ⟨h1, (decide_eq_true h2), trivial⟩ get_laws_FnExactFixedFractions (by decide)

theorem laws_FnExactFixedFractions_p2 (a0 : (ByteArray × ByteArray)) (c1 : Int) (c2 : (ByteArray × ByteArray)) (c3a : (List (Int × Int))) (c3b : Bool) (c4 : (ByteArray × ByteArray)) (c5a : (List (Int × Int))) (c5b : Bool) (c7 : Int) (c7o0 : (List (Int × Int))) (c8 : Int) (c9 : (ByteArray × ByteArray)) (c10a : (List (Int × Int))) (c10b : Bool) (c12 : Int)
    (h1 : SC cfg.P i_laws_szPair [.s (.v (.pr .str .str) a0), .s (.v (.int .i64) (1048576 : Int))] (.s (.v (.int .i64) c1)) [])
    (h2 : ¬ (c1 < (0 : Int)))
    (h3 : SC cfg.P i_laws_toPair [.s (.v (.pr .str .str) a0)] (.s (.v (.pr .str .str) c2)) [])
    (h4 : SC cfg.P i_spec_FixedFractions [.s (.v (.pr .str .str) c2)] (.tup [.own t_impl_Fraction (.pr (.int .i64) (.int .i64)) c3a, .v .bool c3b]) [])
    (h5 : SC cfg.P i_laws_toPair [.s (.v (.pr .str .str) a0)] (.s (.v (.pr .str .str) c4)) [])
    (h6 : SC cfg.P i_impl_FixedFractions [.s (.v (.pr .str .str) c4)] (.tup [.own t_impl_Fraction (.pr (.int .i64) (.int .i64)) c5a, .v .bool c5b]) [])
    (h7 : SC cfg.P i_laws_eqFractionS [.s (.v (.sl (.pr (.int .i64) (.int .i64))) c5a), .s (.v (.sl (.pr (.int .i64) (.int .i64))) c3a)] (.s (.v .bool true)) [])
    (h8 : (!(c5b == c3b)) = false)
    (h9 : SC cfg.P i_laws_markFractionS [.s (.msl t_impl_Fraction (.pr (.int .i64) (.int .i64)) c5a), .s (.v (.int .i64) (1 : Int))] (.s (.v (.int .i64) c7)) [.row t_impl_Fraction (.pr (.int .i64) (.int .i64)) c7o0])
    (h10 : SC cfg.P i_laws_heldFractionS [.s (.v (.sl (.pr (.int .i64) (.int .i64))) c7o0), .s (.v (.int .i64) (1 : Int))] (.s (.v (.int .i64) c8)) [])
    (h11 : ¬ (c8 < (0 : Int)))
    (h12 : c8 = c7)
    (h13 : SC cfg.P i_laws_toPair [.s (.v (.pr .str .str) a0)] (.s (.v (.pr .str .str) c9)) [])
    (h14 : SC cfg.P i_impl_FixedFractions [.s (.v (.pr .str .str) c9)] (.tup [.own t_impl_Fraction (.pr (.int .i64) (.int .i64)) c10a, .v .bool c10b]) [])
    (h15 : SC cfg.P i_laws_eqFractionS [.s (.v (.sl (.pr (.int .i64) (.int .i64))) c10a), .s (.v (.sl (.pr (.int .i64) (.int .i64))) c3a)] (.s (.v .bool true)) [])
    (h16 : (!(c10b == c3b)) = false)
    (h17 : SC cfg.P i_laws_heldFractionS [.s (.v (.sl (.pr (.int .i64) (.int .i64))) c7o0), .s (.v (.int .i64) (1 : Int))] (.s (.v (.int .i64) c12)) [])
    (h18 : ¬ (c12 < (0 : Int)))
    (h19 : c12 = c7) :
    SC cfg.P i_laws_FnExactFixedFractions [.s (.v (.pr .str .str) a0)] (.s (.v .bool true)) [] :=
  SC_of_run cfgOK (its := [.res (.s (.v (.int .i64) c1)) [] [] [], .bool false, .res (.s (.v (.pr .str .str) c2)) [] [] [], .res (.tup [.own t_impl_Fraction (.pr (.int .i64) (.int .i64)) c3a, .v .bool c3b]) [] [] [20], .res (.s (.v (.pr .str .str) c4)) [] [] [], .res (.tup [.own t_impl_Fraction (.pr (.int .i64) (.int .i64)) c5a, .v .bool c5b]) [] [] [26], .res (.s (.v .bool true)) [] [] [], .bool false, .res (.s (.v (.int .i64) c7)) [.row t_impl_Fraction (.pr (.int .i64) (.int .i64)) c7o0] [0] [], .res (.s (.v (.int .i64) c8)) [] [] [], .bool false, .bool false, .res (.s (.v (.pr .str .str) c9)) [] [] [], .res (.tup [.own t_impl_Fraction (.pr (.int .i64) (.int .i64)) c10a, .v .bool c10b]) [] [] [52], .res (.s (.v .bool true)) [] [] [], .bool false, .res (.s (.v (.int .i64) c12)) [] [] [], .bool false, .bool false])
    (ps := [SC cfg.P i_laws_szPair [.s (.v (.pr .str .str) a0), .s (.v (.int .i64) (1048576 : Int))] (.s (.v (.int .i64) c1)) [],
      decide (c1 < (0 : Int)) = false,
      SC cfg.P i_laws_toPair [.s (.v (.pr .str .str) a0)] (.s (.v (.pr .str .str) c2)) [],
      SC cfg.P i_spec_FixedFractions [.s (.v (.pr .str .str) c2)] (.tup [.own t_impl_Fraction (.pr (.int .i64) (.int .i64)) c3a, .v .bool c3b]) [],
      SC cfg.P i_laws_toPair [.s (.v (.pr .str .str) a0)] (.s (.v (.pr .str .str) c4)) [],
      SC cfg.P i_impl_FixedFractions [.s (.v (.pr .str .str) c4)] (.tup [.own t_impl_Fraction (.pr (.int .i64) (.int .i64)) c5a, .v .bool c5b]) [],
      SC cfg.P i_laws_eqFractionS [.s (.v (.sl (.pr (.int .i64) (.int .i64))) c5a), .s (.v (.sl (.pr (.int .i64) (.int .i64))) c3a)] (.s (.v .bool true)) [],
      (!(c5b == c3b)) = false,
      SC cfg.P i_laws_markFractionS [.s (.msl t_impl_Fraction (.pr (.int .i64) (.int .i64)) c5a), .s (.v (.int .i64) (1 : Int))] (.s (.v (.int .i64) c7)) [.row t_impl_Fraction (.pr (.int .i64) (.int .i64)) c7o0],
      SC cfg.P i_laws_heldFractionS [.s (.v (.sl (.pr (.int .i64) (.int .i64))) c7o0), .s (.v (.int .i64) (1 : Int))] (.s (.v (.int .i64) c8)) [],
      decide (c8 < (0 : Int)) = false,
      (c8 != c7) = false,
      SC cfg.P i_laws_toPair [.s (.v (.pr .str .str) a0)] (.s (.v (.pr .str .str) c9)) [],
      SC cfg.P i_impl_FixedFractions [.s (.v (.pr .str .str) c9)] (.tup [.own t_impl_Fraction (.pr (.int .i64) (.int .i64)) c10a, .v .bool c10b]) [],
      SC cfg.P i_laws_eqFractionS [.s (.v (.sl (.pr (.int .i64) (.int .i64))) c10a), .s (.v (.sl (.pr (.int .i64) (.int .i64))) c3a)] (.s (.v .bool true)) [],
      (!(c10b == c3b)) = false,
      SC cfg.P i_laws_heldFractionS [.s (.v (.sl (.pr (.int .i64) (.int .i64))) c7o0), .s (.v (.int .i64) (1 : Int))] (.s (.v (.int .i64) c12)) [],
      decide (c12 < (0 : Int)) = false,
      (c12 != c7) = false]) (by kernel_rfl) ⟨h1, (decide_eq_false h2), h3, h4, h5, h6, h7, h8, h9, h10, (decide_eq_false h11), (bne_f h12), h13, h14, h15, h16, h17, (decide_eq_false h18), (bne_f h19), trivial⟩ get_laws_FnExactFixedFractions (by decide)

/-! ### spec_FixedFractions -/


def spec_FixedFractions_L0a (x5 : (List (Int × Int))) (x24 : (List (Int × Int))) (x25 : Int) (x26 : Int) (xo6 : (List (Int × Int))) : St := mkSt 43 [(5, .s (.v (.sl (.pr (.int .i64) (.int .i64))) x5)), (6, .s (.osl 6 0)), (24, .s (.v (.sl (.pr (.int .i64) (.int .i64))) x24)), (25, .s (.v (.int .i64) x25)), (26, .s (.v (.int .i64) x26))] [(6, .row t_impl_Fraction (.pr (.int .i64) (.int .i64)) xo6 0 false)]

def spec_FixedFractions_L0X1 (y5 : (List (Int × Int))) (y24 : (List (Int × Int))) (y25 : Int) (y26 : Int) (y27 : Bool) (yo6 : (List (Int × Int))) : St := mkSt 43 [(5, .s (.v (.sl (.pr (.int .i64) (.int .i64))) y5)), (6, .s (.osl 6 0)), (24, .s (.v (.sl (.pr (.int .i64) (.int .i64))) y24)), (25, .s (.v (.int .i64) y25)), (26, .s (.v (.int .i64) y26)), (27, .s (.v .bool y27))] [(6, .row t_impl_Fraction (.pr (.int .i64) (.int .i64)) yo6 0 false)]

theorem spec_FixedFractions_L0a_i1 (x5 : (List (Int × Int))) (x24 : (List (Int × Int))) (x25 : Int) (x26 : Int) (xo6 : (List (Int × Int)))
    (h1 : x26 < x25)
    (h2 : 0 ≤ x26)
    (h3 : x26 < (List.length x24 : Int))
    (h4 : x26 < (List.length x5 : Int))
    (h5 : (((List.getD x24 (x26).toNat ((0 : Int), (0 : Int))).1 == (List.getD x5 (x26).toNat ((0 : Int), (0 : Int))).1) && ((List.getD x24 (x26).toNat ((0 : Int), (0 : Int))).2 == (List.getD x5 (x26).toNat ((0 : Int), (0 : Int))).2)) = true)
    (h6 : sizeOK (List.length xo6 + List.length ([(List.getD x24 (x26).toNat ((0 : Int), (0 : Int)))] : List (Int × Int))))
    {e : AEx} {st : St} (next : LoopSC cfg.P 1 (lb P_spec_FixedFractions 0) (spec_FixedFractions_L0a x5 x24 x25 (IntKind.wrap .i64 (x26 + (1 : Int))) (xo6 ++ ([(List.getD x24 (x26).toNat ((0 : Int), (0 : Int)))] : List (Int × Int)))) e st) :
    LoopSC cfg.P 1 (lb P_spec_FixedFractions 0) (spec_FixedFractions_L0a x5 x24 x25 x26 xo6) e st :=
  loop_iter cfgOK (f := i_spec_FixedFractions) (its := [.bool true, .bool true])
    (ps := [decide (x26 < x25) = true,
      0 ≤ x26,
      x26 < (List.length x24 : Int),
      0 ≤ x26,
      x26 < (List.length x5 : Int),
      (((List.getD x24 (x26).toNat ((0 : Int), (0 : Int))).1 == (List.getD x5 (x26).toNat ((0 : Int), (0 : Int))).1) && ((List.getD x24 (x26).toNat ((0 : Int), (0 : Int))).2 == (List.getD x5 (x26).toNat ((0 : Int), (0 : Int))).2)) = true,
      sizeOK (List.length xo6 + List.length ([(List.getD x24 (x26).toNat ((0 : Int), (0 : Int)))] : List (Int × Int)))]) (st1 := spec_FixedFractions_L0a x5 x24 x25 (IntKind.wrap .i64 (x26 + (1 : Int))) (xo6 ++ ([(List.getD x24 (x26).toNat ((0 : Int), (0 : Int)))] : List (Int × Int)))) (by kernel_rfl) ⟨(decide_eq_true h1), h2, h3, h2, h4, h5, h6, trivial⟩ next

theorem spec_FixedFractions_L0a_i2 (x5 : (List (Int × Int))) (x24 : (List (Int × Int))) (x25 : Int) (x26 : Int) (xo6 : (List (Int × Int)))
    (h1 : x26 < x25)
    (h2 : 0 ≤ x26)
    (h3 : x26 < (List.length x24 : Int))
    (h4 : x26 < (List.length x5 : Int))
    (h5 : (((List.getD x24 (x26).toNat ((0 : Int), (0 : Int))).1 == (List.getD x5 (x26).toNat ((0 : Int), (0 : Int))).1) && ((List.getD x24 (x26).toNat ((0 : Int), (0 : Int))).2 == (List.getD x5 (x26).toNat ((0 : Int), (0 : Int))).2)) = false)
    {e : AEx} {st : St} (next : LoopSC cfg.P 1 (lb P_spec_FixedFractions 0) (spec_FixedFractions_L0a x5 x24 x25 (IntKind.wrap .i64 (x26 + (1 : Int))) xo6) e st) :
    LoopSC cfg.P 1 (lb P_spec_FixedFractions 0) (spec_FixedFractions_L0a x5 x24 x25 x26 xo6) e st :=
  loop_iter cfgOK (f := i_spec_FixedFractions) (its := [.bool true, .bool false])
    (ps := [decide (x26 < x25) = true,
      0 ≤ x26,
      x26 < (List.length x24 : Int),
      0 ≤ x26,
      x26 < (List.length x5 : Int),
      (((List.getD x24 (x26).toNat ((0 : Int), (0 : Int))).1 == (List.getD x5 (x26).toNat ((0 : Int), (0 : Int))).1) && ((List.getD x24 (x26).toNat ((0 : Int), (0 : Int))).2 == (List.getD x5 (x26).toNat ((0 : Int), (0 : Int))).2)) = false]) (st1 := spec_FixedFractions_L0a x5 x24 x25 (IntKind.wrap .i64 (x26 + (1 : Int))) xo6) (by kernel_rfl) ⟨(decide_eq_true h1), h2, h3, h2, h4, h5, trivial⟩ next

theorem spec_FixedFractions_L0a_x3 (x5 : (List (Int × Int))) (x24 : (List (Int × Int))) (x25 : Int) (x26 : Int) (xo6 : (List (Int × Int)))
    (h1 : ¬ (x26 < x25)) :
    LoopSC cfg.P 1 (lb P_spec_FixedFractions 0) (spec_FixedFractions_L0a x5 x24 x25 x26 xo6) (.exit 0) (spec_FixedFractions_L0X1 x5 x24 x25 x26 false xo6) :=
  loop_out cfgOK (f := i_spec_FixedFractions) (its := [.bool false])
    (ps := [decide (x26 < x25) = false]) (by kernel_rfl) ⟨(decide_eq_false h1), trivial⟩ (fun h => by cases h)

theorem spec_FixedFractions_p1 (a0 : (ByteArray × ByteArray)) (c2 : (List Int)) (c3 : (List (Int × Int))) (c4 : (List (Int × Int))) (c5 : (List Int)) (c6 : (List (Int × Int))) (c7 : (List (Int × Int))) (k1y5 : (List (Int × Int))) (k1y24 : (List (Int × Int))) (k1y25 : Int) (k1y26 : Int) (k1y27 : Bool) (k1yo6 : (List (Int × Int)))
    (h1 : SC cfg.P i_spec_prGood [.s (.v (.pr .str .str) a0)] (.s (.v .bool true)) [])
    (h2 : SC cfg.P i_spec_mpBreaks [.s (.v (.pr .str .str) a0)] (.s (.v (.sl (.int .i64)) c2)) [])
    (h3 : SC cfg.P i_spec_mpAt [.s (.v .str a0.1), .s (.v (.sl (.int .i64)) c2)] (.s (.v (.sl (.pr (.int .i64) (.int .i64))) c3)) [])
    (h4 : SC cfg.P i_spec_mpEnds [.s (.v (.sl (.pr (.int .i64) (.int .i64))) c3)] (.s (.v (.sl (.pr (.int .i64) (.int .i64))) c4)) [])
    (h5 : SC cfg.P i_spec_mpBreaks [.s (.v (.pr .str .str) a0)] (.s (.v (.sl (.int .i64)) c5)) [])
    (h6 : SC cfg.P i_spec_mpAt [.s (.v .str a0.2), .s (.v (.sl (.int .i64)) c5)] (.s (.v (.sl (.pr (.int .i64) (.int .i64))) c6)) [])
    (h7 : SC cfg.P i_spec_mpEnds [.s (.v (.sl (.pr (.int .i64) (.int .i64))) c6)] (.s (.v (.sl (.pr (.int .i64) (.int .i64))) c7)) [])
    (h8 : LoopSC cfg.P 1 (lb P_spec_FixedFractions 0) (spec_FixedFractions_L0a c7 c4 ((List.length c4 : Nat) : Int) (0 : Int) ([] : List (Int × Int))) (.exit 0) (spec_FixedFractions_L0X1 k1y5 k1y24 k1y25 k1y26 k1y27 k1yo6)) :
    SC cfg.P i_spec_FixedFractions [.s (.v (.pr .str .str) a0)] (.tup [.own t_impl_Fraction (.pr (.int .i64) (.int .i64)) k1yo6, .v .bool true]) [] :=
  SC_of_run cfgOK (its := [.res (.s (.v .bool true)) [] [] [], .res (.s (.v (.sl (.int .i64)) c2)) [] [] [], .res (.s (.v (.sl (.pr (.int .i64) (.int .i64))) c3)) [] [] [], .res (.s (.v (.sl (.pr (.int .i64) (.int .i64))) c4)) [] [] [], .res (.s (.v (.sl (.int .i64)) c5)) [] [] [], .res (.s (.v (.sl (.pr (.int .i64) (.int .i64))) c6)) [] [] [], .res (.s (.v (.sl (.pr (.int .i64) (.int .i64))) c7)) [] [] [], .loop (fun _ => (.exit 0, spec_FixedFractions_L0X1 k1y5 k1y24 k1y25 k1y26 k1y27 k1yo6))])
    (ps := [SC cfg.P i_spec_prGood [.s (.v (.pr .str .str) a0)] (.s (.v .bool true)) [],
      SC cfg.P i_spec_mpBreaks [.s (.v (.pr .str .str) a0)] (.s (.v (.sl (.int .i64)) c2)) [],
      SC cfg.P i_spec_mpAt [.s (.v .str a0.1), .s (.v (.sl (.int .i64)) c2)] (.s (.v (.sl (.pr (.int .i64) (.int .i64))) c3)) [],
      SC cfg.P i_spec_mpEnds [.s (.v (.sl (.pr (.int .i64) (.int .i64))) c3)] (.s (.v (.sl (.pr (.int .i64) (.int .i64))) c4)) [],
      SC cfg.P i_spec_mpBreaks [.s (.v (.pr .str .str) a0)] (.s (.v (.sl (.int .i64)) c5)) [],
      SC cfg.P i_spec_mpAt [.s (.v .str a0.2), .s (.v (.sl (.int .i64)) c5)] (.s (.v (.sl (.pr (.int .i64) (.int .i64))) c6)) [],
      SC cfg.P i_spec_mpEnds [.s (.v (.sl (.pr (.int .i64) (.int .i64))) c6)] (.s (.v (.sl (.pr (.int .i64) (.int .i64))) c7)) [],
      LoopSC cfg.P 1 (lb P_spec_FixedFractions 0) (spec_FixedFractions_L0a c7 c4 ((List.length c4 : Nat) : Int) (0 : Int) ([] : List (Int × Int))) (.exit 0) (spec_FixedFractions_L0X1 k1y5 k1y24 k1y25 k1y26 k1y27 k1yo6)]) (by kernel_rfl) ⟨h1, h2, h3, h4, h5, h6, h7, h8, trivial⟩ get_spec_FixedFractions (by decide)

theorem spec_FixedFractions_p2 (a0 : (ByteArray × ByteArray))
    (h1 : SC cfg.P i_spec_prGood [.s (.v (.pr .str .str) a0)] (.s (.v .bool false)) []) :
    SC cfg.P i_spec_FixedFractions [.s (.v (.pr .str .str) a0)] (.tup [.own t_impl_Fraction (.pr (.int .i64) (.int .i64)) ([] : List (Int × Int)), .v .bool false]) [] :=
  SC_of_run cfgOK (its := [.res (.s (.v .bool false)) [] [] []])
    (ps := [SC cfg.P i_spec_prGood [.s (.v (.pr .str .str) a0)] (.s (.v .bool false)) []]) (by kernel_rfl) ⟨h1, trivial⟩ get_spec_FixedFractions (by decide)

/-! ### impl_FixedFractions -/


def impl_FixedFractions_L0a (x20 : Int) (x21 : Int) (xo6 : (List (Int × Int))) (xo19 : (List Int)) : St := mkSt 36 [(6, .s (.osl 6 0)), (19, .s (.osl 19 0)), (20, .s (.v (.int .i64) x20)), (21, .s (.v (.int .i64) x21))] [(6, .row t_impl_Fraction (.pr (.int .i64) (.int .i64)) xo6 0 false), (19, .row t_int (.int .i64) xo19 0 false)]

def impl_FixedFractions_L0X1 (y20 : Int) (y21 : Int) (y22 : Bool) (yo6 : (List (Int × Int))) (yo19 : (List Int)) : St := mkSt 36 [(6, .s (.osl 6 0)), (19, .s (.osl 19 0)), (20, .s (.v (.int .i64) y20)), (21, .s (.v (.int .i64) y21)), (22, .s (.v .bool y22))] [(6, .row t_impl_Fraction (.pr (.int .i64) (.int .i64)) yo6 0 false), (19, .row t_int (.int .i64) yo19 0 false)]

theorem impl_FixedFractions_L0a_i1 (x20 : Int) (x21 : Int) (xo6 : (List (Int × Int))) (xo19 : (List Int)) (dc1a : (Int × Int)) (dc1b : Bool)
    (h1 : x21 < x20)
    (h2 : 0 ≤ x21)
    (h3 : x21 < (List.length xo19 : Int))
    (h4 : (x21).toNat < List.length xo19)
    (h5 : SC cfg.P i_impl_fractionAt [.s (.v (.int .i64) (List.getD xo19 (x21).toNat (0 : Int)))] (.tup [.v (.pr (.int .i64) (.int .i64)) dc1a, .v .bool dc1b]) [])
    (h6 : sizeOK (List.length xo6 + List.length ([dc1a] : List (Int × Int))))
    {e : AEx} {st : St} (next : LoopSC cfg.P 1 (lb P_impl_FixedFractions 0) (impl_FixedFractions_L0a x20 (IntKind.wrap .i64 (x21 + (1 : Int))) (xo6 ++ ([dc1a] : List (Int × Int))) xo19) e st) :
    LoopSC cfg.P 1 (lb P_impl_FixedFractions 0) (impl_FixedFractions_L0a x20 x21 xo6 xo19) e st :=
  loop_iter cfgOK (f := i_impl_FixedFractions) (its := [.bool true, .res (.tup [.v (.pr (.int .i64) (.int .i64)) dc1a, .v .bool dc1b]) [] [] []])
    (ps := [decide (x21 < x20) = true,
      0 ≤ x21,
      x21 < (List.length xo19 : Int),
      (x21).toNat < List.length xo19,
      SC cfg.P i_impl_fractionAt [.s (.v (.int .i64) (List.getD xo19 (x21).toNat (0 : Int)))] (.tup [.v (.pr (.int .i64) (.int .i64)) dc1a, .v .bool dc1b]) [],
      sizeOK (List.length xo6 + List.length ([dc1a] : List (Int × Int)))]) (st1 := impl_FixedFractions_L0a x20 (IntKind.wrap .i64 (x21 + (1 : Int))) (xo6 ++ ([dc1a] : List (Int × Int))) xo19) (by kernel_rfl) ⟨(decide_eq_true h1), h2, h3, h4, h5, h6, trivial⟩ next

theorem impl_FixedFractions_L0a_x2 (x20 : Int) (x21 : Int) (xo6 : (List (Int × Int))) (xo19 : (List Int))
    (h1 : ¬ (x21 < x20)) :
    LoopSC cfg.P 1 (lb P_impl_FixedFractions 0) (impl_FixedFractions_L0a x20 x21 xo6 xo19) (.exit 0) (impl_FixedFractions_L0X1 x20 x21 false xo6 xo19) :=
  loop_out cfgOK (f := i_impl_FixedFractions) (its := [.bool false])
    (ps := [decide (x21 < x20) = false]) (by kernel_rfl) ⟨(decide_eq_false h1), trivial⟩ (fun h => by cases h)

theorem impl_FixedFractions_p1 (a0 : (ByteArray × ByteArray)) (c1a : (Tr × Tr)) (c2 : (List Int)) (k1y20 : Int) (k1y21 : Int) (k1y22 : Bool) (k1yo6 : (List (Int × Int))) (k1yo19 : (List Int))
    (h1 : SC cfg.P i_impl_pairOf [.s (.v (.pr .str .str) a0)] (.tup [.v (.pr .tree .tree) c1a, .v .bool true]) [])
    (h2 : SC cfg.P i_impl_pair_fixedPlaces [.s (.v (.pr .tree .tree) c1a)] (.s (.own t_int (.int .i64) c2)) [])
    (h3 : LoopSC cfg.P 1 (lb P_impl_FixedFractions 0) (impl_FixedFractions_L0a ((List.length c2 : Nat) : Int) (0 : Int) ([] : List (Int × Int)) c2) (.exit 0) (impl_FixedFractions_L0X1 k1y20 k1y21 k1y22 k1yo6 k1yo19)) :
    SC cfg.P i_impl_FixedFractions [.s (.v (.pr .str .str) a0)] (.tup [.own t_impl_Fraction (.pr (.int .i64) (.int .i64)) k1yo6, .v .bool true]) [] :=
  SC_of_run cfgOK (its := [.res (.tup [.v (.pr .tree .tree) c1a, .v .bool true]) [] [] [], .res (.s (.own t_int (.int .i64) c2)) [] [] [19], .loop (fun _ => (.exit 0, impl_FixedFractions_L0X1 k1y20 k1y21 k1y22 k1yo6 k1yo19))])
    (ps := [SC cfg.P i_impl_pairOf [.s (.v (.pr .str .str) a0)] (.tup [.v (.pr .tree .tree) c1a, .v .bool true]) [],
      SC cfg.P i_impl_pair_fixedPlaces [.s (.v (.pr .tree .tree) c1a)] (.s (.own t_int (.int .i64) c2)) [],
      LoopSC cfg.P 1 (lb P_impl_FixedFractions 0) (impl_FixedFractions_L0a ((List.length c2 : Nat) : Int) (0 : Int) ([] : List (Int × Int)) c2) (.exit 0) (impl_FixedFractions_L0X1 k1y20 k1y21 k1y22 k1yo6 k1yo19)]) (by kernel_rfl) ⟨h1, h2, h3, trivial⟩ get_impl_FixedFractions (by decide)

theorem impl_FixedFractions_p2 (a0 : (ByteArray × ByteArray)) (c1a : (Tr × Tr))
    (h1 : SC cfg.P i_impl_pairOf [.s (.v (.pr .str .str) a0)] (.tup [.v (.pr .tree .tree) c1a, .v .bool false]) []) :
    SC cfg.P i_impl_FixedFractions [.s (.v (.pr .str .str) a0)] (.tup [.own t_impl_Fraction (.pr (.int .i64) (.int .i64)) ([] : List (Int × Int)), .v .bool false]) [] :=
  SC_of_run cfgOK (its := [.res (.tup [.v (.pr .tree .tree) c1a, .v .bool false]) [] [] []])
    (ps := [SC cfg.P i_impl_pairOf [.s (.v (.pr .str .str) a0)] (.tup [.v (.pr .tree .tree) c1a, .v .bool false]) []]) (by kernel_rfl) ⟨h1, trivial⟩ get_impl_FixedFractions (by decide)

/-! ### spec_mpEnds -/


theorem spec_mpEnds_p1 (a0 : (List (Int × Int)))
    (h1 : sizeOK (List.length ([((0 : Int), (1 : Int))] : List (Int × Int)) + List.length a0))
    (h2 : sizeOK (List.length (([((0 : Int), (1 : Int))] : List (Int × Int)) ++ a0) + List.length ([((1 : Int), (1 : Int))] : List (Int × Int)))) :
    SC cfg.P i_spec_mpEnds [.s (.v (.sl (.pr (.int .i64) (.int .i64))) a0)] (.s (.own t_impl_Fraction (.pr (.int .i64) (.int .i64)) ((([((0 : Int), (1 : Int))] : List (Int × Int)) ++ a0) ++ ([((1 : Int), (1 : Int))] : List (Int × Int))))) [] :=
  SC_of_run cfgOK (its := [])
    (ps := [sizeOK (List.length ([((0 : Int), (1 : Int))] : List (Int × Int)) + List.length a0),
      sizeOK (List.length (([((0 : Int), (1 : Int))] : List (Int × Int)) ++ a0) + List.length ([((1 : Int), (1 : Int))] : List (Int × Int)))]) (by kernel_rfl) ⟨h1, h2, trivial⟩ get_spec_mpEnds (by decide)

/-! ### impl_pair_fixedPlaces -/


def impl_pair_fixedPlaces_L0a (x9 : Int) (x10 : Int) (xo6 : (List Int)) (xo8 : (List (Int × (Int × (Int × Int))))) : St := mkSt 28 [(3, .s (.osl 6 0)), (8, .s (.osl 8 0)), (9, .s (.v (.int .i64) x9)), (10, .s (.v (.int .i64) x10))] [(6, .row t_int (.int .i64) xo6 0 false), (8, .row t_impl_piece (.pr (.int .i64) (.pr (.int .i64) (.pr (.int .i64) (.int .i64)))) xo8 0 false)]

def impl_pair_fixedPlaces_L0X1 (y9 : Int) (y10 : Int) (y11 : Bool) (yo6 : (List Int)) (yo8 : (List (Int × (Int × (Int × Int))))) : St := mkSt 28 [(3, .s (.osl 6 0)), (8, .s (.osl 8 0)), (9, .s (.v (.int .i64) y9)), (10, .s (.v (.int .i64) y10)), (11, .s (.v .bool y11))] [(6, .row t_int (.int .i64) yo6 0 false), (8, .row t_impl_piece (.pr (.int .i64) (.pr (.int .i64) (.pr (.int .i64) (.int .i64)))) yo8 0 false)]

theorem impl_pair_fixedPlaces_L0a_i1 (x9 : Int) (x10 : Int) (xo6 : (List Int)) (xo8 : (List (Int × (Int × (Int × Int)))))
    (h1 : x10 < x9)
    (h2 : 0 ≤ x10)
    (h3 : x10 < (List.length xo8 : Int))
    (h4 : (x10).toNat < List.length xo8)
    (h5 : (List.getD xo8 (x10).toNat ((0 : Int), ((0 : Int), ((0 : Int), (0 : Int))))).1 = (List.getD xo8 (x10).toNat ((0 : Int), ((0 : Int), ((0 : Int), (0 : Int))))).2.1)
    (h6 : sizeOK (List.length xo6 + List.length ([(List.getD xo8 (x10).toNat ((0 : Int), ((0 : Int), ((0 : Int), (0 : Int))))).1] : List Int)))
    {e : AEx} {st : St} (next : LoopSC cfg.P 1 (lb P_impl_pair_fixedPlaces 0) (impl_pair_fixedPlaces_L0a x9 (IntKind.wrap .i64 (x10 + (1 : Int))) (xo6 ++ ([(List.getD xo8 (x10).toNat ((0 : Int), ((0 : Int), ((0 : Int), (0 : Int))))).1] : List Int)) xo8) e st) :
    LoopSC cfg.P 1 (lb P_impl_pair_fixedPlaces 0) (impl_pair_fixedPlaces_L0a x9 x10 xo6 xo8) e st :=
  loop_iter cfgOK (f := i_impl_pair_fixedPlaces) (its := [.bool true, .bool true])
    (ps := [decide (x10 < x9) = true,
      0 ≤ x10,
      x10 < (List.length xo8 : Int),
      (x10).toNat < List.length xo8,
      ((List.getD xo8 (x10).toNat ((0 : Int), ((0 : Int), ((0 : Int), (0 : Int))))).1 == (List.getD xo8 (x10).toNat ((0 : Int), ((0 : Int), ((0 : Int), (0 : Int))))).2.1) = true,
      sizeOK (List.length xo6 + List.length ([(List.getD xo8 (x10).toNat ((0 : Int), ((0 : Int), ((0 : Int), (0 : Int))))).1] : List Int))]) (st1 := impl_pair_fixedPlaces_L0a x9 (IntKind.wrap .i64 (x10 + (1 : Int))) (xo6 ++ ([(List.getD xo8 (x10).toNat ((0 : Int), ((0 : Int), ((0 : Int), (0 : Int))))).1] : List Int)) xo8) (by kernel_rfl) ⟨(decide_eq_true h1), h2, h3, h4, (beq_t h5), h6, trivial⟩ next

theorem impl_pair_fixedPlaces_L0a_i2 (x9 : Int) (x10 : Int) (xo6 : (List Int)) (xo8 : (List (Int × (Int × (Int × Int)))))
    (h1 : x10 < x9)
    (h2 : 0 ≤ x10)
    (h3 : x10 < (List.length xo8 : Int))
    (h4 : (x10).toNat < List.length xo8)
    (h5 : (List.getD xo8 (x10).toNat ((0 : Int), ((0 : Int), ((0 : Int), (0 : Int))))).1 ≠ (List.getD xo8 (x10).toNat ((0 : Int), ((0 : Int), ((0 : Int), (0 : Int))))).2.1)
    {e : AEx} {st : St} (next : LoopSC cfg.P 1 (lb P_impl_pair_fixedPlaces 0) (impl_pair_fixedPlaces_L0a x9 (IntKind.wrap .i64 (x10 + (1 : Int))) xo6 xo8) e st) :
    LoopSC cfg.P 1 (lb P_impl_pair_fixedPlaces 0) (impl_pair_fixedPlaces_L0a x9 x10 xo6 xo8) e st :=
  loop_iter cfgOK (f := i_impl_pair_fixedPlaces) (its := [.bool true, .bool false])
    (ps := [decide (x10 < x9) = true,
      0 ≤ x10,
      x10 < (List.length xo8 : Int),
      (x10).toNat < List.length xo8,
      ((List.getD xo8 (x10).toNat ((0 : Int), ((0 : Int), ((0 : Int), (0 : Int))))).1 == (List.getD xo8 (x10).toNat ((0 : Int), ((0 : Int), ((0 : Int), (0 : Int))))).2.1) = false]) (st1 := impl_pair_fixedPlaces_L0a x9 (IntKind.wrap .i64 (x10 + (1 : Int))) xo6 xo8) (by kernel_rfl) ⟨(decide_eq_true h1), h2, h3, h4, (beq_f h5), trivial⟩ next

theorem impl_pair_fixedPlaces_L0a_x3 (x9 : Int) (x10 : Int) (xo6 : (List Int)) (xo8 : (List (Int × (Int × (Int × Int)))))
    (h1 : ¬ (x10 < x9)) :
    LoopSC cfg.P 1 (lb P_impl_pair_fixedPlaces 0) (impl_pair_fixedPlaces_L0a x9 x10 xo6 xo8) (.exit 0) (impl_pair_fixedPlaces_L0X1 x9 x10 false xo6 xo8) :=
  loop_out cfgOK (f := i_impl_pair_fixedPlaces) (its := [.bool false])
    (ps := [decide (x10 < x9) = false]) (by kernel_rfl) ⟨(decide_eq_false h1), trivial⟩ (fun h => by cases h)

theorem impl_pair_fixedPlaces_p1 (a0 : (Tr × Tr)) (c1 : (List (Int × (Int × (Int × Int))))) (k1y9 : Int) (k1y10 : Int) (k1y11 : Bool) (k1yo6 : (List Int)) (k1yo8 : (List (Int × (Int × (Int × Int)))))
    (h1 : SC cfg.P i_impl_pair_breaks [.s (.v (.pr .tree .tree) a0)] (.s (.own t_impl_piece (.pr (.int .i64) (.pr (.int .i64) (.pr (.int .i64) (.int .i64)))) c1)) [])
    (h2 : LoopSC cfg.P 1 (lb P_impl_pair_fixedPlaces 0) (impl_pair_fixedPlaces_L0a ((List.length c1 : Nat) : Int) (0 : Int) ([(0 : Int)] : List Int) c1) (.exit 0) (impl_pair_fixedPlaces_L0X1 k1y9 k1y10 k1y11 k1yo6 k1yo8))
    (h3 : sizeOK (List.length k1yo6 + List.length ([(1099511627776 : Int)] : List Int))) :
    SC cfg.P i_impl_pair_fixedPlaces [.s (.v (.pr .tree .tree) a0)] (.s (.own t_int (.int .i64) (k1yo6 ++ ([(1099511627776 : Int)] : List Int)))) [] :=
  SC_of_run cfgOK (its := [.res (.s (.own t_impl_piece (.pr (.int .i64) (.pr (.int .i64) (.pr (.int .i64) (.int .i64)))) c1)) [] [] [8], .loop (fun _ => (.exit 0, impl_pair_fixedPlaces_L0X1 k1y9 k1y10 k1y11 k1yo6 k1yo8))])
    (ps := [SC cfg.P i_impl_pair_breaks [.s (.v (.pr .tree .tree) a0)] (.s (.own t_impl_piece (.pr (.int .i64) (.pr (.int .i64) (.pr (.int .i64) (.int .i64)))) c1)) [],
      LoopSC cfg.P 1 (lb P_impl_pair_fixedPlaces 0) (impl_pair_fixedPlaces_L0a ((List.length c1 : Nat) : Int) (0 : Int) ([(0 : Int)] : List Int) c1) (.exit 0) (impl_pair_fixedPlaces_L0X1 k1y9 k1y10 k1y11 k1yo6 k1yo8),
      sizeOK (List.length k1yo6 + List.length ([(1099511627776 : Int)] : List Int))]) (by kernel_rfl) ⟨h1, h2, h3, trivial⟩ get_impl_pair_fixedPlaces (by decide)

end Go.AI
