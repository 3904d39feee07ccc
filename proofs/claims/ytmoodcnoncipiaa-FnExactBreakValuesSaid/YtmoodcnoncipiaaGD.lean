/- A part of the road: what it proves stands in its last texts. -/
import Derived.Test.YtmoodcnoncipiaaSIds
import Derived.Test.YtmoodcnoncipiaaProg
set_option autoImplicit false
set_option maxRecDepth 100000
set_option linter.unusedVariables false
namespace Go.AI
open Go.Proofs

/-! ### laws_FnExactBreakValues -/


theorem laws_FnExactBreakValues_p1 (a0 : (ByteArray × ByteArray)) (c1 : Int)
    (h1 : SC cfg.P i_laws_szPair [.s (.v (.pr .str .str) a0), .s (.v (.int .i64) (1048576 : Int))] (.s (.v (.int .i64) c1)) [])
    (h2 : c1 < (0 : Int)) :
    SC cfg.P i_laws_FnExactBreakValues [.s (.v (.pr .str .str) a0)] (.s (.v .bool true)) [] :=
  SC_of_run cfgOK (its := [.res (.s (.v (.int .i64) c1)) [] [] [], .bool true])
    (ps := [SC cfg.P i_laws_szPair [.s (.v (.pr .str .str) a0), .s (.v (.int .i64) (1048576 : Int))] (.s (.v (.int .i64) c1)) [],
      decide (c1 < (0 : Int)) = true]) (by kernel_rfl) ⟨h1, (decide_eq_true h2), trivial⟩ get_laws_FnExactBreakValues (by decide)

theorem laws_FnExactBreakValues_p2 (a0 : (ByteArray × ByteArray)) (c1 : Int) (c2 : (ByteArray × ByteArray)) (c3a : (List (Int × Int))) (c3b : Bool) (c4 : (ByteArray × ByteArray)) (c5a : (List (Int × Int))) (c5b : Bool) (c7 : Int) (c7o0 : (List (Int × Int))) (c8 : Int) (c9 : (ByteArray × ByteArray)) (c10a : (List (Int × Int))) (c10b : Bool) (c12 : Int)
    (h1 : SC cfg.P i_laws_szPair [.s (.v (.pr .str .str) a0), .s (.v (.int .i64) (1048576 : Int))] (.s (.v (.int .i64) c1)) [])
    (h2 : ¬ (c1 < (0 : Int)))
    (h3 : SC cfg.P i_laws_toPair [.s (.v (.pr .str .str) a0)] (.s (.v (.pr .str .str) c2)) [])
    (h4 : SC cfg.P i_spec_BreakValues [.s (.v (.pr .str .str) c2)] (.tup [.own t_impl_Fraction (.pr (.int .i64) (.int .i64)) c3a, .v .bool c3b]) [])
    (h5 : SC cfg.P i_laws_toPair [.s (.v (.pr .str .str) a0)] (.s (.v (.pr .str .str) c4)) [])
    (h6 : SC cfg.P i_impl_BreakValues [.s (.v (.pr .str .str) c4)] (.tup [.own t_impl_Fraction (.pr (.int .i64) (.int .i64)) c5a, .v .bool c5b]) [])
    (h7 : SC cfg.P i_laws_eqFractionS [.s (.v (.sl (.pr (.int .i64) (.int .i64))) c5a), .s (.v (.sl (.pr (.int .i64) (.int .i64))) c3a)] (.s (.v .bool true)) [])
    (h8 : (!(c5b == c3b)) = false)
    (h9 : SC cfg.P i_laws_markFractionS [.s (.msl t_impl_Fraction (.pr (.int .i64) (.int .i64)) c5a), .s (.v (.int .i64) (1 : Int))] (.s (.v (.int .i64) c7)) [.row t_impl_Fraction (.pr (.int .i64) (.int .i64)) c7o0])
    (h10 : SC cfg.P i_laws_heldFractionS [.s (.v (.sl (.pr (.int .i64) (.int .i64))) c7o0), .s (.v (.int .i64) (1 : Int))] (.s (.v (.int .i64) c8)) [])
    (h11 : ¬ (c8 < (0 : Int)))
    (h12 : c8 = c7)
    (h13 : SC cfg.P i_laws_toPair [.s (.v (.pr .str .str) a0)] (.s (.v (.pr .str .str) c9)) [])
    (h14 : SC cfg.P i_impl_BreakValues [.s (.v (.pr .str .str) c9)] (.tup [.own t_impl_Fraction (.pr (.int .i64) (.int .i64)) c10a, .v .bool c10b]) [])
    (h15 : SC cfg.P i_laws_eqFractionS [.s (.v (.sl (.pr (.int .i64) (.int .i64))) c10a), .s (.v (.sl (.pr (.int .i64) (.int .i64))) c3a)] (.s (.v .bool true)) [])
    (h16 : (!(c10b == c3b)) = false)
    (h17 : SC cfg.P i_laws_heldFractionS [.s (.v (.sl (.pr (.int .i64) (.int .i64))) c7o0), .s (.v (.int .i64) (1 : Int))] (.s (.v (.int .i64) c12)) [])
    (h18 : ¬ (c12 < (0 : Int)))
    (h19 : c12 = c7) :
    SC cfg.P i_laws_FnExactBreakValues [.s (.v (.pr .str .str) a0)] (.s (.v .bool true)) [] :=
  SC_of_run cfgOK (its := [.res (.s (.v (.int .i64) c1)) [] [] [], .bool false, .res (.s (.v (.pr .str .str) c2)) [] [] [], .res (.tup [.own t_impl_Fraction (.pr (.int .i64) (.int .i64)) c3a, .v .bool c3b]) [] [] [20], .res (.s (.v (.pr .str .str) c4)) [] [] [], .res (.tup [.own t_impl_Fraction (.pr (.int .i64) (.int .i64)) c5a, .v .bool c5b]) [] [] [26], .res (.s (.v .bool true)) [] [] [], .bool false, .res (.s (.v (.int .i64) c7)) [.row t_impl_Fraction (.pr (.int .i64) (.int .i64)) c7o0] [0] [], .res (.s (.v (.int .i64) c8)) [] [] [], .bool false, .bool false, .res (.s (.v (.pr .str .str) c9)) [] [] [], .res (.tup [.own t_impl_Fraction (.pr (.int .i64) (.int .i64)) c10a, .v .bool c10b]) [] [] [52], .res (.s (.v .bool true)) [] [] [], .bool false, .res (.s (.v (.int .i64) c12)) [] [] [], .bool false, .bool false])
    (ps := [SC cfg.P i_laws_szPair [.s (.v (.pr .str .str) a0), .s (.v (.int .i64) (1048576 : Int))] (.s (.v (.int .i64) c1)) [],
      decide (c1 < (0 : Int)) = false,
      SC cfg.P i_laws_toPair [.s (.v (.pr .str .str) a0)] (.s (.v (.pr .str .str) c2)) [],
      SC cfg.P i_spec_BreakValues [.s (.v (.pr .str .str) c2)] (.tup [.own t_impl_Fraction (.pr (.int .i64) (.int .i64)) c3a, .v .bool c3b]) [],
      SC cfg.P i_laws_toPair [.s (.v (.pr .str .str) a0)] (.s (.v (.pr .str .str) c4)) [],
      SC cfg.P i_impl_BreakValues [.s (.v (.pr .str .str) c4)] (.tup [.own t_impl_Fraction (.pr (.int .i64) (.int .i64)) c5a, .v .bool c5b]) [],
      SC cfg.P i_laws_eqFractionS [.s (.v (.sl (.pr (.int .i64) (.int .i64))) c5a), .s (.v (.sl (.pr (.int .i64) (.int .i64))) c3a)] (.s (.v .bool true)) [],
      (!(c5b == c3b)) = false,
      SC cfg.P i_laws_markFractionS [.s (.msl t_impl_Fraction (.pr (.int .i64) (.int .i64)) c5a), .s (.v (.int .i64) (1 : Int))] (.s (.v (.int .i64) c7)) [.row t_impl_Fraction (.pr (.int .i64) (.int .i64)) c7o0],
      SC cfg.P i_laws_heldFractionS [.s (.v (.sl (.pr (.int .i64) (.int .i64))) c7o0), .s (.v (.int .i64) (1 : Int))] (.s (.v (.int .i64) c8)) [],
      decide (c8 < (0 : Int)) = false,
      (c8 != c7) = false,
      SC cfg.P i_laws_toPair [.s (.v (.pr .str .str) a0)] (.s (.v (.pr .str .str) c9)) [],
      SC cfg.P i_impl_BreakValues [.s (.v (.pr .str .str) c9)] (.tup [.own t_impl_Fraction (.pr (.int .i64) (.int .i64)) c10a, .v .bool c10b]) [],
      SC cfg.P i_laws_eqFractionS [.s (.v (.sl (.pr (.int .i64) (.int .i64))) c10a), .s (.v (.sl (.pr (.int .i64) (.int .i64))) c3a)] (.s (.v .bool true)) [],
      (!(c10b == c3b)) = false,
      SC cfg.P i_laws_heldFractionS [.s (.v (.sl (.pr (.int .i64) (.int .i64))) c7o0), .s (.v (.int .i64) (1 : Int))] (.s (.v (.int .i64) c12)) [],
      decide (c12 < (0 : Int)) = false,
      (c12 != c7) = false]) (by kernel_rfl) ⟨h1, (decide_eq_false h2), h3, h4, h5, h6, h7, h8, h9, h10, (decide_eq_false h11), (bne_f h12), h13, h14, h15, h16, h17, (decide_eq_false h18), (bne_f h19), trivial⟩ get_laws_FnExactBreakValues (by decide)

/-! ### spec_BreakValues -/


theorem spec_BreakValues_p1 (a0 : (ByteArray × ByteArray)) (c2 : (List Int)) (c3 : (List (Int × Int)))
    (h1 : SC cfg.P i_spec_prGood [.s (.v (.pr .str .str) a0)] (.s (.v .bool true)) [])
    (h2 : SC cfg.P i_spec_mpBreaks [.s (.v (.pr .str .str) a0)] (.s (.v (.sl (.int .i64)) c2)) [])
    (h3 : SC cfg.P i_spec_mpAt [.s (.v .str a0.2), .s (.v (.sl (.int .i64)) c2)] (.s (.own t_impl_Fraction (.pr (.int .i64) (.int .i64)) c3)) []) :
    SC cfg.P i_spec_BreakValues [.s (.v (.pr .str .str) a0)] (.tup [.own t_impl_Fraction (.pr (.int .i64) (.int .i64)) c3, .v .bool true]) [] :=
  SC_of_run cfgOK (its := [.res (.s (.v .bool true)) [] [] [], .res (.s (.v (.sl (.int .i64)) c2)) [] [] [], .res (.s (.own t_impl_Fraction (.pr (.int .i64) (.int .i64)) c3)) [] [] [11]])
    (ps := [SC cfg.P i_spec_prGood [.s (.v (.pr .str .str) a0)] (.s (.v .bool true)) [],
      SC cfg.P i_spec_mpBreaks [.s (.v (.pr .str .str) a0)] (.s (.v (.sl (.int .i64)) c2)) [],
      SC cfg.P i_spec_mpAt [.s (.v .str a0.2), .s (.v (.sl (.int .i64)) c2)] (.s (.own t_impl_Fraction (.pr (.int .i64) (.int .i64)) c3)) []]) (by kernel_rfl) ⟨h1, h2, h3, trivial⟩ get_spec_BreakValues (by decide)

theorem spec_BreakValues_p2 (a0 : (ByteArray × ByteArray))
    (h1 : SC cfg.P i_spec_prGood [.s (.v (.pr .str .str) a0)] (.s (.v .bool false)) []) :
    SC cfg.P i_spec_BreakValues [.s (.v (.pr .str .str) a0)] (.tup [.own t_impl_Fraction (.pr (.int .i64) (.int .i64)) ([] : List (Int × Int)), .v .bool false]) [] :=
  SC_of_run cfgOK (its := [.res (.s (.v .bool false)) [] [] []])
    (ps := [SC cfg.P i_spec_prGood [.s (.v (.pr .str .str) a0)] (.s (.v .bool false)) []]) (by kernel_rfl) ⟨h1, trivial⟩ get_spec_BreakValues (by decide)

/-! ### impl_BreakValues -/


def impl_BreakValues_L0a (x20 : Int) (x21 : Int) (xo6 : (List (Int × Int))) (xo19 : (List (Int × (Int × (Int × Int))))) : St := mkSt 37 [(6, .s (.osl 6 0)), (19, .s (.osl 19 0)), (20, .s (.v (.int .i64) x20)), (21, .s (.v (.int .i64) x21))] [(6, .row t_impl_Fraction (.pr (.int .i64) (.int .i64)) xo6 0 false), (19, .row t_impl_piece (.pr (.int .i64) (.pr (.int .i64) (.pr (.int .i64) (.int .i64)))) xo19 0 false)]

def impl_BreakValues_L0X1 (y20 : Int) (y21 : Int) (y22 : Bool) (yo6 : (List (Int × Int))) (yo19 : (List (Int × (Int × (Int × Int))))) : St := mkSt 37 [(6, .s (.osl 6 0)), (19, .s (.osl 19 0)), (20, .s (.v (.int .i64) y20)), (21, .s (.v (.int .i64) y21)), (22, .s (.v .bool y22))] [(6, .row t_impl_Fraction (.pr (.int .i64) (.int .i64)) yo6 0 false), (19, .row t_impl_piece (.pr (.int .i64) (.pr (.int .i64) (.pr (.int .i64) (.int .i64)))) yo19 0 false)]

theorem impl_BreakValues_L0a_i1 (x20 : Int) (x21 : Int) (xo6 : (List (Int × Int))) (xo19 : (List (Int × (Int × (Int × Int))))) (dc1a : (Int × Int)) (dc1b : Bool)
    (h1 : x21 < x20)
    (h2 : 0 ≤ x21)
    (h3 : x21 < (List.length xo19 : Int))
    (h4 : (x21).toNat < List.length xo19)
    (h5 : SC cfg.P i_impl_fractionAt [.s (.v (.int .i64) (List.getD xo19 (x21).toNat ((0 : Int), ((0 : Int), ((0 : Int), (0 : Int))))).2.1)] (.tup [.v (.pr (.int .i64) (.int .i64)) dc1a, .v .bool dc1b]) [])
    (h6 : sizeOK (List.length xo6 + List.length ([dc1a] : List (Int × Int))))
    {e : AEx} {st : St} (next : LoopSC cfg.P 1 (lb P_impl_BreakValues 0) (impl_BreakValues_L0a x20 (IntKind.wrap .i64 (x21 + (1 : Int))) (xo6 ++ ([dc1a] : List (Int × Int))) xo19) e st) :
    LoopSC cfg.P 1 (lb P_impl_BreakValues 0) (impl_BreakValues_L0a x20 x21 xo6 xo19) e st :=
  loop_iter cfgOK (f := i_impl_BreakValues) (its := [.bool true, .res (.tup [.v (.pr (.int .i64) (.int .i64)) dc1a, .v .bool dc1b]) [] [] []])
    (ps := [decide (x21 < x20) = true,
      0 ≤ x21,
      x21 < (List.length xo19 : Int),
      (x21).toNat < List.length xo19,
      SC cfg.P i_impl_fractionAt [.s (.v (.int .i64) (List.getD xo19 (x21).toNat ((0 : Int), ((0 : Int), ((0 : Int), (0 : Int))))).2.1)] (.tup [.v (.pr (.int .i64) (.int .i64)) dc1a, .v .bool dc1b]) [],
      sizeOK (List.length xo6 + List.length ([dc1a] : List (Int × Int)))]) (st1 := impl_BreakValues_L0a x20 (IntKind.wrap .i64 (x21 + (1 : Int))) (xo6 ++ ([dc1a] : List (Int × Int))) xo19) (by kernel_rfl) ⟨(decide_eq_true h1), h2, h3, h4, h5, h6, trivial⟩ next

theorem impl_BreakValues_L0a_x2 (x20 : Int) (x21 : Int) (xo6 : (List (Int × Int))) (xo19 : (List (Int × (Int × (Int × Int)))))
    (h1 : ¬ (x21 < x20)) :
    LoopSC cfg.P 1 (lb P_impl_BreakValues 0) (impl_BreakValues_L0a x20 x21 xo6 xo19) (.exit 0) (impl_BreakValues_L0X1 x20 x21 false xo6 xo19) :=
  loop_out cfgOK (f := i_impl_BreakValues) (its := [.bool false])
    (ps := [decide (x21 < x20) = false]) (by kernel_rfl) ⟨(decide_eq_false h1), trivial⟩ (fun h => by cases h)

theorem impl_BreakValues_p1 (a0 : (ByteArray × ByteArray)) (c1a : (Tr × Tr)) (c2 : (List (Int × (Int × (Int × Int))))) (k1y20 : Int) (k1y21 : Int) (k1y22 : Bool) (k1yo6 : (List (Int × Int))) (k1yo19 : (List (Int × (Int × (Int × Int)))))
    (h1 : SC cfg.P i_impl_pairOf [.s (.v (.pr .str .str) a0)] (.tup [.v (.pr .tree .tree) c1a, .v .bool true]) [])
    (h2 : SC cfg.P i_impl_pair_breaks [.s (.v (.pr .tree .tree) c1a)] (.s (.own t_impl_piece (.pr (.int .i64) (.pr (.int .i64) (.pr (.int .i64) (.int .i64)))) c2)) [])
    (h3 : LoopSC cfg.P 1 (lb P_impl_BreakValues 0) (impl_BreakValues_L0a ((List.length c2 : Nat) : Int) (0 : Int) ([] : List (Int × Int)) c2) (.exit 0) (impl_BreakValues_L0X1 k1y20 k1y21 k1y22 k1yo6 k1yo19)) :
    SC cfg.P i_impl_BreakValues [.s (.v (.pr .str .str) a0)] (.tup [.own t_impl_Fraction (.pr (.int .i64) (.int .i64)) k1yo6, .v .bool true]) [] :=
  SC_of_run cfgOK (its := [.res (.tup [.v (.pr .tree .tree) c1a, .v .bool true]) [] [] [], .res (.s (.own t_impl_piece (.pr (.int .i64) (.pr (.int .i64) (.pr (.int .i64) (.int .i64)))) c2)) [] [] [19], .loop (fun _ => (.exit 0, impl_BreakValues_L0X1 k1y20 k1y21 k1y22 k1yo6 k1yo19))])
    (ps := [SC cfg.P i_impl_pairOf [.s (.v (.pr .str .str) a0)] (.tup [.v (.pr .tree .tree) c1a, .v .bool true]) [],
      SC cfg.P i_impl_pair_breaks [.s (.v (.pr .tree .tree) c1a)] (.s (.own t_impl_piece (.pr (.int .i64) (.pr (.int .i64) (.pr (.int .i64) (.int .i64)))) c2)) [],
      LoopSC cfg.P 1 (lb P_impl_BreakValues 0) (impl_BreakValues_L0a ((List.length c2 : Nat) : Int) (0 : Int) ([] : List (Int × Int)) c2) (.exit 0) (impl_BreakValues_L0X1 k1y20 k1y21 k1y22 k1yo6 k1yo19)]) (by kernel_rfl) ⟨h1, h2, h3, trivial⟩ get_impl_BreakValues (by decide)

theorem impl_BreakValues_p2 (a0 : (ByteArray × ByteArray)) (c1a : (Tr × Tr))
    (h1 : SC cfg.P i_impl_pairOf [.s (.v (.pr .str .str) a0)] (.tup [.v (.pr .tree .tree) c1a, .v .bool false]) []) :
    SC cfg.P i_impl_BreakValues [.s (.v (.pr .str .str) a0)] (.tup [.own t_impl_Fraction (.pr (.int .i64) (.int .i64)) ([] : List (Int × Int)), .v .bool false]) [] :=
  SC_of_run cfgOK (its := [.res (.tup [.v (.pr .tree .tree) c1a, .v .bool false]) [] [] []])
    (ps := [SC cfg.P i_impl_pairOf [.s (.v (.pr .str .str) a0)] (.tup [.v (.pr .tree .tree) c1a, .v .bool false]) []]) (by kernel_rfl) ⟨h1, trivial⟩ get_impl_BreakValues (by decide)

end Go.AI
