/- A part of the road: what it proves stands in its last texts. -/
import Derived.Test.YtmoodcnoncipiaaSIds
import Derived.Test.YtmoodcnoncipiaaProg
set_option autoImplicit false
set_option maxRecDepth 100000
set_option linter.unusedVariables false
namespace Go.AI
open Go.Proofs

/-! ### laws_FnExactLeftQuotient -/


theorem laws_FnExactLeftQuotient_p1 (a0 : (List ByteArray)) (a1 : (List ByteArray)) (c1 : Int)
    (h1 : SC cfg.P i_laws_szStringS [.s (.v (.sl .str) a0), .s (.v (.int .i64) (1048576 : Int))] (.s (.v (.int .i64) c1)) [])
    (h2 : c1 < (0 : Int)) :
    SC cfg.P i_laws_FnExactLeftQuotient [.s (.v (.sl .str) a0), .s (.v (.sl .str) a1)] (.s (.v .bool true)) [] :=
  SC_of_run cfgOK (its := [.res (.s (.v (.int .i64) c1)) [] [] [], .bool true])
    (ps := [SC cfg.P i_laws_szStringS [.s (.v (.sl .str) a0), .s (.v (.int .i64) (1048576 : Int))] (.s (.v (.int .i64) c1)) [],
      decide (c1 < (0 : Int)) = true]) (by kernel_rfl) ⟨h1, (decide_eq_true h2), trivial⟩ get_laws_FnExactLeftQuotient (by decide)

theorem laws_FnExactLeftQuotient_p2 (a0 : (List ByteArray)) (a1 : (List ByteArray)) (c1 : Int) (c2 : Int)
    (h1 : SC cfg.P i_laws_szStringS [.s (.v (.sl .str) a0), .s (.v (.int .i64) (1048576 : Int))] (.s (.v (.int .i64) c1)) [])
    (h2 : ¬ (c1 < (0 : Int)))
    (h3 : SC cfg.P i_laws_szStringS [.s (.v (.sl .str) a1), .s (.v (.int .i64) c1)] (.s (.v (.int .i64) c2)) [])
    (h4 : c2 < (0 : Int)) :
    SC cfg.P i_laws_FnExactLeftQuotient [.s (.v (.sl .str) a0), .s (.v (.sl .str) a1)] (.s (.v .bool true)) [] :=
  SC_of_run cfgOK (its := [.res (.s (.v (.int .i64) c1)) [] [] [], .bool false, .res (.s (.v (.int .i64) c2)) [] [] [], .bool true])
    (ps := [SC cfg.P i_laws_szStringS [.s (.v (.sl .str) a0), .s (.v (.int .i64) (1048576 : Int))] (.s (.v (.int .i64) c1)) [],
      decide (c1 < (0 : Int)) = false,
      SC cfg.P i_laws_szStringS [.s (.v (.sl .str) a1), .s (.v (.int .i64) c1)] (.s (.v (.int .i64) c2)) [],
      decide (c2 < (0 : Int)) = true]) (by kernel_rfl) ⟨h1, (decide_eq_false h2), h3, (decide_eq_true h4), trivial⟩ get_laws_FnExactLeftQuotient (by decide)

theorem laws_FnExactLeftQuotient_p3 (a0 : (List ByteArray)) (a1 : (List ByteArray)) (c1 : Int) (c2 : Int) (c3 : (List ByteArray)) (c4 : (List ByteArray)) (c5a : (List ByteArray)) (c5b : Bool) (c6 : (List ByteArray)) (c7 : (List ByteArray)) (c8a : (List ByteArray)) (c8b : Bool) (c10 : (List ByteArray)) (c12 : (List ByteArray)) (c14 : Int) (c14o0 : (List ByteArray)) (c15 : Int) (c15o0 : (List ByteArray)) (c17 : Int) (c17o0 : (List ByteArray)) (c18 : Int) (c19 : (List ByteArray)) (c20 : (List ByteArray)) (c21a : (List ByteArray)) (c21b : Bool) (c23 : Int)
    (h1 : SC cfg.P i_laws_szStringS [.s (.v (.sl .str) a0), .s (.v (.int .i64) (1048576 : Int))] (.s (.v (.int .i64) c1)) [])
    (h2 : ¬ (c1 < (0 : Int)))
    (h3 : SC cfg.P i_laws_szStringS [.s (.v (.sl .str) a1), .s (.v (.int .i64) c1)] (.s (.v (.int .i64) c2)) [])
    (h4 : ¬ (c2 < (0 : Int)))
    (h5 : SC cfg.P i_laws_toStringS [.s (.v (.sl .str) a0)] (.s (.own t_string .str c3)) [])
    (h6 : SC cfg.P i_laws_toStringS [.s (.v (.sl .str) a1)] (.s (.own t_string .str c4)) [])
    (h7 : SC cfg.P i_spec_LeftQuotient [.s (.v (.sl .str) c3), .s (.v (.sl .str) c4)] (.tup [.own t_string .str c5a, .v .bool c5b]) [])
    (h8 : SC cfg.P i_laws_toStringS [.s (.v (.sl .str) a0)] (.s (.own t_string .str c6)) [])
    (h9 : SC cfg.P i_laws_toStringS [.s (.v (.sl .str) a1)] (.s (.own t_string .str c7)) [])
    (h10 : SC cfg.P i_impl_LeftQuotient [.s (.v (.sl .str) c6), .s (.v (.sl .str) c7)] (.tup [.own t_string .str c8a, .v .bool c8b]) [])
    (h11 : SC cfg.P i_laws_eqStringS [.s (.v (.sl .str) c8a), .s (.v (.sl .str) c5a)] (.s (.v .bool true)) [])
    (h12 : (!(c8b == c5b)) = false)
    (h13 : SC cfg.P i_laws_toStringS [.s (.v (.sl .str) a0)] (.s (.own t_string .str c10)) [])
    (h14 : SC cfg.P i_laws_eqStringS [.s (.v (.sl .str) c6), .s (.v (.sl .str) c10)] (.s (.v .bool true)) [])
    (h15 : SC cfg.P i_laws_toStringS [.s (.v (.sl .str) a1)] (.s (.own t_string .str c12)) [])
    (h16 : SC cfg.P i_laws_eqStringS [.s (.v (.sl .str) c7), .s (.v (.sl .str) c12)] (.s (.v .bool true)) [])
    (h17 : SC cfg.P i_laws_markStringS [.s (.msl t_string .str c6), .s (.v (.int .i64) (1 : Int))] (.s (.v (.int .i64) c14)) [.row t_string .str c14o0])
    (h18 : SC cfg.P i_laws_markStringS [.s (.msl t_string .str c7), .s (.v (.int .i64) c14)] (.s (.v (.int .i64) c15)) [.row t_string .str c15o0])
    (h19 : ¬ (c15 < (0 : Int)))
    (h20 : SC cfg.P i_laws_markStringS [.s (.msl t_string .str c8a), .s (.v (.int .i64) (1 : Int))] (.s (.v (.int .i64) c17)) [.row t_string .str c17o0])
    (h21 : SC cfg.P i_laws_heldStringS [.s (.v (.sl .str) c17o0), .s (.v (.int .i64) (1 : Int))] (.s (.v (.int .i64) c18)) [])
    (h22 : ¬ (c18 < (0 : Int)))
    (h23 : c18 = c17)
    (h24 : SC cfg.P i_laws_toStringS [.s (.v (.sl .str) a0)] (.s (.own t_string .str c19)) [])
    (h25 : SC cfg.P i_laws_toStringS [.s (.v (.sl .str) a1)] (.s (.own t_string .str c20)) [])
    (h26 : SC cfg.P i_impl_LeftQuotient [.s (.v (.sl .str) c19), .s (.v (.sl .str) c20)] (.tup [.own t_string .str c21a, .v .bool c21b]) [])
    (h27 : SC cfg.P i_laws_eqStringS [.s (.v (.sl .str) c21a), .s (.v (.sl .str) c5a)] (.s (.v .bool true)) [])
    (h28 : (!(c21b == c5b)) = false)
    (h29 : SC cfg.P i_laws_heldStringS [.s (.v (.sl .str) c17o0), .s (.v (.int .i64) (1 : Int))] (.s (.v (.int .i64) c23)) [])
    (h30 : ¬ (c23 < (0 : Int)))
    (h31 : c23 = c17) :
    SC cfg.P i_laws_FnExactLeftQuotient [.s (.v (.sl .str) a0), .s (.v (.sl .str) a1)] (.s (.v .bool true)) [] :=
  SC_of_run cfgOK (its := [.res (.s (.v (.int .i64) c1)) [] [] [], .bool false, .res (.s (.v (.int .i64) c2)) [] [] [], .bool false, .res (.s (.own t_string .str c3)) [] [] [29], .res (.s (.own t_string .str c4)) [] [] [31], .res (.tup [.own t_string .str c5a, .v .bool c5b]) [] [] [32], .res (.s (.own t_string .str c6)) [] [] [36], .res (.s (.own t_string .str c7)) [] [] [38], .res (.tup [.own t_string .str c8a, .v .bool c8b]) [] [] [42], .res (.s (.v .bool true)) [] [] [], .bool false, .res (.s (.own t_string .str c10)) [] [] [56], .res (.s (.v .bool true)) [] [] [], .res (.s (.own t_string .str c12)) [] [] [61], .res (.s (.v .bool true)) [] [] [], .res (.s (.v (.int .i64) c14)) [.row t_string .str c14o0] [0] [], .res (.s (.v (.int .i64) c15)) [.row t_string .str c15o0] [0] [], .bool false, .res (.s (.v .bool true)) [] [] [], .bool false, .res (.s (.v (.int .i64) c17)) [.row t_string .str c17o0] [0] [], .res (.s (.v (.int .i64) c18)) [] [] [], .bool false, .bool false, .res (.s (.own t_string .str c19)) [] [] [96], .res (.s (.own t_string .str c20)) [] [] [98], .res (.tup [.own t_string .str c21a, .v .bool c21b]) [] [] [99], .res (.s (.v .bool true)) [] [] [], .bool false, .res (.s (.v (.int .i64) c23)) [] [] [], .bool false, .bool false])
    (ps := [SC cfg.P i_laws_szStringS [.s (.v (.sl .str) a0), .s (.v (.int .i64) (1048576 : Int))] (.s (.v (.int .i64) c1)) [],
      decide (c1 < (0 : Int)) = false,
      SC cfg.P i_laws_szStringS [.s (.v (.sl .str) a1), .s (.v (.int .i64) c1)] (.s (.v (.int .i64) c2)) [],
      decide (c2 < (0 : Int)) = false,
      SC cfg.P i_laws_toStringS [.s (.v (.sl .str) a0)] (.s (.own t_string .str c3)) [],
      SC cfg.P i_laws_toStringS [.s (.v (.sl .str) a1)] (.s (.own t_string .str c4)) [],
      SC cfg.P i_spec_LeftQuotient [.s (.v (.sl .str) c3), .s (.v (.sl .str) c4)] (.tup [.own t_string .str c5a, .v .bool c5b]) [],
      SC cfg.P i_laws_toStringS [.s (.v (.sl .str) a0)] (.s (.own t_string .str c6)) [],
      SC cfg.P i_laws_toStringS [.s (.v (.sl .str) a1)] (.s (.own t_string .str c7)) [],
      SC cfg.P i_impl_LeftQuotient [.s (.v (.sl .str) c6), .s (.v (.sl .str) c7)] (.tup [.own t_string .str c8a, .v .bool c8b]) [],
      SC cfg.P i_laws_eqStringS [.s (.v (.sl .str) c8a), .s (.v (.sl .str) c5a)] (.s (.v .bool true)) [],
      (!(c8b == c5b)) = false,
      SC cfg.P i_laws_toStringS [.s (.v (.sl .str) a0)] (.s (.own t_string .str c10)) [],
      SC cfg.P i_laws_eqStringS [.s (.v (.sl .str) c6), .s (.v (.sl .str) c10)] (.s (.v .bool true)) [],
      SC cfg.P i_laws_toStringS [.s (.v (.sl .str) a1)] (.s (.own t_string .str c12)) [],
      SC cfg.P i_laws_eqStringS [.s (.v (.sl .str) c7), .s (.v (.sl .str) c12)] (.s (.v .bool true)) [],
      SC cfg.P i_laws_markStringS [.s (.msl t_string .str c6), .s (.v (.int .i64) (1 : Int))] (.s (.v (.int .i64) c14)) [.row t_string .str c14o0],
      SC cfg.P i_laws_markStringS [.s (.msl t_string .str c7), .s (.v (.int .i64) c14)] (.s (.v (.int .i64) c15)) [.row t_string .str c15o0],
      decide (c15 < (0 : Int)) = false,
      SC cfg.P i_laws_eqStringS [.s (.v (.sl .str) c8a), .s (.v (.sl .str) c5a)] (.s (.v .bool true)) [],
      (!(c8b == c5b)) = false,
      SC cfg.P i_laws_markStringS [.s (.msl t_string .str c8a), .s (.v (.int .i64) (1 : Int))] (.s (.v (.int .i64) c17)) [.row t_string .str c17o0],
      SC cfg.P i_laws_heldStringS [.s (.v (.sl .str) c17o0), .s (.v (.int .i64) (1 : Int))] (.s (.v (.int .i64) c18)) [],
      decide (c18 < (0 : Int)) = false,
      (c18 != c17) = false,
      SC cfg.P i_laws_toStringS [.s (.v (.sl .str) a0)] (.s (.own t_string .str c19)) [],
      SC cfg.P i_laws_toStringS [.s (.v (.sl .str) a1)] (.s (.own t_string .str c20)) [],
      SC cfg.P i_impl_LeftQuotient [.s (.v (.sl .str) c19), .s (.v (.sl .str) c20)] (.tup [.own t_string .str c21a, .v .bool c21b]) [],
      SC cfg.P i_laws_eqStringS [.s (.v (.sl .str) c21a), .s (.v (.sl .str) c5a)] (.s (.v .bool true)) [],
      (!(c21b == c5b)) = false,
      SC cfg.P i_laws_heldStringS [.s (.v (.sl .str) c17o0), .s (.v (.int .i64) (1 : Int))] (.s (.v (.int .i64) c23)) [],
      decide (c23 < (0 : Int)) = false,
      (c23 != c17) = false]) (by kernel_rfl) ⟨h1, (decide_eq_false h2), h3, (decide_eq_false h4), h5, h6, h7, h8, h9, h10, h11, h12, h13, h14, h15, h16, h17, h18, (decide_eq_false h19), h11, h12, h20, h21, (decide_eq_false h22), (bne_f h23), h24, h25, h26, h27, h28, h29, (decide_eq_false h30), (bne_f h31), trivial⟩ get_laws_FnExactLeftQuotient (by decide)

/-! ### spec_LeftQuotient -/


def spec_LeftQuotient_L0a (x0 : (List ByteArray)) (x1 : (List ByteArray)) (x7 : Int) (xo6 : (List ByteArray)) : St := mkSt 47 [(0, .s (.v (.sl .str) x0)), (1, .s (.v (.sl .str) x1)), (6, .s (.osl 6 0)), (7, .s (.v (.int .i64) x7))] [(6, .row t_string .str xo6 0 false)]

def spec_LeftQuotient_L0X1 (y0 : (List ByteArray)) (y1 : (List ByteArray)) (y7 : Int) (y31 : Bool) (yo6 : (List ByteArray)) : St := mkSt 47 [(0, .s (.v (.sl .str) y0)), (1, .s (.v (.sl .str) y1)), (6, .s (.osl 6 0)), (7, .s (.v (.int .i64) y7)), (31, .s (.v .bool y31))] [(6, .row t_string .str yo6 0 false)]

theorem spec_LeftQuotient_L0a_i1 (x0 : (List ByteArray)) (x1 : (List ByteArray)) (x7 : Int) (xo6 : (List ByteArray)) (dc1 : ByteArray) (dc2 : ByteArray) (dc3 : (List ByteArray))
    (h1 : x7 < ((List.length x0 : Nat) : Int))
    (h2 : SC cfg.P i_spec_foTree [.s (.v (.sl .str) x0), .s (.v (.int .i64) x7)] (.s (.v .str dc1)) [])
    (h3 : SC cfg.P i_spec_foTree [.s (.v (.sl .str) x1), .s (.v (.int .i64) x7)] (.s (.v .str dc2)) [])
    (h4 : SC cfg.P i_spec_prParts [.s (.v .str dc1), .s (.v .str dc2)] (.s (.own t_string .str dc3)) [])
    (h5 : sizeOK (List.length xo6 + List.length dc3))
    {e : AEx} {st : St} (next : LoopSC cfg.P 2 (lb P_spec_LeftQuotient 0) (spec_LeftQuotient_L0a x0 x1 (IntKind.wrap .i64 (x7 + (1 : Int))) (xo6 ++ dc3)) e st) :
    LoopSC cfg.P 2 (lb P_spec_LeftQuotient 0) (spec_LeftQuotient_L0a x0 x1 x7 xo6) e st :=
  loop_iter cfgOK (f := i_spec_LeftQuotient) (its := [.bool true, .res (.s (.v .str dc1)) [] [] [], .res (.s (.v .str dc2)) [] [] [], .res (.s (.own t_string .str dc3)) [] [] [41]])
    (ps := [decide (x7 < ((List.length x0 : Nat) : Int)) = true,
      SC cfg.P i_spec_foTree [.s (.v (.sl .str) x0), .s (.v (.int .i64) x7)] (.s (.v .str dc1)) [],
      SC cfg.P i_spec_foTree [.s (.v (.sl .str) x1), .s (.v (.int .i64) x7)] (.s (.v .str dc2)) [],
      SC cfg.P i_spec_prParts [.s (.v .str dc1), .s (.v .str dc2)] (.s (.own t_string .str dc3)) [],
      sizeOK (List.length xo6 + List.length dc3)]) (st1 := spec_LeftQuotient_L0a x0 x1 (IntKind.wrap .i64 (x7 + (1 : Int))) (xo6 ++ dc3)) (by kernel_rfl) ⟨(decide_eq_true h1), h2, h3, h4, h5, trivial⟩ next

theorem spec_LeftQuotient_L0a_i2 (x0 : (List ByteArray)) (x1 : (List ByteArray)) (x7 : Int) (xo6 : (List ByteArray)) (dc1 : ByteArray) (dc2 : ByteArray) (dc3 : (List ByteArray))
    (h1 : ¬ (x7 < ((List.length x0 : Nat) : Int)))
    (h2 : x7 < ((List.length x1 : Nat) : Int))
    (h3 : SC cfg.P i_spec_foTree [.s (.v (.sl .str) x0), .s (.v (.int .i64) x7)] (.s (.v .str dc1)) [])
    (h4 : SC cfg.P i_spec_foTree [.s (.v (.sl .str) x1), .s (.v (.int .i64) x7)] (.s (.v .str dc2)) [])
    (h5 : SC cfg.P i_spec_prParts [.s (.v .str dc1), .s (.v .str dc2)] (.s (.own t_string .str dc3)) [])
    (h6 : sizeOK (List.length xo6 + List.length dc3))
    {e : AEx} {st : St} (next : LoopSC cfg.P 2 (lb P_spec_LeftQuotient 0) (spec_LeftQuotient_L0a x0 x1 (IntKind.wrap .i64 (x7 + (1 : Int))) (xo6 ++ dc3)) e st) :
    LoopSC cfg.P 2 (lb P_spec_LeftQuotient 0) (spec_LeftQuotient_L0a x0 x1 x7 xo6) e st :=
  loop_iter cfgOK (f := i_spec_LeftQuotient) (its := [.bool false, .bool true, .res (.s (.v .str dc1)) [] [] [], .res (.s (.v .str dc2)) [] [] [], .res (.s (.own t_string .str dc3)) [] [] [41]])
    (ps := [decide (x7 < ((List.length x0 : Nat) : Int)) = false,
      decide (x7 < ((List.length x1 : Nat) : Int)) = true,
      SC cfg.P i_spec_foTree [.s (.v (.sl .str) x0), .s (.v (.int .i64) x7)] (.s (.v .str dc1)) [],
      SC cfg.P i_spec_foTree [.s (.v (.sl .str) x1), .s (.v (.int .i64) x7)] (.s (.v .str dc2)) [],
      SC cfg.P i_spec_prParts [.s (.v .str dc1), .s (.v .str dc2)] (.s (.own t_string .str dc3)) [],
      sizeOK (List.length xo6 + List.length dc3)]) (st1 := spec_LeftQuotient_L0a x0 x1 (IntKind.wrap .i64 (x7 + (1 : Int))) (xo6 ++ dc3)) (by kernel_rfl) ⟨(decide_eq_false h1), (decide_eq_true h2), h3, h4, h5, h6, trivial⟩ next

theorem spec_LeftQuotient_L0a_x3 (x0 : (List ByteArray)) (x1 : (List ByteArray)) (x7 : Int) (xo6 : (List ByteArray))
    (h1 : ¬ (x7 < ((List.length x0 : Nat) : Int)))
    (h2 : ¬ (x7 < ((List.length x1 : Nat) : Int))) :
    LoopSC cfg.P 2 (lb P_spec_LeftQuotient 0) (spec_LeftQuotient_L0a x0 x1 x7 xo6) (.exit 0) (spec_LeftQuotient_L0X1 x0 x1 x7 false xo6) :=
  loop_out cfgOK (f := i_spec_LeftQuotient) (its := [.bool false, .bool false])
    (ps := [decide (x7 < ((List.length x0 : Nat) : Int)) = false,
      decide (x7 < ((List.length x1 : Nat) : Int)) = false]) (by kernel_rfl) ⟨(decide_eq_false h1), (decide_eq_false h2), trivial⟩ (fun h => by cases h)

theorem spec_LeftQuotient_p1 (a0 : (List ByteArray)) (a1 : (List ByteArray)) (k1y0 : (List ByteArray)) (k1y1 : (List ByteArray)) (k1y7 : Int) (k1y31 : Bool) (k1yo6 : (List ByteArray)) (c4a : (List ByteArray)) (c4b : Bool)
    (h1 : SC cfg.P i_spec_foGood [.s (.v (.sl .str) a0)] (.s (.v .bool true)) [])
    (h2 : SC cfg.P i_spec_foGood [.s (.v (.sl .str) a1)] (.s (.v .bool true)) [])
    (h3 : SC cfg.P i_spec_foPart [.s (.v (.sl .str) a0), .s (.v (.sl .str) a1)] (.s (.v .bool true)) [])
    (h4 : LoopSC cfg.P 2 (lb P_spec_LeftQuotient 0) (spec_LeftQuotient_L0a a0 a1 (0 : Int) ([] : List ByteArray)) (.exit 0) (spec_LeftQuotient_L0X1 k1y0 k1y1 k1y7 k1y31 k1yo6))
    (h5 : SC cfg.P i_spec_foIf [.s (.v (.sl .str) k1yo6)] (.tup [.own t_string .str c4a, .v .bool c4b]) []) :
    SC cfg.P i_spec_LeftQuotient [.s (.v (.sl .str) a0), .s (.v (.sl .str) a1)] (.tup [.own t_string .str c4a, .v .bool c4b]) [] :=
  SC_of_run cfgOK (its := [.res (.s (.v .bool true)) [] [] [], .res (.s (.v .bool true)) [] [] [], .res (.s (.v .bool true)) [] [] [], .loop (fun _ => (.exit 0, spec_LeftQuotient_L0X1 k1y0 k1y1 k1y7 k1y31 k1yo6)), .res (.tup [.own t_string .str c4a, .v .bool c4b]) [] [] [45]])
    (ps := [SC cfg.P i_spec_foGood [.s (.v (.sl .str) a0)] (.s (.v .bool true)) [],
      SC cfg.P i_spec_foGood [.s (.v (.sl .str) a1)] (.s (.v .bool true)) [],
      SC cfg.P i_spec_foPart [.s (.v (.sl .str) a0), .s (.v (.sl .str) a1)] (.s (.v .bool true)) [],
      LoopSC cfg.P 2 (lb P_spec_LeftQuotient 0) (spec_LeftQuotient_L0a a0 a1 (0 : Int) ([] : List ByteArray)) (.exit 0) (spec_LeftQuotient_L0X1 k1y0 k1y1 k1y7 k1y31 k1yo6),
      SC cfg.P i_spec_foIf [.s (.v (.sl .str) k1yo6)] (.tup [.own t_string .str c4a, .v .bool c4b]) []]) (by kernel_rfl) ⟨h1, h2, h3, h4, h5, trivial⟩ get_spec_LeftQuotient (by decide)

theorem spec_LeftQuotient_p2 (a0 : (List ByteArray)) (a1 : (List ByteArray))
    (h1 : SC cfg.P i_spec_foGood [.s (.v (.sl .str) a0)] (.s (.v .bool true)) [])
    (h2 : SC cfg.P i_spec_foGood [.s (.v (.sl .str) a1)] (.s (.v .bool true)) [])
    (h3 : SC cfg.P i_spec_foPart [.s (.v (.sl .str) a0), .s (.v (.sl .str) a1)] (.s (.v .bool false)) []) :
    SC cfg.P i_spec_LeftQuotient [.s (.v (.sl .str) a0), .s (.v (.sl .str) a1)] (.tup [.own t_string .str ([] : List ByteArray), .v .bool false]) [] :=
  SC_of_run cfgOK (its := [.res (.s (.v .bool true)) [] [] [], .res (.s (.v .bool true)) [] [] [], .res (.s (.v .bool false)) [] [] []])
    (ps := [SC cfg.P i_spec_foGood [.s (.v (.sl .str) a0)] (.s (.v .bool true)) [],
      SC cfg.P i_spec_foGood [.s (.v (.sl .str) a1)] (.s (.v .bool true)) [],
      SC cfg.P i_spec_foPart [.s (.v (.sl .str) a0), .s (.v (.sl .str) a1)] (.s (.v .bool false)) []]) (by kernel_rfl) ⟨h1, h2, h3, trivial⟩ get_spec_LeftQuotient (by decide)

theorem spec_LeftQuotient_p3 (a0 : (List ByteArray)) (a1 : (List ByteArray))
    (h1 : SC cfg.P i_spec_foGood [.s (.v (.sl .str) a0)] (.s (.v .bool true)) [])
    (h2 : SC cfg.P i_spec_foGood [.s (.v (.sl .str) a1)] (.s (.v .bool false)) []) :
    SC cfg.P i_spec_LeftQuotient [.s (.v (.sl .str) a0), .s (.v (.sl .str) a1)] (.tup [.own t_string .str ([] : List ByteArray), .v .bool false]) [] :=
  SC_of_run cfgOK (its := [.res (.s (.v .bool true)) [] [] [], .res (.s (.v .bool false)) [] [] []])
    (ps := [SC cfg.P i_spec_foGood [.s (.v (.sl .str) a0)] (.s (.v .bool true)) [],
      SC cfg.P i_spec_foGood [.s (.v (.sl .str) a1)] (.s (.v .bool false)) []]) (by kernel_rfl) ⟨h1, h2, trivial⟩ get_spec_LeftQuotient (by decide)

theorem spec_LeftQuotient_p4 (a0 : (List ByteArray)) (a1 : (List ByteArray))
    (h1 : SC cfg.P i_spec_foGood [.s (.v (.sl .str) a0)] (.s (.v .bool false)) []) :
    SC cfg.P i_spec_LeftQuotient [.s (.v (.sl .str) a0), .s (.v (.sl .str) a1)] (.tup [.own t_string .str ([] : List ByteArray), .v .bool false]) [] :=
  SC_of_run cfgOK (its := [.res (.s (.v .bool false)) [] [] []])
    (ps := [SC cfg.P i_spec_foGood [.s (.v (.sl .str) a0)] (.s (.v .bool false)) []]) (by kernel_rfl) ⟨h1, trivial⟩ get_spec_LeftQuotient (by decide)

/-! ### impl_LeftQuotient -/


def impl_LeftQuotient_L0a (x6 : (List Tr)) (x7 : (List Tr)) (x36 : Int) (x37 : Int) (xo9 : (List Tr)) : St := mkSt 69 [(6, .s (.v (.sl .tree) x6)), (7, .s (.v (.sl .tree) x7)), (9, .s (.osl 9 0)), (36, .s (.v (.int .i64) x36)), (37, .s (.v (.int .i64) x37))] [(9, .row t_pimpl_node .tree xo9 0 false)]

def impl_LeftQuotient_L1a (x6 : (List Tr)) (x7 : (List Tr)) (x12 : Tr) (x36 : Int) (x37 : Int) (x48 : Int) (x49 : Int) (xo9 : (List Tr)) (xo47 : (List ByteArray)) : St := mkSt 69 [(6, .s (.v (.sl .tree) x6)), (7, .s (.v (.sl .tree) x7)), (9, .s (.osl 9 0)), (12, .s (.v .tree x12)), (36, .s (.v (.int .i64) x36)), (37, .s (.v (.int .i64) x37)), (47, .s (.osl 47 0)), (48, .s (.v (.int .i64) x48)), (49, .s (.v (.int .i64) x49))] [(9, .row t_pimpl_node .tree xo9 0 false), (47, .row t_string .str xo47 0 false)]

def impl_LeftQuotient_L1X1 (y6 : (List Tr)) (y7 : (List Tr)) (y12 : Tr) (y36 : Int) (y37 : Int) (y48 : Int) (y49 : Int) (y50 : Bool) (yo9 : (List Tr)) (yo47 : (List ByteArray)) : St := mkSt 69 [(6, .s (.v (.sl .tree) y6)), (7, .s (.v (.sl .tree) y7)), (9, .s (.osl 9 0)), (12, .s (.v .tree y12)), (36, .s (.v (.int .i64) y36)), (37, .s (.v (.int .i64) y37)), (47, .s (.osl 47 0)), (48, .s (.v (.int .i64) y48)), (49, .s (.v (.int .i64) y49)), (50, .s (.v .bool y50))] [(9, .row t_pimpl_node .tree yo9 0 false), (47, .row t_string .str yo47 0 false)]

def impl_LeftQuotient_L0X1 (y6 : (List Tr)) (y7 : (List Tr)) (y36 : Int) (y37 : Int) (y38 : Bool) (yo9 : (List Tr)) : St := mkSt 69 [(6, .s (.v (.sl .tree) y6)), (7, .s (.v (.sl .tree) y7)), (9, .s (.osl 9 0)), (36, .s (.v (.int .i64) y36)), (37, .s (.v (.int .i64) y37)), (38, .s (.v .bool y38))] [(9, .row t_pimpl_node .tree yo9 0 false)]

theorem impl_LeftQuotient_L0a_i1 (x6 : (List Tr)) (x7 : (List Tr)) (x36 : Int) (x37 : Int) (xo9 : (List Tr)) (dc1 : Tr) (dc2 : Tr) (dc3 : (List ByteArray)) (dk1y6 : (List Tr)) (dk1y7 : (List Tr)) (dk1y12 : Tr) (dk1y36 : Int) (dk1y37 : Int) (dk1y48 : Int) (dk1y49 : Int) (dk1y50 : Bool) (dk1yo9 : (List Tr)) (dk1yo47 : (List ByteArray))
    (h1 : x37 < x36)
    (h2 : SC cfg.P i_impl_forest_tree [.s (.v (.sl .tree) x6), .s (.v (.int .i64) x37)] (.s (.v .tree dc1)) [])
    (h3 : SC cfg.P i_impl_forest_tree [.s (.v (.sl .tree) x7), .s (.v (.int .i64) x37)] (.s (.v .tree dc2)) [])
    (h4 : SC cfg.P i_impl_node_addresses [.s (.v .tree dc1), .s (.v .str (⟨#[]⟩ : ByteArray))] (.s (.own t_string .str dc3)) [])
    (h5 : LoopSC cfg.P 2 (lb P_impl_LeftQuotient 1) (impl_LeftQuotient_L1a x6 x7 dc2 x36 x37 ((List.length dc3 : Nat) : Int) (0 : Int) xo9 dc3) (.exit 2) (impl_LeftQuotient_L1X1 dk1y6 dk1y7 dk1y12 dk1y36 dk1y37 dk1y48 dk1y49 dk1y50 dk1yo9 dk1yo47))
    {e : AEx} {st : St} (next : LoopSC cfg.P 2 (lb P_impl_LeftQuotient 0) (impl_LeftQuotient_L0a dk1y6 dk1y7 dk1y36 (IntKind.wrap .i64 (dk1y37 + (1 : Int))) dk1yo9) e st) :
    LoopSC cfg.P 2 (lb P_impl_LeftQuotient 0) (impl_LeftQuotient_L0a x6 x7 x36 x37 xo9) e st :=
  loop_iter cfgOK (f := i_impl_LeftQuotient) (its := [.bool true, .res (.s (.v .tree dc1)) [] [] [], .res (.s (.v .tree dc2)) [] [] [], .res (.s (.own t_string .str dc3)) [] [] [47], .loop (fun _ => (.exit 2, impl_LeftQuotient_L1X1 dk1y6 dk1y7 dk1y12 dk1y36 dk1y37 dk1y48 dk1y49 dk1y50 dk1yo9 dk1yo47))])
    (ps := [decide (x37 < x36) = true,
      SC cfg.P i_impl_forest_tree [.s (.v (.sl .tree) x6), .s (.v (.int .i64) x37)] (.s (.v .tree dc1)) [],
      SC cfg.P i_impl_forest_tree [.s (.v (.sl .tree) x7), .s (.v (.int .i64) x37)] (.s (.v .tree dc2)) [],
      SC cfg.P i_impl_node_addresses [.s (.v .tree dc1), .s (.v .str (⟨#[]⟩ : ByteArray))] (.s (.own t_string .str dc3)) [],
      LoopSC cfg.P 2 (lb P_impl_LeftQuotient 1) (impl_LeftQuotient_L1a x6 x7 dc2 x36 x37 ((List.length dc3 : Nat) : Int) (0 : Int) xo9 dc3) (.exit 2) (impl_LeftQuotient_L1X1 dk1y6 dk1y7 dk1y12 dk1y36 dk1y37 dk1y48 dk1y49 dk1y50 dk1yo9 dk1yo47)]) (st1 := impl_LeftQuotient_L0a dk1y6 dk1y7 dk1y36 (IntKind.wrap .i64 (dk1y37 + (1 : Int))) dk1yo9) (by kernel_rfl) ⟨(decide_eq_true h1), h2, h3, h4, h5, trivial⟩ next

theorem impl_LeftQuotient_L0a_x2 (x6 : (List Tr)) (x7 : (List Tr)) (x36 : Int) (x37 : Int) (xo9 : (List Tr))
    (h1 : ¬ (x37 < x36)) :
    LoopSC cfg.P 2 (lb P_impl_LeftQuotient 0) (impl_LeftQuotient_L0a x6 x7 x36 x37 xo9) (.exit 0) (impl_LeftQuotient_L0X1 x6 x7 x36 x37 false xo9) :=
  loop_out cfgOK (f := i_impl_LeftQuotient) (its := [.bool false])
    (ps := [decide (x37 < x36) = false]) (by kernel_rfl) ⟨(decide_eq_false h1), trivial⟩ (fun h => by cases h)

theorem impl_LeftQuotient_L1a_i1 (x6 : (List Tr)) (x7 : (List Tr)) (x12 : Tr) (x36 : Int) (x37 : Int) (x48 : Int) (x49 : Int) (xo9 : (List Tr)) (xo47 : (List ByteArray)) (dc1a : Tr) (dc1b : Bool)
    (h1 : x49 < x48)
    (h2 : 0 ≤ x49)
    (h3 : x49 < (List.length xo47 : Int))
    (h4 : (x49).toNat < List.length xo47)
    (h5 : SC cfg.P i_impl_node_at [.s (.v .tree x12), .s (.v .str (List.getD xo47 (x49).toNat (⟨#[]⟩ : ByteArray)))] (.tup [.v .tree dc1a, .v .bool dc1b]) [])
    (h6 : sizeOK (List.length xo9 + List.length ([dc1a] : List Tr)))
    {e : AEx} {st : St} (next : LoopSC cfg.P 2 (lb P_impl_LeftQuotient 1) (impl_LeftQuotient_L1a x6 x7 x12 x36 x37 x48 (IntKind.wrap .i64 (x49 + (1 : Int))) (xo9 ++ ([dc1a] : List Tr)) xo47) e st) :
    LoopSC cfg.P 2 (lb P_impl_LeftQuotient 1) (impl_LeftQuotient_L1a x6 x7 x12 x36 x37 x48 x49 xo9 xo47) e st :=
  loop_iter cfgOK (f := i_impl_LeftQuotient) (its := [.bool true, .res (.tup [.v .tree dc1a, .v .bool dc1b]) [] [] []])
    (ps := [decide (x49 < x48) = true,
      0 ≤ x49,
      x49 < (List.length xo47 : Int),
      (x49).toNat < List.length xo47,
      SC cfg.P i_impl_node_at [.s (.v .tree x12), .s (.v .str (List.getD xo47 (x49).toNat (⟨#[]⟩ : ByteArray)))] (.tup [.v .tree dc1a, .v .bool dc1b]) [],
      sizeOK (List.length xo9 + List.length ([dc1a] : List Tr))]) (st1 := impl_LeftQuotient_L1a x6 x7 x12 x36 x37 x48 (IntKind.wrap .i64 (x49 + (1 : Int))) (xo9 ++ ([dc1a] : List Tr)) xo47) (by kernel_rfl) ⟨(decide_eq_true h1), h2, h3, h4, h5, h6, trivial⟩ next

theorem impl_LeftQuotient_L1a_x2 (x6 : (List Tr)) (x7 : (List Tr)) (x12 : Tr) (x36 : Int) (x37 : Int) (x48 : Int) (x49 : Int) (xo9 : (List Tr)) (xo47 : (List ByteArray))
    (h1 : ¬ (x49 < x48)) :
    LoopSC cfg.P 2 (lb P_impl_LeftQuotient 1) (impl_LeftQuotient_L1a x6 x7 x12 x36 x37 x48 x49 xo9 xo47) (.exit 2) (impl_LeftQuotient_L1X1 x6 x7 x12 x36 x37 x48 x49 false xo9 xo47) :=
  loop_out cfgOK (f := i_impl_LeftQuotient) (its := [.bool false])
    (ps := [decide (x49 < x48) = false]) (by kernel_rfl) ⟨(decide_eq_false h1), trivial⟩ (fun h => by cases h)

theorem impl_LeftQuotient_p1 (a0 : (List ByteArray)) (a1 : (List ByteArray)) (c1a : (List Tr)) (c1b : (List Tr)) (k1y6 : (List Tr)) (k1y7 : (List Tr)) (k1y36 : Int) (k1y37 : Int) (k1y38 : Bool) (k1yo9 : (List Tr)) (c3a : (List ByteArray)) (c3b : Bool)
    (h1 : SC cfg.P i_impl_twoForests [.s (.v (.sl .str) a0), .s (.v (.sl .str) a1)] (.tup [.v (.sl .tree) c1a, .v (.sl .tree) c1b, .v .bool true]) [])
    (h2 : SC cfg.P i_impl_isPartOf [.s (.v (.sl .tree) c1a), .s (.v (.sl .tree) c1b)] (.s (.v .bool true)) [])
    (h3 : LoopSC cfg.P 2 (lb P_impl_LeftQuotient 0) (impl_LeftQuotient_L0a c1a c1b (maxI ((List.length c1a : Nat) : Int) ((List.length c1b : Nat) : Int)) (0 : Int) ([] : List Tr)) (.exit 0) (impl_LeftQuotient_L0X1 k1y6 k1y7 k1y36 k1y37 k1y38 k1yo9))
    (h4 : SC cfg.P i_impl_forest_texts [.s (.v (.sl .tree) k1yo9)] (.tup [.own t_string .str c3a, .v .bool c3b]) []) :
    SC cfg.P i_impl_LeftQuotient [.s (.v (.sl .str) a0), .s (.v (.sl .str) a1)] (.tup [.own t_string .str c3a, .v .bool c3b]) [] :=
  SC_of_run cfgOK (its := [.res (.tup [.v (.sl .tree) c1a, .v (.sl .tree) c1b, .v .bool true]) [] [] [], .res (.s (.v .bool true)) [] [] [], .loop (fun _ => (.exit 0, impl_LeftQuotient_L0X1 k1y6 k1y7 k1y36 k1y37 k1y38 k1yo9)), .res (.tup [.own t_string .str c3a, .v .bool c3b]) [] [] [67]])
    (ps := [SC cfg.P i_impl_twoForests [.s (.v (.sl .str) a0), .s (.v (.sl .str) a1)] (.tup [.v (.sl .tree) c1a, .v (.sl .tree) c1b, .v .bool true]) [],
      SC cfg.P i_impl_isPartOf [.s (.v (.sl .tree) c1a), .s (.v (.sl .tree) c1b)] (.s (.v .bool true)) [],
      LoopSC cfg.P 2 (lb P_impl_LeftQuotient 0) (impl_LeftQuotient_L0a c1a c1b (maxI ((List.length c1a : Nat) : Int) ((List.length c1b : Nat) : Int)) (0 : Int) ([] : List Tr)) (.exit 0) (impl_LeftQuotient_L0X1 k1y6 k1y7 k1y36 k1y37 k1y38 k1yo9),
      SC cfg.P i_impl_forest_texts [.s (.v (.sl .tree) k1yo9)] (.tup [.own t_string .str c3a, .v .bool c3b]) []]) (by kernel_rfl) ⟨h1, h2, h3, h4, trivial⟩ get_impl_LeftQuotient (by decide)

theorem impl_LeftQuotient_p2 (a0 : (List ByteArray)) (a1 : (List ByteArray)) (c1a : (List Tr)) (c1b : (List Tr))
    (h1 : SC cfg.P i_impl_twoForests [.s (.v (.sl .str) a0), .s (.v (.sl .str) a1)] (.tup [.v (.sl .tree) c1a, .v (.sl .tree) c1b, .v .bool true]) [])
    (h2 : SC cfg.P i_impl_isPartOf [.s (.v (.sl .tree) c1a), .s (.v (.sl .tree) c1b)] (.s (.v .bool false)) []) :
    SC cfg.P i_impl_LeftQuotient [.s (.v (.sl .str) a0), .s (.v (.sl .str) a1)] (.tup [.own t_string .str ([] : List ByteArray), .v .bool false]) [] :=
  SC_of_run cfgOK (its := [.res (.tup [.v (.sl .tree) c1a, .v (.sl .tree) c1b, .v .bool true]) [] [] [], .res (.s (.v .bool false)) [] [] []])
    (ps := [SC cfg.P i_impl_twoForests [.s (.v (.sl .str) a0), .s (.v (.sl .str) a1)] (.tup [.v (.sl .tree) c1a, .v (.sl .tree) c1b, .v .bool true]) [],
      SC cfg.P i_impl_isPartOf [.s (.v (.sl .tree) c1a), .s (.v (.sl .tree) c1b)] (.s (.v .bool false)) []]) (by kernel_rfl) ⟨h1, h2, trivial⟩ get_impl_LeftQuotient (by decide)

theorem impl_LeftQuotient_p3 (a0 : (List ByteArray)) (a1 : (List ByteArray)) (c1a : (List Tr)) (c1b : (List Tr))
    (h1 : SC cfg.P i_impl_twoForests [.s (.v (.sl .str) a0), .s (.v (.sl .str) a1)] (.tup [.v (.sl .tree) c1a, .v (.sl .tree) c1b, .v .bool false]) []) :
    SC cfg.P i_impl_LeftQuotient [.s (.v (.sl .str) a0), .s (.v (.sl .str) a1)] (.tup [.own t_string .str ([] : List ByteArray), .v .bool false]) [] :=
  SC_of_run cfgOK (its := [.res (.tup [.v (.sl .tree) c1a, .v (.sl .tree) c1b, .v .bool false]) [] [] []])
    (ps := [SC cfg.P i_impl_twoForests [.s (.v (.sl .str) a0), .s (.v (.sl .str) a1)] (.tup [.v (.sl .tree) c1a, .v (.sl .tree) c1b, .v .bool false]) []]) (by kernel_rfl) ⟨h1, trivial⟩ get_impl_LeftQuotient (by decide)

/-! ### spec_foPart -/


def spec_foPart_L0a (x1 : (List ByteArray)) (x7 : (List ByteArray)) (x8 : Int) (x9 : Int) : St := mkSt 24 [(1, .s (.v (.sl .str) x1)), (7, .s (.v (.sl .str) x7)), (8, .s (.v (.int .i64) x8)), (9, .s (.v (.int .i64) x9))] []

def spec_foPart_L0X1 (y4 : Bool) : St := mkSt 24 [(4, .s (.v .bool y4))] []

def spec_foPart_L0X2 (y1 : (List ByteArray)) (y7 : (List ByteArray)) (y8 : Int) (y9 : Int) (y10 : Bool) : St := mkSt 24 [(1, .s (.v (.sl .str) y1)), (7, .s (.v (.sl .str) y7)), (8, .s (.v (.int .i64) y8)), (9, .s (.v (.int .i64) y9)), (10, .s (.v .bool y10))] []

theorem spec_foPart_L0a_x1 (x1 : (List ByteArray)) (x7 : (List ByteArray)) (x8 : Int) (x9 : Int) (dc1 : ByteArray) (dc2 : ByteArray) (dc3 : ByteArray)
    (h1 : x9 < x8)
    (h2 : 0 ≤ x9)
    (h3 : x9 < (List.length x7 : Int))
    (h4 : SC cfg.P i_spec_foTree [.s (.v (.sl .str) x1), .s (.v (.int .i64) x9)] (.s (.v .str dc1)) [])
    (h5 : SC cfg.P i_spec_trJoin [.s (.v .str (List.getD x7 (x9).toNat (⟨#[]⟩ : ByteArray))), .s (.v .str dc1)] (.s (.v .str dc2)) [])
    (h6 : SC cfg.P i_spec_foTree [.s (.v (.sl .str) x1), .s (.v (.int .i64) x9)] (.s (.v .str dc3)) [])
    (h7 : dc2 ≠ dc3) :
    LoopSC cfg.P 2 (lb P_spec_foPart 0) (spec_foPart_L0a x1 x7 x8 x9) (.ret) (spec_foPart_L0X1 false) :=
  loop_out cfgOK (f := i_spec_foPart) (its := [.bool true, .res (.s (.v .str dc1)) [] [] [], .res (.s (.v .str dc2)) [] [] [], .res (.s (.v .str dc3)) [] [] [], .bool true])
    (ps := [decide (x9 < x8) = true,
      0 ≤ x9,
      x9 < (List.length x7 : Int),
      SC cfg.P i_spec_foTree [.s (.v (.sl .str) x1), .s (.v (.int .i64) x9)] (.s (.v .str dc1)) [],
      SC cfg.P i_spec_trJoin [.s (.v .str (List.getD x7 (x9).toNat (⟨#[]⟩ : ByteArray))), .s (.v .str dc1)] (.s (.v .str dc2)) [],
      SC cfg.P i_spec_foTree [.s (.v (.sl .str) x1), .s (.v (.int .i64) x9)] (.s (.v .str dc3)) [],
      (!((dc2).toList == (dc3).toList)) = true]) (by kernel_rfl) ⟨(decide_eq_true h1), h2, h3, h4, h5, h6, (nseq_t h7), trivial⟩ (fun h => by cases h)

theorem spec_foPart_L0a_i2 (x1 : (List ByteArray)) (x7 : (List ByteArray)) (x8 : Int) (x9 : Int) (dc1 : ByteArray) (dc2 : ByteArray) (dc3 : ByteArray)
    (h1 : x9 < x8)
    (h2 : 0 ≤ x9)
    (h3 : x9 < (List.length x7 : Int))
    (h4 : SC cfg.P i_spec_foTree [.s (.v (.sl .str) x1), .s (.v (.int .i64) x9)] (.s (.v .str dc1)) [])
    (h5 : SC cfg.P i_spec_trJoin [.s (.v .str (List.getD x7 (x9).toNat (⟨#[]⟩ : ByteArray))), .s (.v .str dc1)] (.s (.v .str dc2)) [])
    (h6 : SC cfg.P i_spec_foTree [.s (.v (.sl .str) x1), .s (.v (.int .i64) x9)] (.s (.v .str dc3)) [])
    (h7 : dc2 = dc3)
    {e : AEx} {st : St} (next : LoopSC cfg.P 2 (lb P_spec_foPart 0) (spec_foPart_L0a x1 x7 x8 (IntKind.wrap .i64 (x9 + (1 : Int)))) e st) :
    LoopSC cfg.P 2 (lb P_spec_foPart 0) (spec_foPart_L0a x1 x7 x8 x9) e st :=
  loop_iter cfgOK (f := i_spec_foPart) (its := [.bool true, .res (.s (.v .str dc1)) [] [] [], .res (.s (.v .str dc2)) [] [] [], .res (.s (.v .str dc3)) [] [] [], .bool false])
    (ps := [decide (x9 < x8) = true,
      0 ≤ x9,
      x9 < (List.length x7 : Int),
      SC cfg.P i_spec_foTree [.s (.v (.sl .str) x1), .s (.v (.int .i64) x9)] (.s (.v .str dc1)) [],
      SC cfg.P i_spec_trJoin [.s (.v .str (List.getD x7 (x9).toNat (⟨#[]⟩ : ByteArray))), .s (.v .str dc1)] (.s (.v .str dc2)) [],
      SC cfg.P i_spec_foTree [.s (.v (.sl .str) x1), .s (.v (.int .i64) x9)] (.s (.v .str dc3)) [],
      (!((dc2).toList == (dc3).toList)) = false]) (st1 := spec_foPart_L0a x1 x7 x8 (IntKind.wrap .i64 (x9 + (1 : Int)))) (by kernel_rfl) ⟨(decide_eq_true h1), h2, h3, h4, h5, h6, (nseq_f h7), trivial⟩ next

theorem spec_foPart_L0a_x3 (x1 : (List ByteArray)) (x7 : (List ByteArray)) (x8 : Int) (x9 : Int)
    (h1 : ¬ (x9 < x8)) :
    LoopSC cfg.P 2 (lb P_spec_foPart 0) (spec_foPart_L0a x1 x7 x8 x9) (.exit 0) (spec_foPart_L0X2 x1 x7 x8 x9 false) :=
  loop_out cfgOK (f := i_spec_foPart) (its := [.bool false])
    (ps := [decide (x9 < x8) = false]) (by kernel_rfl) ⟨(decide_eq_false h1), trivial⟩ (fun h => by cases h)

theorem spec_foPart_p1 (a0 : (List ByteArray)) (a1 : (List ByteArray)) (k1y4 : Bool)
    (h1 : LoopSC cfg.P 2 (lb P_spec_foPart 0) (spec_foPart_L0a a1 a0 ((List.length a0 : Nat) : Int) (0 : Int)) (.ret) (spec_foPart_L0X1 k1y4)) :
    SC cfg.P i_spec_foPart [.s (.v (.sl .str) a0), .s (.v (.sl .str) a1)] (.s (.v .bool k1y4)) [] :=
  SC_of_run cfgOK (its := [.loop (fun _ => (.ret, spec_foPart_L0X1 k1y4))])
    (ps := [LoopSC cfg.P 2 (lb P_spec_foPart 0) (spec_foPart_L0a a1 a0 ((List.length a0 : Nat) : Int) (0 : Int)) (.ret) (spec_foPart_L0X1 k1y4)]) (by kernel_rfl) ⟨h1, trivial⟩ get_spec_foPart (by decide)

theorem spec_foPart_p2 (a0 : (List ByteArray)) (a1 : (List ByteArray)) (k1y1 : (List ByteArray)) (k1y7 : (List ByteArray)) (k1y8 : Int) (k1y9 : Int) (k1y10 : Bool)
    (h1 : LoopSC cfg.P 2 (lb P_spec_foPart 0) (spec_foPart_L0a a1 a0 ((List.length a0 : Nat) : Int) (0 : Int)) (.exit 0) (spec_foPart_L0X2 k1y1 k1y7 k1y8 k1y9 k1y10)) :
    SC cfg.P i_spec_foPart [.s (.v (.sl .str) a0), .s (.v (.sl .str) a1)] (.s (.v .bool true)) [] :=
  SC_of_run cfgOK (its := [.loop (fun _ => (.exit 0, spec_foPart_L0X2 k1y1 k1y7 k1y8 k1y9 k1y10))])
    (ps := [LoopSC cfg.P 2 (lb P_spec_foPart 0) (spec_foPart_L0a a1 a0 ((List.length a0 : Nat) : Int) (0 : Int)) (.exit 0) (spec_foPart_L0X2 k1y1 k1y7 k1y8 k1y9 k1y10)]) (by kernel_rfl) ⟨h1, trivial⟩ get_spec_foPart (by decide)

/-! ### spec_prParts -/


theorem spec_prParts_p1 (a0 : ByteArray) (a1 : ByteArray)
    (h1 : SC cfg.P i_spec_trLeaf [.s (.v .str a0)] (.s (.v .bool true)) []) :
    SC cfg.P i_spec_prParts [.s (.v .str a0), .s (.v .str a1)] (.s (.own t_string .str ([a1] : List ByteArray))) [] :=
  SC_of_run cfgOK (its := [.res (.s (.v .bool true)) [] [] []])
    (ps := [SC cfg.P i_spec_trLeaf [.s (.v .str a0)] (.s (.v .bool true)) []]) (by kernel_rfl) ⟨h1, trivial⟩ get_spec_prParts (by decide)

theorem spec_prParts_p2 (a0 : ByteArray) (a1 : ByteArray) (c2a : ByteArray) (c2b : ByteArray) (c3a : ByteArray) (c3b : ByteArray) (c4 : (List ByteArray)) (c5 : (List ByteArray))
    (h1 : SC cfg.P i_spec_trLeaf [.s (.v .str a0)] (.s (.v .bool false)) [])
    (h2 : SC cfg.P i_spec_trSides [.s (.v .str a0)] (.tup [.v .str c2a, .v .str c2b]) [])
    (h3 : SC cfg.P i_spec_trSides [.s (.v .str a1)] (.tup [.v .str c3a, .v .str c3b]) [])
    (h4 : SC cfg.P i_spec_prParts [.s (.v .str c2a), .s (.v .str c3a)] (.s (.own t_string .str c4)) [])
    (h5 : SC cfg.P i_spec_prParts [.s (.v .str c2b), .s (.v .str c3b)] (.s (.own t_string .str c5)) [])
    (h6 : sizeOK (List.length c4 + List.length c5)) :
    SC cfg.P i_spec_prParts [.s (.v .str a0), .s (.v .str a1)] (.s (.own t_string .str (c4 ++ c5))) [] :=
  SC_of_run cfgOK (its := [.res (.s (.v .bool false)) [] [] [], .res (.tup [.v .str c2a, .v .str c2b]) [] [] [], .res (.tup [.v .str c3a, .v .str c3b]) [] [] [], .res (.s (.own t_string .str c4)) [] [] [25], .res (.s (.own t_string .str c5)) [] [] [28]])
    (ps := [SC cfg.P i_spec_trLeaf [.s (.v .str a0)] (.s (.v .bool false)) [],
      SC cfg.P i_spec_trSides [.s (.v .str a0)] (.tup [.v .str c2a, .v .str c2b]) [],
      SC cfg.P i_spec_trSides [.s (.v .str a1)] (.tup [.v .str c3a, .v .str c3b]) [],
      SC cfg.P i_spec_prParts [.s (.v .str c2a), .s (.v .str c3a)] (.s (.own t_string .str c4)) [],
      SC cfg.P i_spec_prParts [.s (.v .str c2b), .s (.v .str c3b)] (.s (.own t_string .str c5)) [],
      sizeOK (List.length c4 + List.length c5)]) (by kernel_rfl) ⟨h1, h2, h3, h4, h5, h6, trivial⟩ get_spec_prParts (by decide)

/-! ### impl_isPartOf -/


def impl_isPartOf_L0a (x1 : (List Tr)) (x7 : (List Tr)) (x8 : Int) (x9 : Int) : St := mkSt 21 [(1, .s (.v (.sl .tree) x1)), (7, .s (.v (.sl .tree) x7)), (8, .s (.v (.int .i64) x8)), (9, .s (.v (.int .i64) x9))] []

def impl_isPartOf_L0X1 (y4 : Bool) : St := mkSt 21 [(4, .s (.v .bool y4))] []

def impl_isPartOf_L0X2 (y1 : (List Tr)) (y7 : (List Tr)) (y8 : Int) (y9 : Int) (y10 : Bool) : St := mkSt 21 [(1, .s (.v (.sl .tree) y1)), (7, .s (.v (.sl .tree) y7)), (8, .s (.v (.int .i64) y8)), (9, .s (.v (.int .i64) y9)), (10, .s (.v .bool y10))] []

theorem impl_isPartOf_L0a_i1 (x1 : (List Tr)) (x7 : (List Tr)) (x8 : Int) (x9 : Int) (dc1 : Tr)
    (h1 : x9 < x8)
    (h2 : 0 ≤ x9)
    (h3 : x9 < (List.length x7 : Int))
    (h4 : SC cfg.P i_impl_forest_tree [.s (.v (.sl .tree) x1), .s (.v (.int .i64) x9)] (.s (.v .tree dc1)) [])
    (h5 : SC cfg.P i_impl_isPart [.s (.v .tree (List.getD x7 (x9).toNat Tr.leaf)), .s (.v .tree dc1)] (.s (.v .bool true)) [])
    {e : AEx} {st : St} (next : LoopSC cfg.P 2 (lb P_impl_isPartOf 0) (impl_isPartOf_L0a x1 x7 x8 (IntKind.wrap .i64 (x9 + (1 : Int)))) e st) :
    LoopSC cfg.P 2 (lb P_impl_isPartOf 0) (impl_isPartOf_L0a x1 x7 x8 x9) e st :=
  loop_iter cfgOK (f := i_impl_isPartOf) (its := [.bool true, .res (.s (.v .tree dc1)) [] [] [], .res (.s (.v .bool true)) [] [] []])
    (ps := [decide (x9 < x8) = true,
      0 ≤ x9,
      x9 < (List.length x7 : Int),
      SC cfg.P i_impl_forest_tree [.s (.v (.sl .tree) x1), .s (.v (.int .i64) x9)] (.s (.v .tree dc1)) [],
      SC cfg.P i_impl_isPart [.s (.v .tree (List.getD x7 (x9).toNat Tr.leaf)), .s (.v .tree dc1)] (.s (.v .bool true)) []]) (st1 := impl_isPartOf_L0a x1 x7 x8 (IntKind.wrap .i64 (x9 + (1 : Int)))) (by kernel_rfl) ⟨(decide_eq_true h1), h2, h3, h4, h5, trivial⟩ next

theorem impl_isPartOf_L0a_x2 (x1 : (List Tr)) (x7 : (List Tr)) (x8 : Int) (x9 : Int) (dc1 : Tr)
    (h1 : x9 < x8)
    (h2 : 0 ≤ x9)
    (h3 : x9 < (List.length x7 : Int))
    (h4 : SC cfg.P i_impl_forest_tree [.s (.v (.sl .tree) x1), .s (.v (.int .i64) x9)] (.s (.v .tree dc1)) [])
    (h5 : SC cfg.P i_impl_isPart [.s (.v .tree (List.getD x7 (x9).toNat Tr.leaf)), .s (.v .tree dc1)] (.s (.v .bool false)) []) :
    LoopSC cfg.P 2 (lb P_impl_isPartOf 0) (impl_isPartOf_L0a x1 x7 x8 x9) (.ret) (impl_isPartOf_L0X1 false) :=
  loop_out cfgOK (f := i_impl_isPartOf) (its := [.bool true, .res (.s (.v .tree dc1)) [] [] [], .res (.s (.v .bool false)) [] [] []])
    (ps := [decide (x9 < x8) = true,
      0 ≤ x9,
      x9 < (List.length x7 : Int),
      SC cfg.P i_impl_forest_tree [.s (.v (.sl .tree) x1), .s (.v (.int .i64) x9)] (.s (.v .tree dc1)) [],
      SC cfg.P i_impl_isPart [.s (.v .tree (List.getD x7 (x9).toNat Tr.leaf)), .s (.v .tree dc1)] (.s (.v .bool false)) []]) (by kernel_rfl) ⟨(decide_eq_true h1), h2, h3, h4, h5, trivial⟩ (fun h => by cases h)

theorem impl_isPartOf_L0a_x3 (x1 : (List Tr)) (x7 : (List Tr)) (x8 : Int) (x9 : Int)
    (h1 : ¬ (x9 < x8)) :
    LoopSC cfg.P 2 (lb P_impl_isPartOf 0) (impl_isPartOf_L0a x1 x7 x8 x9) (.exit 0) (impl_isPartOf_L0X2 x1 x7 x8 x9 false) :=
  loop_out cfgOK (f := i_impl_isPartOf) (its := [.bool false])
    (ps := [decide (x9 < x8) = false]) (by kernel_rfl) ⟨(decide_eq_false h1), trivial⟩ (fun h => by cases h)

theorem impl_isPartOf_p1 (a0 : (List Tr)) (a1 : (List Tr)) (k1y4 : Bool)
    (h1 : LoopSC cfg.P 2 (lb P_impl_isPartOf 0) (impl_isPartOf_L0a a1 a0 ((List.length a0 : Nat) : Int) (0 : Int)) (.ret) (impl_isPartOf_L0X1 k1y4)) :
    SC cfg.P i_impl_isPartOf [.s (.v (.sl .tree) a0), .s (.v (.sl .tree) a1)] (.s (.v .bool k1y4)) [] :=
  SC_of_run cfgOK (its := [.loop (fun _ => (.ret, impl_isPartOf_L0X1 k1y4))])
    (ps := [LoopSC cfg.P 2 (lb P_impl_isPartOf 0) (impl_isPartOf_L0a a1 a0 ((List.length a0 : Nat) : Int) (0 : Int)) (.ret) (impl_isPartOf_L0X1 k1y4)]) (by kernel_rfl) ⟨h1, trivial⟩ get_impl_isPartOf (by decide)

theorem impl_isPartOf_p2 (a0 : (List Tr)) (a1 : (List Tr)) (k1y1 : (List Tr)) (k1y7 : (List Tr)) (k1y8 : Int) (k1y9 : Int) (k1y10 : Bool)
    (h1 : LoopSC cfg.P 2 (lb P_impl_isPartOf 0) (impl_isPartOf_L0a a1 a0 ((List.length a0 : Nat) : Int) (0 : Int)) (.exit 0) (impl_isPartOf_L0X2 k1y1 k1y7 k1y8 k1y9 k1y10)) :
    SC cfg.P i_impl_isPartOf [.s (.v (.sl .tree) a0), .s (.v (.sl .tree) a1)] (.s (.v .bool true)) [] :=
  SC_of_run cfgOK (its := [.loop (fun _ => (.exit 0, impl_isPartOf_L0X2 k1y1 k1y7 k1y8 k1y9 k1y10))])
    (ps := [LoopSC cfg.P 2 (lb P_impl_isPartOf 0) (impl_isPartOf_L0a a1 a0 ((List.length a0 : Nat) : Int) (0 : Int)) (.exit 0) (impl_isPartOf_L0X2 k1y1 k1y7 k1y8 k1y9 k1y10)]) (by kernel_rfl) ⟨h1, trivial⟩ get_impl_isPartOf (by decide)

/-! ### impl_node_at -/


def impl_node_at_L0a (x0 : Tr) (x1 : ByteArray) (x8 : Int) (x9 : Int) : St := mkSt 35 [(0, .s (.v .tree x0)), (1, .s (.v .str x1)), (8, .s (.v (.int .i64) x8)), (9, .s (.v (.int .i64) x9))] []

def impl_node_at_L0X1 (y4 : Tr) (y5 : Bool) : St := mkSt 35 [(4, .s (.v .tree y4)), (5, .s (.v .bool y5))] []

def impl_node_at_L0X2 (y0 : Tr) (y1 : ByteArray) (y8 : Int) (y9 : Int) (y10 : Bool) : St := mkSt 35 [(0, .s (.v .tree y0)), (1, .s (.v .str y1)), (8, .s (.v (.int .i64) y8)), (9, .s (.v (.int .i64) y9)), (10, .s (.v .bool y10))] []

theorem impl_node_at_L0a_x1 (x1 : ByteArray) (x8 : Int) (x9 : Int)
    (h1 : x9 < x8) :
    LoopSC cfg.P 2 (lb P_impl_node_at 0) (impl_node_at_L0a Tr.leaf x1 x8 x9) (.ret) (impl_node_at_L0X1 Tr.leaf false) :=
  loop_out cfgOK (f := i_impl_node_at) (its := [.bool true, .bool true])
    (ps := [decide (x9 < x8) = true,
      Tr.leaf.isLeaf = true]) (by kernel_rfl) ⟨(decide_eq_true h1), rfl, trivial⟩ (fun h => by cases h)

theorem impl_node_at_L0a_i2 (x0l : Tr) (x0r : Tr) (x1 : ByteArray) (x8 : Int) (x9 : Int)
    (h1 : x9 < x8)
    (h2 : 0 ≤ x9)
    (h3 : x9 < ((x1).size : Int))
    (h4 : (bt x1 x9) = (48 : Int))
    {e : AEx} {st : St} (next : LoopSC cfg.P 2 (lb P_impl_node_at 0) (impl_node_at_L0a x0l x1 x8 (IntKind.wrap .i64 (x9 + (1 : Int)))) e st) :
    LoopSC cfg.P 2 (lb P_impl_node_at 0) (impl_node_at_L0a (Tr.node x0l x0r) x1 x8 x9) e st :=
  loop_iter cfgOK (f := i_impl_node_at) (its := [.bool true, .bool false, .bool true])
    (ps := [decide (x9 < x8) = true,
      (Tr.node x0l x0r).isLeaf = false,
      0 ≤ x9,
      x9 < ((x1).size : Int),
      ((bt x1 x9) == (48 : Int)) = true]) (st1 := impl_node_at_L0a x0l x1 x8 (IntKind.wrap .i64 (x9 + (1 : Int)))) (by kernel_rfl) ⟨(decide_eq_true h1), rfl, h2, h3, (beq_t h4), trivial⟩ next

theorem impl_node_at_L0a_i3 (x0l : Tr) (x0r : Tr) (x1 : ByteArray) (x8 : Int) (x9 : Int)
    (h1 : x9 < x8)
    (h2 : 0 ≤ x9)
    (h3 : x9 < ((x1).size : Int))
    (h4 : (bt x1 x9) ≠ (48 : Int))
    (h5 : (bt x1 x9) = (49 : Int))
    {e : AEx} {st : St} (next : LoopSC cfg.P 2 (lb P_impl_node_at 0) (impl_node_at_L0a x0r x1 x8 (IntKind.wrap .i64 (x9 + (1 : Int)))) e st) :
    LoopSC cfg.P 2 (lb P_impl_node_at 0) (impl_node_at_L0a (Tr.node x0l x0r) x1 x8 x9) e st :=
  loop_iter cfgOK (f := i_impl_node_at) (its := [.bool true, .bool false, .bool false, .bool true])
    (ps := [decide (x9 < x8) = true,
      (Tr.node x0l x0r).isLeaf = false,
      0 ≤ x9,
      x9 < ((x1).size : Int),
      ((bt x1 x9) == (48 : Int)) = false,
      0 ≤ x9,
      x9 < ((x1).size : Int),
      ((bt x1 x9) == (49 : Int)) = true]) (st1 := impl_node_at_L0a x0r x1 x8 (IntKind.wrap .i64 (x9 + (1 : Int)))) (by kernel_rfl) ⟨(decide_eq_true h1), rfl, h2, h3, (beq_f h4), h2, h3, (beq_t h5), trivial⟩ next

theorem impl_node_at_L0a_x4 (x0l : Tr) (x0r : Tr) (x1 : ByteArray) (x8 : Int) (x9 : Int)
    (h1 : x9 < x8)
    (h2 : 0 ≤ x9)
    (h3 : x9 < ((x1).size : Int))
    (h4 : (bt x1 x9) ≠ (48 : Int))
    (h5 : (bt x1 x9) ≠ (49 : Int)) :
    LoopSC cfg.P 2 (lb P_impl_node_at 0) (impl_node_at_L0a (Tr.node x0l x0r) x1 x8 x9) (.ret) (impl_node_at_L0X1 Tr.leaf false) :=
  loop_out cfgOK (f := i_impl_node_at) (its := [.bool true, .bool false, .bool false, .bool false])
    (ps := [decide (x9 < x8) = true,
      (Tr.node x0l x0r).isLeaf = false,
      0 ≤ x9,
      x9 < ((x1).size : Int),
      ((bt x1 x9) == (48 : Int)) = false,
      0 ≤ x9,
      x9 < ((x1).size : Int),
      ((bt x1 x9) == (49 : Int)) = false]) (by kernel_rfl) ⟨(decide_eq_true h1), rfl, h2, h3, (beq_f h4), h2, h3, (beq_f h5), trivial⟩ (fun h => by cases h)

theorem impl_node_at_L0a_x5 (x0 : Tr) (x1 : ByteArray) (x8 : Int) (x9 : Int)
    (h1 : ¬ (x9 < x8)) :
    LoopSC cfg.P 2 (lb P_impl_node_at 0) (impl_node_at_L0a x0 x1 x8 x9) (.exit 0) (impl_node_at_L0X2 x0 x1 x8 x9 false) :=
  loop_out cfgOK (f := i_impl_node_at) (its := [.bool false])
    (ps := [decide (x9 < x8) = false]) (by kernel_rfl) ⟨(decide_eq_false h1), trivial⟩ (fun h => by cases h)

theorem impl_node_at_p1 (a0 : Tr) (a1 : ByteArray) (k1y4 : Tr) (k1y5 : Bool)
    (h1 : LoopSC cfg.P 2 (lb P_impl_node_at 0) (impl_node_at_L0a a0 a1 ((a1).size : Int) (0 : Int)) (.ret) (impl_node_at_L0X1 k1y4 k1y5)) :
    SC cfg.P i_impl_node_at [.s (.v .tree a0), .s (.v .str a1)] (.tup [.v .tree k1y4, .v .bool k1y5]) [] :=
  SC_of_run cfgOK (its := [.loop (fun _ => (.ret, impl_node_at_L0X1 k1y4 k1y5))])
    (ps := [LoopSC cfg.P 2 (lb P_impl_node_at 0) (impl_node_at_L0a a0 a1 ((a1).size : Int) (0 : Int)) (.ret) (impl_node_at_L0X1 k1y4 k1y5)]) (by kernel_rfl) ⟨h1, trivial⟩ get_impl_node_at (by decide)

theorem impl_node_at_p2 (a0 : Tr) (a1 : ByteArray) (k1y0 : Tr) (k1y1 : ByteArray) (k1y8 : Int) (k1y9 : Int) (k1y10 : Bool)
    (h1 : LoopSC cfg.P 2 (lb P_impl_node_at 0) (impl_node_at_L0a a0 a1 ((a1).size : Int) (0 : Int)) (.exit 0) (impl_node_at_L0X2 k1y0 k1y1 k1y8 k1y9 k1y10)) :
    SC cfg.P i_impl_node_at [.s (.v .tree a0), .s (.v .str a1)] (.tup [.v .tree k1y0, .v .bool true]) [] :=
  SC_of_run cfgOK (its := [.loop (fun _ => (.exit 0, impl_node_at_L0X2 k1y0 k1y1 k1y8 k1y9 k1y10))])
    (ps := [LoopSC cfg.P 2 (lb P_impl_node_at 0) (impl_node_at_L0a a0 a1 ((a1).size : Int) (0 : Int)) (.exit 0) (impl_node_at_L0X2 k1y0 k1y1 k1y8 k1y9 k1y10)]) (by kernel_rfl) ⟨h1, trivial⟩ get_impl_node_at (by decide)

/-! ### impl_isPart -/


theorem impl_isPart_p1 (a1 : Tr)
     :
    SC cfg.P i_impl_isPart [.s (.v .tree Tr.leaf), .s (.v .tree a1)] (.s (.v .bool true)) [] :=
  SC_of_run cfgOK (its := [.bool true])
    (ps := [Tr.leaf.isLeaf = true]) (by kernel_rfl) ⟨rfl, trivial⟩ get_impl_isPart (by decide)

theorem impl_isPart_p2 (a0l : Tr) (a0r : Tr)
     :
    SC cfg.P i_impl_isPart [.s (.v .tree (Tr.node a0l a0r)), .s (.v .tree Tr.leaf)] (.s (.v .bool false)) [] :=
  SC_of_run cfgOK (its := [.bool false, .bool false])
    (ps := [(Tr.node a0l a0r).isLeaf = false,
      (!Tr.leaf.isLeaf) = false]) (by kernel_rfl) ⟨rfl, rfl, trivial⟩ get_impl_isPart (by decide)

theorem impl_isPart_p3 (a0l : Tr) (a0r : Tr) (a1l : Tr) (a1r : Tr) (c2 : Bool)
    (h1 : SC cfg.P i_impl_isPart [.s (.v .tree a0l), .s (.v .tree a1l)] (.s (.v .bool true)) [])
    (h2 : SC cfg.P i_impl_isPart [.s (.v .tree a0r), .s (.v .tree a1r)] (.s (.v .bool c2)) []) :
    SC cfg.P i_impl_isPart [.s (.v .tree (Tr.node a0l a0r)), .s (.v .tree (Tr.node a1l a1r))] (.s (.v .bool c2)) [] :=
  SC_of_run cfgOK (its := [.bool false, .bool true, .res (.s (.v .bool true)) [] [] [], .res (.s (.v .bool c2)) [] [] []])
    (ps := [(Tr.node a0l a0r).isLeaf = false,
      (!(Tr.node a1l a1r).isLeaf) = true,
      SC cfg.P i_impl_isPart [.s (.v .tree a0l), .s (.v .tree a1l)] (.s (.v .bool true)) [],
      SC cfg.P i_impl_isPart [.s (.v .tree a0r), .s (.v .tree a1r)] (.s (.v .bool c2)) []]) (by kernel_rfl) ⟨rfl, rfl, h1, h2, trivial⟩ get_impl_isPart (by decide)

theorem impl_isPart_p4 (a0l : Tr) (a0r : Tr) (a1l : Tr) (a1r : Tr)
    (h1 : SC cfg.P i_impl_isPart [.s (.v .tree a0l), .s (.v .tree a1l)] (.s (.v .bool false)) []) :
    SC cfg.P i_impl_isPart [.s (.v .tree (Tr.node a0l a0r)), .s (.v .tree (Tr.node a1l a1r))] (.s (.v .bool false)) [] :=
  SC_of_run cfgOK (its := [.bool false, .bool true, .res (.s (.v .bool false)) [] [] []])
    (ps := [(Tr.node a0l a0r).isLeaf = false,
      (!(Tr.node a1l a1r).isLeaf) = true,
      SC cfg.P i_impl_isPart [.s (.v .tree a0l), .s (.v .tree a1l)] (.s (.v .bool false)) []]) (by kernel_rfl) ⟨rfl, rfl, h1, trivial⟩ get_impl_isPart (by decide)

end Go.AI
