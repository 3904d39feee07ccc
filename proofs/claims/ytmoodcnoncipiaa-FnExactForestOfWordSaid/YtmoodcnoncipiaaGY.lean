/- A part of the road: what it proves stands in its last texts. -/
import Derived.Test.YtmoodcnoncipiaaSIds
import Derived.Test.YtmoodcnoncipiaaProg
set_option autoImplicit false
set_option maxRecDepth 100000
set_option linter.unusedVariables false
namespace Go.AI
open Go.Proofs

/-! ### laws_FnExactForestOfWord -/


theorem laws_FnExactForestOfWord_p1 (a0 : (List Int))
    (h1 : ((List.length a0 : Nat) : Int) > (1048576 : Int)) :
    SC cfg.P i_laws_FnExactForestOfWord [.s (.v (.sl (.int .i64)) a0)] (.s (.v .bool true)) [] :=
  SC_of_run cfgOK (its := [.bool true])
    (ps := [decide (((List.length a0 : Nat) : Int) > (1048576 : Int)) = true]) (by kernel_rfl) ⟨(decide_eq_true h1), trivial⟩ get_laws_FnExactForestOfWord (by decide)

theorem laws_FnExactForestOfWord_p2 (a0 : (List Int)) (c1 : (List Int)) (c2a : (List ByteArray)) (c2b : Bool) (c3 : (List Int)) (c4a : (List ByteArray)) (c4b : Bool) (c6 : (List Int)) (c8 : Int) (c8o0 : (List Int)) (c10 : Int) (c10o0 : (List ByteArray)) (c11 : Int) (c12 : (List Int)) (c13a : (List ByteArray)) (c13b : Bool) (c15 : Int)
    (h1 : ¬ (((List.length a0 : Nat) : Int) > (1048576 : Int)))
    (h2 : SC cfg.P i_laws_toIntS [.s (.v (.sl (.int .i64)) a0)] (.s (.own t_int (.int .i64) c1)) [])
    (h3 : SC cfg.P i_spec_ForestOfWord [.s (.v (.sl (.int .i64)) c1)] (.tup [.own t_string .str c2a, .v .bool c2b]) [])
    (h4 : SC cfg.P i_laws_toIntS [.s (.v (.sl (.int .i64)) a0)] (.s (.own t_int (.int .i64) c3)) [])
    (h5 : SC cfg.P i_impl_ForestOfWord [.s (.v (.sl (.int .i64)) c3)] (.tup [.own t_string .str c4a, .v .bool c4b]) [])
    (h6 : SC cfg.P i_laws_eqStringS [.s (.v (.sl .str) c4a), .s (.v (.sl .str) c2a)] (.s (.v .bool true)) [])
    (h7 : (!(c4b == c2b)) = false)
    (h8 : SC cfg.P i_laws_toIntS [.s (.v (.sl (.int .i64)) a0)] (.s (.own t_int (.int .i64) c6)) [])
    (h9 : SC cfg.P i_laws_eqIntS [.s (.v (.sl (.int .i64)) c3), .s (.v (.sl (.int .i64)) c6)] (.s (.v .bool true)) [])
    (h10 : SC cfg.P i_laws_markIntS [.s (.msl t_int (.int .i64) c3), .s (.v (.int .i64) (1 : Int))] (.s (.v (.int .i64) c8)) [.row t_int (.int .i64) c8o0])
    (h11 : ¬ (c8 < (0 : Int)))
    (h12 : SC cfg.P i_laws_markStringS [.s (.msl t_string .str c4a), .s (.v (.int .i64) (1 : Int))] (.s (.v (.int .i64) c10)) [.row t_string .str c10o0])
    (h13 : SC cfg.P i_laws_heldStringS [.s (.v (.sl .str) c10o0), .s (.v (.int .i64) (1 : Int))] (.s (.v (.int .i64) c11)) [])
    (h14 : ¬ (c11 < (0 : Int)))
    (h15 : c11 = c10)
    (h16 : SC cfg.P i_laws_toIntS [.s (.v (.sl (.int .i64)) a0)] (.s (.own t_int (.int .i64) c12)) [])
    (h17 : SC cfg.P i_impl_ForestOfWord [.s (.v (.sl (.int .i64)) c12)] (.tup [.own t_string .str c13a, .v .bool c13b]) [])
    (h18 : SC cfg.P i_laws_eqStringS [.s (.v (.sl .str) c13a), .s (.v (.sl .str) c2a)] (.s (.v .bool true)) [])
    (h19 : (!(c13b == c2b)) = false)
    (h20 : SC cfg.P i_laws_heldStringS [.s (.v (.sl .str) c10o0), .s (.v (.int .i64) (1 : Int))] (.s (.v (.int .i64) c15)) [])
    (h21 : ¬ (c15 < (0 : Int)))
    (h22 : c15 = c10) :
    SC cfg.P i_laws_FnExactForestOfWord [.s (.v (.sl (.int .i64)) a0)] (.s (.v .bool true)) [] :=
  SC_of_run cfgOK (its := [.bool false, .res (.s (.own t_int (.int .i64) c1)) [] [] [18], .res (.tup [.own t_string .str c2a, .v .bool c2b]) [] [] [19], .res (.s (.own t_int (.int .i64) c3)) [] [] [23], .res (.tup [.own t_string .str c4a, .v .bool c4b]) [] [] [26], .res (.s (.v .bool true)) [] [] [], .bool false, .res (.s (.own t_int (.int .i64) c6)) [] [] [40], .res (.s (.v .bool true)) [] [] [], .res (.s (.v (.int .i64) c8)) [.row t_int (.int .i64) c8o0] [0] [], .bool false, .res (.s (.v .bool true)) [] [] [], .bool false, .res (.s (.v (.int .i64) c10)) [.row t_string .str c10o0] [0] [], .res (.s (.v (.int .i64) c11)) [] [] [], .bool false, .bool false, .res (.s (.own t_int (.int .i64) c12)) [] [] [72], .res (.tup [.own t_string .str c13a, .v .bool c13b]) [] [] [73], .res (.s (.v .bool true)) [] [] [], .bool false, .res (.s (.v (.int .i64) c15)) [] [] [], .bool false, .bool false])
    (ps := [decide (((List.length a0 : Nat) : Int) > (1048576 : Int)) = false,
      SC cfg.P i_laws_toIntS [.s (.v (.sl (.int .i64)) a0)] (.s (.own t_int (.int .i64) c1)) [],
      SC cfg.P i_spec_ForestOfWord [.s (.v (.sl (.int .i64)) c1)] (.tup [.own t_string .str c2a, .v .bool c2b]) [],
      SC cfg.P i_laws_toIntS [.s (.v (.sl (.int .i64)) a0)] (.s (.own t_int (.int .i64) c3)) [],
      SC cfg.P i_impl_ForestOfWord [.s (.v (.sl (.int .i64)) c3)] (.tup [.own t_string .str c4a, .v .bool c4b]) [],
      SC cfg.P i_laws_eqStringS [.s (.v (.sl .str) c4a), .s (.v (.sl .str) c2a)] (.s (.v .bool true)) [],
      (!(c4b == c2b)) = false,
      SC cfg.P i_laws_toIntS [.s (.v (.sl (.int .i64)) a0)] (.s (.own t_int (.int .i64) c6)) [],
      SC cfg.P i_laws_eqIntS [.s (.v (.sl (.int .i64)) c3), .s (.v (.sl (.int .i64)) c6)] (.s (.v .bool true)) [],
      SC cfg.P i_laws_markIntS [.s (.msl t_int (.int .i64) c3), .s (.v (.int .i64) (1 : Int))] (.s (.v (.int .i64) c8)) [.row t_int (.int .i64) c8o0],
      decide (c8 < (0 : Int)) = false,
      SC cfg.P i_laws_eqStringS [.s (.v (.sl .str) c4a), .s (.v (.sl .str) c2a)] (.s (.v .bool true)) [],
      (!(c4b == c2b)) = false,
      SC cfg.P i_laws_markStringS [.s (.msl t_string .str c4a), .s (.v (.int .i64) (1 : Int))] (.s (.v (.int .i64) c10)) [.row t_string .str c10o0],
      SC cfg.P i_laws_heldStringS [.s (.v (.sl .str) c10o0), .s (.v (.int .i64) (1 : Int))] (.s (.v (.int .i64) c11)) [],
      decide (c11 < (0 : Int)) = false,
      (c11 != c10) = false,
      SC cfg.P i_laws_toIntS [.s (.v (.sl (.int .i64)) a0)] (.s (.own t_int (.int .i64) c12)) [],
      SC cfg.P i_impl_ForestOfWord [.s (.v (.sl (.int .i64)) c12)] (.tup [.own t_string .str c13a, .v .bool c13b]) [],
      SC cfg.P i_laws_eqStringS [.s (.v (.sl .str) c13a), .s (.v (.sl .str) c2a)] (.s (.v .bool true)) [],
      (!(c13b == c2b)) = false,
      SC cfg.P i_laws_heldStringS [.s (.v (.sl .str) c10o0), .s (.v (.int .i64) (1 : Int))] (.s (.v (.int .i64) c15)) [],
      decide (c15 < (0 : Int)) = false,
      (c15 != c10) = false]) (by kernel_rfl) ⟨(decide_eq_false h1), h2, h3, h4, h5, h6, h7, h8, h9, h10, (decide_eq_false h11), h6, h7, h12, h13, (decide_eq_false h14), (bne_f h15), h16, h17, h18, h19, h20, (decide_eq_false h21), (bne_f h22), trivial⟩ get_laws_FnExactForestOfWord (by decide)

/-! ### spec_ForestOfWord -/


def spec_ForestOfWord_L0a (x15 : (List Int)) (x16 : Int) (x17 : Int) (xo4 : (List ByteArray)) : St := mkSt 30 [(4, .s (.osl 4 0)), (15, .s (.v (.sl (.int .i64)) x15)), (16, .s (.v (.int .i64) x16)), (17, .s (.v (.int .i64) x17))] [(4, .row t_string .str xo4 0 false)]

def spec_ForestOfWord_L0b (x15 : (List Int)) (x16 : Int) (x17 : Int) (xo24 : (List ByteArray)) : St := mkSt 30 [(4, .s (.osl 24 0)), (15, .s (.v (.sl (.int .i64)) x15)), (16, .s (.v (.int .i64) x16)), (17, .s (.v (.int .i64) x17))] [(24, .row t_string .str xo24 0 false)]

def spec_ForestOfWord_L0X1 (y15 : (List Int)) (y16 : Int) (y17 : Int) (y18 : Bool) (yo4 : (List ByteArray)) : St := mkSt 30 [(4, .s (.osl 4 0)), (15, .s (.v (.sl (.int .i64)) y15)), (16, .s (.v (.int .i64) y16)), (17, .s (.v (.int .i64) y17)), (18, .s (.v .bool y18))] [(4, .row t_string .str yo4 0 false)]

def spec_ForestOfWord_L0d (x15 : (List Int)) (x16 : Int) (x17 : Int) (xo29 : (List ByteArray)) : St := mkSt 30 [(4, .s (.osl 29 0)), (15, .s (.v (.sl (.int .i64)) x15)), (16, .s (.v (.int .i64) x16)), (17, .s (.v (.int .i64) x17))] [(29, .row t_string .str xo29 0 false)]

def spec_ForestOfWord_L0X2 (y15 : (List Int)) (y16 : Int) (y17 : Int) (y18 : Bool) (yo24 : (List ByteArray)) : St := mkSt 30 [(4, .s (.osl 24 0)), (15, .s (.v (.sl (.int .i64)) y15)), (16, .s (.v (.int .i64) y16)), (17, .s (.v (.int .i64) y17)), (18, .s (.v .bool y18))] [(24, .row t_string .str yo24 0 false)]

def spec_ForestOfWord_L0X3 (y15 : (List Int)) (y16 : Int) (y17 : Int) (y18 : Bool) (yo29 : (List ByteArray)) : St := mkSt 30 [(4, .s (.osl 29 0)), (15, .s (.v (.sl (.int .i64)) y15)), (16, .s (.v (.int .i64) y16)), (17, .s (.v (.int .i64) y17)), (18, .s (.v .bool y18))] [(29, .row t_string .str yo29 0 false)]

theorem spec_ForestOfWord_L0a_i1 (x15 : (List Int)) (x16 : Int) (x17 : Int) (xo4 : (List ByteArray)) (dc1 : (List ByteArray)) (dc2 : (List ByteArray))
    (h1 : x17 < x16)
    (h2 : 0 ≤ x17)
    (h3 : x17 < (List.length x15 : Int))
    (h4 : SC cfg.P i_spec_foLetter [.s (.v (.int .i64) (List.getD x15 (x17).toNat (0 : Int)))] (.s (.own t_string .str dc1)) [])
    (h5 : SC cfg.P i_spec_foStack [.s (.v (.sl .str) xo4), .s (.v (.sl .str) dc1)] (.s (.own t_string .str dc2)) [])
    {e : AEx} {st : St} (next : LoopSC cfg.P 1 (lb P_spec_ForestOfWord 0) (spec_ForestOfWord_L0b x15 x16 (IntKind.wrap .i64 (x17 + (1 : Int))) dc2) e st) :
    LoopSC cfg.P 1 (lb P_spec_ForestOfWord 0) (spec_ForestOfWord_L0a x15 x16 x17 xo4) e st :=
  loop_iter cfgOK (f := i_spec_ForestOfWord) (its := [.bool true, .res (.s (.own t_string .str dc1)) [] [] [23], .res (.s (.own t_string .str dc2)) [] [] [24]])
    (ps := [decide (x17 < x16) = true,
      0 ≤ x17,
      x17 < (List.length x15 : Int),
      SC cfg.P i_spec_foLetter [.s (.v (.int .i64) (List.getD x15 (x17).toNat (0 : Int)))] (.s (.own t_string .str dc1)) [],
      SC cfg.P i_spec_foStack [.s (.v (.sl .str) xo4), .s (.v (.sl .str) dc1)] (.s (.own t_string .str dc2)) []]) (st1 := spec_ForestOfWord_L0b x15 x16 (IntKind.wrap .i64 (x17 + (1 : Int))) dc2) (by kernel_rfl) ⟨(decide_eq_true h1), h2, h3, h4, h5, trivial⟩ next

theorem spec_ForestOfWord_L0a_x2 (x15 : (List Int)) (x16 : Int) (x17 : Int) (xo4 : (List ByteArray))
    (h1 : ¬ (x17 < x16)) :
    LoopSC cfg.P 1 (lb P_spec_ForestOfWord 0) (spec_ForestOfWord_L0a x15 x16 x17 xo4) (.exit 0) (spec_ForestOfWord_L0X1 x15 x16 x17 false xo4) :=
  loop_out cfgOK (f := i_spec_ForestOfWord) (its := [.bool false])
    (ps := [decide (x17 < x16) = false]) (by kernel_rfl) ⟨(decide_eq_false h1), trivial⟩ (fun h => by cases h)

theorem spec_ForestOfWord_L0b_i1 (x15 : (List Int)) (x16 : Int) (x17 : Int) (xo24 : (List ByteArray)) (dc1 : (List ByteArray)) (dc2 : (List ByteArray))
    (h1 : x17 < x16)
    (h2 : 0 ≤ x17)
    (h3 : x17 < (List.length x15 : Int))
    (h4 : SC cfg.P i_spec_foLetter [.s (.v (.int .i64) (List.getD x15 (x17).toNat (0 : Int)))] (.s (.own t_string .str dc1)) [])
    (h5 : SC cfg.P i_spec_foStack [.s (.v (.sl .str) xo24), .s (.v (.sl .str) dc1)] (.s (.own t_string .str dc2)) [])
    {e : AEx} {st : St} (next : LoopSC cfg.P 1 (lb P_spec_ForestOfWord 0) (spec_ForestOfWord_L0d x15 x16 (IntKind.wrap .i64 (x17 + (1 : Int))) dc2) e st) :
    LoopSC cfg.P 1 (lb P_spec_ForestOfWord 0) (spec_ForestOfWord_L0b x15 x16 x17 xo24) e st :=
  loop_iter cfgOK (f := i_spec_ForestOfWord) (its := [.bool true, .res (.s (.own t_string .str dc1)) [] [] [23], .res (.s (.own t_string .str dc2)) [] [] [29]])
    (ps := [decide (x17 < x16) = true,
      0 ≤ x17,
      x17 < (List.length x15 : Int),
      SC cfg.P i_spec_foLetter [.s (.v (.int .i64) (List.getD x15 (x17).toNat (0 : Int)))] (.s (.own t_string .str dc1)) [],
      SC cfg.P i_spec_foStack [.s (.v (.sl .str) xo24), .s (.v (.sl .str) dc1)] (.s (.own t_string .str dc2)) []]) (st1 := spec_ForestOfWord_L0d x15 x16 (IntKind.wrap .i64 (x17 + (1 : Int))) dc2) (by kernel_rfl) ⟨(decide_eq_true h1), h2, h3, h4, h5, trivial⟩ next

theorem spec_ForestOfWord_L0b_x2 (x15 : (List Int)) (x16 : Int) (x17 : Int) (xo24 : (List ByteArray))
    (h1 : ¬ (x17 < x16)) :
    LoopSC cfg.P 1 (lb P_spec_ForestOfWord 0) (spec_ForestOfWord_L0b x15 x16 x17 xo24) (.exit 0) (spec_ForestOfWord_L0X2 x15 x16 x17 false xo24) :=
  loop_out cfgOK (f := i_spec_ForestOfWord) (its := [.bool false])
    (ps := [decide (x17 < x16) = false]) (by kernel_rfl) ⟨(decide_eq_false h1), trivial⟩ (fun h => by cases h)

theorem spec_ForestOfWord_L0d_i1 (x15 : (List Int)) (x16 : Int) (x17 : Int) (xo29 : (List ByteArray)) (dc1 : (List ByteArray)) (dc2 : (List ByteArray))
    (h1 : x17 < x16)
    (h2 : 0 ≤ x17)
    (h3 : x17 < (List.length x15 : Int))
    (h4 : SC cfg.P i_spec_foLetter [.s (.v (.int .i64) (List.getD x15 (x17).toNat (0 : Int)))] (.s (.own t_string .str dc1)) [])
    (h5 : SC cfg.P i_spec_foStack [.s (.v (.sl .str) xo29), .s (.v (.sl .str) dc1)] (.s (.own t_string .str dc2)) [])
    {e : AEx} {st : St} (next : LoopSC cfg.P 1 (lb P_spec_ForestOfWord 0) (spec_ForestOfWord_L0b x15 x16 (IntKind.wrap .i64 (x17 + (1 : Int))) dc2) e st) :
    LoopSC cfg.P 1 (lb P_spec_ForestOfWord 0) (spec_ForestOfWord_L0d x15 x16 x17 xo29) e st :=
  loop_iter cfgOK (f := i_spec_ForestOfWord) (its := [.bool true, .res (.s (.own t_string .str dc1)) [] [] [23], .res (.s (.own t_string .str dc2)) [] [] [24]])
    (ps := [decide (x17 < x16) = true,
      0 ≤ x17,
      x17 < (List.length x15 : Int),
      SC cfg.P i_spec_foLetter [.s (.v (.int .i64) (List.getD x15 (x17).toNat (0 : Int)))] (.s (.own t_string .str dc1)) [],
      SC cfg.P i_spec_foStack [.s (.v (.sl .str) xo29), .s (.v (.sl .str) dc1)] (.s (.own t_string .str dc2)) []]) (st1 := spec_ForestOfWord_L0b x15 x16 (IntKind.wrap .i64 (x17 + (1 : Int))) dc2) (by kernel_rfl) ⟨(decide_eq_true h1), h2, h3, h4, h5, trivial⟩ next

theorem spec_ForestOfWord_L0d_x2 (x15 : (List Int)) (x16 : Int) (x17 : Int) (xo29 : (List ByteArray))
    (h1 : ¬ (x17 < x16)) :
    LoopSC cfg.P 1 (lb P_spec_ForestOfWord 0) (spec_ForestOfWord_L0d x15 x16 x17 xo29) (.exit 0) (spec_ForestOfWord_L0X3 x15 x16 x17 false xo29) :=
  loop_out cfgOK (f := i_spec_ForestOfWord) (its := [.bool false])
    (ps := [decide (x17 < x16) = false]) (by kernel_rfl) ⟨(decide_eq_false h1), trivial⟩ (fun h => by cases h)

theorem spec_ForestOfWord_p1 (a0 : (List Int)) (k1y15 : (List Int)) (k1y16 : Int) (k1y17 : Int) (k1y18 : Bool) (k1yo4 : (List ByteArray)) (c3a : (List ByteArray)) (c3b : Bool)
    (h1 : SC cfg.P i_spec_wdGood [.s (.v (.sl (.int .i64)) a0)] (.s (.v .bool true)) [])
    (h2 : SC cfg.P i_spec_l1All [.s (.v (.sl (.int .i64)) a0), .s (.v (.int .i64) (1 : Int)), .s (.v (.int .i64) (21 : Int))] (.s (.v .bool true)) [])
    (h3 : LoopSC cfg.P 1 (lb P_spec_ForestOfWord 0) (spec_ForestOfWord_L0a a0 ((List.length a0 : Nat) : Int) (0 : Int) ([] : List ByteArray)) (.exit 0) (spec_ForestOfWord_L0X1 k1y15 k1y16 k1y17 k1y18 k1yo4))
    (h4 : SC cfg.P i_spec_foIf [.s (.v (.sl .str) k1yo4)] (.tup [.own t_string .str c3a, .v .bool c3b]) []) :
    SC cfg.P i_spec_ForestOfWord [.s (.v (.sl (.int .i64)) a0)] (.tup [.own t_string .str c3a, .v .bool c3b]) [] :=
  SC_of_run cfgOK (its := [.res (.s (.v .bool true)) [] [] [], .res (.s (.v .bool true)) [] [] [], .loop (fun _ => (.exit 0, spec_ForestOfWord_L0X1 k1y15 k1y16 k1y17 k1y18 k1yo4)), .res (.tup [.own t_string .str c3a, .v .bool c3b]) [] [] [28]])
    (ps := [SC cfg.P i_spec_wdGood [.s (.v (.sl (.int .i64)) a0)] (.s (.v .bool true)) [],
      SC cfg.P i_spec_l1All [.s (.v (.sl (.int .i64)) a0), .s (.v (.int .i64) (1 : Int)), .s (.v (.int .i64) (21 : Int))] (.s (.v .bool true)) [],
      LoopSC cfg.P 1 (lb P_spec_ForestOfWord 0) (spec_ForestOfWord_L0a a0 ((List.length a0 : Nat) : Int) (0 : Int) ([] : List ByteArray)) (.exit 0) (spec_ForestOfWord_L0X1 k1y15 k1y16 k1y17 k1y18 k1yo4),
      SC cfg.P i_spec_foIf [.s (.v (.sl .str) k1yo4)] (.tup [.own t_string .str c3a, .v .bool c3b]) []]) (by kernel_rfl) ⟨h1, h2, h3, h4, trivial⟩ get_spec_ForestOfWord (by decide)

theorem spec_ForestOfWord_p2 (a0 : (List Int)) (k1y15 : (List Int)) (k1y16 : Int) (k1y17 : Int) (k1y18 : Bool) (k1yo24 : (List ByteArray)) (c3a : (List ByteArray)) (c3b : Bool)
    (h1 : SC cfg.P i_spec_wdGood [.s (.v (.sl (.int .i64)) a0)] (.s (.v .bool true)) [])
    (h2 : SC cfg.P i_spec_l1All [.s (.v (.sl (.int .i64)) a0), .s (.v (.int .i64) (1 : Int)), .s (.v (.int .i64) (21 : Int))] (.s (.v .bool true)) [])
    (h3 : LoopSC cfg.P 1 (lb P_spec_ForestOfWord 0) (spec_ForestOfWord_L0a a0 ((List.length a0 : Nat) : Int) (0 : Int) ([] : List ByteArray)) (.exit 0) (spec_ForestOfWord_L0X2 k1y15 k1y16 k1y17 k1y18 k1yo24))
    (h4 : SC cfg.P i_spec_foIf [.s (.v (.sl .str) k1yo24)] (.tup [.own t_string .str c3a, .v .bool c3b]) []) :
    SC cfg.P i_spec_ForestOfWord [.s (.v (.sl (.int .i64)) a0)] (.tup [.own t_string .str c3a, .v .bool c3b]) [] :=
  SC_of_run cfgOK (its := [.res (.s (.v .bool true)) [] [] [], .res (.s (.v .bool true)) [] [] [], .loop (fun _ => (.exit 0, spec_ForestOfWord_L0X2 k1y15 k1y16 k1y17 k1y18 k1yo24)), .res (.tup [.own t_string .str c3a, .v .bool c3b]) [] [] [28]])
    (ps := [SC cfg.P i_spec_wdGood [.s (.v (.sl (.int .i64)) a0)] (.s (.v .bool true)) [],
      SC cfg.P i_spec_l1All [.s (.v (.sl (.int .i64)) a0), .s (.v (.int .i64) (1 : Int)), .s (.v (.int .i64) (21 : Int))] (.s (.v .bool true)) [],
      LoopSC cfg.P 1 (lb P_spec_ForestOfWord 0) (spec_ForestOfWord_L0a a0 ((List.length a0 : Nat) : Int) (0 : Int) ([] : List ByteArray)) (.exit 0) (spec_ForestOfWord_L0X2 k1y15 k1y16 k1y17 k1y18 k1yo24),
      SC cfg.P i_spec_foIf [.s (.v (.sl .str) k1yo24)] (.tup [.own t_string .str c3a, .v .bool c3b]) []]) (by kernel_rfl) ⟨h1, h2, h3, h4, trivial⟩ get_spec_ForestOfWord (by decide)

theorem spec_ForestOfWord_p3 (a0 : (List Int)) (k1y15 : (List Int)) (k1y16 : Int) (k1y17 : Int) (k1y18 : Bool) (k1yo29 : (List ByteArray)) (c3a : (List ByteArray)) (c3b : Bool)
    (h1 : SC cfg.P i_spec_wdGood [.s (.v (.sl (.int .i64)) a0)] (.s (.v .bool true)) [])
    (h2 : SC cfg.P i_spec_l1All [.s (.v (.sl (.int .i64)) a0), .s (.v (.int .i64) (1 : Int)), .s (.v (.int .i64) (21 : Int))] (.s (.v .bool true)) [])
    (h3 : LoopSC cfg.P 1 (lb P_spec_ForestOfWord 0) (spec_ForestOfWord_L0a a0 ((List.length a0 : Nat) : Int) (0 : Int) ([] : List ByteArray)) (.exit 0) (spec_ForestOfWord_L0X3 k1y15 k1y16 k1y17 k1y18 k1yo29))
    (h4 : SC cfg.P i_spec_foIf [.s (.v (.sl .str) k1yo29)] (.tup [.own t_string .str c3a, .v .bool c3b]) []) :
    SC cfg.P i_spec_ForestOfWord [.s (.v (.sl (.int .i64)) a0)] (.tup [.own t_string .str c3a, .v .bool c3b]) [] :=
  SC_of_run cfgOK (its := [.res (.s (.v .bool true)) [] [] [], .res (.s (.v .bool true)) [] [] [], .loop (fun _ => (.exit 0, spec_ForestOfWord_L0X3 k1y15 k1y16 k1y17 k1y18 k1yo29)), .res (.tup [.own t_string .str c3a, .v .bool c3b]) [] [] [28]])
    (ps := [SC cfg.P i_spec_wdGood [.s (.v (.sl (.int .i64)) a0)] (.s (.v .bool true)) [],
      SC cfg.P i_spec_l1All [.s (.v (.sl (.int .i64)) a0), .s (.v (.int .i64) (1 : Int)), .s (.v (.int .i64) (21 : Int))] (.s (.v .bool true)) [],
      LoopSC cfg.P 1 (lb P_spec_ForestOfWord 0) (spec_ForestOfWord_L0a a0 ((List.length a0 : Nat) : Int) (0 : Int) ([] : List ByteArray)) (.exit 0) (spec_ForestOfWord_L0X3 k1y15 k1y16 k1y17 k1y18 k1yo29),
      SC cfg.P i_spec_foIf [.s (.v (.sl .str) k1yo29)] (.tup [.own t_string .str c3a, .v .bool c3b]) []]) (by kernel_rfl) ⟨h1, h2, h3, h4, trivial⟩ get_spec_ForestOfWord (by decide)

theorem spec_ForestOfWord_p4 (a0 : (List Int))
    (h1 : SC cfg.P i_spec_wdGood [.s (.v (.sl (.int .i64)) a0)] (.s (.v .bool true)) [])
    (h2 : SC cfg.P i_spec_l1All [.s (.v (.sl (.int .i64)) a0), .s (.v (.int .i64) (1 : Int)), .s (.v (.int .i64) (21 : Int))] (.s (.v .bool false)) []) :
    SC cfg.P i_spec_ForestOfWord [.s (.v (.sl (.int .i64)) a0)] (.tup [.own t_string .str ([] : List ByteArray), .v .bool false]) [] :=
  SC_of_run cfgOK (its := [.res (.s (.v .bool true)) [] [] [], .res (.s (.v .bool false)) [] [] []])
    (ps := [SC cfg.P i_spec_wdGood [.s (.v (.sl (.int .i64)) a0)] (.s (.v .bool true)) [],
      SC cfg.P i_spec_l1All [.s (.v (.sl (.int .i64)) a0), .s (.v (.int .i64) (1 : Int)), .s (.v (.int .i64) (21 : Int))] (.s (.v .bool false)) []]) (by kernel_rfl) ⟨h1, h2, trivial⟩ get_spec_ForestOfWord (by decide)

theorem spec_ForestOfWord_p5 (a0 : (List Int))
    (h1 : SC cfg.P i_spec_wdGood [.s (.v (.sl (.int .i64)) a0)] (.s (.v .bool false)) []) :
    SC cfg.P i_spec_ForestOfWord [.s (.v (.sl (.int .i64)) a0)] (.tup [.own t_string .str ([] : List ByteArray), .v .bool false]) [] :=
  SC_of_run cfgOK (its := [.res (.s (.v .bool false)) [] [] []])
    (ps := [SC cfg.P i_spec_wdGood [.s (.v (.sl (.int .i64)) a0)] (.s (.v .bool false)) []]) (by kernel_rfl) ⟨h1, trivial⟩ get_spec_ForestOfWord (by decide)

/-! ### impl_ForestOfWord -/


def impl_ForestOfWord_L0a (x10 : (List Int)) (x11 : Int) (x12 : Int) (xo4 : (List Tr)) : St := mkSt 27 [(4, .s (.osl 4 0)), (10, .s (.v (.sl (.int .i64)) x10)), (11, .s (.v (.int .i64) x11)), (12, .s (.v (.int .i64) x12))] [(4, .row t_pimpl_node .tree xo4 0 false)]

def impl_ForestOfWord_L0X1 (y3 : Bool) (yo2 : (List ByteArray)) : St := mkSt 27 [(2, .s (.osl 2 0)), (3, .s (.v .bool y3))] [(2, .row t_string .str yo2 0 false)]

def impl_ForestOfWord_L0c (x10 : (List Int)) (x11 : Int) (x12 : Int) (xo21 : (List Tr)) : St := mkSt 27 [(4, .s (.osl 21 0)), (10, .s (.v (.sl (.int .i64)) x10)), (11, .s (.v (.int .i64) x11)), (12, .s (.v (.int .i64) x12))] [(21, .row t_pimpl_node .tree xo21 0 false)]

def impl_ForestOfWord_L0X2 (y10 : (List Int)) (y11 : Int) (y12 : Int) (y13 : Bool) (yo4 : (List Tr)) : St := mkSt 27 [(4, .s (.osl 4 0)), (10, .s (.v (.sl (.int .i64)) y10)), (11, .s (.v (.int .i64) y11)), (12, .s (.v (.int .i64) y12)), (13, .s (.v .bool y13))] [(4, .row t_pimpl_node .tree yo4 0 false)]

def impl_ForestOfWord_L0e (x10 : (List Int)) (x11 : Int) (x12 : Int) (xo26 : (List Tr)) : St := mkSt 27 [(4, .s (.osl 26 0)), (10, .s (.v (.sl (.int .i64)) x10)), (11, .s (.v (.int .i64) x11)), (12, .s (.v (.int .i64) x12))] [(26, .row t_pimpl_node .tree xo26 0 false)]

def impl_ForestOfWord_L0X3 (y10 : (List Int)) (y11 : Int) (y12 : Int) (y13 : Bool) (yo21 : (List Tr)) : St := mkSt 27 [(4, .s (.osl 21 0)), (10, .s (.v (.sl (.int .i64)) y10)), (11, .s (.v (.int .i64) y11)), (12, .s (.v (.int .i64) y12)), (13, .s (.v .bool y13))] [(21, .row t_pimpl_node .tree yo21 0 false)]

def impl_ForestOfWord_L0X4 (y10 : (List Int)) (y11 : Int) (y12 : Int) (y13 : Bool) (yo26 : (List Tr)) : St := mkSt 27 [(4, .s (.osl 26 0)), (10, .s (.v (.sl (.int .i64)) y10)), (11, .s (.v (.int .i64) y11)), (12, .s (.v (.int .i64) y12)), (13, .s (.v .bool y13))] [(26, .row t_pimpl_node .tree yo26 0 false)]

theorem impl_ForestOfWord_L0a_x1 (x10 : (List Int)) (x11 : Int) (x12 : Int) (xo4 : (List Tr))
    (h1 : x12 < x11)
    (h2 : 0 ≤ x12)
    (h3 : x12 < (List.length x10 : Int))
    (h4 : (List.getD x10 (x12).toNat (0 : Int)) < (0 : Int)) :
    LoopSC cfg.P 1 (lb P_impl_ForestOfWord 0) (impl_ForestOfWord_L0a x10 x11 x12 xo4) (.ret) (impl_ForestOfWord_L0X1 false ([] : List ByteArray)) :=
  loop_out cfgOK (f := i_impl_ForestOfWord) (its := [.bool true, .bool true])
    (ps := [decide (x12 < x11) = true,
      0 ≤ x12,
      x12 < (List.length x10 : Int),
      decide ((List.getD x10 (x12).toNat (0 : Int)) < (0 : Int)) = true]) (by kernel_rfl) ⟨(decide_eq_true h1), h2, h3, (decide_eq_true h4), trivial⟩ (fun h => by cases h)

theorem impl_ForestOfWord_L0a_i2 (x10 : (List Int)) (x11 : Int) (x12 : Int) (xo4 : (List Tr)) (dc1 : (List Tr))
    (h1 : x12 < x11)
    (h2 : 0 ≤ x12)
    (h3 : x12 < (List.length x10 : Int))
    (h4 : ¬ ((List.getD x10 (x12).toNat (0 : Int)) < (0 : Int)))
    (h5 : SC cfg.P i_impl_forest_split [.s (.v (.sl .tree) xo4), .s (.v (.int .i64) (IntKind.wrap .i64 ((List.getD x10 (x12).toNat (0 : Int)) - (1 : Int))))] (.s (.own t_pimpl_node .tree dc1)) [])
    {e : AEx} {st : St} (next : LoopSC cfg.P 1 (lb P_impl_ForestOfWord 0) (impl_ForestOfWord_L0c x10 x11 (IntKind.wrap .i64 (x12 + (1 : Int))) dc1) e st) :
    LoopSC cfg.P 1 (lb P_impl_ForestOfWord 0) (impl_ForestOfWord_L0a x10 x11 x12 xo4) e st :=
  loop_iter cfgOK (f := i_impl_ForestOfWord) (its := [.bool true, .bool false, .res (.s (.own t_pimpl_node .tree dc1)) [] [] [21]])
    (ps := [decide (x12 < x11) = true,
      0 ≤ x12,
      x12 < (List.length x10 : Int),
      decide ((List.getD x10 (x12).toNat (0 : Int)) < (0 : Int)) = false,
      SC cfg.P i_impl_forest_split [.s (.v (.sl .tree) xo4), .s (.v (.int .i64) (IntKind.wrap .i64 ((List.getD x10 (x12).toNat (0 : Int)) - (1 : Int))))] (.s (.own t_pimpl_node .tree dc1)) []]) (st1 := impl_ForestOfWord_L0c x10 x11 (IntKind.wrap .i64 (x12 + (1 : Int))) dc1) (by kernel_rfl) ⟨(decide_eq_true h1), h2, h3, (decide_eq_false h4), h5, trivial⟩ next

theorem impl_ForestOfWord_L0a_x3 (x10 : (List Int)) (x11 : Int) (x12 : Int) (xo4 : (List Tr))
    (h1 : ¬ (x12 < x11)) :
    LoopSC cfg.P 1 (lb P_impl_ForestOfWord 0) (impl_ForestOfWord_L0a x10 x11 x12 xo4) (.exit 0) (impl_ForestOfWord_L0X2 x10 x11 x12 false xo4) :=
  loop_out cfgOK (f := i_impl_ForestOfWord) (its := [.bool false])
    (ps := [decide (x12 < x11) = false]) (by kernel_rfl) ⟨(decide_eq_false h1), trivial⟩ (fun h => by cases h)

theorem impl_ForestOfWord_L0c_x1 (x10 : (List Int)) (x11 : Int) (x12 : Int) (xo21 : (List Tr))
    (h1 : x12 < x11)
    (h2 : 0 ≤ x12)
    (h3 : x12 < (List.length x10 : Int))
    (h4 : (List.getD x10 (x12).toNat (0 : Int)) < (0 : Int)) :
    LoopSC cfg.P 1 (lb P_impl_ForestOfWord 0) (impl_ForestOfWord_L0c x10 x11 x12 xo21) (.ret) (impl_ForestOfWord_L0X1 false ([] : List ByteArray)) :=
  loop_out cfgOK (f := i_impl_ForestOfWord) (its := [.bool true, .bool true])
    (ps := [decide (x12 < x11) = true,
      0 ≤ x12,
      x12 < (List.length x10 : Int),
      decide ((List.getD x10 (x12).toNat (0 : Int)) < (0 : Int)) = true]) (by kernel_rfl) ⟨(decide_eq_true h1), h2, h3, (decide_eq_true h4), trivial⟩ (fun h => by cases h)

theorem impl_ForestOfWord_L0c_i2 (x10 : (List Int)) (x11 : Int) (x12 : Int) (xo21 : (List Tr)) (dc1 : (List Tr))
    (h1 : x12 < x11)
    (h2 : 0 ≤ x12)
    (h3 : x12 < (List.length x10 : Int))
    (h4 : ¬ ((List.getD x10 (x12).toNat (0 : Int)) < (0 : Int)))
    (h5 : SC cfg.P i_impl_forest_split [.s (.v (.sl .tree) xo21), .s (.v (.int .i64) (IntKind.wrap .i64 ((List.getD x10 (x12).toNat (0 : Int)) - (1 : Int))))] (.s (.own t_pimpl_node .tree dc1)) [])
    {e : AEx} {st : St} (next : LoopSC cfg.P 1 (lb P_impl_ForestOfWord 0) (impl_ForestOfWord_L0e x10 x11 (IntKind.wrap .i64 (x12 + (1 : Int))) dc1) e st) :
    LoopSC cfg.P 1 (lb P_impl_ForestOfWord 0) (impl_ForestOfWord_L0c x10 x11 x12 xo21) e st :=
  loop_iter cfgOK (f := i_impl_ForestOfWord) (its := [.bool true, .bool false, .res (.s (.own t_pimpl_node .tree dc1)) [] [] [26]])
    (ps := [decide (x12 < x11) = true,
      0 ≤ x12,
      x12 < (List.length x10 : Int),
      decide ((List.getD x10 (x12).toNat (0 : Int)) < (0 : Int)) = false,
      SC cfg.P i_impl_forest_split [.s (.v (.sl .tree) xo21), .s (.v (.int .i64) (IntKind.wrap .i64 ((List.getD x10 (x12).toNat (0 : Int)) - (1 : Int))))] (.s (.own t_pimpl_node .tree dc1)) []]) (st1 := impl_ForestOfWord_L0e x10 x11 (IntKind.wrap .i64 (x12 + (1 : Int))) dc1) (by kernel_rfl) ⟨(decide_eq_true h1), h2, h3, (decide_eq_false h4), h5, trivial⟩ next

theorem impl_ForestOfWord_L0c_x3 (x10 : (List Int)) (x11 : Int) (x12 : Int) (xo21 : (List Tr))
    (h1 : ¬ (x12 < x11)) :
    LoopSC cfg.P 1 (lb P_impl_ForestOfWord 0) (impl_ForestOfWord_L0c x10 x11 x12 xo21) (.exit 0) (impl_ForestOfWord_L0X3 x10 x11 x12 false xo21) :=
  loop_out cfgOK (f := i_impl_ForestOfWord) (its := [.bool false])
    (ps := [decide (x12 < x11) = false]) (by kernel_rfl) ⟨(decide_eq_false h1), trivial⟩ (fun h => by cases h)

theorem impl_ForestOfWord_L0e_x1 (x10 : (List Int)) (x11 : Int) (x12 : Int) (xo26 : (List Tr))
    (h1 : x12 < x11)
    (h2 : 0 ≤ x12)
    (h3 : x12 < (List.length x10 : Int))
    (h4 : (List.getD x10 (x12).toNat (0 : Int)) < (0 : Int)) :
    LoopSC cfg.P 1 (lb P_impl_ForestOfWord 0) (impl_ForestOfWord_L0e x10 x11 x12 xo26) (.ret) (impl_ForestOfWord_L0X1 false ([] : List ByteArray)) :=
  loop_out cfgOK (f := i_impl_ForestOfWord) (its := [.bool true, .bool true])
    (ps := [decide (x12 < x11) = true,
      0 ≤ x12,
      x12 < (List.length x10 : Int),
      decide ((List.getD x10 (x12).toNat (0 : Int)) < (0 : Int)) = true]) (by kernel_rfl) ⟨(decide_eq_true h1), h2, h3, (decide_eq_true h4), trivial⟩ (fun h => by cases h)

theorem impl_ForestOfWord_L0e_i2 (x10 : (List Int)) (x11 : Int) (x12 : Int) (xo26 : (List Tr)) (dc1 : (List Tr))
    (h1 : x12 < x11)
    (h2 : 0 ≤ x12)
    (h3 : x12 < (List.length x10 : Int))
    (h4 : ¬ ((List.getD x10 (x12).toNat (0 : Int)) < (0 : Int)))
    (h5 : SC cfg.P i_impl_forest_split [.s (.v (.sl .tree) xo26), .s (.v (.int .i64) (IntKind.wrap .i64 ((List.getD x10 (x12).toNat (0 : Int)) - (1 : Int))))] (.s (.own t_pimpl_node .tree dc1)) [])
    {e : AEx} {st : St} (next : LoopSC cfg.P 1 (lb P_impl_ForestOfWord 0) (impl_ForestOfWord_L0c x10 x11 (IntKind.wrap .i64 (x12 + (1 : Int))) dc1) e st) :
    LoopSC cfg.P 1 (lb P_impl_ForestOfWord 0) (impl_ForestOfWord_L0e x10 x11 x12 xo26) e st :=
  loop_iter cfgOK (f := i_impl_ForestOfWord) (its := [.bool true, .bool false, .res (.s (.own t_pimpl_node .tree dc1)) [] [] [21]])
    (ps := [decide (x12 < x11) = true,
      0 ≤ x12,
      x12 < (List.length x10 : Int),
      decide ((List.getD x10 (x12).toNat (0 : Int)) < (0 : Int)) = false,
      SC cfg.P i_impl_forest_split [.s (.v (.sl .tree) xo26), .s (.v (.int .i64) (IntKind.wrap .i64 ((List.getD x10 (x12).toNat (0 : Int)) - (1 : Int))))] (.s (.own t_pimpl_node .tree dc1)) []]) (st1 := impl_ForestOfWord_L0c x10 x11 (IntKind.wrap .i64 (x12 + (1 : Int))) dc1) (by kernel_rfl) ⟨(decide_eq_true h1), h2, h3, (decide_eq_false h4), h5, trivial⟩ next

theorem impl_ForestOfWord_L0e_x3 (x10 : (List Int)) (x11 : Int) (x12 : Int) (xo26 : (List Tr))
    (h1 : ¬ (x12 < x11)) :
    LoopSC cfg.P 1 (lb P_impl_ForestOfWord 0) (impl_ForestOfWord_L0e x10 x11 x12 xo26) (.exit 0) (impl_ForestOfWord_L0X4 x10 x11 x12 false xo26) :=
  loop_out cfgOK (f := i_impl_ForestOfWord) (its := [.bool false])
    (ps := [decide (x12 < x11) = false]) (by kernel_rfl) ⟨(decide_eq_false h1), trivial⟩ (fun h => by cases h)

theorem impl_ForestOfWord_p1 (a0 : (List Int)) (k1y3 : Bool) (k1yo2 : (List ByteArray))
    (h1 : SC cfg.P i_impl_IsWord [.s (.v (.sl (.int .i64)) a0)] (.s (.v .bool true)) [])
    (h2 : LoopSC cfg.P 1 (lb P_impl_ForestOfWord 0) (impl_ForestOfWord_L0a a0 ((List.length a0 : Nat) : Int) (0 : Int) ([] : List Tr)) (.ret) (impl_ForestOfWord_L0X1 k1y3 k1yo2)) :
    SC cfg.P i_impl_ForestOfWord [.s (.v (.sl (.int .i64)) a0)] (.tup [.own t_string .str k1yo2, .v .bool k1y3]) [] :=
  SC_of_run cfgOK (its := [.res (.s (.v .bool true)) [] [] [], .loop (fun _ => (.ret, impl_ForestOfWord_L0X1 k1y3 k1yo2))])
    (ps := [SC cfg.P i_impl_IsWord [.s (.v (.sl (.int .i64)) a0)] (.s (.v .bool true)) [],
      LoopSC cfg.P 1 (lb P_impl_ForestOfWord 0) (impl_ForestOfWord_L0a a0 ((List.length a0 : Nat) : Int) (0 : Int) ([] : List Tr)) (.ret) (impl_ForestOfWord_L0X1 k1y3 k1yo2)]) (by kernel_rfl) ⟨h1, h2, trivial⟩ get_impl_ForestOfWord (by decide)

theorem impl_ForestOfWord_p2 (a0 : (List Int)) (k1y10 : (List Int)) (k1y11 : Int) (k1y12 : Int) (k1y13 : Bool) (k1yo4 : (List Tr)) (c2a : (List ByteArray)) (c2b : Bool)
    (h1 : SC cfg.P i_impl_IsWord [.s (.v (.sl (.int .i64)) a0)] (.s (.v .bool true)) [])
    (h2 : LoopSC cfg.P 1 (lb P_impl_ForestOfWord 0) (impl_ForestOfWord_L0a a0 ((List.length a0 : Nat) : Int) (0 : Int) ([] : List Tr)) (.exit 0) (impl_ForestOfWord_L0X2 k1y10 k1y11 k1y12 k1y13 k1yo4))
    (h3 : SC cfg.P i_impl_forest_texts [.s (.v (.sl .tree) k1yo4)] (.tup [.own t_string .str c2a, .v .bool c2b]) []) :
    SC cfg.P i_impl_ForestOfWord [.s (.v (.sl (.int .i64)) a0)] (.tup [.own t_string .str c2a, .v .bool c2b]) [] :=
  SC_of_run cfgOK (its := [.res (.s (.v .bool true)) [] [] [], .loop (fun _ => (.exit 0, impl_ForestOfWord_L0X2 k1y10 k1y11 k1y12 k1y13 k1yo4)), .res (.tup [.own t_string .str c2a, .v .bool c2b]) [] [] [25]])
    (ps := [SC cfg.P i_impl_IsWord [.s (.v (.sl (.int .i64)) a0)] (.s (.v .bool true)) [],
      LoopSC cfg.P 1 (lb P_impl_ForestOfWord 0) (impl_ForestOfWord_L0a a0 ((List.length a0 : Nat) : Int) (0 : Int) ([] : List Tr)) (.exit 0) (impl_ForestOfWord_L0X2 k1y10 k1y11 k1y12 k1y13 k1yo4),
      SC cfg.P i_impl_forest_texts [.s (.v (.sl .tree) k1yo4)] (.tup [.own t_string .str c2a, .v .bool c2b]) []]) (by kernel_rfl) ⟨h1, h2, h3, trivial⟩ get_impl_ForestOfWord (by decide)

theorem impl_ForestOfWord_p3 (a0 : (List Int)) (k1y10 : (List Int)) (k1y11 : Int) (k1y12 : Int) (k1y13 : Bool) (k1yo21 : (List Tr)) (c2a : (List ByteArray)) (c2b : Bool)
    (h1 : SC cfg.P i_impl_IsWord [.s (.v (.sl (.int .i64)) a0)] (.s (.v .bool true)) [])
    (h2 : LoopSC cfg.P 1 (lb P_impl_ForestOfWord 0) (impl_ForestOfWord_L0a a0 ((List.length a0 : Nat) : Int) (0 : Int) ([] : List Tr)) (.exit 0) (impl_ForestOfWord_L0X3 k1y10 k1y11 k1y12 k1y13 k1yo21))
    (h3 : SC cfg.P i_impl_forest_texts [.s (.v (.sl .tree) k1yo21)] (.tup [.own t_string .str c2a, .v .bool c2b]) []) :
    SC cfg.P i_impl_ForestOfWord [.s (.v (.sl (.int .i64)) a0)] (.tup [.own t_string .str c2a, .v .bool c2b]) [] :=
  SC_of_run cfgOK (its := [.res (.s (.v .bool true)) [] [] [], .loop (fun _ => (.exit 0, impl_ForestOfWord_L0X3 k1y10 k1y11 k1y12 k1y13 k1yo21)), .res (.tup [.own t_string .str c2a, .v .bool c2b]) [] [] [25]])
    (ps := [SC cfg.P i_impl_IsWord [.s (.v (.sl (.int .i64)) a0)] (.s (.v .bool true)) [],
      LoopSC cfg.P 1 (lb P_impl_ForestOfWord 0) (impl_ForestOfWord_L0a a0 ((List.length a0 : Nat) : Int) (0 : Int) ([] : List Tr)) (.exit 0) (impl_ForestOfWord_L0X3 k1y10 k1y11 k1y12 k1y13 k1yo21),
      SC cfg.P i_impl_forest_texts [.s (.v (.sl .tree) k1yo21)] (.tup [.own t_string .str c2a, .v .bool c2b]) []]) (by kernel_rfl) ⟨h1, h2, h3, trivial⟩ get_impl_ForestOfWord (by decide)

theorem impl_ForestOfWord_p4 (a0 : (List Int)) (k1y10 : (List Int)) (k1y11 : Int) (k1y12 : Int) (k1y13 : Bool) (k1yo26 : (List Tr)) (c2a : (List ByteArray)) (c2b : Bool)
    (h1 : SC cfg.P i_impl_IsWord [.s (.v (.sl (.int .i64)) a0)] (.s (.v .bool true)) [])
    (h2 : LoopSC cfg.P 1 (lb P_impl_ForestOfWord 0) (impl_ForestOfWord_L0a a0 ((List.length a0 : Nat) : Int) (0 : Int) ([] : List Tr)) (.exit 0) (impl_ForestOfWord_L0X4 k1y10 k1y11 k1y12 k1y13 k1yo26))
    (h3 : SC cfg.P i_impl_forest_texts [.s (.v (.sl .tree) k1yo26)] (.tup [.own t_string .str c2a, .v .bool c2b]) []) :
    SC cfg.P i_impl_ForestOfWord [.s (.v (.sl (.int .i64)) a0)] (.tup [.own t_string .str c2a, .v .bool c2b]) [] :=
  SC_of_run cfgOK (its := [.res (.s (.v .bool true)) [] [] [], .loop (fun _ => (.exit 0, impl_ForestOfWord_L0X4 k1y10 k1y11 k1y12 k1y13 k1yo26)), .res (.tup [.own t_string .str c2a, .v .bool c2b]) [] [] [25]])
    (ps := [SC cfg.P i_impl_IsWord [.s (.v (.sl (.int .i64)) a0)] (.s (.v .bool true)) [],
      LoopSC cfg.P 1 (lb P_impl_ForestOfWord 0) (impl_ForestOfWord_L0a a0 ((List.length a0 : Nat) : Int) (0 : Int) ([] : List Tr)) (.exit 0) (impl_ForestOfWord_L0X4 k1y10 k1y11 k1y12 k1y13 k1yo26),
      SC cfg.P i_impl_forest_texts [.s (.v (.sl .tree) k1yo26)] (.tup [.own t_string .str c2a, .v .bool c2b]) []]) (by kernel_rfl) ⟨h1, h2, h3, trivial⟩ get_impl_ForestOfWord (by decide)

theorem impl_ForestOfWord_p5 (a0 : (List Int))
    (h1 : SC cfg.P i_impl_IsWord [.s (.v (.sl (.int .i64)) a0)] (.s (.v .bool false)) []) :
    SC cfg.P i_impl_ForestOfWord [.s (.v (.sl (.int .i64)) a0)] (.tup [.own t_string .str ([] : List ByteArray), .v .bool false]) [] :=
  SC_of_run cfgOK (its := [.res (.s (.v .bool false)) [] [] []])
    (ps := [SC cfg.P i_impl_IsWord [.s (.v (.sl (.int .i64)) a0)] (.s (.v .bool false)) []]) (by kernel_rfl) ⟨h1, trivial⟩ get_impl_ForestOfWord (by decide)

/-! ### spec_l1All -/


def spec_l1All_L0a (x1 : Int) (x2 : Int) (x9 : (List Int)) (x10 : Int) (x11 : Int) : St := mkSt 21 [(1, .s (.v (.int .i64) x1)), (2, .s (.v (.int .i64) x2)), (9, .s (.v (.sl (.int .i64)) x9)), (10, .s (.v (.int .i64) x10)), (11, .s (.v (.int .i64) x11))] []

def spec_l1All_L0X1 (y6 : Bool) : St := mkSt 21 [(6, .s (.v .bool y6))] []

def spec_l1All_L0X2 (y1 : Int) (y2 : Int) (y9 : (List Int)) (y10 : Int) (y11 : Int) (y12 : Bool) : St := mkSt 21 [(1, .s (.v (.int .i64) y1)), (2, .s (.v (.int .i64) y2)), (9, .s (.v (.sl (.int .i64)) y9)), (10, .s (.v (.int .i64) y10)), (11, .s (.v (.int .i64) y11)), (12, .s (.v .bool y12))] []

theorem spec_l1All_L0a_i1 (x1 : Int) (x2 : Int) (x9 : (List Int)) (x10 : Int) (x11 : Int)
    (h1 : x11 < x10)
    (h2 : 0 ≤ x11)
    (h3 : x11 < (List.length x9 : Int))
    (h4 : SC cfg.P i_spec_l1In [.s (.v (.int .i64) (List.getD x9 (x11).toNat (0 : Int))), .s (.v (.int .i64) x1), .s (.v (.int .i64) x2)] (.s (.v .bool true)) [])
    {e : AEx} {st : St} (next : LoopSC cfg.P 3 (lb P_spec_l1All 0) (spec_l1All_L0a x1 x2 x9 x10 (IntKind.wrap .i64 (x11 + (1 : Int)))) e st) :
    LoopSC cfg.P 3 (lb P_spec_l1All 0) (spec_l1All_L0a x1 x2 x9 x10 x11) e st :=
  loop_iter cfgOK (f := i_spec_l1All) (its := [.bool true, .res (.s (.v .bool true)) [] [] []])
    (ps := [decide (x11 < x10) = true,
      0 ≤ x11,
      x11 < (List.length x9 : Int),
      SC cfg.P i_spec_l1In [.s (.v (.int .i64) (List.getD x9 (x11).toNat (0 : Int))), .s (.v (.int .i64) x1), .s (.v (.int .i64) x2)] (.s (.v .bool true)) []]) (st1 := spec_l1All_L0a x1 x2 x9 x10 (IntKind.wrap .i64 (x11 + (1 : Int)))) (by kernel_rfl) ⟨(decide_eq_true h1), h2, h3, h4, trivial⟩ next

theorem spec_l1All_L0a_x2 (x1 : Int) (x2 : Int) (x9 : (List Int)) (x10 : Int) (x11 : Int)
    (h1 : x11 < x10)
    (h2 : 0 ≤ x11)
    (h3 : x11 < (List.length x9 : Int))
    (h4 : SC cfg.P i_spec_l1In [.s (.v (.int .i64) (List.getD x9 (x11).toNat (0 : Int))), .s (.v (.int .i64) x1), .s (.v (.int .i64) x2)] (.s (.v .bool false)) []) :
    LoopSC cfg.P 3 (lb P_spec_l1All 0) (spec_l1All_L0a x1 x2 x9 x10 x11) (.ret) (spec_l1All_L0X1 false) :=
  loop_out cfgOK (f := i_spec_l1All) (its := [.bool true, .res (.s (.v .bool false)) [] [] []])
    (ps := [decide (x11 < x10) = true,
      0 ≤ x11,
      x11 < (List.length x9 : Int),
      SC cfg.P i_spec_l1In [.s (.v (.int .i64) (List.getD x9 (x11).toNat (0 : Int))), .s (.v (.int .i64) x1), .s (.v (.int .i64) x2)] (.s (.v .bool false)) []]) (by kernel_rfl) ⟨(decide_eq_true h1), h2, h3, h4, trivial⟩ (fun h => by cases h)

theorem spec_l1All_L0a_x3 (x1 : Int) (x2 : Int) (x9 : (List Int)) (x10 : Int) (x11 : Int)
    (h1 : ¬ (x11 < x10)) :
    LoopSC cfg.P 3 (lb P_spec_l1All 0) (spec_l1All_L0a x1 x2 x9 x10 x11) (.exit 0) (spec_l1All_L0X2 x1 x2 x9 x10 x11 false) :=
  loop_out cfgOK (f := i_spec_l1All) (its := [.bool false])
    (ps := [decide (x11 < x10) = false]) (by kernel_rfl) ⟨(decide_eq_false h1), trivial⟩ (fun h => by cases h)

theorem spec_l1All_p1 (a0 : (List Int)) (a1 : Int) (a2 : Int) (k1y6 : Bool)
    (h1 : LoopSC cfg.P 3 (lb P_spec_l1All 0) (spec_l1All_L0a a1 a2 a0 ((List.length a0 : Nat) : Int) (0 : Int)) (.ret) (spec_l1All_L0X1 k1y6)) :
    SC cfg.P i_spec_l1All [.s (.v (.sl (.int .i64)) a0), .s (.v (.int .i64) a1), .s (.v (.int .i64) a2)] (.s (.v .bool k1y6)) [] :=
  SC_of_run cfgOK (its := [.loop (fun _ => (.ret, spec_l1All_L0X1 k1y6))])
    (ps := [LoopSC cfg.P 3 (lb P_spec_l1All 0) (spec_l1All_L0a a1 a2 a0 ((List.length a0 : Nat) : Int) (0 : Int)) (.ret) (spec_l1All_L0X1 k1y6)]) (by kernel_rfl) ⟨h1, trivial⟩ get_spec_l1All (by decide)

theorem spec_l1All_p2 (a0 : (List Int)) (a1 : Int) (a2 : Int) (k1y1 : Int) (k1y2 : Int) (k1y9 : (List Int)) (k1y10 : Int) (k1y11 : Int) (k1y12 : Bool)
    (h1 : LoopSC cfg.P 3 (lb P_spec_l1All 0) (spec_l1All_L0a a1 a2 a0 ((List.length a0 : Nat) : Int) (0 : Int)) (.exit 0) (spec_l1All_L0X2 k1y1 k1y2 k1y9 k1y10 k1y11 k1y12)) :
    SC cfg.P i_spec_l1All [.s (.v (.sl (.int .i64)) a0), .s (.v (.int .i64) a1), .s (.v (.int .i64) a2)] (.s (.v .bool true)) [] :=
  SC_of_run cfgOK (its := [.loop (fun _ => (.exit 0, spec_l1All_L0X2 k1y1 k1y2 k1y9 k1y10 k1y11 k1y12))])
    (ps := [LoopSC cfg.P 3 (lb P_spec_l1All 0) (spec_l1All_L0a a1 a2 a0 ((List.length a0 : Nat) : Int) (0 : Int)) (.exit 0) (spec_l1All_L0X2 k1y1 k1y2 k1y9 k1y10 k1y11 k1y12)]) (by kernel_rfl) ⟨h1, trivial⟩ get_spec_l1All (by decide)

/-! ### spec_foLetter -/


def spec_foLetter_L0a (x0 : Int) (x4 : Int) (xo3 : (List ByteArray)) : St := mkSt 16 [(0, .s (.v (.int .i64) x0)), (3, .s (.osl 3 0)), (4, .s (.v (.int .i64) x4))] [(3, .row t_string .str xo3 0 false)]

def spec_foLetter_L0X1 (y0 : Int) (y4 : Int) (y7 : Bool) (yo3 : (List ByteArray)) : St := mkSt 16 [(0, .s (.v (.int .i64) y0)), (3, .s (.osl 3 0)), (4, .s (.v (.int .i64) y4)), (7, .s (.v .bool y7))] [(3, .row t_string .str yo3 0 false)]

theorem spec_foLetter_L0a_i1 (x0 : Int) (x4 : Int) (xo3 : (List ByteArray))
    (h1 : x4 < x0)
    (h2 : sizeOK (List.length xo3 + List.length ([(⟨#[46]⟩ : ByteArray)] : List ByteArray)))
    {e : AEx} {st : St} (next : LoopSC cfg.P 1 (lb P_spec_foLetter 0) (spec_foLetter_L0a x0 (IntKind.wrap .i64 (x4 + (1 : Int))) (xo3 ++ ([(⟨#[46]⟩ : ByteArray)] : List ByteArray))) e st) :
    LoopSC cfg.P 1 (lb P_spec_foLetter 0) (spec_foLetter_L0a x0 x4 xo3) e st :=
  loop_iter cfgOK (f := i_spec_foLetter) (its := [.bool true])
    (ps := [decide (x4 < x0) = true,
      sizeOK (List.length xo3 + List.length ([(⟨#[46]⟩ : ByteArray)] : List ByteArray))]) (st1 := spec_foLetter_L0a x0 (IntKind.wrap .i64 (x4 + (1 : Int))) (xo3 ++ ([(⟨#[46]⟩ : ByteArray)] : List ByteArray))) (by kernel_rfl) ⟨(decide_eq_true h1), h2, trivial⟩ next

theorem spec_foLetter_L0a_x2 (x0 : Int) (x4 : Int) (xo3 : (List ByteArray))
    (h1 : ¬ (x4 < x0)) :
    LoopSC cfg.P 1 (lb P_spec_foLetter 0) (spec_foLetter_L0a x0 x4 xo3) (.exit 0) (spec_foLetter_L0X1 x0 x4 false xo3) :=
  loop_out cfgOK (f := i_spec_foLetter) (its := [.bool false])
    (ps := [decide (x4 < x0) = false]) (by kernel_rfl) ⟨(decide_eq_false h1), trivial⟩ (fun h => by cases h)

theorem spec_foLetter_p1 (a0 : Int) (k1y0 : Int) (k1y4 : Int) (k1y7 : Bool) (k1yo3 : (List ByteArray))
    (h1 : LoopSC cfg.P 1 (lb P_spec_foLetter 0) (spec_foLetter_L0a a0 (1 : Int) ([] : List ByteArray)) (.exit 0) (spec_foLetter_L0X1 k1y0 k1y4 k1y7 k1yo3))
    (h2 : sizeOK (List.length k1yo3 + List.length ([(⟨#[40, 46, 46, 41]⟩ : ByteArray)] : List ByteArray))) :
    SC cfg.P i_spec_foLetter [.s (.v (.int .i64) a0)] (.s (.own t_string .str (k1yo3 ++ ([(⟨#[40, 46, 46, 41]⟩ : ByteArray)] : List ByteArray)))) [] :=
  SC_of_run cfgOK (its := [.loop (fun _ => (.exit 0, spec_foLetter_L0X1 k1y0 k1y4 k1y7 k1yo3))])
    (ps := [LoopSC cfg.P 1 (lb P_spec_foLetter 0) (spec_foLetter_L0a a0 (1 : Int) ([] : List ByteArray)) (.exit 0) (spec_foLetter_L0X1 k1y0 k1y4 k1y7 k1yo3),
      sizeOK (List.length k1yo3 + List.length ([(⟨#[40, 46, 46, 41]⟩ : ByteArray)] : List ByteArray))]) (by kernel_rfl) ⟨h1, h2, trivial⟩ get_spec_foLetter (by decide)

/-! ### impl_forest_split -/


theorem impl_forest_split_p1 (a0 : (List Tr)) (a1 : Int) (c1 : (List Tr))
    (h1 : 0 ≤ (IntKind.wrap .i64 (a1 + (1 : Int))))
    (h2 : (IntKind.wrap .i64 (a1 + (1 : Int))) ≤ (lim : Int))
    (h3 : (IntKind.wrap .i64 (a1 + (1 : Int))) = (IntKind.wrap .i64 (a1 + (1 : Int))))
    (h4 : 0 ≤ a1)
    (h5 : a1 < (List.length (List.replicate ((IntKind.wrap .i64 (a1 + (1 : Int)))).toNat Tr.leaf) : Int))
    (h6 : (a1).toNat < List.length (List.replicate ((IntKind.wrap .i64 (a1 + (1 : Int)))).toNat Tr.leaf))
    (h7 : SC cfg.P i_impl_forest_stack [.s (.v (.sl .tree) a0), .s (.v (.sl .tree) (List.set (List.replicate ((IntKind.wrap .i64 (a1 + (1 : Int)))).toNat Tr.leaf) (a1).toNat (Tr.node Tr.leaf Tr.leaf)))] (.s (.own t_pimpl_node .tree c1)) []) :
    SC cfg.P i_impl_forest_split [.s (.v (.sl .tree) a0), .s (.v (.int .i64) a1)] (.s (.own t_pimpl_node .tree c1)) [] :=
  SC_of_run cfgOK (its := [.res (.s (.own t_pimpl_node .tree c1)) [] [] [16]])
    (ps := [0 ≤ (IntKind.wrap .i64 (a1 + (1 : Int))),
      (IntKind.wrap .i64 (a1 + (1 : Int))) ≤ (lim : Int),
      (IntKind.wrap .i64 (a1 + (1 : Int))) = (IntKind.wrap .i64 (a1 + (1 : Int))),
      0 ≤ a1,
      a1 < (List.length (List.replicate ((IntKind.wrap .i64 (a1 + (1 : Int)))).toNat Tr.leaf) : Int),
      (a1).toNat < List.length (List.replicate ((IntKind.wrap .i64 (a1 + (1 : Int)))).toNat Tr.leaf),
      SC cfg.P i_impl_forest_stack [.s (.v (.sl .tree) a0), .s (.v (.sl .tree) (List.set (List.replicate ((IntKind.wrap .i64 (a1 + (1 : Int)))).toNat Tr.leaf) (a1).toNat (Tr.node Tr.leaf Tr.leaf)))] (.s (.own t_pimpl_node .tree c1)) []]) (by kernel_rfl) ⟨h1, h2, h3, h4, h5, h6, h7, trivial⟩ get_impl_forest_split (by decide)

end Go.AI
