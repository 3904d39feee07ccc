/- A part of the road: what it proves stands in its last texts. -/
import Derived.Test.YtmoodcnoncipiaaSIds
import Derived.Test.YtmoodcnoncipiaaProg
set_option autoImplicit false
set_option maxRecDepth 100000
set_option linter.unusedVariables false
namespace Go.AI
open Go.Proofs

/-! ### laws_FnExactWordOfForest -/


theorem laws_FnExactWordOfForest_p1 (a0 : (List ByteArray)) (c1 : Int)
    (h1 : SC cfg.P i_laws_szStringS [.s (.v (.sl .str) a0), .s (.v (.int .i64) (1048576 : Int))] (.s (.v (.int .i64) c1)) [])
    (h2 : c1 < (0 : Int)) :
    SC cfg.P i_laws_FnExactWordOfForest [.s (.v (.sl .str) a0)] (.s (.v .bool true)) [] :=
  SC_of_run cfgOK (its := [.res (.s (.v (.int .i64) c1)) [] [] [], .bool true])
    (ps := [SC cfg.P i_laws_szStringS [.s (.v (.sl .str) a0), .s (.v (.int .i64) (1048576 : Int))] (.s (.v (.int .i64) c1)) [],
      decide (c1 < (0 : Int)) = true]) (by kernel_rfl) ⟨h1, (decide_eq_true h2), trivial⟩ get_laws_FnExactWordOfForest (by decide)

theorem laws_FnExactWordOfForest_p2 (a0 : (List ByteArray)) (c1 : Int) (c2 : (List ByteArray)) (c3a : (List Int)) (c3b : Bool) (c4 : (List ByteArray)) (c5a : (List Int)) (c5b : Bool) (c7 : (List ByteArray)) (c9 : Int) (c9o0 : (List ByteArray)) (c11 : Int) (c11o0 : (List Int)) (c12 : Int) (c13 : (List ByteArray)) (c14a : (List Int)) (c14b : Bool) (c16 : Int)
    (h1 : SC cfg.P i_laws_szStringS [.s (.v (.sl .str) a0), .s (.v (.int .i64) (1048576 : Int))] (.s (.v (.int .i64) c1)) [])
    (h2 : ¬ (c1 < (0 : Int)))
    (h3 : SC cfg.P i_laws_toStringS [.s (.v (.sl .str) a0)] (.s (.own t_string .str c2)) [])
    (h4 : SC cfg.P i_spec_WordOfForest [.s (.v (.sl .str) c2)] (.tup [.v (.sl (.int .i64)) c3a, .v .bool c3b]) [])
    (h5 : SC cfg.P i_laws_toStringS [.s (.v (.sl .str) a0)] (.s (.own t_string .str c4)) [])
    (h6 : SC cfg.P i_impl_WordOfForest [.s (.v (.sl .str) c4)] (.tup [.own t_int (.int .i64) c5a, .v .bool c5b]) [])
    (h7 : SC cfg.P i_laws_eqIntS [.s (.v (.sl (.int .i64)) c5a), .s (.v (.sl (.int .i64)) c3a)] (.s (.v .bool true)) [])
    (h8 : (!(c5b == c3b)) = false)
    (h9 : SC cfg.P i_laws_toStringS [.s (.v (.sl .str) a0)] (.s (.own t_string .str c7)) [])
    (h10 : SC cfg.P i_laws_eqStringS [.s (.v (.sl .str) c4), .s (.v (.sl .str) c7)] (.s (.v .bool true)) [])
    (h11 : SC cfg.P i_laws_markStringS [.s (.msl t_string .str c4), .s (.v (.int .i64) (1 : Int))] (.s (.v (.int .i64) c9)) [.row t_string .str c9o0])
    (h12 : ¬ (c9 < (0 : Int)))
    (h13 : SC cfg.P i_laws_markIntS [.s (.msl t_int (.int .i64) c5a), .s (.v (.int .i64) (1 : Int))] (.s (.v (.int .i64) c11)) [.row t_int (.int .i64) c11o0])
    (h14 : SC cfg.P i_laws_heldIntS [.s (.v (.sl (.int .i64)) c11o0), .s (.v (.int .i64) (1 : Int))] (.s (.v (.int .i64) c12)) [])
    (h15 : ¬ (c12 < (0 : Int)))
    (h16 : c12 = c11)
    (h17 : SC cfg.P i_laws_toStringS [.s (.v (.sl .str) a0)] (.s (.own t_string .str c13)) [])
    (h18 : SC cfg.P i_impl_WordOfForest [.s (.v (.sl .str) c13)] (.tup [.own t_int (.int .i64) c14a, .v .bool c14b]) [])
    (h19 : SC cfg.P i_laws_eqIntS [.s (.v (.sl (.int .i64)) c14a), .s (.v (.sl (.int .i64)) c3a)] (.s (.v .bool true)) [])
    (h20 : (!(c14b == c3b)) = false)
    (h21 : SC cfg.P i_laws_heldIntS [.s (.v (.sl (.int .i64)) c11o0), .s (.v (.int .i64) (1 : Int))] (.s (.v (.int .i64) c16)) [])
    (h22 : ¬ (c16 < (0 : Int)))
    (h23 : c16 = c11) :
    SC cfg.P i_laws_FnExactWordOfForest [.s (.v (.sl .str) a0)] (.s (.v .bool true)) [] :=
  SC_of_run cfgOK (its := [.res (.s (.v (.int .i64) c1)) [] [] [], .bool false, .res (.s (.own t_string .str c2)) [] [] [21], .res (.tup [.v (.sl (.int .i64)) c3a, .v .bool c3b]) [] [] [], .res (.s (.own t_string .str c4)) [] [] [26], .res (.tup [.own t_int (.int .i64) c5a, .v .bool c5b]) [] [] [29], .res (.s (.v .bool true)) [] [] [], .bool false, .res (.s (.own t_string .str c7)) [] [] [43], .res (.s (.v .bool true)) [] [] [], .res (.s (.v (.int .i64) c9)) [.row t_string .str c9o0] [0] [], .bool false, .res (.s (.v .bool true)) [] [] [], .bool false, .res (.s (.v (.int .i64) c11)) [.row t_int (.int .i64) c11o0] [0] [], .res (.s (.v (.int .i64) c12)) [] [] [], .bool false, .bool false, .res (.s (.own t_string .str c13)) [] [] [75], .res (.tup [.own t_int (.int .i64) c14a, .v .bool c14b]) [] [] [76], .res (.s (.v .bool true)) [] [] [], .bool false, .res (.s (.v (.int .i64) c16)) [] [] [], .bool false, .bool false])
    (ps := [SC cfg.P i_laws_szStringS [.s (.v (.sl .str) a0), .s (.v (.int .i64) (1048576 : Int))] (.s (.v (.int .i64) c1)) [],
      decide (c1 < (0 : Int)) = false,
      SC cfg.P i_laws_toStringS [.s (.v (.sl .str) a0)] (.s (.own t_string .str c2)) [],
      SC cfg.P i_spec_WordOfForest [.s (.v (.sl .str) c2)] (.tup [.v (.sl (.int .i64)) c3a, .v .bool c3b]) [],
      SC cfg.P i_laws_toStringS [.s (.v (.sl .str) a0)] (.s (.own t_string .str c4)) [],
      SC cfg.P i_impl_WordOfForest [.s (.v (.sl .str) c4)] (.tup [.own t_int (.int .i64) c5a, .v .bool c5b]) [],
      SC cfg.P i_laws_eqIntS [.s (.v (.sl (.int .i64)) c5a), .s (.v (.sl (.int .i64)) c3a)] (.s (.v .bool true)) [],
      (!(c5b == c3b)) = false,
      SC cfg.P i_laws_toStringS [.s (.v (.sl .str) a0)] (.s (.own t_string .str c7)) [],
      SC cfg.P i_laws_eqStringS [.s (.v (.sl .str) c4), .s (.v (.sl .str) c7)] (.s (.v .bool true)) [],
      SC cfg.P i_laws_markStringS [.s (.msl t_string .str c4), .s (.v (.int .i64) (1 : Int))] (.s (.v (.int .i64) c9)) [.row t_string .str c9o0],
      decide (c9 < (0 : Int)) = false,
      SC cfg.P i_laws_eqIntS [.s (.v (.sl (.int .i64)) c5a), .s (.v (.sl (.int .i64)) c3a)] (.s (.v .bool true)) [],
      (!(c5b == c3b)) = false,
      SC cfg.P i_laws_markIntS [.s (.msl t_int (.int .i64) c5a), .s (.v (.int .i64) (1 : Int))] (.s (.v (.int .i64) c11)) [.row t_int (.int .i64) c11o0],
      SC cfg.P i_laws_heldIntS [.s (.v (.sl (.int .i64)) c11o0), .s (.v (.int .i64) (1 : Int))] (.s (.v (.int .i64) c12)) [],
      decide (c12 < (0 : Int)) = false,
      (c12 != c11) = false,
      SC cfg.P i_laws_toStringS [.s (.v (.sl .str) a0)] (.s (.own t_string .str c13)) [],
      SC cfg.P i_impl_WordOfForest [.s (.v (.sl .str) c13)] (.tup [.own t_int (.int .i64) c14a, .v .bool c14b]) [],
      SC cfg.P i_laws_eqIntS [.s (.v (.sl (.int .i64)) c14a), .s (.v (.sl (.int .i64)) c3a)] (.s (.v .bool true)) [],
      (!(c14b == c3b)) = false,
      SC cfg.P i_laws_heldIntS [.s (.v (.sl (.int .i64)) c11o0), .s (.v (.int .i64) (1 : Int))] (.s (.v (.int .i64) c16)) [],
      decide (c16 < (0 : Int)) = false,
      (c16 != c11) = false]) (by kernel_rfl) ⟨h1, (decide_eq_false h2), h3, h4, h5, h6, h7, h8, h9, h10, h11, (decide_eq_false h12), h7, h8, h13, h14, (decide_eq_false h15), (bne_f h16), h17, h18, h19, h20, h21, (decide_eq_false h22), (bne_f h23), trivial⟩ get_laws_FnExactWordOfForest (by decide)

/-! ### spec_WordOfForest -/


theorem spec_WordOfForest_p1 (a0 : (List ByteArray)) (c2 : (List Int)) (c3a : (List Int)) (c3b : Bool)
    (h1 : SC cfg.P i_spec_foGood [.s (.v (.sl .str) a0)] (.s (.v .bool true)) [])
    (h2 : SC cfg.P i_spec_foWord [.s (.v (.sl .str) a0)] (.s (.own t_int (.int .i64) c2)) [])
    (h3 : SC cfg.P i_spec_wdIf [.s (.v (.sl (.int .i64)) c2)] (.tup [.v (.sl (.int .i64)) c3a, .v .bool c3b]) []) :
    SC cfg.P i_spec_WordOfForest [.s (.v (.sl .str) a0)] (.tup [.v (.sl (.int .i64)) c3a, .v .bool c3b]) [] :=
  SC_of_run cfgOK (its := [.res (.s (.v .bool true)) [] [] [], .res (.s (.own t_int (.int .i64) c2)) [] [] [8], .res (.tup [.v (.sl (.int .i64)) c3a, .v .bool c3b]) [] [] []])
    (ps := [SC cfg.P i_spec_foGood [.s (.v (.sl .str) a0)] (.s (.v .bool true)) [],
      SC cfg.P i_spec_foWord [.s (.v (.sl .str) a0)] (.s (.own t_int (.int .i64) c2)) [],
      SC cfg.P i_spec_wdIf [.s (.v (.sl (.int .i64)) c2)] (.tup [.v (.sl (.int .i64)) c3a, .v .bool c3b]) []]) (by kernel_rfl) ⟨h1, h2, h3, trivial⟩ get_spec_WordOfForest (by decide)

theorem spec_WordOfForest_p2 (a0 : (List ByteArray))
    (h1 : SC cfg.P i_spec_foGood [.s (.v (.sl .str) a0)] (.s (.v .bool false)) []) :
    SC cfg.P i_spec_WordOfForest [.s (.v (.sl .str) a0)] (.tup [.own t_int (.int .i64) ([] : List Int), .v .bool false]) [] :=
  SC_of_run cfgOK (its := [.res (.s (.v .bool false)) [] [] []])
    (ps := [SC cfg.P i_spec_foGood [.s (.v (.sl .str) a0)] (.s (.v .bool false)) []]) (by kernel_rfl) ⟨h1, trivial⟩ get_spec_WordOfForest (by decide)

/-! ### impl_WordOfForest -/


def impl_WordOfForest_L0a (x16 : (List Tr)) (x17 : Int) (x18 : Int) (xo6 : (List Int)) : St := mkSt 32 [(6, .s (.osl 6 0)), (16, .s (.v (.sl .tree) x16)), (17, .s (.v (.int .i64) x17)), (18, .s (.v (.int .i64) x18))] [(6, .row t_int (.int .i64) xo6 0 false)]

def impl_WordOfForest_L0X1 (y16 : (List Tr)) (y17 : Int) (y18 : Int) (y19 : Bool) (yo6 : (List Int)) : St := mkSt 32 [(6, .s (.osl 6 0)), (16, .s (.v (.sl .tree) y16)), (17, .s (.v (.int .i64) y17)), (18, .s (.v (.int .i64) y18)), (19, .s (.v .bool y19))] [(6, .row t_int (.int .i64) yo6 0 false)]

theorem impl_WordOfForest_L0a_i1 (x16 : (List Tr)) (x17 : Int) (x18 : Int) (xo6 : (List Int)) (dc1 : (List Int))
    (h1 : x18 < x17)
    (h2 : 0 ≤ x18)
    (h3 : x18 < (List.length x16 : Int))
    (h4 : SC cfg.P i_impl_node_climbs [.s (.v .tree (List.getD x16 (x18).toNat Tr.leaf)), .s (.v (.int .i64) (0 : Int))] (.s (.own t_int (.int .i64) dc1)) [])
    (h5 : sizeOK (List.length xo6 + List.length dc1))
    {e : AEx} {st : St} (next : LoopSC cfg.P 1 (lb P_impl_WordOfForest 0) (impl_WordOfForest_L0a x16 x17 (IntKind.wrap .i64 (x18 + (1 : Int))) (xo6 ++ dc1)) e st) :
    LoopSC cfg.P 1 (lb P_impl_WordOfForest 0) (impl_WordOfForest_L0a x16 x17 x18 xo6) e st :=
  loop_iter cfgOK (f := i_impl_WordOfForest) (its := [.bool true, .res (.s (.own t_int (.int .i64) dc1)) [] [] [24]])
    (ps := [decide (x18 < x17) = true,
      0 ≤ x18,
      x18 < (List.length x16 : Int),
      SC cfg.P i_impl_node_climbs [.s (.v .tree (List.getD x16 (x18).toNat Tr.leaf)), .s (.v (.int .i64) (0 : Int))] (.s (.own t_int (.int .i64) dc1)) [],
      sizeOK (List.length xo6 + List.length dc1)]) (st1 := impl_WordOfForest_L0a x16 x17 (IntKind.wrap .i64 (x18 + (1 : Int))) (xo6 ++ dc1)) (by kernel_rfl) ⟨(decide_eq_true h1), h2, h3, h4, h5, trivial⟩ next

theorem impl_WordOfForest_L0a_x2 (x16 : (List Tr)) (x17 : Int) (x18 : Int) (xo6 : (List Int))
    (h1 : ¬ (x18 < x17)) :
    LoopSC cfg.P 1 (lb P_impl_WordOfForest 0) (impl_WordOfForest_L0a x16 x17 x18 xo6) (.exit 0) (impl_WordOfForest_L0X1 x16 x17 x18 false xo6) :=
  loop_out cfgOK (f := i_impl_WordOfForest) (its := [.bool false])
    (ps := [decide (x18 < x17) = false]) (by kernel_rfl) ⟨(decide_eq_false h1), trivial⟩ (fun h => by cases h)

theorem impl_WordOfForest_p1 (a0 : (List ByteArray)) (c1a : (List Tr)) (k1y16 : (List Tr)) (k1y17 : Int) (k1y18 : Int) (k1y19 : Bool) (k1yo6 : (List Int)) (c2 : (List Int)) (c3b : Bool)
    (h1 : SC cfg.P i_impl_forestOf [.s (.v (.sl .str) a0)] (.tup [.v (.sl .tree) c1a, .v .bool true]) [])
    (h2 : LoopSC cfg.P 1 (lb P_impl_WordOfForest 0) (impl_WordOfForest_L0a c1a ((List.length c1a : Nat) : Int) (0 : Int) ([] : List Int)) (.exit 0) (impl_WordOfForest_L0X1 k1y16 k1y17 k1y18 k1y19 k1yo6))
    (h3 : SC cfg.P i_impl_wordOf [.s (.v (.sl (.int .i64)) k1yo6)] (.s (.own t_int (.int .i64) c2)) [])
    (h4 : SCS cfg.P i_impl_madeWord [.s (.v (.sl (.int .i64)) c2)] (.v .bool c3b)) :
    SC cfg.P i_impl_WordOfForest [.s (.v (.sl .str) a0)] (.tup [.own t_int (.int .i64) c2, .v .bool c3b]) [] :=
  SC_of_run cfgOK (its := [.res (.tup [.v (.sl .tree) c1a, .v .bool true]) [] [] [], .loop (fun _ => (.exit 0, impl_WordOfForest_L0X1 k1y16 k1y17 k1y18 k1y19 k1yo6)), .res (.s (.own t_int (.int .i64) c2)) [] [] [28], .same (.v .bool c3b)])
    (ps := [SC cfg.P i_impl_forestOf [.s (.v (.sl .str) a0)] (.tup [.v (.sl .tree) c1a, .v .bool true]) [],
      LoopSC cfg.P 1 (lb P_impl_WordOfForest 0) (impl_WordOfForest_L0a c1a ((List.length c1a : Nat) : Int) (0 : Int) ([] : List Int)) (.exit 0) (impl_WordOfForest_L0X1 k1y16 k1y17 k1y18 k1y19 k1yo6),
      SC cfg.P i_impl_wordOf [.s (.v (.sl (.int .i64)) k1yo6)] (.s (.own t_int (.int .i64) c2)) [],
      SCS cfg.P i_impl_madeWord [.s (.v (.sl (.int .i64)) c2)] (.v .bool c3b)]) (by kernel_rfl) ⟨h1, h2, h3, h4, trivial⟩ get_impl_WordOfForest (by decide)

theorem impl_WordOfForest_p2 (a0 : (List ByteArray)) (c1a : (List Tr)) (k1y16 : (List Tr)) (k1y17 : Int) (k1y18 : Int) (k1y19 : Bool) (k1yo6 : (List Int)) (c2 : (List Int)) (c3a : (List Int)) (c3b : Bool)
    (h1 : SC cfg.P i_impl_forestOf [.s (.v (.sl .str) a0)] (.tup [.v (.sl .tree) c1a, .v .bool true]) [])
    (h2 : LoopSC cfg.P 1 (lb P_impl_WordOfForest 0) (impl_WordOfForest_L0a c1a ((List.length c1a : Nat) : Int) (0 : Int) ([] : List Int)) (.exit 0) (impl_WordOfForest_L0X1 k1y16 k1y17 k1y18 k1y19 k1yo6))
    (h3 : SC cfg.P i_impl_wordOf [.s (.v (.sl (.int .i64)) k1yo6)] (.s (.own t_int (.int .i64) c2)) [])
    (h4 : SC cfg.P i_impl_madeWord [.s (.v (.sl (.int .i64)) c2)] (.tup [.own t_int (.int .i64) c3a, .v .bool c3b]) []) :
    SC cfg.P i_impl_WordOfForest [.s (.v (.sl .str) a0)] (.tup [.own t_int (.int .i64) c3a, .v .bool c3b]) [] :=
  SC_of_run cfgOK (its := [.res (.tup [.v (.sl .tree) c1a, .v .bool true]) [] [] [], .loop (fun _ => (.exit 0, impl_WordOfForest_L0X1 k1y16 k1y17 k1y18 k1y19 k1yo6)), .res (.s (.own t_int (.int .i64) c2)) [] [] [28], .res (.tup [.own t_int (.int .i64) c3a, .v .bool c3b]) [] [] [30]])
    (ps := [SC cfg.P i_impl_forestOf [.s (.v (.sl .str) a0)] (.tup [.v (.sl .tree) c1a, .v .bool true]) [],
      LoopSC cfg.P 1 (lb P_impl_WordOfForest 0) (impl_WordOfForest_L0a c1a ((List.length c1a : Nat) : Int) (0 : Int) ([] : List Int)) (.exit 0) (impl_WordOfForest_L0X1 k1y16 k1y17 k1y18 k1y19 k1yo6),
      SC cfg.P i_impl_wordOf [.s (.v (.sl (.int .i64)) k1yo6)] (.s (.own t_int (.int .i64) c2)) [],
      SC cfg.P i_impl_madeWord [.s (.v (.sl (.int .i64)) c2)] (.tup [.own t_int (.int .i64) c3a, .v .bool c3b]) []]) (by kernel_rfl) ⟨h1, h2, h3, h4, trivial⟩ get_impl_WordOfForest (by decide)

theorem impl_WordOfForest_p3 (a0 : (List ByteArray)) (c1a : (List Tr))
    (h1 : SC cfg.P i_impl_forestOf [.s (.v (.sl .str) a0)] (.tup [.v (.sl .tree) c1a, .v .bool false]) []) :
    SC cfg.P i_impl_WordOfForest [.s (.v (.sl .str) a0)] (.tup [.own t_int (.int .i64) ([] : List Int), .v .bool false]) [] :=
  SC_of_run cfgOK (its := [.res (.tup [.v (.sl .tree) c1a, .v .bool false]) [] [] []])
    (ps := [SC cfg.P i_impl_forestOf [.s (.v (.sl .str) a0)] (.tup [.v (.sl .tree) c1a, .v .bool false]) []]) (by kernel_rfl) ⟨h1, trivial⟩ get_impl_WordOfForest (by decide)

/-! ### laws_markIntS -/


def laws_markIntS_L0a (x1 : Int) (x5 : Int) (xo0 : (List Int)) : St := mkSt 19 [(0, .s (.osl 0 0)), (1, .s (.v (.int .i64) x1)), (5, .s (.v (.int .i64) x5))] [(0, .row t_int (.int .i64) xo0 0 false)]

def laws_markIntS_L0X1 (y1 : Int) (y5 : Int) (y9 : Bool) (yo0 : (List Int)) : St := mkSt 19 [(0, .s (.osl 0 0)), (1, .s (.v (.int .i64) y1)), (5, .s (.v (.int .i64) y5)), (9, .s (.v .bool y9))] [(0, .row t_int (.int .i64) yo0 0 false)]

theorem laws_markIntS_L0a_i1 (x1 : Int) (x5 : Int) (xo0 : (List Int))
    (h1 : x5 < ((List.length xo0 : Nat) : Int))
    (h2 : 0 ≤ x5)
    (h3 : x5 < (List.length xo0 : Int))
    (h4 : (x5).toNat < List.length xo0)
    {e : AEx} {st : St} (next : LoopSC cfg.P 2 (lb P_laws_markIntS 0) (laws_markIntS_L0a (IntKind.wrap .i64 (x1 + (1 : Int))) (IntKind.wrap .i64 (x5 + (1 : Int))) (List.set xo0 (x5).toNat x1)) e st) :
    LoopSC cfg.P 2 (lb P_laws_markIntS 0) (laws_markIntS_L0a x1 x5 xo0) e st :=
  loop_iter cfgOK (f := i_laws_markIntS) (its := [.bool true])
    (ps := [decide (x5 < ((List.length xo0 : Nat) : Int)) = true,
      0 ≤ x5,
      x5 < (List.length xo0 : Int),
      (x5).toNat < List.length xo0]) (st1 := laws_markIntS_L0a (IntKind.wrap .i64 (x1 + (1 : Int))) (IntKind.wrap .i64 (x5 + (1 : Int))) (List.set xo0 (x5).toNat x1)) (by kernel_rfl) ⟨(decide_eq_true h1), h2, h3, h4, trivial⟩ next

theorem laws_markIntS_L0a_x2 (x1 : Int) (x5 : Int) (xo0 : (List Int))
    (h1 : ¬ (x5 < ((List.length xo0 : Nat) : Int))) :
    LoopSC cfg.P 2 (lb P_laws_markIntS 0) (laws_markIntS_L0a x1 x5 xo0) (.exit 0) (laws_markIntS_L0X1 x1 x5 false xo0) :=
  loop_out cfgOK (f := i_laws_markIntS) (its := [.bool false])
    (ps := [decide (x5 < ((List.length xo0 : Nat) : Int)) = false]) (by kernel_rfl) ⟨(decide_eq_false h1), trivial⟩ (fun h => by cases h)

theorem laws_markIntS_p1 (a0 : (List Int)) (a1 : Int) (k1y1 : Int) (k1y5 : Int) (k1y9 : Bool) (k1yo0 : (List Int))
    (h1 : LoopSC cfg.P 2 (lb P_laws_markIntS 0) (laws_markIntS_L0a a1 (0 : Int) a0) (.exit 0) (laws_markIntS_L0X1 k1y1 k1y5 k1y9 k1yo0)) :
    SC cfg.P i_laws_markIntS [.s (.msl t_int (.int .i64) a0), .s (.v (.int .i64) a1)] (.s (.v (.int .i64) k1y1)) [.row t_int (.int .i64) k1yo0] :=
  SC_of_run cfgOK (its := [.loop (fun _ => (.exit 0, laws_markIntS_L0X1 k1y1 k1y5 k1y9 k1yo0))])
    (ps := [LoopSC cfg.P 2 (lb P_laws_markIntS 0) (laws_markIntS_L0a a1 (0 : Int) a0) (.exit 0) (laws_markIntS_L0X1 k1y1 k1y5 k1y9 k1yo0)]) (by kernel_rfl) ⟨h1, trivial⟩ get_laws_markIntS (by decide)

/-! ### laws_heldIntS -/


def laws_heldIntS_L0a (x0 : (List Int)) (x1 : Int) (x5 : Int) : St := mkSt 21 [(0, .s (.v (.sl (.int .i64)) x0)), (1, .s (.v (.int .i64) x1)), (5, .s (.v (.int .i64) x5))] []

def laws_heldIntS_L0X1 (y4 : Int) : St := mkSt 21 [(4, .s (.v (.int .i64) y4))] []

def laws_heldIntS_L0X2 (y0 : (List Int)) (y1 : Int) (y5 : Int) (y9 : Bool) : St := mkSt 21 [(0, .s (.v (.sl (.int .i64)) y0)), (1, .s (.v (.int .i64) y1)), (5, .s (.v (.int .i64) y5)), (9, .s (.v .bool y9))] []

theorem laws_heldIntS_L0a_x1 (x0 : (List Int)) (x1 : Int) (x5 : Int)
    (h1 : x5 < ((List.length x0 : Nat) : Int))
    (h2 : 0 ≤ x5)
    (h3 : x5 < (List.length x0 : Int))
    (h4 : (List.getD x0 (x5).toNat (0 : Int)) ≠ x1) :
    LoopSC cfg.P 2 (lb P_laws_heldIntS 0) (laws_heldIntS_L0a x0 x1 x5) (.ret) (laws_heldIntS_L0X1 (-1 : Int)) :=
  loop_out cfgOK (f := i_laws_heldIntS) (its := [.bool true, .bool true])
    (ps := [decide (x5 < ((List.length x0 : Nat) : Int)) = true,
      0 ≤ x5,
      x5 < (List.length x0 : Int),
      ((List.getD x0 (x5).toNat (0 : Int)) != x1) = true]) (by kernel_rfl) ⟨(decide_eq_true h1), h2, h3, (bne_t h4), trivial⟩ (fun h => by cases h)

theorem laws_heldIntS_L0a_i2 (x0 : (List Int)) (x1 : Int) (x5 : Int)
    (h1 : x5 < ((List.length x0 : Nat) : Int))
    (h2 : 0 ≤ x5)
    (h3 : x5 < (List.length x0 : Int))
    (h4 : (List.getD x0 (x5).toNat (0 : Int)) = x1)
    {e : AEx} {st : St} (next : LoopSC cfg.P 2 (lb P_laws_heldIntS 0) (laws_heldIntS_L0a x0 (IntKind.wrap .i64 (x1 + (1 : Int))) (IntKind.wrap .i64 (x5 + (1 : Int)))) e st) :
    LoopSC cfg.P 2 (lb P_laws_heldIntS 0) (laws_heldIntS_L0a x0 x1 x5) e st :=
  loop_iter cfgOK (f := i_laws_heldIntS) (its := [.bool true, .bool false])
    (ps := [decide (x5 < ((List.length x0 : Nat) : Int)) = true,
      0 ≤ x5,
      x5 < (List.length x0 : Int),
      ((List.getD x0 (x5).toNat (0 : Int)) != x1) = false]) (st1 := laws_heldIntS_L0a x0 (IntKind.wrap .i64 (x1 + (1 : Int))) (IntKind.wrap .i64 (x5 + (1 : Int)))) (by kernel_rfl) ⟨(decide_eq_true h1), h2, h3, (bne_f h4), trivial⟩ next

theorem laws_heldIntS_L0a_x3 (x0 : (List Int)) (x1 : Int) (x5 : Int)
    (h1 : ¬ (x5 < ((List.length x0 : Nat) : Int))) :
    LoopSC cfg.P 2 (lb P_laws_heldIntS 0) (laws_heldIntS_L0a x0 x1 x5) (.exit 0) (laws_heldIntS_L0X2 x0 x1 x5 false) :=
  loop_out cfgOK (f := i_laws_heldIntS) (its := [.bool false])
    (ps := [decide (x5 < ((List.length x0 : Nat) : Int)) = false]) (by kernel_rfl) ⟨(decide_eq_false h1), trivial⟩ (fun h => by cases h)

theorem laws_heldIntS_p1 (a0 : (List Int)) (a1 : Int) (k1y4 : Int)
    (h1 : LoopSC cfg.P 2 (lb P_laws_heldIntS 0) (laws_heldIntS_L0a a0 a1 (0 : Int)) (.ret) (laws_heldIntS_L0X1 k1y4)) :
    SC cfg.P i_laws_heldIntS [.s (.v (.sl (.int .i64)) a0), .s (.v (.int .i64) a1)] (.s (.v (.int .i64) k1y4)) [] :=
  SC_of_run cfgOK (its := [.loop (fun _ => (.ret, laws_heldIntS_L0X1 k1y4))])
    (ps := [LoopSC cfg.P 2 (lb P_laws_heldIntS 0) (laws_heldIntS_L0a a0 a1 (0 : Int)) (.ret) (laws_heldIntS_L0X1 k1y4)]) (by kernel_rfl) ⟨h1, trivial⟩ get_laws_heldIntS (by decide)

theorem laws_heldIntS_p2 (a0 : (List Int)) (a1 : Int) (k1y0 : (List Int)) (k1y1 : Int) (k1y5 : Int) (k1y9 : Bool)
    (h1 : LoopSC cfg.P 2 (lb P_laws_heldIntS 0) (laws_heldIntS_L0a a0 a1 (0 : Int)) (.exit 0) (laws_heldIntS_L0X2 k1y0 k1y1 k1y5 k1y9)) :
    SC cfg.P i_laws_heldIntS [.s (.v (.sl (.int .i64)) a0), .s (.v (.int .i64) a1)] (.s (.v (.int .i64) k1y1)) [] :=
  SC_of_run cfgOK (its := [.loop (fun _ => (.exit 0, laws_heldIntS_L0X2 k1y0 k1y1 k1y5 k1y9))])
    (ps := [LoopSC cfg.P 2 (lb P_laws_heldIntS 0) (laws_heldIntS_L0a a0 a1 (0 : Int)) (.exit 0) (laws_heldIntS_L0X2 k1y0 k1y1 k1y5 k1y9)]) (by kernel_rfl) ⟨h1, trivial⟩ get_laws_heldIntS (by decide)

/-! ### spec_wdIf -/


theorem spec_wdIf_p1 (a0 : (List Int))
    (h1 : SC cfg.P i_spec_wdGood [.s (.v (.sl (.int .i64)) a0)] (.s (.v .bool true)) []) :
    SC cfg.P i_spec_wdIf [.s (.v (.sl (.int .i64)) a0)] (.tup [.v (.sl (.int .i64)) a0, .v .bool true]) [] :=
  SC_of_run cfgOK (its := [.res (.s (.v .bool true)) [] [] []])
    (ps := [SC cfg.P i_spec_wdGood [.s (.v (.sl (.int .i64)) a0)] (.s (.v .bool true)) []]) (by kernel_rfl) ⟨h1, trivial⟩ get_spec_wdIf (by decide)

theorem spec_wdIf_p2 (a0 : (List Int))
    (h1 : SC cfg.P i_spec_wdGood [.s (.v (.sl (.int .i64)) a0)] (.s (.v .bool false)) []) :
    SC cfg.P i_spec_wdIf [.s (.v (.sl (.int .i64)) a0)] (.tup [.own t_int (.int .i64) ([] : List Int), .v .bool false]) [] :=
  SC_of_run cfgOK (its := [.res (.s (.v .bool false)) [] [] []])
    (ps := [SC cfg.P i_spec_wdGood [.s (.v (.sl (.int .i64)) a0)] (.s (.v .bool false)) []]) (by kernel_rfl) ⟨h1, trivial⟩ get_spec_wdIf (by decide)

/-! ### spec_foWord -/


def spec_foWord_L0a (x4 : Int) (x9 : (List ByteArray)) (x10 : Int) (x11 : Int) (xo3 : (List Int)) : St := mkSt 35 [(3, .s (.osl 3 0)), (4, .s (.v (.int .i64) x4)), (9, .s (.v (.sl .str) x9)), (10, .s (.v (.int .i64) x10)), (11, .s (.v (.int .i64) x11))] [(3, .row t_int (.int .i64) xo3 0 false)]

def spec_foWord_L1a (x4 : Int) (x9 : (List ByteArray)) (x10 : Int) (x11 : Int) (x17 : Int) (x18 : Int) (xo3 : (List Int)) (xo16 : (List Int)) : St := mkSt 35 [(3, .s (.osl 3 0)), (4, .s (.v (.int .i64) x4)), (9, .s (.v (.sl .str) x9)), (10, .s (.v (.int .i64) x10)), (11, .s (.v (.int .i64) x11)), (16, .s (.osl 16 0)), (17, .s (.v (.int .i64) x17)), (18, .s (.v (.int .i64) x18))] [(3, .row t_int (.int .i64) xo3 0 false), (16, .row t_int (.int .i64) xo16 0 false)]

def spec_foWord_L2a (x4 : Int) (x8 : Int) (x9 : (List ByteArray)) (x10 : Int) (x11 : Int) (x17 : Int) (x18 : Int) (xo3 : (List Int)) (xo16 : (List Int)) : St := mkSt 35 [(3, .s (.osl 3 0)), (4, .s (.v (.int .i64) x4)), (8, .s (.v (.int .i64) x8)), (9, .s (.v (.sl .str) x9)), (10, .s (.v (.int .i64) x10)), (11, .s (.v (.int .i64) x11)), (16, .s (.osl 16 0)), (17, .s (.v (.int .i64) x17)), (18, .s (.v (.int .i64) x18))] [(3, .row t_int (.int .i64) xo3 0 false), (16, .row t_int (.int .i64) xo16 0 false)]

def spec_foWord_L2X1 (y4 : Int) (y8 : Int) (y9 : (List ByteArray)) (y10 : Int) (y11 : Int) (y17 : Int) (y18 : Int) (y25 : Bool) (yo3 : (List Int)) (yo16 : (List Int)) : St := mkSt 35 [(3, .s (.osl 3 0)), (4, .s (.v (.int .i64) y4)), (8, .s (.v (.int .i64) y8)), (9, .s (.v (.sl .str) y9)), (10, .s (.v (.int .i64) y10)), (11, .s (.v (.int .i64) y11)), (16, .s (.osl 16 0)), (17, .s (.v (.int .i64) y17)), (18, .s (.v (.int .i64) y18)), (25, .s (.v .bool y25))] [(3, .row t_int (.int .i64) yo3 0 false), (16, .row t_int (.int .i64) yo16 0 false)]

def spec_foWord_L1X1 (y4 : Int) (y9 : (List ByteArray)) (y10 : Int) (y11 : Int) (y17 : Int) (y18 : Int) (y19 : Bool) (yo3 : (List Int)) (yo16 : (List Int)) : St := mkSt 35 [(3, .s (.osl 3 0)), (4, .s (.v (.int .i64) y4)), (9, .s (.v (.sl .str) y9)), (10, .s (.v (.int .i64) y10)), (11, .s (.v (.int .i64) y11)), (16, .s (.osl 16 0)), (17, .s (.v (.int .i64) y17)), (18, .s (.v (.int .i64) y18)), (19, .s (.v .bool y19))] [(3, .row t_int (.int .i64) yo3 0 false), (16, .row t_int (.int .i64) yo16 0 false)]

def spec_foWord_L0X1 (y4 : Int) (y9 : (List ByteArray)) (y10 : Int) (y11 : Int) (y12 : Bool) (yo3 : (List Int)) : St := mkSt 35 [(3, .s (.osl 3 0)), (4, .s (.v (.int .i64) y4)), (9, .s (.v (.sl .str) y9)), (10, .s (.v (.int .i64) y10)), (11, .s (.v (.int .i64) y11)), (12, .s (.v .bool y12))] [(3, .row t_int (.int .i64) yo3 0 false)]

theorem spec_foWord_L0a_i1 (x4 : Int) (x9 : (List ByteArray)) (x10 : Int) (x11 : Int) (xo3 : (List Int)) (dc1 : (List Int)) (dk1y4 : Int) (dk1y9 : (List ByteArray)) (dk1y10 : Int) (dk1y11 : Int) (dk1y17 : Int) (dk1y18 : Int) (dk1y19 : Bool) (dk1yo3 : (List Int)) (dk1yo16 : (List Int))
    (h1 : x11 < x10)
    (h2 : 0 ≤ x11)
    (h3 : x11 < (List.length x9 : Int))
    (h4 : SC cfg.P i_spec_wdExponents [.s (.v .str (List.getD x9 (x11).toNat (⟨#[]⟩ : ByteArray))), .s (.v (.int .i64) (0 : Int))] (.s (.own t_int (.int .i64) dc1)) [])
    (h5 : LoopSC cfg.P 1 (lb P_spec_foWord 1) (spec_foWord_L1a x4 x9 x10 x11 ((List.length dc1 : Nat) : Int) (0 : Int) xo3 dc1) (.exit 2) (spec_foWord_L1X1 dk1y4 dk1y9 dk1y10 dk1y11 dk1y17 dk1y18 dk1y19 dk1yo3 dk1yo16))
    {e : AEx} {st : St} (next : LoopSC cfg.P 1 (lb P_spec_foWord 0) (spec_foWord_L0a dk1y4 dk1y9 dk1y10 (IntKind.wrap .i64 (dk1y11 + (1 : Int))) dk1yo3) e st) :
    LoopSC cfg.P 1 (lb P_spec_foWord 0) (spec_foWord_L0a x4 x9 x10 x11 xo3) e st :=
  loop_iter cfgOK (f := i_spec_foWord) (its := [.bool true, .res (.s (.own t_int (.int .i64) dc1)) [] [] [16], .loop (fun _ => (.exit 2, spec_foWord_L1X1 dk1y4 dk1y9 dk1y10 dk1y11 dk1y17 dk1y18 dk1y19 dk1yo3 dk1yo16))])
    (ps := [decide (x11 < x10) = true,
      0 ≤ x11,
      x11 < (List.length x9 : Int),
      SC cfg.P i_spec_wdExponents [.s (.v .str (List.getD x9 (x11).toNat (⟨#[]⟩ : ByteArray))), .s (.v (.int .i64) (0 : Int))] (.s (.own t_int (.int .i64) dc1)) [],
      LoopSC cfg.P 1 (lb P_spec_foWord 1) (spec_foWord_L1a x4 x9 x10 x11 ((List.length dc1 : Nat) : Int) (0 : Int) xo3 dc1) (.exit 2) (spec_foWord_L1X1 dk1y4 dk1y9 dk1y10 dk1y11 dk1y17 dk1y18 dk1y19 dk1yo3 dk1yo16)]) (st1 := spec_foWord_L0a dk1y4 dk1y9 dk1y10 (IntKind.wrap .i64 (dk1y11 + (1 : Int))) dk1yo3) (by kernel_rfl) ⟨(decide_eq_true h1), h2, h3, h4, h5, trivial⟩ next

theorem spec_foWord_L0a_x2 (x4 : Int) (x9 : (List ByteArray)) (x10 : Int) (x11 : Int) (xo3 : (List Int))
    (h1 : ¬ (x11 < x10)) :
    LoopSC cfg.P 1 (lb P_spec_foWord 0) (spec_foWord_L0a x4 x9 x10 x11 xo3) (.exit 0) (spec_foWord_L0X1 x4 x9 x10 x11 false xo3) :=
  loop_out cfgOK (f := i_spec_foWord) (its := [.bool false])
    (ps := [decide (x11 < x10) = false]) (by kernel_rfl) ⟨(decide_eq_false h1), trivial⟩ (fun h => by cases h)

theorem spec_foWord_L1a_i1 (x4 : Int) (x9 : (List ByteArray)) (x10 : Int) (x11 : Int) (x17 : Int) (x18 : Int) (xo3 : (List Int)) (xo16 : (List Int)) (dk1y4 : Int) (dk1y8 : Int) (dk1y9 : (List ByteArray)) (dk1y10 : Int) (dk1y11 : Int) (dk1y17 : Int) (dk1y18 : Int) (dk1y25 : Bool) (dk1yo3 : (List Int)) (dk1yo16 : (List Int))
    (h1 : x18 < x17)
    (h2 : 0 ≤ x18)
    (h3 : x18 < (List.length xo16 : Int))
    (h4 : (x18).toNat < List.length xo16)
    (h5 : LoopSC cfg.P 1 (lb P_spec_foWord 2) (spec_foWord_L2a (IntKind.wrap .i64 (x4 + (1 : Int))) (List.getD xo16 (x18).toNat (0 : Int)) x9 x10 x11 x17 x18 xo3 xo16) (.exit 4) (spec_foWord_L2X1 dk1y4 dk1y8 dk1y9 dk1y10 dk1y11 dk1y17 dk1y18 dk1y25 dk1yo3 dk1yo16))
    {e : AEx} {st : St} (next : LoopSC cfg.P 1 (lb P_spec_foWord 1) (spec_foWord_L1a dk1y4 dk1y9 dk1y10 dk1y11 dk1y17 (IntKind.wrap .i64 (dk1y18 + (1 : Int))) dk1yo3 dk1yo16) e st) :
    LoopSC cfg.P 1 (lb P_spec_foWord 1) (spec_foWord_L1a x4 x9 x10 x11 x17 x18 xo3 xo16) e st :=
  loop_iter cfgOK (f := i_spec_foWord) (its := [.bool true, .loop (fun _ => (.exit 4, spec_foWord_L2X1 dk1y4 dk1y8 dk1y9 dk1y10 dk1y11 dk1y17 dk1y18 dk1y25 dk1yo3 dk1yo16))])
    (ps := [decide (x18 < x17) = true,
      0 ≤ x18,
      x18 < (List.length xo16 : Int),
      (x18).toNat < List.length xo16,
      LoopSC cfg.P 1 (lb P_spec_foWord 2) (spec_foWord_L2a (IntKind.wrap .i64 (x4 + (1 : Int))) (List.getD xo16 (x18).toNat (0 : Int)) x9 x10 x11 x17 x18 xo3 xo16) (.exit 4) (spec_foWord_L2X1 dk1y4 dk1y8 dk1y9 dk1y10 dk1y11 dk1y17 dk1y18 dk1y25 dk1yo3 dk1yo16)]) (st1 := spec_foWord_L1a dk1y4 dk1y9 dk1y10 dk1y11 dk1y17 (IntKind.wrap .i64 (dk1y18 + (1 : Int))) dk1yo3 dk1yo16) (by kernel_rfl) ⟨(decide_eq_true h1), h2, h3, h4, h5, trivial⟩ next

theorem spec_foWord_L1a_x2 (x4 : Int) (x9 : (List ByteArray)) (x10 : Int) (x11 : Int) (x17 : Int) (x18 : Int) (xo3 : (List Int)) (xo16 : (List Int))
    (h1 : ¬ (x18 < x17)) :
    LoopSC cfg.P 1 (lb P_spec_foWord 1) (spec_foWord_L1a x4 x9 x10 x11 x17 x18 xo3 xo16) (.exit 2) (spec_foWord_L1X1 x4 x9 x10 x11 x17 x18 false xo3 xo16) :=
  loop_out cfgOK (f := i_spec_foWord) (its := [.bool false])
    (ps := [decide (x18 < x17) = false]) (by kernel_rfl) ⟨(decide_eq_false h1), trivial⟩ (fun h => by cases h)

theorem spec_foWord_L2a_i1 (x4 : Int) (x8 : Int) (x9 : (List ByteArray)) (x10 : Int) (x11 : Int) (x17 : Int) (x18 : Int) (xo3 : (List Int)) (xo16 : (List Int))
    (h1 : x8 > (0 : Int))
    (h2 : sizeOK (List.length xo3 + List.length ([x4] : List Int)))
    {e : AEx} {st : St} (next : LoopSC cfg.P 1 (lb P_spec_foWord 2) (spec_foWord_L2a x4 (IntKind.wrap .i64 (x8 - (1 : Int))) x9 x10 x11 x17 x18 (xo3 ++ ([x4] : List Int)) xo16) e st) :
    LoopSC cfg.P 1 (lb P_spec_foWord 2) (spec_foWord_L2a x4 x8 x9 x10 x11 x17 x18 xo3 xo16) e st :=
  loop_iter cfgOK (f := i_spec_foWord) (its := [.bool true])
    (ps := [decide (x8 > (0 : Int)) = true,
      sizeOK (List.length xo3 + List.length ([x4] : List Int))]) (st1 := spec_foWord_L2a x4 (IntKind.wrap .i64 (x8 - (1 : Int))) x9 x10 x11 x17 x18 (xo3 ++ ([x4] : List Int)) xo16) (by kernel_rfl) ⟨(decide_eq_true h1), h2, trivial⟩ next

theorem spec_foWord_L2a_x2 (x4 : Int) (x8 : Int) (x9 : (List ByteArray)) (x10 : Int) (x11 : Int) (x17 : Int) (x18 : Int) (xo3 : (List Int)) (xo16 : (List Int))
    (h1 : ¬ (x8 > (0 : Int))) :
    LoopSC cfg.P 1 (lb P_spec_foWord 2) (spec_foWord_L2a x4 x8 x9 x10 x11 x17 x18 xo3 xo16) (.exit 4) (spec_foWord_L2X1 x4 x8 x9 x10 x11 x17 x18 false xo3 xo16) :=
  loop_out cfgOK (f := i_spec_foWord) (its := [.bool false])
    (ps := [decide (x8 > (0 : Int)) = false]) (by kernel_rfl) ⟨(decide_eq_false h1), trivial⟩ (fun h => by cases h)

theorem spec_foWord_p1 (a0 : (List ByteArray)) (k1y4 : Int) (k1y9 : (List ByteArray)) (k1y10 : Int) (k1y11 : Int) (k1y12 : Bool) (k1yo3 : (List Int))
    (h1 : LoopSC cfg.P 1 (lb P_spec_foWord 0) (spec_foWord_L0a (0 : Int) a0 ((List.length a0 : Nat) : Int) (0 : Int) ([] : List Int)) (.exit 0) (spec_foWord_L0X1 k1y4 k1y9 k1y10 k1y11 k1y12 k1yo3)) :
    SC cfg.P i_spec_foWord [.s (.v (.sl .str) a0)] (.s (.own t_int (.int .i64) k1yo3)) [] :=
  SC_of_run cfgOK (its := [.loop (fun _ => (.exit 0, spec_foWord_L0X1 k1y4 k1y9 k1y10 k1y11 k1y12 k1yo3))])
    (ps := [LoopSC cfg.P 1 (lb P_spec_foWord 0) (spec_foWord_L0a (0 : Int) a0 ((List.length a0 : Nat) : Int) (0 : Int) ([] : List Int)) (.exit 0) (spec_foWord_L0X1 k1y4 k1y9 k1y10 k1y11 k1y12 k1yo3)]) (by kernel_rfl) ⟨h1, trivial⟩ get_spec_foWord (by decide)

/-! ### impl_node_climbs -/


theorem impl_node_climbs_p1 (a1 : Int)
     :
    SC cfg.P i_impl_node_climbs [.s (.v .tree Tr.leaf), .s (.v (.int .i64) a1)] (.s (.own t_int (.int .i64) ([a1] : List Int))) [] :=
  SC_of_run cfgOK (its := [.bool true])
    (ps := [Tr.leaf.isLeaf = true]) (by kernel_rfl) ⟨rfl, trivial⟩ get_impl_node_climbs (by decide)

theorem impl_node_climbs_p2 (a0l : Tr) (a0r : Tr) (a1 : Int) (c1 : (List Int)) (c2 : (List Int))
    (h1 : SC cfg.P i_impl_node_climbs [.s (.v .tree a0l), .s (.v (.int .i64) (IntKind.wrap .i64 (a1 + (1 : Int))))] (.s (.own t_int (.int .i64) c1)) [])
    (h2 : SC cfg.P i_impl_node_climbs [.s (.v .tree a0r), .s (.v (.int .i64) (0 : Int))] (.s (.own t_int (.int .i64) c2)) [])
    (h3 : sizeOK (List.length c1 + List.length c2)) :
    SC cfg.P i_impl_node_climbs [.s (.v .tree (Tr.node a0l a0r)), .s (.v (.int .i64) a1)] (.s (.own t_int (.int .i64) (c1 ++ c2))) [] :=
  SC_of_run cfgOK (its := [.bool false, .res (.s (.own t_int (.int .i64) c1)) [] [] [15], .res (.s (.own t_int (.int .i64) c2)) [] [] [20]])
    (ps := [(Tr.node a0l a0r).isLeaf = false,
      SC cfg.P i_impl_node_climbs [.s (.v .tree a0l), .s (.v (.int .i64) (IntKind.wrap .i64 (a1 + (1 : Int))))] (.s (.own t_int (.int .i64) c1)) [],
      SC cfg.P i_impl_node_climbs [.s (.v .tree a0r), .s (.v (.int .i64) (0 : Int))] (.s (.own t_int (.int .i64) c2)) [],
      sizeOK (List.length c1 + List.length c2)]) (by kernel_rfl) ⟨rfl, h1, h2, h3, trivial⟩ get_impl_node_climbs (by decide)

/-! ### impl_madeWord -/


theorem impl_madeWord_p1 (a0 : (List Int))
    (h1 : SC cfg.P i_impl_IsWord [.s (.v (.sl (.int .i64)) a0)] (.s (.v .bool true)) []) :
    SC cfg.P i_impl_madeWord [.s (.v (.sl (.int .i64)) a0)] (.tup [.v (.sl (.int .i64)) a0, .v .bool true]) [] :=
  SC_of_run cfgOK (its := [.res (.s (.v .bool true)) [] [] []])
    (ps := [SC cfg.P i_impl_IsWord [.s (.v (.sl (.int .i64)) a0)] (.s (.v .bool true)) []]) (by kernel_rfl) ⟨h1, trivial⟩ get_impl_madeWord (by decide)

theorem impl_madeWord_p2 (a0 : (List Int))
    (h1 : SC cfg.P i_impl_IsWord [.s (.v (.sl (.int .i64)) a0)] (.s (.v .bool false)) []) :
    SC cfg.P i_impl_madeWord [.s (.v (.sl (.int .i64)) a0)] (.tup [.own t_int (.int .i64) ([] : List Int), .v .bool false]) [] :=
  SC_of_run cfgOK (its := [.res (.s (.v .bool false)) [] [] []])
    (ps := [SC cfg.P i_impl_IsWord [.s (.v (.sl (.int .i64)) a0)] (.s (.v .bool false)) []]) (by kernel_rfl) ⟨h1, trivial⟩ get_impl_madeWord (by decide)

/-! ### impl_wordOf -/


def impl_wordOf_L0a (x6 : (List Int)) (x7 : Int) (x8 : Int) (xo3 : (List Int)) : St := mkSt 24 [(3, .s (.osl 3 0)), (6, .s (.v (.sl (.int .i64)) x6)), (7, .s (.v (.int .i64) x7)), (8, .s (.v (.int .i64) x8))] [(3, .row t_int (.int .i64) xo3 0 false)]

def impl_wordOf_L1a (x4 : Int) (x6 : (List Int)) (x7 : Int) (x8 : Int) (x13 : Int) (x14 : Int) (xo3 : (List Int)) : St := mkSt 24 [(3, .s (.osl 3 0)), (4, .s (.v (.int .i64) x4)), (6, .s (.v (.sl (.int .i64)) x6)), (7, .s (.v (.int .i64) x7)), (8, .s (.v (.int .i64) x8)), (13, .s (.v (.int .i64) x13)), (14, .s (.v (.int .i64) x14))] [(3, .row t_int (.int .i64) xo3 0 false)]

def impl_wordOf_L1X1 (y4 : Int) (y6 : (List Int)) (y7 : Int) (y8 : Int) (y13 : Int) (y14 : Int) (y15 : Bool) (yo3 : (List Int)) : St := mkSt 24 [(3, .s (.osl 3 0)), (4, .s (.v (.int .i64) y4)), (6, .s (.v (.sl (.int .i64)) y6)), (7, .s (.v (.int .i64) y7)), (8, .s (.v (.int .i64) y8)), (13, .s (.v (.int .i64) y13)), (14, .s (.v (.int .i64) y14)), (15, .s (.v .bool y15))] [(3, .row t_int (.int .i64) yo3 0 false)]

def impl_wordOf_L0X1 (y6 : (List Int)) (y7 : Int) (y8 : Int) (y9 : Bool) (yo3 : (List Int)) : St := mkSt 24 [(3, .s (.osl 3 0)), (6, .s (.v (.sl (.int .i64)) y6)), (7, .s (.v (.int .i64) y7)), (8, .s (.v (.int .i64) y8)), (9, .s (.v .bool y9))] [(3, .row t_int (.int .i64) yo3 0 false)]

theorem impl_wordOf_L0a_i1 (x6 : (List Int)) (x7 : Int) (x8 : Int) (xo3 : (List Int)) (dk1y4 : Int) (dk1y6 : (List Int)) (dk1y7 : Int) (dk1y8 : Int) (dk1y13 : Int) (dk1y14 : Int) (dk1y15 : Bool) (dk1yo3 : (List Int))
    (h1 : x8 < x7)
    (h2 : 0 ≤ x8)
    (h3 : x8 < (List.length x6 : Int))
    (h4 : LoopSC cfg.P 1 (lb P_impl_wordOf 1) (impl_wordOf_L1a x8 x6 x7 x8 (List.getD x6 (x8).toNat (0 : Int)) (0 : Int) xo3) (.exit 2) (impl_wordOf_L1X1 dk1y4 dk1y6 dk1y7 dk1y8 dk1y13 dk1y14 dk1y15 dk1yo3))
    {e : AEx} {st : St} (next : LoopSC cfg.P 1 (lb P_impl_wordOf 0) (impl_wordOf_L0a dk1y6 dk1y7 (IntKind.wrap .i64 (dk1y8 + (1 : Int))) dk1yo3) e st) :
    LoopSC cfg.P 1 (lb P_impl_wordOf 0) (impl_wordOf_L0a x6 x7 x8 xo3) e st :=
  loop_iter cfgOK (f := i_impl_wordOf) (its := [.bool true, .loop (fun _ => (.exit 2, impl_wordOf_L1X1 dk1y4 dk1y6 dk1y7 dk1y8 dk1y13 dk1y14 dk1y15 dk1yo3))])
    (ps := [decide (x8 < x7) = true,
      0 ≤ x8,
      x8 < (List.length x6 : Int),
      LoopSC cfg.P 1 (lb P_impl_wordOf 1) (impl_wordOf_L1a x8 x6 x7 x8 (List.getD x6 (x8).toNat (0 : Int)) (0 : Int) xo3) (.exit 2) (impl_wordOf_L1X1 dk1y4 dk1y6 dk1y7 dk1y8 dk1y13 dk1y14 dk1y15 dk1yo3)]) (st1 := impl_wordOf_L0a dk1y6 dk1y7 (IntKind.wrap .i64 (dk1y8 + (1 : Int))) dk1yo3) (by kernel_rfl) ⟨(decide_eq_true h1), h2, h3, h4, trivial⟩ next

theorem impl_wordOf_L0a_x2 (x6 : (List Int)) (x7 : Int) (x8 : Int) (xo3 : (List Int))
    (h1 : ¬ (x8 < x7)) :
    LoopSC cfg.P 1 (lb P_impl_wordOf 0) (impl_wordOf_L0a x6 x7 x8 xo3) (.exit 0) (impl_wordOf_L0X1 x6 x7 x8 false xo3) :=
  loop_out cfgOK (f := i_impl_wordOf) (its := [.bool false])
    (ps := [decide (x8 < x7) = false]) (by kernel_rfl) ⟨(decide_eq_false h1), trivial⟩ (fun h => by cases h)

theorem impl_wordOf_L1a_i1 (x4 : Int) (x6 : (List Int)) (x7 : Int) (x8 : Int) (x13 : Int) (x14 : Int) (xo3 : (List Int))
    (h1 : x14 < x13)
    (h2 : sizeOK (List.length xo3 + List.length ([(IntKind.wrap .i64 (x4 + (1 : Int)))] : List Int)))
    {e : AEx} {st : St} (next : LoopSC cfg.P 1 (lb P_impl_wordOf 1) (impl_wordOf_L1a x4 x6 x7 x8 x13 (IntKind.wrap .i64 (x14 + (1 : Int))) (xo3 ++ ([(IntKind.wrap .i64 (x4 + (1 : Int)))] : List Int))) e st) :
    LoopSC cfg.P 1 (lb P_impl_wordOf 1) (impl_wordOf_L1a x4 x6 x7 x8 x13 x14 xo3) e st :=
  loop_iter cfgOK (f := i_impl_wordOf) (its := [.bool true])
    (ps := [decide (x14 < x13) = true,
      sizeOK (List.length xo3 + List.length ([(IntKind.wrap .i64 (x4 + (1 : Int)))] : List Int))]) (st1 := impl_wordOf_L1a x4 x6 x7 x8 x13 (IntKind.wrap .i64 (x14 + (1 : Int))) (xo3 ++ ([(IntKind.wrap .i64 (x4 + (1 : Int)))] : List Int))) (by kernel_rfl) ⟨(decide_eq_true h1), h2, trivial⟩ next

theorem impl_wordOf_L1a_x2 (x4 : Int) (x6 : (List Int)) (x7 : Int) (x8 : Int) (x13 : Int) (x14 : Int) (xo3 : (List Int))
    (h1 : ¬ (x14 < x13)) :
    LoopSC cfg.P 1 (lb P_impl_wordOf 1) (impl_wordOf_L1a x4 x6 x7 x8 x13 x14 xo3) (.exit 2) (impl_wordOf_L1X1 x4 x6 x7 x8 x13 x14 false xo3) :=
  loop_out cfgOK (f := i_impl_wordOf) (its := [.bool false])
    (ps := [decide (x14 < x13) = false]) (by kernel_rfl) ⟨(decide_eq_false h1), trivial⟩ (fun h => by cases h)

theorem impl_wordOf_p1 (a0 : (List Int)) (k1y6 : (List Int)) (k1y7 : Int) (k1y8 : Int) (k1y9 : Bool) (k1yo3 : (List Int))
    (h1 : LoopSC cfg.P 1 (lb P_impl_wordOf 0) (impl_wordOf_L0a a0 ((List.length a0 : Nat) : Int) (0 : Int) ([] : List Int)) (.exit 0) (impl_wordOf_L0X1 k1y6 k1y7 k1y8 k1y9 k1yo3)) :
    SC cfg.P i_impl_wordOf [.s (.v (.sl (.int .i64)) a0)] (.s (.own t_int (.int .i64) k1yo3)) [] :=
  SC_of_run cfgOK (its := [.loop (fun _ => (.exit 0, impl_wordOf_L0X1 k1y6 k1y7 k1y8 k1y9 k1yo3))])
    (ps := [LoopSC cfg.P 1 (lb P_impl_wordOf 0) (impl_wordOf_L0a a0 ((List.length a0 : Nat) : Int) (0 : Int) ([] : List Int)) (.exit 0) (impl_wordOf_L0X1 k1y6 k1y7 k1y8 k1y9 k1yo3)]) (by kernel_rfl) ⟨h1, trivial⟩ get_impl_wordOf (by decide)

/-! ### spec_wdGood -/


theorem spec_wdGood_p1 (a0 : (List Int)) (c1 : Bool)
    (h1 : ((List.length a0 : Nat) : Int) ≤ (20 : Int))
    (h2 : SC cfg.P i_spec_wdIs [.s (.v (.sl (.int .i64)) a0), .s (.v (.int .i64) (20 : Int))] (.s (.v .bool c1)) []) :
    SC cfg.P i_spec_wdGood [.s (.v (.sl (.int .i64)) a0)] (.s (.v .bool c1)) [] :=
  SC_of_run cfgOK (its := [.bool true, .res (.s (.v .bool c1)) [] [] []])
    (ps := [decide (((List.length a0 : Nat) : Int) ≤ (20 : Int)) = true,
      SC cfg.P i_spec_wdIs [.s (.v (.sl (.int .i64)) a0), .s (.v (.int .i64) (20 : Int))] (.s (.v .bool c1)) []]) (by kernel_rfl) ⟨(decide_eq_true h1), h2, trivial⟩ get_spec_wdGood (by decide)

theorem spec_wdGood_p2 (a0 : (List Int))
    (h1 : ¬ (((List.length a0 : Nat) : Int) ≤ (20 : Int))) :
    SC cfg.P i_spec_wdGood [.s (.v (.sl (.int .i64)) a0)] (.s (.v .bool false)) [] :=
  SC_of_run cfgOK (its := [.bool false])
    (ps := [decide (((List.length a0 : Nat) : Int) ≤ (20 : Int)) = false]) (by kernel_rfl) ⟨(decide_eq_false h1), trivial⟩ get_spec_wdGood (by decide)

/-! ### impl_IsWord -/


def impl_IsWord_L0a (x0 : (List Int)) (x5 : (List Int)) (x6 : Int) (x7 : Int) : St := mkSt 18 [(0, .s (.v (.sl (.int .i64)) x0)), (5, .s (.v (.sl (.int .i64)) x5)), (6, .s (.v (.int .i64) x6)), (7, .s (.v (.int .i64) x7))] []

def impl_IsWord_L0X1 (y2 : Bool) : St := mkSt 18 [(2, .s (.v .bool y2))] []

def impl_IsWord_L0X2 (y0 : (List Int)) (y5 : (List Int)) (y6 : Int) (y7 : Int) (y8 : Bool) : St := mkSt 18 [(0, .s (.v (.sl (.int .i64)) y0)), (5, .s (.v (.sl (.int .i64)) y5)), (6, .s (.v (.int .i64) y6)), (7, .s (.v (.int .i64) y7)), (8, .s (.v .bool y8))] []

theorem impl_IsWord_L0a_i1 (x0 : (List Int)) (x5 : (List Int)) (x6 : Int) (x7 : Int)
    (h1 : x7 < x6)
    (h2 : 0 ≤ x7)
    (h3 : x7 < (List.length x5 : Int))
    (h4 : SC cfg.P i_impl_isLetter [.s (.v (.int .i64) (List.getD x5 (x7).toNat (0 : Int)))] (.s (.v .bool true)) [])
    {e : AEx} {st : St} (next : LoopSC cfg.P 1 (lb P_impl_IsWord 0) (impl_IsWord_L0a x0 x5 x6 (IntKind.wrap .i64 (x7 + (1 : Int)))) e st) :
    LoopSC cfg.P 1 (lb P_impl_IsWord 0) (impl_IsWord_L0a x0 x5 x6 x7) e st :=
  loop_iter cfgOK (f := i_impl_IsWord) (its := [.bool true, .res (.s (.v .bool true)) [] [] []])
    (ps := [decide (x7 < x6) = true,
      0 ≤ x7,
      x7 < (List.length x5 : Int),
      SC cfg.P i_impl_isLetter [.s (.v (.int .i64) (List.getD x5 (x7).toNat (0 : Int)))] (.s (.v .bool true)) []]) (st1 := impl_IsWord_L0a x0 x5 x6 (IntKind.wrap .i64 (x7 + (1 : Int)))) (by kernel_rfl) ⟨(decide_eq_true h1), h2, h3, h4, trivial⟩ next

theorem impl_IsWord_L0a_x2 (x0 : (List Int)) (x5 : (List Int)) (x6 : Int) (x7 : Int)
    (h1 : x7 < x6)
    (h2 : 0 ≤ x7)
    (h3 : x7 < (List.length x5 : Int))
    (h4 : SC cfg.P i_impl_isLetter [.s (.v (.int .i64) (List.getD x5 (x7).toNat (0 : Int)))] (.s (.v .bool false)) []) :
    LoopSC cfg.P 1 (lb P_impl_IsWord 0) (impl_IsWord_L0a x0 x5 x6 x7) (.ret) (impl_IsWord_L0X1 false) :=
  loop_out cfgOK (f := i_impl_IsWord) (its := [.bool true, .res (.s (.v .bool false)) [] [] []])
    (ps := [decide (x7 < x6) = true,
      0 ≤ x7,
      x7 < (List.length x5 : Int),
      SC cfg.P i_impl_isLetter [.s (.v (.int .i64) (List.getD x5 (x7).toNat (0 : Int)))] (.s (.v .bool false)) []]) (by kernel_rfl) ⟨(decide_eq_true h1), h2, h3, h4, trivial⟩ (fun h => by cases h)

theorem impl_IsWord_L0a_x3 (x0 : (List Int)) (x5 : (List Int)) (x6 : Int) (x7 : Int)
    (h1 : ¬ (x7 < x6)) :
    LoopSC cfg.P 1 (lb P_impl_IsWord 0) (impl_IsWord_L0a x0 x5 x6 x7) (.exit 0) (impl_IsWord_L0X2 x0 x5 x6 x7 false) :=
  loop_out cfgOK (f := i_impl_IsWord) (its := [.bool false])
    (ps := [decide (x7 < x6) = false]) (by kernel_rfl) ⟨(decide_eq_false h1), trivial⟩ (fun h => by cases h)

theorem impl_IsWord_p1 (a0 : (List Int)) (k1y2 : Bool)
    (h1 : LoopSC cfg.P 1 (lb P_impl_IsWord 0) (impl_IsWord_L0a a0 a0 ((List.length a0 : Nat) : Int) (0 : Int)) (.ret) (impl_IsWord_L0X1 k1y2)) :
    SC cfg.P i_impl_IsWord [.s (.v (.sl (.int .i64)) a0)] (.s (.v .bool k1y2)) [] :=
  SC_of_run cfgOK (its := [.loop (fun _ => (.ret, impl_IsWord_L0X1 k1y2))])
    (ps := [LoopSC cfg.P 1 (lb P_impl_IsWord 0) (impl_IsWord_L0a a0 a0 ((List.length a0 : Nat) : Int) (0 : Int)) (.ret) (impl_IsWord_L0X1 k1y2)]) (by kernel_rfl) ⟨h1, trivial⟩ get_impl_IsWord (by decide)

theorem impl_IsWord_p2 (a0 : (List Int)) (k1y0 : (List Int)) (k1y5 : (List Int)) (k1y6 : Int) (k1y7 : Int) (k1y8 : Bool)
    (h1 : LoopSC cfg.P 1 (lb P_impl_IsWord 0) (impl_IsWord_L0a a0 a0 ((List.length a0 : Nat) : Int) (0 : Int)) (.exit 0) (impl_IsWord_L0X2 k1y0 k1y5 k1y6 k1y7 k1y8))
    (h2 : ((List.length k1y0 : Nat) : Int) ≤ (20 : Int)) :
    SC cfg.P i_impl_IsWord [.s (.v (.sl (.int .i64)) a0)] (.s (.v .bool true)) [] :=
  SC_of_run cfgOK (its := [.loop (fun _ => (.exit 0, impl_IsWord_L0X2 k1y0 k1y5 k1y6 k1y7 k1y8)), .bool true])
    (ps := [LoopSC cfg.P 1 (lb P_impl_IsWord 0) (impl_IsWord_L0a a0 a0 ((List.length a0 : Nat) : Int) (0 : Int)) (.exit 0) (impl_IsWord_L0X2 k1y0 k1y5 k1y6 k1y7 k1y8),
      decide (((List.length k1y0 : Nat) : Int) ≤ (20 : Int)) = true]) (by kernel_rfl) ⟨h1, (decide_eq_true h2), trivial⟩ get_impl_IsWord (by decide)

theorem impl_IsWord_p3 (a0 : (List Int)) (k1y0 : (List Int)) (k1y5 : (List Int)) (k1y6 : Int) (k1y7 : Int) (k1y8 : Bool)
    (h1 : LoopSC cfg.P 1 (lb P_impl_IsWord 0) (impl_IsWord_L0a a0 a0 ((List.length a0 : Nat) : Int) (0 : Int)) (.exit 0) (impl_IsWord_L0X2 k1y0 k1y5 k1y6 k1y7 k1y8))
    (h2 : ¬ (((List.length k1y0 : Nat) : Int) ≤ (20 : Int))) :
    SC cfg.P i_impl_IsWord [.s (.v (.sl (.int .i64)) a0)] (.s (.v .bool false)) [] :=
  SC_of_run cfgOK (its := [.loop (fun _ => (.exit 0, impl_IsWord_L0X2 k1y0 k1y5 k1y6 k1y7 k1y8)), .bool false])
    (ps := [LoopSC cfg.P 1 (lb P_impl_IsWord 0) (impl_IsWord_L0a a0 a0 ((List.length a0 : Nat) : Int) (0 : Int)) (.exit 0) (impl_IsWord_L0X2 k1y0 k1y5 k1y6 k1y7 k1y8),
      decide (((List.length k1y0 : Nat) : Int) ≤ (20 : Int)) = false]) (by kernel_rfl) ⟨h1, (decide_eq_false h2), trivial⟩ get_impl_IsWord (by decide)

/-! ### spec_wdExponents -/


theorem spec_wdExponents_p1 (a0 : ByteArray) (a1 : Int)
    (h1 : SC cfg.P i_spec_trLeaf [.s (.v .str a0)] (.s (.v .bool true)) []) :
    SC cfg.P i_spec_wdExponents [.s (.v .str a0), .s (.v (.int .i64) a1)] (.s (.own t_int (.int .i64) ([a1] : List Int))) [] :=
  SC_of_run cfgOK (its := [.res (.s (.v .bool true)) [] [] []])
    (ps := [SC cfg.P i_spec_trLeaf [.s (.v .str a0)] (.s (.v .bool true)) []]) (by kernel_rfl) ⟨h1, trivial⟩ get_spec_wdExponents (by decide)

theorem spec_wdExponents_p2 (a0 : ByteArray) (a1 : Int) (c2a : ByteArray) (c2b : ByteArray) (c3 : (List Int)) (c4 : (List Int))
    (h1 : SC cfg.P i_spec_trLeaf [.s (.v .str a0)] (.s (.v .bool false)) [])
    (h2 : SC cfg.P i_spec_trSides [.s (.v .str a0)] (.tup [.v .str c2a, .v .str c2b]) [])
    (h3 : SC cfg.P i_spec_wdExponents [.s (.v .str c2a), .s (.v (.int .i64) (IntKind.wrap .i64 (a1 + (1 : Int))))] (.s (.own t_int (.int .i64) c3)) [])
    (h4 : SC cfg.P i_spec_wdExponents [.s (.v .str c2b), .s (.v (.int .i64) (0 : Int))] (.s (.own t_int (.int .i64) c4)) [])
    (h5 : sizeOK (List.length c3 + List.length c4)) :
    SC cfg.P i_spec_wdExponents [.s (.v .str a0), .s (.v (.int .i64) a1)] (.s (.own t_int (.int .i64) (c3 ++ c4))) [] :=
  SC_of_run cfgOK (its := [.res (.s (.v .bool false)) [] [] [], .res (.tup [.v .str c2a, .v .str c2b]) [] [] [], .res (.s (.own t_int (.int .i64) c3)) [] [] [19], .res (.s (.own t_int (.int .i64) c4)) [] [] [21]])
    (ps := [SC cfg.P i_spec_trLeaf [.s (.v .str a0)] (.s (.v .bool false)) [],
      SC cfg.P i_spec_trSides [.s (.v .str a0)] (.tup [.v .str c2a, .v .str c2b]) [],
      SC cfg.P i_spec_wdExponents [.s (.v .str c2a), .s (.v (.int .i64) (IntKind.wrap .i64 (a1 + (1 : Int))))] (.s (.own t_int (.int .i64) c3)) [],
      SC cfg.P i_spec_wdExponents [.s (.v .str c2b), .s (.v (.int .i64) (0 : Int))] (.s (.own t_int (.int .i64) c4)) [],
      sizeOK (List.length c3 + List.length c4)]) (by kernel_rfl) ⟨h1, h2, h3, h4, h5, trivial⟩ get_spec_wdExponents (by decide)

/-! ### spec_wdIs -/


def spec_wdIs_L0a (x1 : Int) (x7 : (List Int)) (x8 : Int) (x9 : Int) : St := mkSt 26 [(1, .s (.v (.int .i64) x1)), (7, .s (.v (.sl (.int .i64)) x7)), (8, .s (.v (.int .i64) x8)), (9, .s (.v (.int .i64) x9))] []

def spec_wdIs_L0X1 (y4 : Bool) : St := mkSt 26 [(4, .s (.v .bool y4))] []

def spec_wdIs_L0X2 (y1 : Int) (y7 : (List Int)) (y8 : Int) (y9 : Int) (y10 : Bool) : St := mkSt 26 [(1, .s (.v (.int .i64) y1)), (7, .s (.v (.sl (.int .i64)) y7)), (8, .s (.v (.int .i64) y8)), (9, .s (.v (.int .i64) y9)), (10, .s (.v .bool y10))] []

theorem spec_wdIs_L0a_x1 (x1 : Int) (x7 : (List Int)) (x8 : Int) (x9 : Int)
    (h1 : x9 < x8)
    (h2 : 0 ≤ x9)
    (h3 : x9 < (List.length x7 : Int))
    (h4 : (List.getD x7 (x9).toNat (0 : Int)) = (0 : Int)) :
    LoopSC cfg.P 2 (lb P_spec_wdIs 0) (spec_wdIs_L0a x1 x7 x8 x9) (.ret) (spec_wdIs_L0X1 false) :=
  loop_out cfgOK (f := i_spec_wdIs) (its := [.bool true, .bool true])
    (ps := [decide (x9 < x8) = true,
      0 ≤ x9,
      x9 < (List.length x7 : Int),
      ((List.getD x7 (x9).toNat (0 : Int)) == (0 : Int)) = true]) (by kernel_rfl) ⟨(decide_eq_true h1), h2, h3, (beq_t h4), trivial⟩ (fun h => by cases h)

theorem spec_wdIs_L0a_i2 (x1 : Int) (x7 : (List Int)) (x8 : Int) (x9 : Int)
    (h1 : x9 < x8)
    (h2 : 0 ≤ x9)
    (h3 : x9 < (List.length x7 : Int))
    (h4 : (List.getD x7 (x9).toNat (0 : Int)) ≠ (0 : Int))
    (h5 : SC cfg.P i_spec_l1In [.s (.v (.int .i64) (List.getD x7 (x9).toNat (0 : Int))), .s (.v (.int .i64) (IntKind.wrap .i64 ((IntKind.wrap .i64 (0 - x1)) - (1 : Int)))), .s (.v (.int .i64) (IntKind.wrap .i64 (x1 + (1 : Int))))] (.s (.v .bool true)) [])
    {e : AEx} {st : St} (next : LoopSC cfg.P 2 (lb P_spec_wdIs 0) (spec_wdIs_L0a x1 x7 x8 (IntKind.wrap .i64 (x9 + (1 : Int)))) e st) :
    LoopSC cfg.P 2 (lb P_spec_wdIs 0) (spec_wdIs_L0a x1 x7 x8 x9) e st :=
  loop_iter cfgOK (f := i_spec_wdIs) (its := [.bool true, .bool false, .res (.s (.v .bool true)) [] [] []])
    (ps := [decide (x9 < x8) = true,
      0 ≤ x9,
      x9 < (List.length x7 : Int),
      ((List.getD x7 (x9).toNat (0 : Int)) == (0 : Int)) = false,
      SC cfg.P i_spec_l1In [.s (.v (.int .i64) (List.getD x7 (x9).toNat (0 : Int))), .s (.v (.int .i64) (IntKind.wrap .i64 ((IntKind.wrap .i64 (0 - x1)) - (1 : Int)))), .s (.v (.int .i64) (IntKind.wrap .i64 (x1 + (1 : Int))))] (.s (.v .bool true)) []]) (st1 := spec_wdIs_L0a x1 x7 x8 (IntKind.wrap .i64 (x9 + (1 : Int)))) (by kernel_rfl) ⟨(decide_eq_true h1), h2, h3, (beq_f h4), h5, trivial⟩ next

theorem spec_wdIs_L0a_x3 (x1 : Int) (x7 : (List Int)) (x8 : Int) (x9 : Int)
    (h1 : x9 < x8)
    (h2 : 0 ≤ x9)
    (h3 : x9 < (List.length x7 : Int))
    (h4 : (List.getD x7 (x9).toNat (0 : Int)) ≠ (0 : Int))
    (h5 : SC cfg.P i_spec_l1In [.s (.v (.int .i64) (List.getD x7 (x9).toNat (0 : Int))), .s (.v (.int .i64) (IntKind.wrap .i64 ((IntKind.wrap .i64 (0 - x1)) - (1 : Int)))), .s (.v (.int .i64) (IntKind.wrap .i64 (x1 + (1 : Int))))] (.s (.v .bool false)) []) :
    LoopSC cfg.P 2 (lb P_spec_wdIs 0) (spec_wdIs_L0a x1 x7 x8 x9) (.ret) (spec_wdIs_L0X1 false) :=
  loop_out cfgOK (f := i_spec_wdIs) (its := [.bool true, .bool false, .res (.s (.v .bool false)) [] [] []])
    (ps := [decide (x9 < x8) = true,
      0 ≤ x9,
      x9 < (List.length x7 : Int),
      ((List.getD x7 (x9).toNat (0 : Int)) == (0 : Int)) = false,
      SC cfg.P i_spec_l1In [.s (.v (.int .i64) (List.getD x7 (x9).toNat (0 : Int))), .s (.v (.int .i64) (IntKind.wrap .i64 ((IntKind.wrap .i64 (0 - x1)) - (1 : Int)))), .s (.v (.int .i64) (IntKind.wrap .i64 (x1 + (1 : Int))))] (.s (.v .bool false)) []]) (by kernel_rfl) ⟨(decide_eq_true h1), h2, h3, (beq_f h4), h5, trivial⟩ (fun h => by cases h)

theorem spec_wdIs_L0a_x4 (x1 : Int) (x7 : (List Int)) (x8 : Int) (x9 : Int)
    (h1 : ¬ (x9 < x8)) :
    LoopSC cfg.P 2 (lb P_spec_wdIs 0) (spec_wdIs_L0a x1 x7 x8 x9) (.exit 0) (spec_wdIs_L0X2 x1 x7 x8 x9 false) :=
  loop_out cfgOK (f := i_spec_wdIs) (its := [.bool false])
    (ps := [decide (x9 < x8) = false]) (by kernel_rfl) ⟨(decide_eq_false h1), trivial⟩ (fun h => by cases h)

theorem spec_wdIs_p1 (a0 : (List Int)) (a1 : Int) (k1y4 : Bool)
    (h1 : LoopSC cfg.P 2 (lb P_spec_wdIs 0) (spec_wdIs_L0a a1 a0 ((List.length a0 : Nat) : Int) (0 : Int)) (.ret) (spec_wdIs_L0X1 k1y4)) :
    SC cfg.P i_spec_wdIs [.s (.v (.sl (.int .i64)) a0), .s (.v (.int .i64) a1)] (.s (.v .bool k1y4)) [] :=
  SC_of_run cfgOK (its := [.loop (fun _ => (.ret, spec_wdIs_L0X1 k1y4))])
    (ps := [LoopSC cfg.P 2 (lb P_spec_wdIs 0) (spec_wdIs_L0a a1 a0 ((List.length a0 : Nat) : Int) (0 : Int)) (.ret) (spec_wdIs_L0X1 k1y4)]) (by kernel_rfl) ⟨h1, trivial⟩ get_spec_wdIs (by decide)

theorem spec_wdIs_p2 (a0 : (List Int)) (a1 : Int) (k1y1 : Int) (k1y7 : (List Int)) (k1y8 : Int) (k1y9 : Int) (k1y10 : Bool)
    (h1 : LoopSC cfg.P 2 (lb P_spec_wdIs 0) (spec_wdIs_L0a a1 a0 ((List.length a0 : Nat) : Int) (0 : Int)) (.exit 0) (spec_wdIs_L0X2 k1y1 k1y7 k1y8 k1y9 k1y10)) :
    SC cfg.P i_spec_wdIs [.s (.v (.sl (.int .i64)) a0), .s (.v (.int .i64) a1)] (.s (.v .bool true)) [] :=
  SC_of_run cfgOK (its := [.loop (fun _ => (.exit 0, spec_wdIs_L0X2 k1y1 k1y7 k1y8 k1y9 k1y10))])
    (ps := [LoopSC cfg.P 2 (lb P_spec_wdIs 0) (spec_wdIs_L0a a1 a0 ((List.length a0 : Nat) : Int) (0 : Int)) (.exit 0) (spec_wdIs_L0X2 k1y1 k1y7 k1y8 k1y9 k1y10)]) (by kernel_rfl) ⟨h1, trivial⟩ get_spec_wdIs (by decide)

/-! ### impl_isLetter -/


theorem impl_isLetter_p1 (a0 : Int)
    (h1 : a0 ≠ (0 : Int))
    (h2 : a0 ≥ (-21 : Int))
    (h3 : a0 ≤ (21 : Int)) :
    SC cfg.P i_impl_isLetter [.s (.v (.int .i64) a0)] (.s (.v .bool true)) [] :=
  SC_of_run cfgOK (its := [.bool true, .bool true, .bool true])
    (ps := [(a0 != (0 : Int)) = true,
      decide (a0 ≥ (-21 : Int)) = true,
      decide (a0 ≤ (21 : Int)) = true]) (by kernel_rfl) ⟨(bne_t h1), (decide_eq_true h2), (decide_eq_true h3), trivial⟩ get_impl_isLetter (by decide)

theorem impl_isLetter_p2 (a0 : Int)
    (h1 : a0 ≠ (0 : Int))
    (h2 : a0 ≥ (-21 : Int))
    (h3 : ¬ (a0 ≤ (21 : Int))) :
    SC cfg.P i_impl_isLetter [.s (.v (.int .i64) a0)] (.s (.v .bool false)) [] :=
  SC_of_run cfgOK (its := [.bool true, .bool true, .bool false])
    (ps := [(a0 != (0 : Int)) = true,
      decide (a0 ≥ (-21 : Int)) = true,
      decide (a0 ≤ (21 : Int)) = false]) (by kernel_rfl) ⟨(bne_t h1), (decide_eq_true h2), (decide_eq_false h3), trivial⟩ get_impl_isLetter (by decide)

theorem impl_isLetter_p3 (a0 : Int)
    (h1 : a0 ≠ (0 : Int))
    (h2 : ¬ (a0 ≥ (-21 : Int))) :
    SC cfg.P i_impl_isLetter [.s (.v (.int .i64) a0)] (.s (.v .bool false)) [] :=
  SC_of_run cfgOK (its := [.bool true, .bool false])
    (ps := [(a0 != (0 : Int)) = true,
      decide (a0 ≥ (-21 : Int)) = false]) (by kernel_rfl) ⟨(bne_t h1), (decide_eq_false h2), trivial⟩ get_impl_isLetter (by decide)

theorem impl_isLetter_p4 (a0 : Int)
    (h1 : a0 = (0 : Int)) :
    SC cfg.P i_impl_isLetter [.s (.v (.int .i64) a0)] (.s (.v .bool false)) [] :=
  SC_of_run cfgOK (its := [.bool false])
    (ps := [(a0 != (0 : Int)) = false]) (by kernel_rfl) ⟨(bne_f h1), trivial⟩ get_impl_isLetter (by decide)

end Go.AI
