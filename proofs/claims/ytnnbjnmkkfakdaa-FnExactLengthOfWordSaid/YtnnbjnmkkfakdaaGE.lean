/- A part of the road: what it proves stands in its last texts. -/
import Derived.Test.YtnnbjnmkkfakdaaSIds
import Derived.Test.YtnnbjnmkkfakdaaProg
set_option autoImplicit false
set_option maxRecDepth 100000
set_option linter.unusedVariables false
namespace Go.AI
open Go.Proofs

/-! ### laws_FnExactPairOfForest -/


theorem laws_FnExactPairOfForest_p1 (a0 : (List ByteArray)) (c1 : Int)
    (h1 : SC cfg.P i_laws_szStringS [.s (.v (.sl .str) a0), .s (.v (.int .i64) (1048576 : Int))] (.s (.v (.int .i64) c1)) [])
    (h2 : c1 < (0 : Int)) :
    SC cfg.P i_laws_FnExactPairOfForest [.s (.v (.sl .str) a0)] (.s (.v .bool true)) [] :=
  SC_of_run cfgOK (its := [.res (.s (.v (.int .i64) c1)) [] [] [], .bool true])
    (ps := [SC cfg.P i_laws_szStringS [.s (.v (.sl .str) a0), .s (.v (.int .i64) (1048576 : Int))] (.s (.v (.int .i64) c1)) [],
      decide (c1 < (0 : Int)) = true]) (by kernel_rfl) ⟨h1, (decide_eq_true h2), trivial⟩ get_laws_FnExactPairOfForest (by decide)

theorem laws_FnExactPairOfForest_p2 (a0 : (List ByteArray)) (c1 : Int) (c2 : (List ByteArray)) (c3a : (ByteArray × ByteArray)) (c3b : Bool) (c4 : (List ByteArray)) (c5a : (ByteArray × ByteArray)) (c5b : Bool) (c7 : (List ByteArray))
    (h1 : SC cfg.P i_laws_szStringS [.s (.v (.sl .str) a0), .s (.v (.int .i64) (1048576 : Int))] (.s (.v (.int .i64) c1)) [])
    (h2 : ¬ (c1 < (0 : Int)))
    (h3 : SC cfg.P i_laws_toStringS [.s (.v (.sl .str) a0)] (.s (.own t_string .str c2)) [])
    (h4 : SC cfg.P i_spec_PairOfForest [.s (.v (.sl .str) c2)] (.tup [.v (.pr .str .str) c3a, .v .bool c3b]) [])
    (h5 : SC cfg.P i_laws_toStringS [.s (.v (.sl .str) a0)] (.s (.own t_string .str c4)) [])
    (h6 : SC cfg.P i_impl_PairOfForest [.s (.v (.sl .str) c4)] (.tup [.v (.pr .str .str) c5a, .v .bool c5b]) [])
    (h7 : SC cfg.P i_laws_eqPair [.s (.v (.pr .str .str) c5a), .s (.v (.pr .str .str) c3a)] (.s (.v .bool true)) [])
    (h8 : (!(c5b == c3b)) = false)
    (h9 : SC cfg.P i_laws_toStringS [.s (.v (.sl .str) a0)] (.s (.own t_string .str c7)) [])
    (h10 : SC cfg.P i_laws_eqStringS [.s (.v (.sl .str) c4), .s (.v (.sl .str) c7)] (.s (.v .bool true)) []) :
    SC cfg.P i_laws_FnExactPairOfForest [.s (.v (.sl .str) a0)] (.s (.v .bool true)) [] :=
  SC_of_run cfgOK (its := [.res (.s (.v (.int .i64) c1)) [] [] [], .bool false, .res (.s (.own t_string .str c2)) [] [] [16], .res (.tup [.v (.pr .str .str) c3a, .v .bool c3b]) [] [] [], .res (.s (.own t_string .str c4)) [] [] [21], .res (.tup [.v (.pr .str .str) c5a, .v .bool c5b]) [] [] [], .res (.s (.v .bool true)) [] [] [], .bool false, .res (.s (.own t_string .str c7)) [] [] [38], .res (.s (.v .bool true)) [] [] []])
    (ps := [SC cfg.P i_laws_szStringS [.s (.v (.sl .str) a0), .s (.v (.int .i64) (1048576 : Int))] (.s (.v (.int .i64) c1)) [],
      decide (c1 < (0 : Int)) = false,
      SC cfg.P i_laws_toStringS [.s (.v (.sl .str) a0)] (.s (.own t_string .str c2)) [],
      SC cfg.P i_spec_PairOfForest [.s (.v (.sl .str) c2)] (.tup [.v (.pr .str .str) c3a, .v .bool c3b]) [],
      SC cfg.P i_laws_toStringS [.s (.v (.sl .str) a0)] (.s (.own t_string .str c4)) [],
      SC cfg.P i_impl_PairOfForest [.s (.v (.sl .str) c4)] (.tup [.v (.pr .str .str) c5a, .v .bool c5b]) [],
      SC cfg.P i_laws_eqPair [.s (.v (.pr .str .str) c5a), .s (.v (.pr .str .str) c3a)] (.s (.v .bool true)) [],
      (!(c5b == c3b)) = false,
      SC cfg.P i_laws_toStringS [.s (.v (.sl .str) a0)] (.s (.own t_string .str c7)) [],
      SC cfg.P i_laws_eqStringS [.s (.v (.sl .str) c4), .s (.v (.sl .str) c7)] (.s (.v .bool true)) []]) (by kernel_rfl) ⟨h1, (decide_eq_false h2), h3, h4, h5, h6, h7, h8, h9, h10, trivial⟩ get_laws_FnExactPairOfForest (by decide)

/-! ### spec_PairOfForest -/


theorem spec_PairOfForest_p1 (a0 : (List ByteArray)) (c2 : (ByteArray × ByteArray)) (c3a : (ByteArray × ByteArray)) (c3b : Bool)
    (h1 : SC cfg.P i_spec_foGood [.s (.v (.sl .str) a0)] (.s (.v .bool true)) [])
    (h2 : SC cfg.P i_spec_foPair [.s (.v (.sl .str) a0)] (.s (.v (.pr .str .str) c2)) [])
    (h3 : SC cfg.P i_spec_prIf [.s (.v (.pr .str .str) c2)] (.tup [.v (.pr .str .str) c3a, .v .bool c3b]) []) :
    SC cfg.P i_spec_PairOfForest [.s (.v (.sl .str) a0)] (.tup [.v (.pr .str .str) c3a, .v .bool c3b]) [] :=
  SC_of_run cfgOK (its := [.res (.s (.v .bool true)) [] [] [], .res (.s (.v (.pr .str .str) c2)) [] [] [], .res (.tup [.v (.pr .str .str) c3a, .v .bool c3b]) [] [] []])
    (ps := [SC cfg.P i_spec_foGood [.s (.v (.sl .str) a0)] (.s (.v .bool true)) [],
      SC cfg.P i_spec_foPair [.s (.v (.sl .str) a0)] (.s (.v (.pr .str .str) c2)) [],
      SC cfg.P i_spec_prIf [.s (.v (.pr .str .str) c2)] (.tup [.v (.pr .str .str) c3a, .v .bool c3b]) []]) (by kernel_rfl) ⟨h1, h2, h3, trivial⟩ get_spec_PairOfForest (by decide)

theorem spec_PairOfForest_p2 (a0 : (List ByteArray))
    (h1 : SC cfg.P i_spec_foGood [.s (.v (.sl .str) a0)] (.s (.v .bool false)) []) :
    SC cfg.P i_spec_PairOfForest [.s (.v (.sl .str) a0)] (.tup [.v (.pr .str .str) ((⟨#[]⟩ : ByteArray), (⟨#[]⟩ : ByteArray)), .v .bool false]) [] :=
  SC_of_run cfgOK (its := [.res (.s (.v .bool false)) [] [] []])
    (ps := [SC cfg.P i_spec_foGood [.s (.v (.sl .str) a0)] (.s (.v .bool false)) []]) (by kernel_rfl) ⟨h1, trivial⟩ get_spec_PairOfForest (by decide)

/-! ### impl_PairOfForest -/


theorem impl_PairOfForest_p1 (a0 : (List ByteArray)) (c1a : (List Tr)) (c2 : (Tr × Tr)) (c3a : (ByteArray × ByteArray)) (c3b : Bool)
    (h1 : SC cfg.P i_impl_forestOf [.s (.v (.sl .str) a0)] (.tup [.v (.sl .tree) c1a, .v .bool true]) [])
    (h2 : SC cfg.P i_impl_forest_pair [.s (.v (.sl .tree) c1a)] (.s (.v (.pr .tree .tree) c2)) [])
    (h3 : SC cfg.P i_impl_pair_fits [.s (.v (.pr .tree .tree) c2)] (.tup [.v (.pr .str .str) c3a, .v .bool c3b]) []) :
    SC cfg.P i_impl_PairOfForest [.s (.v (.sl .str) a0)] (.tup [.v (.pr .str .str) c3a, .v .bool c3b]) [] :=
  SC_of_run cfgOK (its := [.res (.tup [.v (.sl .tree) c1a, .v .bool true]) [] [] [], .res (.s (.v (.pr .tree .tree) c2)) [] [] [], .res (.tup [.v (.pr .str .str) c3a, .v .bool c3b]) [] [] []])
    (ps := [SC cfg.P i_impl_forestOf [.s (.v (.sl .str) a0)] (.tup [.v (.sl .tree) c1a, .v .bool true]) [],
      SC cfg.P i_impl_forest_pair [.s (.v (.sl .tree) c1a)] (.s (.v (.pr .tree .tree) c2)) [],
      SC cfg.P i_impl_pair_fits [.s (.v (.pr .tree .tree) c2)] (.tup [.v (.pr .str .str) c3a, .v .bool c3b]) []]) (by kernel_rfl) ⟨h1, h2, h3, trivial⟩ get_impl_PairOfForest (by decide)

theorem impl_PairOfForest_p2 (a0 : (List ByteArray)) (c1a : (List Tr))
    (h1 : SC cfg.P i_impl_forestOf [.s (.v (.sl .str) a0)] (.tup [.v (.sl .tree) c1a, .v .bool false]) []) :
    SC cfg.P i_impl_PairOfForest [.s (.v (.sl .str) a0)] (.tup [.v (.pr .str .str) ((⟨#[]⟩ : ByteArray), (⟨#[]⟩ : ByteArray)), .v .bool false]) [] :=
  SC_of_run cfgOK (its := [.res (.tup [.v (.sl .tree) c1a, .v .bool false]) [] [] []])
    (ps := [SC cfg.P i_impl_forestOf [.s (.v (.sl .str) a0)] (.tup [.v (.sl .tree) c1a, .v .bool false]) []]) (by kernel_rfl) ⟨h1, trivial⟩ get_impl_PairOfForest (by decide)

/-! ### spec_foPair -/


theorem spec_foPair_p1 (a0 : (List ByteArray)) (c1 : ByteArray) (c2 : Int) (c3 : ByteArray) (c4 : (ByteArray × ByteArray))
    (h1 : SC cfg.P i_spec_wdComb [.s (.v (.sl .str) a0)] (.s (.v .str c1)) [])
    (h2 : SC cfg.P i_spec_trCarets [.s (.v .str c1)] (.s (.v (.int .i64) c2)) [])
    (h3 : SC cfg.P i_spec_trRight [.s (.v (.int .i64) c2)] (.s (.v .str c3)) [])
    (h4 : SC cfg.P i_spec_prReduce [.s (.v (.pr .str .str) (c1, c3)), .s (.v (.sl (.int .i64)) ([] : List Int))] (.s (.v (.pr .str .str) c4)) []) :
    SC cfg.P i_spec_foPair [.s (.v (.sl .str) a0)] (.s (.v (.pr .str .str) c4)) [] :=
  SC_of_run cfgOK (its := [.res (.s (.v .str c1)) [] [] [], .res (.s (.v (.int .i64) c2)) [] [] [], .res (.s (.v .str c3)) [] [] [], .res (.s (.v (.pr .str .str) c4)) [] [] []])
    (ps := [SC cfg.P i_spec_wdComb [.s (.v (.sl .str) a0)] (.s (.v .str c1)) [],
      SC cfg.P i_spec_trCarets [.s (.v .str c1)] (.s (.v (.int .i64) c2)) [],
      SC cfg.P i_spec_trRight [.s (.v (.int .i64) c2)] (.s (.v .str c3)) [],
      SC cfg.P i_spec_prReduce [.s (.v (.pr .str .str) (c1, c3)), .s (.v (.sl (.int .i64)) ([] : List Int))] (.s (.v (.pr .str .str) c4)) []]) (by kernel_rfl) ⟨h1, h2, h3, h4, trivial⟩ get_spec_foPair (by decide)

/-! ### impl_forest_pair -/


theorem impl_forest_pair_p1 (a0 : (List Tr)) (c1 : Tr) (c2 : Int) (c3 : Tr) (c4 : (Tr × Tr))
    (h1 : SC cfg.P i_impl_forest_hung [.s (.v (.sl .tree) a0)] (.s (.v .tree c1)) [])
    (h2 : SC cfg.P i_impl_node_carets [.s (.v .tree c1)] (.s (.v (.int .i64) c2)) [])
    (h3 : SC cfg.P i_impl_rightComb [.s (.v (.int .i64) c2)] (.s (.v .tree c3)) [])
    (h4 : SC cfg.P i_impl_pair_reduced [.s (.v (.pr .tree .tree) (c1, c3))] (.s (.v (.pr .tree .tree) c4)) []) :
    SC cfg.P i_impl_forest_pair [.s (.v (.sl .tree) a0)] (.s (.v (.pr .tree .tree) c4)) [] :=
  SC_of_run cfgOK (its := [.res (.s (.v .tree c1)) [] [] [], .res (.s (.v (.int .i64) c2)) [] [] [], .res (.s (.v .tree c3)) [] [] [], .res (.s (.v (.pr .tree .tree) c4)) [] [] []])
    (ps := [SC cfg.P i_impl_forest_hung [.s (.v (.sl .tree) a0)] (.s (.v .tree c1)) [],
      SC cfg.P i_impl_node_carets [.s (.v .tree c1)] (.s (.v (.int .i64) c2)) [],
      SC cfg.P i_impl_rightComb [.s (.v (.int .i64) c2)] (.s (.v .tree c3)) [],
      SC cfg.P i_impl_pair_reduced [.s (.v (.pr .tree .tree) (c1, c3))] (.s (.v (.pr .tree .tree) c4)) []]) (by kernel_rfl) ⟨h1, h2, h3, h4, trivial⟩ get_impl_forest_pair (by decide)

/-! ### spec_wdComb -/


def spec_wdComb_L0a (x0 : (List ByteArray)) (x3 : ByteArray) (x4 : Int) : St := mkSt 19 [(0, .s (.v (.sl .str) x0)), (3, .s (.v .str x3)), (4, .s (.v (.int .i64) x4))] []

def spec_wdComb_L0X1 (y0 : (List ByteArray)) (y3 : ByteArray) (y4 : Int) (y9 : Bool) : St := mkSt 19 [(0, .s (.v (.sl .str) y0)), (3, .s (.v .str y3)), (4, .s (.v (.int .i64) y4)), (9, .s (.v .bool y9))] []

theorem spec_wdComb_L0a_i1 (x0 : (List ByteArray)) (x3 : ByteArray) (x4 : Int) (dc1 : ByteArray)
    (h1 : x4 ≥ (0 : Int))
    (h2 : 0 ≤ x4)
    (h3 : x4 < (List.length x0 : Int))
    (h4 : SC cfg.P i_spec_trOf [.s (.v .str (List.getD x0 (x4).toNat (⟨#[]⟩ : ByteArray))), .s (.v .str x3)] (.s (.v .str dc1)) [])
    {e : AEx} {st : St} (next : LoopSC cfg.P 1 (lb P_spec_wdComb 0) (spec_wdComb_L0a x0 dc1 (IntKind.wrap .i64 (x4 - (1 : Int)))) e st) :
    LoopSC cfg.P 1 (lb P_spec_wdComb 0) (spec_wdComb_L0a x0 x3 x4) e st :=
  loop_iter cfgOK (f := i_spec_wdComb) (its := [.bool true, .res (.s (.v .str dc1)) [] [] []])
    (ps := [decide (x4 ≥ (0 : Int)) = true,
      0 ≤ x4,
      x4 < (List.length x0 : Int),
      SC cfg.P i_spec_trOf [.s (.v .str (List.getD x0 (x4).toNat (⟨#[]⟩ : ByteArray))), .s (.v .str x3)] (.s (.v .str dc1)) []]) (st1 := spec_wdComb_L0a x0 dc1 (IntKind.wrap .i64 (x4 - (1 : Int)))) (by kernel_rfl) ⟨(decide_eq_true h1), h2, h3, h4, trivial⟩ next

theorem spec_wdComb_L0a_x2 (x0 : (List ByteArray)) (x3 : ByteArray) (x4 : Int)
    (h1 : ¬ (x4 ≥ (0 : Int))) :
    LoopSC cfg.P 1 (lb P_spec_wdComb 0) (spec_wdComb_L0a x0 x3 x4) (.exit 0) (spec_wdComb_L0X1 x0 x3 x4 false) :=
  loop_out cfgOK (f := i_spec_wdComb) (its := [.bool false])
    (ps := [decide (x4 ≥ (0 : Int)) = false]) (by kernel_rfl) ⟨(decide_eq_false h1), trivial⟩ (fun h => by cases h)

theorem spec_wdComb_p1 (a0 : (List ByteArray)) (k1y0 : (List ByteArray)) (k1y3 : ByteArray) (k1y4 : Int) (k1y9 : Bool)
    (h1 : LoopSC cfg.P 1 (lb P_spec_wdComb 0) (spec_wdComb_L0a a0 (⟨#[46]⟩ : ByteArray) (IntKind.wrap .i64 (((List.length a0 : Nat) : Int) - (1 : Int)))) (.exit 0) (spec_wdComb_L0X1 k1y0 k1y3 k1y4 k1y9)) :
    SC cfg.P i_spec_wdComb [.s (.v (.sl .str) a0)] (.s (.v .str k1y3)) [] :=
  SC_of_run cfgOK (its := [.loop (fun _ => (.exit 0, spec_wdComb_L0X1 k1y0 k1y3 k1y4 k1y9))])
    (ps := [LoopSC cfg.P 1 (lb P_spec_wdComb 0) (spec_wdComb_L0a a0 (⟨#[46]⟩ : ByteArray) (IntKind.wrap .i64 (((List.length a0 : Nat) : Int) - (1 : Int)))) (.exit 0) (spec_wdComb_L0X1 k1y0 k1y3 k1y4 k1y9)]) (by kernel_rfl) ⟨h1, trivial⟩ get_spec_wdComb (by decide)

/-! ### spec_trRight -/


def spec_trRight_L0a (x0 : Int) (x3 : ByteArray) : St := mkSt 11 [(0, .s (.v (.int .i64) x0)), (3, .s (.v .str x3))] []

def spec_trRight_L0X1 (y0 : Int) (y3 : ByteArray) (y5 : Bool) : St := mkSt 11 [(0, .s (.v (.int .i64) y0)), (3, .s (.v .str y3)), (5, .s (.v .bool y5))] []

theorem spec_trRight_L0a_i1 (x0 : Int) (x3 : ByteArray) (dc1 : ByteArray)
    (h1 : x0 > (0 : Int))
    (h2 : SC cfg.P i_spec_trOf [.s (.v .str (⟨#[46]⟩ : ByteArray)), .s (.v .str x3)] (.s (.v .str dc1)) [])
    {e : AEx} {st : St} (next : LoopSC cfg.P 1 (lb P_spec_trRight 0) (spec_trRight_L0a (IntKind.wrap .i64 (x0 - (1 : Int))) dc1) e st) :
    LoopSC cfg.P 1 (lb P_spec_trRight 0) (spec_trRight_L0a x0 x3) e st :=
  loop_iter cfgOK (f := i_spec_trRight) (its := [.bool true, .res (.s (.v .str dc1)) [] [] []])
    (ps := [decide (x0 > (0 : Int)) = true,
      SC cfg.P i_spec_trOf [.s (.v .str (⟨#[46]⟩ : ByteArray)), .s (.v .str x3)] (.s (.v .str dc1)) []]) (st1 := spec_trRight_L0a (IntKind.wrap .i64 (x0 - (1 : Int))) dc1) (by kernel_rfl) ⟨(decide_eq_true h1), h2, trivial⟩ next

theorem spec_trRight_L0a_x2 (x0 : Int) (x3 : ByteArray)
    (h1 : ¬ (x0 > (0 : Int))) :
    LoopSC cfg.P 1 (lb P_spec_trRight 0) (spec_trRight_L0a x0 x3) (.exit 0) (spec_trRight_L0X1 x0 x3 false) :=
  loop_out cfgOK (f := i_spec_trRight) (its := [.bool false])
    (ps := [decide (x0 > (0 : Int)) = false]) (by kernel_rfl) ⟨(decide_eq_false h1), trivial⟩ (fun h => by cases h)

theorem spec_trRight_p1 (a0 : Int) (k1y0 : Int) (k1y3 : ByteArray) (k1y5 : Bool)
    (h1 : LoopSC cfg.P 1 (lb P_spec_trRight 0) (spec_trRight_L0a a0 (⟨#[46]⟩ : ByteArray)) (.exit 0) (spec_trRight_L0X1 k1y0 k1y3 k1y5)) :
    SC cfg.P i_spec_trRight [.s (.v (.int .i64) a0)] (.s (.v .str k1y3)) [] :=
  SC_of_run cfgOK (its := [.loop (fun _ => (.exit 0, spec_trRight_L0X1 k1y0 k1y3 k1y5))])
    (ps := [LoopSC cfg.P 1 (lb P_spec_trRight 0) (spec_trRight_L0a a0 (⟨#[46]⟩ : ByteArray)) (.exit 0) (spec_trRight_L0X1 k1y0 k1y3 k1y5)]) (by kernel_rfl) ⟨h1, trivial⟩ get_spec_trRight (by decide)

/-! ### impl_forest_hung -/


theorem impl_forest_hung_p1 (a0 : (List Tr)) (c1 : (List Tr)) (c2 : Tr) (c3 : Tr)
    (h1 : SC cfg.P i_impl_forest_trimmed [.s (.v (.sl .tree) a0)] (.s (.v (.sl .tree) c1)) [])
    (h2 : SC cfg.P i_impl_rightComb [.s (.v (.int .i64) ((List.length c1 : Nat) : Int))] (.s (.v .tree c2)) [])
    (h3 : SC cfg.P i_impl_node_grown [.s (.v .tree c2), .s (.v (.int .i64) (0 : Int)), .fn i_impl_forest_tree [.v (.sl .tree) c1] []] (.s (.v .tree c3)) []) :
    SC cfg.P i_impl_forest_hung [.s (.v (.sl .tree) a0)] (.s (.v .tree c3)) [] :=
  SC_of_run cfgOK (its := [.res (.s (.v (.sl .tree) c1)) [] [] [], .res (.s (.v .tree c2)) [] [] [], .res (.s (.v .tree c3)) [] [] []])
    (ps := [SC cfg.P i_impl_forest_trimmed [.s (.v (.sl .tree) a0)] (.s (.v (.sl .tree) c1)) [],
      SC cfg.P i_impl_rightComb [.s (.v (.int .i64) ((List.length c1 : Nat) : Int))] (.s (.v .tree c2)) [],
      SC cfg.P i_impl_node_grown [.s (.v .tree c2), .s (.v (.int .i64) (0 : Int)), .fn i_impl_forest_tree [.v (.sl .tree) c1] []] (.s (.v .tree c3)) []]) (by kernel_rfl) ⟨h1, h2, h3, trivial⟩ get_impl_forest_hung (by decide)

/-! ### impl_rightComb -/


def impl_rightComb_L0a (x3 : Tr) (x4 : Int) (x5 : Int) : St := mkSt 12 [(3, .s (.v .tree x3)), (4, .s (.v (.int .i64) x4)), (5, .s (.v (.int .i64) x5))] []

def impl_rightComb_L0X1 (y3 : Tr) (y4 : Int) (y5 : Int) (y6 : Bool) : St := mkSt 12 [(3, .s (.v .tree y3)), (4, .s (.v (.int .i64) y4)), (5, .s (.v (.int .i64) y5)), (6, .s (.v .bool y6))] []

theorem impl_rightComb_L0a_i1 (x3 : Tr) (x4 : Int) (x5 : Int)
    (h1 : x5 < x4)
    {e : AEx} {st : St} (next : LoopSC cfg.P 1 (lb P_impl_rightComb 0) (impl_rightComb_L0a (Tr.node Tr.leaf x3) x4 (IntKind.wrap .i64 (x5 + (1 : Int)))) e st) :
    LoopSC cfg.P 1 (lb P_impl_rightComb 0) (impl_rightComb_L0a x3 x4 x5) e st :=
  loop_iter cfgOK (f := i_impl_rightComb) (its := [.bool true])
    (ps := [decide (x5 < x4) = true]) (st1 := impl_rightComb_L0a (Tr.node Tr.leaf x3) x4 (IntKind.wrap .i64 (x5 + (1 : Int)))) (by kernel_rfl) ⟨(decide_eq_true h1), trivial⟩ next

theorem impl_rightComb_L0a_x2 (x3 : Tr) (x4 : Int) (x5 : Int)
    (h1 : ¬ (x5 < x4)) :
    LoopSC cfg.P 1 (lb P_impl_rightComb 0) (impl_rightComb_L0a x3 x4 x5) (.exit 0) (impl_rightComb_L0X1 x3 x4 x5 false) :=
  loop_out cfgOK (f := i_impl_rightComb) (its := [.bool false])
    (ps := [decide (x5 < x4) = false]) (by kernel_rfl) ⟨(decide_eq_false h1), trivial⟩ (fun h => by cases h)

theorem impl_rightComb_p1 (a0 : Int) (k1y3 : Tr) (k1y4 : Int) (k1y5 : Int) (k1y6 : Bool)
    (h1 : LoopSC cfg.P 1 (lb P_impl_rightComb 0) (impl_rightComb_L0a Tr.leaf a0 (0 : Int)) (.exit 0) (impl_rightComb_L0X1 k1y3 k1y4 k1y5 k1y6)) :
    SC cfg.P i_impl_rightComb [.s (.v (.int .i64) a0)] (.s (.v .tree k1y3)) [] :=
  SC_of_run cfgOK (its := [.loop (fun _ => (.exit 0, impl_rightComb_L0X1 k1y3 k1y4 k1y5 k1y6))])
    (ps := [LoopSC cfg.P 1 (lb P_impl_rightComb 0) (impl_rightComb_L0a Tr.leaf a0 (0 : Int)) (.exit 0) (impl_rightComb_L0X1 k1y3 k1y4 k1y5 k1y6)]) (by kernel_rfl) ⟨h1, trivial⟩ get_impl_rightComb (by decide)

end Go.AI
