/- A part of the road: what it proves stands in its last texts. -/
import Derived.Test.YtlimomnchicfgaaSIds
import Derived.Test.YtlimomnchicfgaaProg
set_option autoImplicit false
set_option maxRecDepth 100000
set_option linter.unusedVariables false
namespace Go.AI
open Go.Proofs

/-! ### laws_FnExactCountShortest -/


theorem laws_FnExactCountShortest_p1 (a0 : (ByteArray × ByteArray)) (c1 : Int)
    (h1 : SC cfg.P i_laws_szPair [.s (.v (.pr .str .str) a0), .s (.v (.int .i64) (1048576 : Int))] (.s (.v (.int .i64) c1)) [])
    (h2 : c1 < (0 : Int)) :
    SC cfg.P i_laws_FnExactCountShortest [.s (.v (.pr .str .str) a0)] (.s (.v .bool true)) [] :=
  SC_of_run cfgOK (its := [.res (.s (.v (.int .i64) c1)) [] [] [], .bool true])
    (ps := [SC cfg.P i_laws_szPair [.s (.v (.pr .str .str) a0), .s (.v (.int .i64) (1048576 : Int))] (.s (.v (.int .i64) c1)) [],
      decide (c1 < (0 : Int)) = true]) (by kernel_rfl) ⟨h1, (decide_eq_true h2), trivial⟩ get_laws_FnExactCountShortest (by decide)

theorem laws_FnExactCountShortest_p2 (a0 : (ByteArray × ByteArray)) (c1 : Int) (c2 : (ByteArray × ByteArray)) (c3a : Int) (c3b : Bool) (c4 : (ByteArray × ByteArray)) (c5a : Int) (c5b : Bool)
    (h1 : SC cfg.P i_laws_szPair [.s (.v (.pr .str .str) a0), .s (.v (.int .i64) (1048576 : Int))] (.s (.v (.int .i64) c1)) [])
    (h2 : ¬ (c1 < (0 : Int)))
    (h3 : SC cfg.P i_laws_toPair [.s (.v (.pr .str .str) a0)] (.s (.v (.pr .str .str) c2)) [])
    (h4 : SC cfg.P i_spec_CountShortest [.s (.v (.pr .str .str) c2)] (.tup [.v (.int .i64) c3a, .v .bool c3b]) [])
    (h5 : SC cfg.P i_laws_toPair [.s (.v (.pr .str .str) a0)] (.s (.v (.pr .str .str) c4)) [])
    (h6 : SC cfg.P i_impl_CountShortest [.s (.v (.pr .str .str) c4)] (.tup [.v (.int .i64) c5a, .v .bool c5b]) [])
    (h7 : c5a = c3a)
    (h8 : (!(c5b == c3b)) = false) :
    SC cfg.P i_laws_FnExactCountShortest [.s (.v (.pr .str .str) a0)] (.s (.v .bool true)) [] :=
  SC_of_run cfgOK (its := [.res (.s (.v (.int .i64) c1)) [] [] [], .bool false, .res (.s (.v (.pr .str .str) c2)) [] [] [], .res (.tup [.v (.int .i64) c3a, .v .bool c3b]) [] [] [], .res (.s (.v (.pr .str .str) c4)) [] [] [], .res (.tup [.v (.int .i64) c5a, .v .bool c5b]) [] [] [], .bool false, .bool false])
    (ps := [SC cfg.P i_laws_szPair [.s (.v (.pr .str .str) a0), .s (.v (.int .i64) (1048576 : Int))] (.s (.v (.int .i64) c1)) [],
      decide (c1 < (0 : Int)) = false,
      SC cfg.P i_laws_toPair [.s (.v (.pr .str .str) a0)] (.s (.v (.pr .str .str) c2)) [],
      SC cfg.P i_spec_CountShortest [.s (.v (.pr .str .str) c2)] (.tup [.v (.int .i64) c3a, .v .bool c3b]) [],
      SC cfg.P i_laws_toPair [.s (.v (.pr .str .str) a0)] (.s (.v (.pr .str .str) c4)) [],
      SC cfg.P i_impl_CountShortest [.s (.v (.pr .str .str) c4)] (.tup [.v (.int .i64) c5a, .v .bool c5b]) [],
      (c5a != c3a) = false,
      (!(c5b == c3b)) = false]) (by kernel_rfl) ⟨h1, (decide_eq_false h2), h3, h4, h5, h6, (bne_f h7), h8, trivial⟩ get_laws_FnExactCountShortest (by decide)

/-! ### spec_CountShortest -/


theorem spec_CountShortest_p1 (a0 : (ByteArray × ByteArray)) (c2 : Int)
    (h1 : SC cfg.P i_spec_prGood [.s (.v (.pr .str .str) a0)] (.s (.v .bool true)) [])
    (h2 : SC cfg.P i_spec_trCarets [.s (.v .str a0.1)] (.s (.v (.int .i64) c2)) [])
    (h3 : c2 > (5 : Int)) :
    SC cfg.P i_spec_CountShortest [.s (.v (.pr .str .str) a0)] (.tup [.v (.int .i64) (0 : Int), .v .bool false]) [] :=
  SC_of_run cfgOK (its := [.res (.s (.v .bool true)) [] [] [], .res (.s (.v (.int .i64) c2)) [] [] [], .bool true])
    (ps := [SC cfg.P i_spec_prGood [.s (.v (.pr .str .str) a0)] (.s (.v .bool true)) [],
      SC cfg.P i_spec_trCarets [.s (.v .str a0.1)] (.s (.v (.int .i64) c2)) [],
      decide (c2 > (5 : Int)) = true]) (by kernel_rfl) ⟨h1, h2, (decide_eq_true h3), trivial⟩ get_spec_CountShortest (by decide)

theorem spec_CountShortest_p2 (a0 : (ByteArray × ByteArray)) (c2 : Int) (c3 : (ByteArray × ByteArray)) (c4 : Int)
    (h1 : SC cfg.P i_spec_prGood [.s (.v (.pr .str .str) a0)] (.s (.v .bool true)) [])
    (h2 : SC cfg.P i_spec_trCarets [.s (.v .str a0.1)] (.s (.v (.int .i64) c2)) [])
    (h3 : ¬ (c2 > (5 : Int)))
    (h4 : SC cfg.P i_spec_prReduce [.s (.v (.pr .str .str) a0), .s (.v (.sl (.int .i64)) ([] : List Int))] (.s (.v (.pr .str .str) c3)) [])
    (h5 : SC cfg.P i_spec_lnCount [.s (.v (.pr .str .str) c3)] (.s (.v (.int .i64) c4)) []) :
    SC cfg.P i_spec_CountShortest [.s (.v (.pr .str .str) a0)] (.tup [.v (.int .i64) c4, .v .bool true]) [] :=
  SC_of_run cfgOK (its := [.res (.s (.v .bool true)) [] [] [], .res (.s (.v (.int .i64) c2)) [] [] [], .bool false, .res (.s (.v (.pr .str .str) c3)) [] [] [], .res (.s (.v (.int .i64) c4)) [] [] []])
    (ps := [SC cfg.P i_spec_prGood [.s (.v (.pr .str .str) a0)] (.s (.v .bool true)) [],
      SC cfg.P i_spec_trCarets [.s (.v .str a0.1)] (.s (.v (.int .i64) c2)) [],
      decide (c2 > (5 : Int)) = false,
      SC cfg.P i_spec_prReduce [.s (.v (.pr .str .str) a0), .s (.v (.sl (.int .i64)) ([] : List Int))] (.s (.v (.pr .str .str) c3)) [],
      SC cfg.P i_spec_lnCount [.s (.v (.pr .str .str) c3)] (.s (.v (.int .i64) c4)) []]) (by kernel_rfl) ⟨h1, h2, (decide_eq_false h3), h4, h5, trivial⟩ get_spec_CountShortest (by decide)

theorem spec_CountShortest_p3 (a0 : (ByteArray × ByteArray))
    (h1 : SC cfg.P i_spec_prGood [.s (.v (.pr .str .str) a0)] (.s (.v .bool false)) []) :
    SC cfg.P i_spec_CountShortest [.s (.v (.pr .str .str) a0)] (.tup [.v (.int .i64) (0 : Int), .v .bool false]) [] :=
  SC_of_run cfgOK (its := [.res (.s (.v .bool false)) [] [] []])
    (ps := [SC cfg.P i_spec_prGood [.s (.v (.pr .str .str) a0)] (.s (.v .bool false)) []]) (by kernel_rfl) ⟨h1, trivial⟩ get_spec_CountShortest (by decide)

/-! ### impl_CountShortest -/


theorem impl_CountShortest_p1 (a0 : (ByteArray × ByteArray)) (c1a : (Tr × Tr)) (c2 : Int)
    (h1 : SC cfg.P i_impl_pairOf [.s (.v (.pr .str .str) a0)] (.tup [.v (.pr .tree .tree) c1a, .v .bool true]) [])
    (h2 : SC cfg.P i_impl_node_carets [.s (.v .tree c1a.1)] (.s (.v (.int .i64) c2)) [])
    (h3 : c2 > (5 : Int)) :
    SC cfg.P i_impl_CountShortest [.s (.v (.pr .str .str) a0)] (.tup [.v (.int .i64) (0 : Int), .v .bool false]) [] :=
  SC_of_run cfgOK (its := [.res (.tup [.v (.pr .tree .tree) c1a, .v .bool true]) [] [] [], .res (.s (.v (.int .i64) c2)) [] [] [], .bool true])
    (ps := [SC cfg.P i_impl_pairOf [.s (.v (.pr .str .str) a0)] (.tup [.v (.pr .tree .tree) c1a, .v .bool true]) [],
      SC cfg.P i_impl_node_carets [.s (.v .tree c1a.1)] (.s (.v (.int .i64) c2)) [],
      decide (c2 > (5 : Int)) = true]) (by kernel_rfl) ⟨h1, h2, (decide_eq_true h3), trivial⟩ get_impl_CountShortest (by decide)

theorem impl_CountShortest_p2 (a0 : (ByteArray × ByteArray)) (c1a : (Tr × Tr)) (c2 : Int) (c3 : (Tr × Tr)) (c4 : Int) (c4o1 : (List (ByteArray × Int)))
    (h1 : SC cfg.P i_impl_pairOf [.s (.v (.pr .str .str) a0)] (.tup [.v (.pr .tree .tree) c1a, .v .bool true]) [])
    (h2 : SC cfg.P i_impl_node_carets [.s (.v .tree c1a.1)] (.s (.v (.int .i64) c2)) [])
    (h3 : ¬ (c2 > (5 : Int)))
    (h4 : SC cfg.P i_impl_pair_reduced [.s (.v (.pr .tree .tree) c1a)] (.s (.v (.pr .tree .tree) c3)) [])
    (h5 : SC cfg.P i_impl_pair_shortest [.s (.v (.pr .tree .tree) c3), .s (.mmp (.int .i64) ([] : (List (ByteArray × Int))))] (.s (.v (.int .i64) c4)) [.mp (.int .i64) c4o1]) :
    SC cfg.P i_impl_CountShortest [.s (.v (.pr .str .str) a0)] (.tup [.v (.int .i64) c4, .v .bool true]) [] :=
  SC_of_run cfgOK (its := [.res (.tup [.v (.pr .tree .tree) c1a, .v .bool true]) [] [] [], .res (.s (.v (.int .i64) c2)) [] [] [], .bool false, .res (.s (.v (.pr .tree .tree) c3)) [] [] [], .res (.s (.v (.int .i64) c4)) [.mp (.int .i64) c4o1] [] []])
    (ps := [SC cfg.P i_impl_pairOf [.s (.v (.pr .str .str) a0)] (.tup [.v (.pr .tree .tree) c1a, .v .bool true]) [],
      SC cfg.P i_impl_node_carets [.s (.v .tree c1a.1)] (.s (.v (.int .i64) c2)) [],
      decide (c2 > (5 : Int)) = false,
      SC cfg.P i_impl_pair_reduced [.s (.v (.pr .tree .tree) c1a)] (.s (.v (.pr .tree .tree) c3)) [],
      SC cfg.P i_impl_pair_shortest [.s (.v (.pr .tree .tree) c3), .s (.mmp (.int .i64) ([] : (List (ByteArray × Int))))] (.s (.v (.int .i64) c4)) [.mp (.int .i64) c4o1]]) (by kernel_rfl) ⟨h1, h2, (decide_eq_false h3), h4, h5, trivial⟩ get_impl_CountShortest (by decide)

theorem impl_CountShortest_p3 (a0 : (ByteArray × ByteArray)) (c1a : (Tr × Tr))
    (h1 : SC cfg.P i_impl_pairOf [.s (.v (.pr .str .str) a0)] (.tup [.v (.pr .tree .tree) c1a, .v .bool false]) []) :
    SC cfg.P i_impl_CountShortest [.s (.v (.pr .str .str) a0)] (.tup [.v (.int .i64) (0 : Int), .v .bool false]) [] :=
  SC_of_run cfgOK (its := [.res (.tup [.v (.pr .tree .tree) c1a, .v .bool false]) [] [] []])
    (ps := [SC cfg.P i_impl_pairOf [.s (.v (.pr .str .str) a0)] (.tup [.v (.pr .tree .tree) c1a, .v .bool false]) []]) (by kernel_rfl) ⟨h1, trivial⟩ get_impl_CountShortest (by decide)

/-! ### spec_lnCount -/


def spec_lnCount_L0a (x3 : Int) (x4 : Int) (x12 : (List Int)) (x13 : Int) (x14 : Int) (xo1 : (ByteArray × ByteArray)) : St := mkSt 33 [(1, .s (.adr 1 none)), (3, .s (.v (.int .i64) x3)), (4, .s (.v (.int .i64) x4)), (12, .s (.v (.sl (.int .i64)) x12)), (13, .s (.v (.int .i64) x13)), (14, .s (.v (.int .i64) x14))] [(1, .box (.pr .str .str) xo1 false)]

def spec_lnCount_L0X1 (y3 : Int) (y4 : Int) (y12 : (List Int)) (y13 : Int) (y14 : Int) (y15 : Bool) (yo1 : (ByteArray × ByteArray)) : St := mkSt 33 [(1, .s (.adr 1 none)), (3, .s (.v (.int .i64) y3)), (4, .s (.v (.int .i64) y4)), (12, .s (.v (.sl (.int .i64)) y12)), (13, .s (.v (.int .i64) y13)), (14, .s (.v (.int .i64) y14)), (15, .s (.v .bool y15))] [(1, .box (.pr .str .str) yo1 false)]

theorem spec_lnCount_L0a_i1 (x3 : Int) (x4 : Int) (x12 : (List Int)) (x13 : Int) (x14 : Int) (xo1 : (ByteArray × ByteArray)) (dc1 : (ByteArray × ByteArray)) (dc2 : (ByteArray × ByteArray)) (dc3 : Int) (dc4 : Int)
    (h1 : x14 < x13)
    (h2 : 0 ≤ x14)
    (h3 : x14 < (List.length x12 : Int))
    (h4 : SC cfg.P i_spec_wdLetter [.s (.v (.int .i64) (IntKind.wrap .i64 (0 - (List.getD x12 (x14).toNat (0 : Int)))))] (.s (.v (.pr .str .str) dc1)) [])
    (h5 : SC cfg.P i_spec_prTimes [.s (.v (.pr .str .str) dc1), .s (.v (.pr .str .str) xo1)] (.s (.v (.pr .str .str) dc2)) [])
    (h6 : SC cfg.P i_spec_lnOf [.s (.v (.pr .str .str) dc2)] (.s (.v (.int .i64) dc3)) [])
    (h7 : dc3 < x3)
    (h8 : SC cfg.P i_spec_lnCount [.s (.v (.pr .str .str) dc2)] (.s (.v (.int .i64) dc4)) [])
    {e : AEx} {st : St} (next : LoopSC cfg.P 1 (lb P_spec_lnCount 0) (spec_lnCount_L0a x3 (IntKind.wrap .i64 (x4 + dc4)) x12 x13 (IntKind.wrap .i64 (x14 + (1 : Int))) xo1) e st) :
    LoopSC cfg.P 1 (lb P_spec_lnCount 0) (spec_lnCount_L0a x3 x4 x12 x13 x14 xo1) e st :=
  loop_iter cfgOK (f := i_spec_lnCount) (its := [.bool true, .res (.s (.v (.pr .str .str) dc1)) [] [] [], .res (.s (.v (.pr .str .str) dc2)) [] [] [], .res (.s (.v (.int .i64) dc3)) [] [] [], .bool true, .res (.s (.v (.int .i64) dc4)) [] [] []])
    (ps := [decide (x14 < x13) = true,
      0 ≤ x14,
      x14 < (List.length x12 : Int),
      SC cfg.P i_spec_wdLetter [.s (.v (.int .i64) (IntKind.wrap .i64 (0 - (List.getD x12 (x14).toNat (0 : Int)))))] (.s (.v (.pr .str .str) dc1)) [],
      SC cfg.P i_spec_prTimes [.s (.v (.pr .str .str) dc1), .s (.v (.pr .str .str) xo1)] (.s (.v (.pr .str .str) dc2)) [],
      SC cfg.P i_spec_lnOf [.s (.v (.pr .str .str) dc2)] (.s (.v (.int .i64) dc3)) [],
      decide (dc3 < x3) = true,
      SC cfg.P i_spec_lnCount [.s (.v (.pr .str .str) dc2)] (.s (.v (.int .i64) dc4)) []]) (st1 := spec_lnCount_L0a x3 (IntKind.wrap .i64 (x4 + dc4)) x12 x13 (IntKind.wrap .i64 (x14 + (1 : Int))) xo1) (by kernel_rfl) ⟨(decide_eq_true h1), h2, h3, h4, h5, h6, (decide_eq_true h7), h8, trivial⟩ next

theorem spec_lnCount_L0a_i2 (x3 : Int) (x4 : Int) (x12 : (List Int)) (x13 : Int) (x14 : Int) (xo1 : (ByteArray × ByteArray)) (dc1 : (ByteArray × ByteArray)) (dc2 : (ByteArray × ByteArray)) (dc3 : Int)
    (h1 : x14 < x13)
    (h2 : 0 ≤ x14)
    (h3 : x14 < (List.length x12 : Int))
    (h4 : SC cfg.P i_spec_wdLetter [.s (.v (.int .i64) (IntKind.wrap .i64 (0 - (List.getD x12 (x14).toNat (0 : Int)))))] (.s (.v (.pr .str .str) dc1)) [])
    (h5 : SC cfg.P i_spec_prTimes [.s (.v (.pr .str .str) dc1), .s (.v (.pr .str .str) xo1)] (.s (.v (.pr .str .str) dc2)) [])
    (h6 : SC cfg.P i_spec_lnOf [.s (.v (.pr .str .str) dc2)] (.s (.v (.int .i64) dc3)) [])
    (h7 : ¬ (dc3 < x3))
    {e : AEx} {st : St} (next : LoopSC cfg.P 1 (lb P_spec_lnCount 0) (spec_lnCount_L0a x3 x4 x12 x13 (IntKind.wrap .i64 (x14 + (1 : Int))) xo1) e st) :
    LoopSC cfg.P 1 (lb P_spec_lnCount 0) (spec_lnCount_L0a x3 x4 x12 x13 x14 xo1) e st :=
  loop_iter cfgOK (f := i_spec_lnCount) (its := [.bool true, .res (.s (.v (.pr .str .str) dc1)) [] [] [], .res (.s (.v (.pr .str .str) dc2)) [] [] [], .res (.s (.v (.int .i64) dc3)) [] [] [], .bool false])
    (ps := [decide (x14 < x13) = true,
      0 ≤ x14,
      x14 < (List.length x12 : Int),
      SC cfg.P i_spec_wdLetter [.s (.v (.int .i64) (IntKind.wrap .i64 (0 - (List.getD x12 (x14).toNat (0 : Int)))))] (.s (.v (.pr .str .str) dc1)) [],
      SC cfg.P i_spec_prTimes [.s (.v (.pr .str .str) dc1), .s (.v (.pr .str .str) xo1)] (.s (.v (.pr .str .str) dc2)) [],
      SC cfg.P i_spec_lnOf [.s (.v (.pr .str .str) dc2)] (.s (.v (.int .i64) dc3)) [],
      decide (dc3 < x3) = false]) (st1 := spec_lnCount_L0a x3 x4 x12 x13 (IntKind.wrap .i64 (x14 + (1 : Int))) xo1) (by kernel_rfl) ⟨(decide_eq_true h1), h2, h3, h4, h5, h6, (decide_eq_false h7), trivial⟩ next

theorem spec_lnCount_L0a_x3 (x3 : Int) (x4 : Int) (x12 : (List Int)) (x13 : Int) (x14 : Int) (xo1 : (ByteArray × ByteArray))
    (h1 : ¬ (x14 < x13)) :
    LoopSC cfg.P 1 (lb P_spec_lnCount 0) (spec_lnCount_L0a x3 x4 x12 x13 x14 xo1) (.exit 0) (spec_lnCount_L0X1 x3 x4 x12 x13 x14 false xo1) :=
  loop_out cfgOK (f := i_spec_lnCount) (its := [.bool false])
    (ps := [decide (x14 < x13) = false]) (by kernel_rfl) ⟨(decide_eq_false h1), trivial⟩ (fun h => by cases h)

theorem spec_lnCount_p1 (a0 : (ByteArray × ByteArray)) (c1 : Int)
    (h1 : SC cfg.P i_spec_lnOf [.s (.v (.pr .str .str) a0)] (.s (.v (.int .i64) c1)) [])
    (h2 : c1 = (0 : Int)) :
    SC cfg.P i_spec_lnCount [.s (.v (.pr .str .str) a0)] (.s (.v (.int .i64) (1 : Int))) [] :=
  SC_of_run cfgOK (its := [.res (.s (.v (.int .i64) c1)) [] [] [], .bool true])
    (ps := [SC cfg.P i_spec_lnOf [.s (.v (.pr .str .str) a0)] (.s (.v (.int .i64) c1)) [],
      (c1 == (0 : Int)) = true]) (by kernel_rfl) ⟨h1, (beq_t h2), trivial⟩ get_spec_lnCount (by decide)

theorem spec_lnCount_p2 (a0 : (ByteArray × ByteArray)) (c1 : Int) (c2 : (List Int)) (k1y3 : Int) (k1y4 : Int) (k1y12 : (List Int)) (k1y13 : Int) (k1y14 : Int) (k1y15 : Bool) (k1yo1 : (ByteArray × ByteArray))
    (h1 : SC cfg.P i_spec_lnOf [.s (.v (.pr .str .str) a0)] (.s (.v (.int .i64) c1)) [])
    (h2 : c1 ≠ (0 : Int))
    (h3 : SC cfg.P i_spec_lnLetters [] (.s (.v (.sl (.int .i64)) c2)) [])
    (h4 : LoopSC cfg.P 1 (lb P_spec_lnCount 0) (spec_lnCount_L0a c1 (0 : Int) c2 ((List.length c2 : Nat) : Int) (0 : Int) a0) (.exit 0) (spec_lnCount_L0X1 k1y3 k1y4 k1y12 k1y13 k1y14 k1y15 k1yo1)) :
    SC cfg.P i_spec_lnCount [.s (.v (.pr .str .str) a0)] (.s (.v (.int .i64) k1y4)) [] :=
  SC_of_run cfgOK (its := [.res (.s (.v (.int .i64) c1)) [] [] [], .bool false, .res (.s (.v (.sl (.int .i64)) c2)) [] [] [], .loop (fun _ => (.exit 0, spec_lnCount_L0X1 k1y3 k1y4 k1y12 k1y13 k1y14 k1y15 k1yo1))])
    (ps := [SC cfg.P i_spec_lnOf [.s (.v (.pr .str .str) a0)] (.s (.v (.int .i64) c1)) [],
      (c1 == (0 : Int)) = false,
      SC cfg.P i_spec_lnLetters [] (.s (.v (.sl (.int .i64)) c2)) [],
      LoopSC cfg.P 1 (lb P_spec_lnCount 0) (spec_lnCount_L0a c1 (0 : Int) c2 ((List.length c2 : Nat) : Int) (0 : Int) a0) (.exit 0) (spec_lnCount_L0X1 k1y3 k1y4 k1y12 k1y13 k1y14 k1y15 k1yo1)]) (by kernel_rfl) ⟨h1, (beq_f h2), h3, h4, trivial⟩ get_spec_lnCount (by decide)

/-! ### impl_pair_shortest -/


def impl_pair_shortest_L0a (x5 : ByteArray) (x8 : Int) (x9 : Int) (x25 : (List Int)) (x26 : Int) (xo1 : (List (ByteArray × Int))) (xo2 : (Tr × Tr)) : St := mkSt 49 [(1, .s (.omp 1)), (2, .s (.adr 2 none)), (5, .s (.v .str x5)), (8, .s (.v (.int .i64) x8)), (9, .s (.v (.int .i64) x9)), (25, .s (.v (.arr 2 (.int .i64)) x25)), (26, .s (.v (.int .i64) x26))] [(1, .mp (.int .i64) xo1 false), (2, .box (.pr .tree .tree) xo2 false)]

def impl_pair_shortest_L0X1 (y5 : ByteArray) (y8 : Int) (y9 : Int) (y25 : (List Int)) (y26 : Int) (y27 : Bool) (yo1 : (List (ByteArray × Int))) (yo2 : (Tr × Tr)) : St := mkSt 49 [(1, .s (.omp 1)), (2, .s (.adr 2 none)), (5, .s (.v .str y5)), (8, .s (.v (.int .i64) y8)), (9, .s (.v (.int .i64) y9)), (25, .s (.v (.arr 2 (.int .i64)) y25)), (26, .s (.v (.int .i64) y26)), (27, .s (.v .bool y27))] [(1, .mp (.int .i64) yo1 false), (2, .box (.pr .tree .tree) yo2 false)]

theorem impl_pair_shortest_L0a_i1 (x5 : ByteArray) (x8 : Int) (x9 : Int) (x25 : (List Int)) (x26 : Int) (xo1 : (List (ByteArray × Int))) (xo2 : (Tr × Tr)) (dc1 : (Tr × Tr)) (dc2 : (Tr × Tr)) (dc3 : Int) (dc4 : Int) (dc4o1 : (List (ByteArray × Int)))
    (h1 : x26 < (4 : Int))
    (h2 : 0 ≤ x26)
    (h3 : x26 < ((4 : Nat) : Int))
    (h4 : SC cfg.P i_impl_letter [.s (.v (.int .i64) (List.getD x25 (x26).toNat (0 : Int)))] (.s (.v (.pr .tree .tree) dc1)) [])
    (h5 : SC cfg.P i_impl_pair_times [.s (.v (.pr .tree .tree) xo2), .s (.v (.pr .tree .tree) dc1)] (.s (.v (.pr .tree .tree) dc2)) [])
    (h6 : SC cfg.P i_impl_pair_length [.s (.v (.pr .tree .tree) dc2)] (.s (.v (.int .i64) dc3)) [])
    (h7 : dc3 < x8)
    (h8 : SC cfg.P i_impl_pair_shortest [.s (.v (.pr .tree .tree) dc2), .s (.mmp (.int .i64) xo1)] (.s (.v (.int .i64) dc4)) [.mp (.int .i64) dc4o1])
    {e : AEx} {st : St} (next : LoopSC cfg.P 2 (lb P_impl_pair_shortest 0) (impl_pair_shortest_L0a x5 x8 (IntKind.wrap .i64 (x9 + dc4)) x25 (IntKind.wrap .i64 (x26 + (1 : Int))) dc4o1 xo2) e st) :
    LoopSC cfg.P 2 (lb P_impl_pair_shortest 0) (impl_pair_shortest_L0a x5 x8 x9 x25 x26 xo1 xo2) e st :=
  loop_iter cfgOK (f := i_impl_pair_shortest) (its := [.bool true, .res (.s (.v (.pr .tree .tree) dc1)) [] [] [], .res (.s (.v (.pr .tree .tree) dc2)) [] [] [], .res (.s (.v (.int .i64) dc3)) [] [] [], .bool true, .res (.s (.v (.int .i64) dc4)) [.mp (.int .i64) dc4o1] [] []])
    (ps := [decide (x26 < (4 : Int)) = true,
      0 ≤ x26,
      x26 < ((4 : Nat) : Int),
      SC cfg.P i_impl_letter [.s (.v (.int .i64) (List.getD x25 (x26).toNat (0 : Int)))] (.s (.v (.pr .tree .tree) dc1)) [],
      SC cfg.P i_impl_pair_times [.s (.v (.pr .tree .tree) xo2), .s (.v (.pr .tree .tree) dc1)] (.s (.v (.pr .tree .tree) dc2)) [],
      SC cfg.P i_impl_pair_length [.s (.v (.pr .tree .tree) dc2)] (.s (.v (.int .i64) dc3)) [],
      decide (dc3 < x8) = true,
      SC cfg.P i_impl_pair_shortest [.s (.v (.pr .tree .tree) dc2), .s (.mmp (.int .i64) xo1)] (.s (.v (.int .i64) dc4)) [.mp (.int .i64) dc4o1]]) (st1 := impl_pair_shortest_L0a x5 x8 (IntKind.wrap .i64 (x9 + dc4)) x25 (IntKind.wrap .i64 (x26 + (1 : Int))) dc4o1 xo2) (by kernel_rfl) ⟨(decide_eq_true h1), h2, h3, h4, h5, h6, (decide_eq_true h7), h8, trivial⟩ next

theorem impl_pair_shortest_L0a_i2 (x5 : ByteArray) (x8 : Int) (x9 : Int) (x25 : (List Int)) (x26 : Int) (xo1 : (List (ByteArray × Int))) (xo2 : (Tr × Tr)) (dc1 : (Tr × Tr)) (dc2 : (Tr × Tr)) (dc3 : Int)
    (h1 : x26 < (4 : Int))
    (h2 : 0 ≤ x26)
    (h3 : x26 < ((4 : Nat) : Int))
    (h4 : SC cfg.P i_impl_letter [.s (.v (.int .i64) (List.getD x25 (x26).toNat (0 : Int)))] (.s (.v (.pr .tree .tree) dc1)) [])
    (h5 : SC cfg.P i_impl_pair_times [.s (.v (.pr .tree .tree) xo2), .s (.v (.pr .tree .tree) dc1)] (.s (.v (.pr .tree .tree) dc2)) [])
    (h6 : SC cfg.P i_impl_pair_length [.s (.v (.pr .tree .tree) dc2)] (.s (.v (.int .i64) dc3)) [])
    (h7 : ¬ (dc3 < x8))
    {e : AEx} {st : St} (next : LoopSC cfg.P 2 (lb P_impl_pair_shortest 0) (impl_pair_shortest_L0a x5 x8 x9 x25 (IntKind.wrap .i64 (x26 + (1 : Int))) xo1 xo2) e st) :
    LoopSC cfg.P 2 (lb P_impl_pair_shortest 0) (impl_pair_shortest_L0a x5 x8 x9 x25 x26 xo1 xo2) e st :=
  loop_iter cfgOK (f := i_impl_pair_shortest) (its := [.bool true, .res (.s (.v (.pr .tree .tree) dc1)) [] [] [], .res (.s (.v (.pr .tree .tree) dc2)) [] [] [], .res (.s (.v (.int .i64) dc3)) [] [] [], .bool false])
    (ps := [decide (x26 < (4 : Int)) = true,
      0 ≤ x26,
      x26 < ((4 : Nat) : Int),
      SC cfg.P i_impl_letter [.s (.v (.int .i64) (List.getD x25 (x26).toNat (0 : Int)))] (.s (.v (.pr .tree .tree) dc1)) [],
      SC cfg.P i_impl_pair_times [.s (.v (.pr .tree .tree) xo2), .s (.v (.pr .tree .tree) dc1)] (.s (.v (.pr .tree .tree) dc2)) [],
      SC cfg.P i_impl_pair_length [.s (.v (.pr .tree .tree) dc2)] (.s (.v (.int .i64) dc3)) [],
      decide (dc3 < x8) = false]) (st1 := impl_pair_shortest_L0a x5 x8 x9 x25 (IntKind.wrap .i64 (x26 + (1 : Int))) xo1 xo2) (by kernel_rfl) ⟨(decide_eq_true h1), h2, h3, h4, h5, h6, (decide_eq_false h7), trivial⟩ next

theorem impl_pair_shortest_L0a_x3 (x5 : ByteArray) (x8 : Int) (x9 : Int) (x25 : (List Int)) (x26 : Int) (xo1 : (List (ByteArray × Int))) (xo2 : (Tr × Tr))
    (h1 : ¬ (x26 < (4 : Int))) :
    LoopSC cfg.P 2 (lb P_impl_pair_shortest 0) (impl_pair_shortest_L0a x5 x8 x9 x25 x26 xo1 xo2) (.exit 0) (impl_pair_shortest_L0X1 x5 x8 x9 x25 x26 false xo1 xo2) :=
  loop_out cfgOK (f := i_impl_pair_shortest) (its := [.bool false])
    (ps := [decide (x26 < (4 : Int)) = false]) (by kernel_rfl) ⟨(decide_eq_false h1), trivial⟩ (fun h => by cases h)

theorem impl_pair_shortest_p1 (a0 : (Tr × Tr)) (a1 : (List (ByteArray × Int))) (c1 : ByteArray)
    (h1 : SC cfg.P i_impl_pair_text [.s (.v (.pr .tree .tree) a0)] (.s (.v .str c1)) [])
    (h2 : (mget a1 c1).isSome = true) :
    SC cfg.P i_impl_pair_shortest [.s (.v (.pr .tree .tree) a0), .s (.mmp (.int .i64) a1)] (.s (.v (.int .i64) ((mget a1 c1).getD (0 : Int)))) [.mp (.int .i64) a1] :=
  SC_of_run cfgOK (its := [.res (.s (.v .str c1)) [] [] [], .bool true])
    (ps := [SC cfg.P i_impl_pair_text [.s (.v (.pr .tree .tree) a0)] (.s (.v .str c1)) [],
      (mget a1 c1).isSome = true]) (by kernel_rfl) ⟨h1, h2, trivial⟩ get_impl_pair_shortest (by decide)

theorem impl_pair_shortest_p2 (a0 : (Tr × Tr)) (a1 : (List (ByteArray × Int))) (c1 : ByteArray) (c2 : Int) (c3 : (List Int)) (k1y5 : ByteArray) (k1y8 : Int) (k1y9 : Int) (k1y25 : (List Int)) (k1y26 : Int) (k1y27 : Bool) (k1yo1 : (List (ByteArray × Int))) (k1yo2 : (Tr × Tr))
    (h1 : SC cfg.P i_impl_pair_text [.s (.v (.pr .tree .tree) a0)] (.s (.v .str c1)) [])
    (h2 : (mget a1 c1).isSome = false)
    (h3 : SC cfg.P i_impl_pair_length [.s (.v (.pr .tree .tree) a0)] (.s (.v (.int .i64) c2)) [])
    (h4 : SC cfg.P i_impl_letters [] (.s (.v (.arr 2 (.int .i64)) c3)) [])
    (h5 : LoopSC cfg.P 2 (lb P_impl_pair_shortest 0) (impl_pair_shortest_L0a c1 c2 (0 : Int) c3 (0 : Int) a1 a0) (.exit 0) (impl_pair_shortest_L0X1 k1y5 k1y8 k1y9 k1y25 k1y26 k1y27 k1yo1 k1yo2))
    (h6 : k1y8 = (0 : Int)) :
    SC cfg.P i_impl_pair_shortest [.s (.v (.pr .tree .tree) a0), .s (.mmp (.int .i64) a1)] (.s (.v (.int .i64) (1 : Int))) [.mp (.int .i64) (mput k1yo1 k1y5 (1 : Int))] :=
  SC_of_run cfgOK (its := [.res (.s (.v .str c1)) [] [] [], .bool false, .res (.s (.v (.int .i64) c2)) [] [] [], .res (.s (.v (.arr 2 (.int .i64)) c3)) [] [] [], .loop (fun _ => (.exit 0, impl_pair_shortest_L0X1 k1y5 k1y8 k1y9 k1y25 k1y26 k1y27 k1yo1 k1yo2)), .bool true])
    (ps := [SC cfg.P i_impl_pair_text [.s (.v (.pr .tree .tree) a0)] (.s (.v .str c1)) [],
      (mget a1 c1).isSome = false,
      SC cfg.P i_impl_pair_length [.s (.v (.pr .tree .tree) a0)] (.s (.v (.int .i64) c2)) [],
      SC cfg.P i_impl_letters [] (.s (.v (.arr 2 (.int .i64)) c3)) [],
      LoopSC cfg.P 2 (lb P_impl_pair_shortest 0) (impl_pair_shortest_L0a c1 c2 (0 : Int) c3 (0 : Int) a1 a0) (.exit 0) (impl_pair_shortest_L0X1 k1y5 k1y8 k1y9 k1y25 k1y26 k1y27 k1yo1 k1yo2),
      (k1y8 == (0 : Int)) = true]) (by kernel_rfl) ⟨h1, h2, h3, h4, h5, (beq_t h6), trivial⟩ get_impl_pair_shortest (by decide)

theorem impl_pair_shortest_p3 (a0 : (Tr × Tr)) (a1 : (List (ByteArray × Int))) (c1 : ByteArray) (c2 : Int) (c3 : (List Int)) (k1y5 : ByteArray) (k1y8 : Int) (k1y9 : Int) (k1y25 : (List Int)) (k1y26 : Int) (k1y27 : Bool) (k1yo1 : (List (ByteArray × Int))) (k1yo2 : (Tr × Tr))
    (h1 : SC cfg.P i_impl_pair_text [.s (.v (.pr .tree .tree) a0)] (.s (.v .str c1)) [])
    (h2 : (mget a1 c1).isSome = false)
    (h3 : SC cfg.P i_impl_pair_length [.s (.v (.pr .tree .tree) a0)] (.s (.v (.int .i64) c2)) [])
    (h4 : SC cfg.P i_impl_letters [] (.s (.v (.arr 2 (.int .i64)) c3)) [])
    (h5 : LoopSC cfg.P 2 (lb P_impl_pair_shortest 0) (impl_pair_shortest_L0a c1 c2 (0 : Int) c3 (0 : Int) a1 a0) (.exit 0) (impl_pair_shortest_L0X1 k1y5 k1y8 k1y9 k1y25 k1y26 k1y27 k1yo1 k1yo2))
    (h6 : k1y8 ≠ (0 : Int)) :
    SC cfg.P i_impl_pair_shortest [.s (.v (.pr .tree .tree) a0), .s (.mmp (.int .i64) a1)] (.s (.v (.int .i64) k1y9)) [.mp (.int .i64) (mput k1yo1 k1y5 k1y9)] :=
  SC_of_run cfgOK (its := [.res (.s (.v .str c1)) [] [] [], .bool false, .res (.s (.v (.int .i64) c2)) [] [] [], .res (.s (.v (.arr 2 (.int .i64)) c3)) [] [] [], .loop (fun _ => (.exit 0, impl_pair_shortest_L0X1 k1y5 k1y8 k1y9 k1y25 k1y26 k1y27 k1yo1 k1yo2)), .bool false])
    (ps := [SC cfg.P i_impl_pair_text [.s (.v (.pr .tree .tree) a0)] (.s (.v .str c1)) [],
      (mget a1 c1).isSome = false,
      SC cfg.P i_impl_pair_length [.s (.v (.pr .tree .tree) a0)] (.s (.v (.int .i64) c2)) [],
      SC cfg.P i_impl_letters [] (.s (.v (.arr 2 (.int .i64)) c3)) [],
      LoopSC cfg.P 2 (lb P_impl_pair_shortest 0) (impl_pair_shortest_L0a c1 c2 (0 : Int) c3 (0 : Int) a1 a0) (.exit 0) (impl_pair_shortest_L0X1 k1y5 k1y8 k1y9 k1y25 k1y26 k1y27 k1yo1 k1yo2),
      (k1y8 == (0 : Int)) = false]) (by kernel_rfl) ⟨h1, h2, h3, h4, h5, (beq_f h6), trivial⟩ get_impl_pair_shortest (by decide)

end Go.AI
