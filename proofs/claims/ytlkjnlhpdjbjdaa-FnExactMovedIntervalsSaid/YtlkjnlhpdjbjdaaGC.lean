/- A part of the road: what it proves stands in its last texts. -/
import Derived.Test.YtlkjnlhpdjbjdaaSIds
import Derived.Test.YtlkjnlhpdjbjdaaProg
set_option autoImplicit false
set_option maxRecDepth 100000
set_option linter.unusedVariables false
namespace Go.AI
open Go.Proofs

/-! ### laws_FnExactFixedIntervals -/


theorem laws_FnExactFixedIntervals_p1 (a0 : (ByteArray × ByteArray)) (c1 : Int)
    (h1 : SC cfg.P i_laws_szPair [.s (.v (.pr .str .str) a0), .s (.v (.int .i64) (1048576 : Int))] (.s (.v (.int .i64) c1)) [])
    (h2 : c1 < (0 : Int)) :
    SC cfg.P i_laws_FnExactFixedIntervals [.s (.v (.pr .str .str) a0)] (.s (.v .bool true)) [] :=
  SC_of_run cfgOK (its := [.res (.s (.v (.int .i64) c1)) [] [] [], .bool true])
    (ps := [SC cfg.P i_laws_szPair [.s (.v (.pr .str .str) a0), .s (.v (.int .i64) (1048576 : Int))] (.s (.v (.int .i64) c1)) [],
      decide (c1 < (0 : Int)) = true]) (by kernel_rfl) ⟨h1, (decide_eq_true h2), trivial⟩ get_laws_FnExactFixedIntervals (by decide)

theorem laws_FnExactFixedIntervals_p2 (a0 : (ByteArray × ByteArray)) (c1 : Int) (c2 : (ByteArray × ByteArray)) (c3a : (List (List (Int × Int)))) (c3b : Bool) (c4 : (ByteArray × ByteArray)) (c5a : (List (List (Int × Int)))) (c5b : Bool) (c7 : Int) (c8 : Int) (c9 : (ByteArray × ByteArray)) (c10a : (List (List (Int × Int)))) (c10b : Bool) (c12 : Int)
    (h1 : SC cfg.P i_laws_szPair [.s (.v (.pr .str .str) a0), .s (.v (.int .i64) (1048576 : Int))] (.s (.v (.int .i64) c1)) [])
    (h2 : ¬ (c1 < (0 : Int)))
    (h3 : SC cfg.P i_laws_toPair [.s (.v (.pr .str .str) a0)] (.s (.v (.pr .str .str) c2)) [])
    (h4 : SC cfg.P i_spec_FixedIntervals [.s (.v (.pr .str .str) c2)] (.tup [.own t_Simpl_Ratio (.sl (.pr (.int .i64) (.int .i64))) c3a, .v .bool c3b]) [])
    (h5 : SC cfg.P i_laws_toPair [.s (.v (.pr .str .str) a0)] (.s (.v (.pr .str .str) c4)) [])
    (h6 : SC cfg.P i_impl_FixedIntervals [.s (.v (.pr .str .str) c4)] (.tup [.own t_Simpl_Ratio (.sl (.pr (.int .i64) (.int .i64))) c5a, .v .bool c5b]) [])
    (h7 : SC cfg.P i_laws_eqRatioSS [.s (.v (.sl (.sl (.pr (.int .i64) (.int .i64)))) c5a), .s (.v (.sl (.sl (.pr (.int .i64) (.int .i64)))) c3a)] (.s (.v .bool true)) [])
    (h8 : (!(c5b == c3b)) = false)
    (h9 : SC cfg.P i_laws_markRatioSS [.s (.v (.sl (.sl (.pr (.int .i64) (.int .i64)))) c5a), .s (.v (.int .i64) (1 : Int))] (.s (.v (.int .i64) c7)) [])
    (h10 : SC cfg.P i_laws_heldRatioSS [.s (.v (.sl (.sl (.pr (.int .i64) (.int .i64)))) c5a), .s (.v (.int .i64) (1 : Int))] (.s (.v (.int .i64) c8)) [])
    (h11 : ¬ (c8 < (0 : Int)))
    (h12 : c8 = c7)
    (h13 : SC cfg.P i_laws_toPair [.s (.v (.pr .str .str) a0)] (.s (.v (.pr .str .str) c9)) [])
    (h14 : SC cfg.P i_impl_FixedIntervals [.s (.v (.pr .str .str) c9)] (.tup [.own t_Simpl_Ratio (.sl (.pr (.int .i64) (.int .i64))) c10a, .v .bool c10b]) [])
    (h15 : SC cfg.P i_laws_eqRatioSS [.s (.v (.sl (.sl (.pr (.int .i64) (.int .i64)))) c10a), .s (.v (.sl (.sl (.pr (.int .i64) (.int .i64)))) c3a)] (.s (.v .bool true)) [])
    (h16 : (!(c10b == c3b)) = false)
    (h17 : SC cfg.P i_laws_heldRatioSS [.s (.v (.sl (.sl (.pr (.int .i64) (.int .i64)))) c5a), .s (.v (.int .i64) (1 : Int))] (.s (.v (.int .i64) c12)) [])
    (h18 : ¬ (c12 < (0 : Int)))
    (h19 : c12 = c7) :
    SC cfg.P i_laws_FnExactFixedIntervals [.s (.v (.pr .str .str) a0)] (.s (.v .bool true)) [] :=
  SC_of_run cfgOK (its := [.res (.s (.v (.int .i64) c1)) [] [] [], .bool false, .res (.s (.v (.pr .str .str) c2)) [] [] [], .res (.tup [.own t_Simpl_Ratio (.sl (.pr (.int .i64) (.int .i64))) c3a, .v .bool c3b]) [] [] [20], .res (.s (.v (.pr .str .str) c4)) [] [] [], .res (.tup [.own t_Simpl_Ratio (.sl (.pr (.int .i64) (.int .i64))) c5a, .v .bool c5b]) [] [] [26], .res (.s (.v .bool true)) [] [] [], .bool false, .res (.s (.v (.int .i64) c7)) [] [] [], .res (.s (.v (.int .i64) c8)) [] [] [], .bool false, .bool false, .res (.s (.v (.pr .str .str) c9)) [] [] [], .res (.tup [.own t_Simpl_Ratio (.sl (.pr (.int .i64) (.int .i64))) c10a, .v .bool c10b]) [] [] [52], .res (.s (.v .bool true)) [] [] [], .bool false, .res (.s (.v (.int .i64) c12)) [] [] [], .bool false, .bool false])
    (ps := [SC cfg.P i_laws_szPair [.s (.v (.pr .str .str) a0), .s (.v (.int .i64) (1048576 : Int))] (.s (.v (.int .i64) c1)) [],
      decide (c1 < (0 : Int)) = false,
      SC cfg.P i_laws_toPair [.s (.v (.pr .str .str) a0)] (.s (.v (.pr .str .str) c2)) [],
      SC cfg.P i_spec_FixedIntervals [.s (.v (.pr .str .str) c2)] (.tup [.own t_Simpl_Ratio (.sl (.pr (.int .i64) (.int .i64))) c3a, .v .bool c3b]) [],
      SC cfg.P i_laws_toPair [.s (.v (.pr .str .str) a0)] (.s (.v (.pr .str .str) c4)) [],
      SC cfg.P i_impl_FixedIntervals [.s (.v (.pr .str .str) c4)] (.tup [.own t_Simpl_Ratio (.sl (.pr (.int .i64) (.int .i64))) c5a, .v .bool c5b]) [],
      SC cfg.P i_laws_eqRatioSS [.s (.v (.sl (.sl (.pr (.int .i64) (.int .i64)))) c5a), .s (.v (.sl (.sl (.pr (.int .i64) (.int .i64)))) c3a)] (.s (.v .bool true)) [],
      (!(c5b == c3b)) = false,
      SC cfg.P i_laws_markRatioSS [.s (.v (.sl (.sl (.pr (.int .i64) (.int .i64)))) c5a), .s (.v (.int .i64) (1 : Int))] (.s (.v (.int .i64) c7)) [],
      SC cfg.P i_laws_heldRatioSS [.s (.v (.sl (.sl (.pr (.int .i64) (.int .i64)))) c5a), .s (.v (.int .i64) (1 : Int))] (.s (.v (.int .i64) c8)) [],
      decide (c8 < (0 : Int)) = false,
      (c8 != c7) = false,
      SC cfg.P i_laws_toPair [.s (.v (.pr .str .str) a0)] (.s (.v (.pr .str .str) c9)) [],
      SC cfg.P i_impl_FixedIntervals [.s (.v (.pr .str .str) c9)] (.tup [.own t_Simpl_Ratio (.sl (.pr (.int .i64) (.int .i64))) c10a, .v .bool c10b]) [],
      SC cfg.P i_laws_eqRatioSS [.s (.v (.sl (.sl (.pr (.int .i64) (.int .i64)))) c10a), .s (.v (.sl (.sl (.pr (.int .i64) (.int .i64)))) c3a)] (.s (.v .bool true)) [],
      (!(c10b == c3b)) = false,
      SC cfg.P i_laws_heldRatioSS [.s (.v (.sl (.sl (.pr (.int .i64) (.int .i64)))) c5a), .s (.v (.int .i64) (1 : Int))] (.s (.v (.int .i64) c12)) [],
      decide (c12 < (0 : Int)) = false,
      (c12 != c7) = false]) (by kernel_rfl) ⟨h1, (decide_eq_false h2), h3, h4, h5, h6, h7, h8, h9, h10, (decide_eq_false h11), (bne_f h12), h13, h14, h15, h16, h17, (decide_eq_false h18), (bne_f h19), trivial⟩ get_laws_FnExactFixedIntervals (by decide)

/-! ### spec_FixedIntervals -/


theorem spec_FixedIntervals_p1 (a0 : (ByteArray × ByteArray)) (c2 : (List (List (Int × Int))))
    (h1 : SC cfg.P i_spec_prGood [.s (.v (.pr .str .str) a0)] (.s (.v .bool true)) [])
    (h2 : SC cfg.P i_spec_obFixed [.s (.v (.pr .str .str) a0)] (.s (.own t_Simpl_Ratio (.sl (.pr (.int .i64) (.int .i64))) c2)) []) :
    SC cfg.P i_spec_FixedIntervals [.s (.v (.pr .str .str) a0)] (.tup [.own t_Simpl_Ratio (.sl (.pr (.int .i64) (.int .i64))) c2, .v .bool true]) [] :=
  SC_of_run cfgOK (its := [.res (.s (.v .bool true)) [] [] [], .res (.s (.own t_Simpl_Ratio (.sl (.pr (.int .i64) (.int .i64))) c2)) [] [] [8]])
    (ps := [SC cfg.P i_spec_prGood [.s (.v (.pr .str .str) a0)] (.s (.v .bool true)) [],
      SC cfg.P i_spec_obFixed [.s (.v (.pr .str .str) a0)] (.s (.own t_Simpl_Ratio (.sl (.pr (.int .i64) (.int .i64))) c2)) []]) (by kernel_rfl) ⟨h1, h2, trivial⟩ get_spec_FixedIntervals (by decide)

theorem spec_FixedIntervals_p2 (a0 : (ByteArray × ByteArray))
    (h1 : SC cfg.P i_spec_prGood [.s (.v (.pr .str .str) a0)] (.s (.v .bool false)) []) :
    SC cfg.P i_spec_FixedIntervals [.s (.v (.pr .str .str) a0)] (.tup [.own t_Simpl_Ratio (.sl (.pr (.int .i64) (.int .i64))) ([] : List (List (Int × Int))), .v .bool false]) [] :=
  SC_of_run cfgOK (its := [.res (.s (.v .bool false)) [] [] []])
    (ps := [SC cfg.P i_spec_prGood [.s (.v (.pr .str .str) a0)] (.s (.v .bool false)) []]) (by kernel_rfl) ⟨h1, trivial⟩ get_spec_FixedIntervals (by decide)

/-! ### impl_FixedIntervals -/


theorem impl_FixedIntervals_p1 (a0 : (ByteArray × ByteArray)) (c1a : (Tr × Tr)) (c2 : (List (List (Int × Int))))
    (h1 : SC cfg.P i_impl_pairOf [.s (.v (.pr .str .str) a0)] (.tup [.v (.pr .tree .tree) c1a, .v .bool true]) [])
    (h2 : SC cfg.P i_impl_pair_fixed [.s (.v (.pr .tree .tree) c1a)] (.s (.own t_Simpl_Ratio (.sl (.pr (.int .i64) (.int .i64))) c2)) []) :
    SC cfg.P i_impl_FixedIntervals [.s (.v (.pr .str .str) a0)] (.tup [.own t_Simpl_Ratio (.sl (.pr (.int .i64) (.int .i64))) c2, .v .bool true]) [] :=
  SC_of_run cfgOK (its := [.res (.tup [.v (.pr .tree .tree) c1a, .v .bool true]) [] [] [], .res (.s (.own t_Simpl_Ratio (.sl (.pr (.int .i64) (.int .i64))) c2)) [] [] [14]])
    (ps := [SC cfg.P i_impl_pairOf [.s (.v (.pr .str .str) a0)] (.tup [.v (.pr .tree .tree) c1a, .v .bool true]) [],
      SC cfg.P i_impl_pair_fixed [.s (.v (.pr .tree .tree) c1a)] (.s (.own t_Simpl_Ratio (.sl (.pr (.int .i64) (.int .i64))) c2)) []]) (by kernel_rfl) ⟨h1, h2, trivial⟩ get_impl_FixedIntervals (by decide)

theorem impl_FixedIntervals_p2 (a0 : (ByteArray × ByteArray)) (c1a : (Tr × Tr))
    (h1 : SC cfg.P i_impl_pairOf [.s (.v (.pr .str .str) a0)] (.tup [.v (.pr .tree .tree) c1a, .v .bool false]) []) :
    SC cfg.P i_impl_FixedIntervals [.s (.v (.pr .str .str) a0)] (.tup [.own t_Simpl_Ratio (.sl (.pr (.int .i64) (.int .i64))) ([] : List (List (Int × Int))), .v .bool false]) [] :=
  SC_of_run cfgOK (its := [.res (.tup [.v (.pr .tree .tree) c1a, .v .bool false]) [] [] []])
    (ps := [SC cfg.P i_impl_pairOf [.s (.v (.pr .str .str) a0)] (.tup [.v (.pr .tree .tree) c1a, .v .bool false]) []]) (by kernel_rfl) ⟨h1, trivial⟩ get_impl_FixedIntervals (by decide)

/-! ### laws_markRatioSS -/


def laws_markRatioSS_L0a (x0 : (List (List (Int × Int)))) (x1 : Int) (x5 : Int) : St := mkSt 19 [(0, .s (.v (.sl (.sl (.pr (.int .i64) (.int .i64)))) x0)), (1, .s (.v (.int .i64) x1)), (5, .s (.v (.int .i64) x5))] []

def laws_markRatioSS_L0X1 (y0 : (List (List (Int × Int)))) (y1 : Int) (y5 : Int) (y9 : Bool) : St := mkSt 19 [(0, .s (.v (.sl (.sl (.pr (.int .i64) (.int .i64)))) y0)), (1, .s (.v (.int .i64) y1)), (5, .s (.v (.int .i64) y5)), (9, .s (.v .bool y9))] []

theorem laws_markRatioSS_L0a_i1 (x0 : (List (List (Int × Int)))) (x1 : Int) (x5 : Int) (dc1 : Int)
    (h1 : x5 < ((List.length x0 : Nat) : Int))
    (h2 : 0 ≤ x5)
    (h3 : x5 < (List.length x0 : Int))
    (h4 : SC cfg.P i_laws_markRatioS [.s (.v (.sl (.pr (.int .i64) (.int .i64))) (List.getD x0 (x5).toNat ([] : List (Int × Int)))), .s (.v (.int .i64) x1)] (.s (.v (.int .i64) dc1)) [])
    {e : AEx} {st : St} (next : LoopSC cfg.P 2 (lb P_laws_markRatioSS 0) (laws_markRatioSS_L0a x0 dc1 (IntKind.wrap .i64 (x5 + (1 : Int)))) e st) :
    LoopSC cfg.P 2 (lb P_laws_markRatioSS 0) (laws_markRatioSS_L0a x0 x1 x5) e st :=
  loop_iter cfgOK (f := i_laws_markRatioSS) (its := [.bool true, .res (.s (.v (.int .i64) dc1)) [] [0] []])
    (ps := [decide (x5 < ((List.length x0 : Nat) : Int)) = true,
      0 ≤ x5,
      x5 < (List.length x0 : Int),
      SC cfg.P i_laws_markRatioS [.s (.v (.sl (.pr (.int .i64) (.int .i64))) (List.getD x0 (x5).toNat ([] : List (Int × Int)))), .s (.v (.int .i64) x1)] (.s (.v (.int .i64) dc1)) []]) (st1 := laws_markRatioSS_L0a x0 dc1 (IntKind.wrap .i64 (x5 + (1 : Int)))) (by kernel_rfl) ⟨(decide_eq_true h1), h2, h3, h4, trivial⟩ next

theorem laws_markRatioSS_L0a_x2 (x0 : (List (List (Int × Int)))) (x1 : Int) (x5 : Int)
    (h1 : ¬ (x5 < ((List.length x0 : Nat) : Int))) :
    LoopSC cfg.P 2 (lb P_laws_markRatioSS 0) (laws_markRatioSS_L0a x0 x1 x5) (.exit 0) (laws_markRatioSS_L0X1 x0 x1 x5 false) :=
  loop_out cfgOK (f := i_laws_markRatioSS) (its := [.bool false])
    (ps := [decide (x5 < ((List.length x0 : Nat) : Int)) = false]) (by kernel_rfl) ⟨(decide_eq_false h1), trivial⟩ (fun h => by cases h)

theorem laws_markRatioSS_p1 (a0 : (List (List (Int × Int)))) (a1 : Int) (k1y0 : (List (List (Int × Int)))) (k1y1 : Int) (k1y5 : Int) (k1y9 : Bool)
    (h1 : LoopSC cfg.P 2 (lb P_laws_markRatioSS 0) (laws_markRatioSS_L0a a0 a1 (0 : Int)) (.exit 0) (laws_markRatioSS_L0X1 k1y0 k1y1 k1y5 k1y9)) :
    SC cfg.P i_laws_markRatioSS [.s (.v (.sl (.sl (.pr (.int .i64) (.int .i64)))) a0), .s (.v (.int .i64) a1)] (.s (.v (.int .i64) k1y1)) [] :=
  SC_of_run cfgOK (its := [.loop (fun _ => (.exit 0, laws_markRatioSS_L0X1 k1y0 k1y1 k1y5 k1y9))])
    (ps := [LoopSC cfg.P 2 (lb P_laws_markRatioSS 0) (laws_markRatioSS_L0a a0 a1 (0 : Int)) (.exit 0) (laws_markRatioSS_L0X1 k1y0 k1y1 k1y5 k1y9)]) (by kernel_rfl) ⟨h1, trivial⟩ get_laws_markRatioSS (by decide)

/-! ### laws_heldRatioSS -/


def laws_heldRatioSS_L0a (x0 : (List (List (Int × Int)))) (x1 : Int) (x5 : Int) : St := mkSt 21 [(0, .s (.v (.sl (.sl (.pr (.int .i64) (.int .i64)))) x0)), (1, .s (.v (.int .i64) x1)), (5, .s (.v (.int .i64) x5))] []

def laws_heldRatioSS_L0X1 (y4 : Int) : St := mkSt 21 [(4, .s (.v (.int .i64) y4))] []

def laws_heldRatioSS_L0X2 (y0 : (List (List (Int × Int)))) (y1 : Int) (y5 : Int) (y9 : Bool) : St := mkSt 21 [(0, .s (.v (.sl (.sl (.pr (.int .i64) (.int .i64)))) y0)), (1, .s (.v (.int .i64) y1)), (5, .s (.v (.int .i64) y5)), (9, .s (.v .bool y9))] []

theorem laws_heldRatioSS_L0a_x1 (x0 : (List (List (Int × Int)))) (x1 : Int) (x5 : Int) (dc1 : Int)
    (h1 : x5 < ((List.length x0 : Nat) : Int))
    (h2 : 0 ≤ x5)
    (h3 : x5 < (List.length x0 : Int))
    (h4 : SC cfg.P i_laws_heldRatioS [.s (.v (.sl (.pr (.int .i64) (.int .i64))) (List.getD x0 (x5).toNat ([] : List (Int × Int)))), .s (.v (.int .i64) x1)] (.s (.v (.int .i64) dc1)) [])
    (h5 : dc1 < (0 : Int)) :
    LoopSC cfg.P 2 (lb P_laws_heldRatioSS 0) (laws_heldRatioSS_L0a x0 x1 x5) (.ret) (laws_heldRatioSS_L0X1 (-1 : Int)) :=
  loop_out cfgOK (f := i_laws_heldRatioSS) (its := [.bool true, .res (.s (.v (.int .i64) dc1)) [] [] [], .bool true])
    (ps := [decide (x5 < ((List.length x0 : Nat) : Int)) = true,
      0 ≤ x5,
      x5 < (List.length x0 : Int),
      SC cfg.P i_laws_heldRatioS [.s (.v (.sl (.pr (.int .i64) (.int .i64))) (List.getD x0 (x5).toNat ([] : List (Int × Int)))), .s (.v (.int .i64) x1)] (.s (.v (.int .i64) dc1)) [],
      decide (dc1 < (0 : Int)) = true]) (by kernel_rfl) ⟨(decide_eq_true h1), h2, h3, h4, (decide_eq_true h5), trivial⟩ (fun h => by cases h)

theorem laws_heldRatioSS_L0a_i2 (x0 : (List (List (Int × Int)))) (x1 : Int) (x5 : Int) (dc1 : Int)
    (h1 : x5 < ((List.length x0 : Nat) : Int))
    (h2 : 0 ≤ x5)
    (h3 : x5 < (List.length x0 : Int))
    (h4 : SC cfg.P i_laws_heldRatioS [.s (.v (.sl (.pr (.int .i64) (.int .i64))) (List.getD x0 (x5).toNat ([] : List (Int × Int)))), .s (.v (.int .i64) x1)] (.s (.v (.int .i64) dc1)) [])
    (h5 : ¬ (dc1 < (0 : Int)))
    {e : AEx} {st : St} (next : LoopSC cfg.P 2 (lb P_laws_heldRatioSS 0) (laws_heldRatioSS_L0a x0 dc1 (IntKind.wrap .i64 (x5 + (1 : Int)))) e st) :
    LoopSC cfg.P 2 (lb P_laws_heldRatioSS 0) (laws_heldRatioSS_L0a x0 x1 x5) e st :=
  loop_iter cfgOK (f := i_laws_heldRatioSS) (its := [.bool true, .res (.s (.v (.int .i64) dc1)) [] [] [], .bool false])
    (ps := [decide (x5 < ((List.length x0 : Nat) : Int)) = true,
      0 ≤ x5,
      x5 < (List.length x0 : Int),
      SC cfg.P i_laws_heldRatioS [.s (.v (.sl (.pr (.int .i64) (.int .i64))) (List.getD x0 (x5).toNat ([] : List (Int × Int)))), .s (.v (.int .i64) x1)] (.s (.v (.int .i64) dc1)) [],
      decide (dc1 < (0 : Int)) = false]) (st1 := laws_heldRatioSS_L0a x0 dc1 (IntKind.wrap .i64 (x5 + (1 : Int)))) (by kernel_rfl) ⟨(decide_eq_true h1), h2, h3, h4, (decide_eq_false h5), trivial⟩ next

theorem laws_heldRatioSS_L0a_x3 (x0 : (List (List (Int × Int)))) (x1 : Int) (x5 : Int)
    (h1 : ¬ (x5 < ((List.length x0 : Nat) : Int))) :
    LoopSC cfg.P 2 (lb P_laws_heldRatioSS 0) (laws_heldRatioSS_L0a x0 x1 x5) (.exit 0) (laws_heldRatioSS_L0X2 x0 x1 x5 false) :=
  loop_out cfgOK (f := i_laws_heldRatioSS) (its := [.bool false])
    (ps := [decide (x5 < ((List.length x0 : Nat) : Int)) = false]) (by kernel_rfl) ⟨(decide_eq_false h1), trivial⟩ (fun h => by cases h)

theorem laws_heldRatioSS_p1 (a0 : (List (List (Int × Int)))) (a1 : Int) (k1y4 : Int)
    (h1 : LoopSC cfg.P 2 (lb P_laws_heldRatioSS 0) (laws_heldRatioSS_L0a a0 a1 (0 : Int)) (.ret) (laws_heldRatioSS_L0X1 k1y4)) :
    SC cfg.P i_laws_heldRatioSS [.s (.v (.sl (.sl (.pr (.int .i64) (.int .i64)))) a0), .s (.v (.int .i64) a1)] (.s (.v (.int .i64) k1y4)) [] :=
  SC_of_run cfgOK (its := [.loop (fun _ => (.ret, laws_heldRatioSS_L0X1 k1y4))])
    (ps := [LoopSC cfg.P 2 (lb P_laws_heldRatioSS 0) (laws_heldRatioSS_L0a a0 a1 (0 : Int)) (.ret) (laws_heldRatioSS_L0X1 k1y4)]) (by kernel_rfl) ⟨h1, trivial⟩ get_laws_heldRatioSS (by decide)

theorem laws_heldRatioSS_p2 (a0 : (List (List (Int × Int)))) (a1 : Int) (k1y0 : (List (List (Int × Int)))) (k1y1 : Int) (k1y5 : Int) (k1y9 : Bool)
    (h1 : LoopSC cfg.P 2 (lb P_laws_heldRatioSS 0) (laws_heldRatioSS_L0a a0 a1 (0 : Int)) (.exit 0) (laws_heldRatioSS_L0X2 k1y0 k1y1 k1y5 k1y9)) :
    SC cfg.P i_laws_heldRatioSS [.s (.v (.sl (.sl (.pr (.int .i64) (.int .i64)))) a0), .s (.v (.int .i64) a1)] (.s (.v (.int .i64) k1y1)) [] :=
  SC_of_run cfgOK (its := [.loop (fun _ => (.exit 0, laws_heldRatioSS_L0X2 k1y0 k1y1 k1y5 k1y9))])
    (ps := [LoopSC cfg.P 2 (lb P_laws_heldRatioSS 0) (laws_heldRatioSS_L0a a0 a1 (0 : Int)) (.exit 0) (laws_heldRatioSS_L0X2 k1y0 k1y1 k1y5 k1y9)]) (by kernel_rfl) ⟨h1, trivial⟩ get_laws_heldRatioSS (by decide)

/-! ### laws_markRatioS -/


def laws_markRatioS_L0a (x1 : Int) (x5 : Int) (xo0 : (List (Int × Int))) : St := mkSt 27 [(0, .s (.osl 0 0)), (1, .s (.v (.int .i64) x1)), (5, .s (.v (.int .i64) x5))] [(0, .row t_impl_Ratio (.pr (.int .i64) (.int .i64)) xo0 0 false)]

def laws_markRatioS_L0X1 (y1 : Int) (y5 : Int) (y9 : Bool) (yo0 : (List (Int × Int))) : St := mkSt 27 [(0, .s (.osl 0 0)), (1, .s (.v (.int .i64) y1)), (5, .s (.v (.int .i64) y5)), (9, .s (.v .bool y9))] [(0, .row t_impl_Ratio (.pr (.int .i64) (.int .i64)) yo0 0 false)]

theorem laws_markRatioS_L0a_i1 (x1 : Int) (x5 : Int) (xo0 : (List (Int × Int)))
    (h1 : x5 < ((List.length xo0 : Nat) : Int))
    (h2 : 0 ≤ x5)
    (h3 : x5 < (List.length xo0 : Int))
    (h4 : (x5).toNat < List.length xo0)
    (h5 : x5 < (List.length (List.set xo0 (x5).toNat (x1, (List.getD xo0 (x5).toNat ((0 : Int), (0 : Int))).2)) : Int))
    (h6 : (x5).toNat < List.length (List.set xo0 (x5).toNat (x1, (List.getD xo0 (x5).toNat ((0 : Int), (0 : Int))).2)))
    {e : AEx} {st : St} (next : LoopSC cfg.P 2 (lb P_laws_markRatioS 0) (laws_markRatioS_L0a (IntKind.wrap .i64 ((IntKind.wrap .i64 (x1 + (1 : Int))) + (1 : Int))) (IntKind.wrap .i64 (x5 + (1 : Int))) (List.set (List.set xo0 (x5).toNat (x1, (List.getD xo0 (x5).toNat ((0 : Int), (0 : Int))).2)) (x5).toNat ((List.getD (List.set xo0 (x5).toNat (x1, (List.getD xo0 (x5).toNat ((0 : Int), (0 : Int))).2)) (x5).toNat ((0 : Int), (0 : Int))).1, (IntKind.wrap .i64 (x1 + (1 : Int)))))) e st) :
    LoopSC cfg.P 2 (lb P_laws_markRatioS 0) (laws_markRatioS_L0a x1 x5 xo0) e st :=
  loop_iter cfgOK (f := i_laws_markRatioS) (its := [.bool true])
    (ps := [decide (x5 < ((List.length xo0 : Nat) : Int)) = true,
      0 ≤ x5,
      x5 < (List.length xo0 : Int),
      (x5).toNat < List.length xo0,
      0 ≤ x5,
      x5 < (List.length (List.set xo0 (x5).toNat (x1, (List.getD xo0 (x5).toNat ((0 : Int), (0 : Int))).2)) : Int),
      (x5).toNat < List.length (List.set xo0 (x5).toNat (x1, (List.getD xo0 (x5).toNat ((0 : Int), (0 : Int))).2))]) (st1 := laws_markRatioS_L0a (IntKind.wrap .i64 ((IntKind.wrap .i64 (x1 + (1 : Int))) + (1 : Int))) (IntKind.wrap .i64 (x5 + (1 : Int))) (List.set (List.set xo0 (x5).toNat (x1, (List.getD xo0 (x5).toNat ((0 : Int), (0 : Int))).2)) (x5).toNat ((List.getD (List.set xo0 (x5).toNat (x1, (List.getD xo0 (x5).toNat ((0 : Int), (0 : Int))).2)) (x5).toNat ((0 : Int), (0 : Int))).1, (IntKind.wrap .i64 (x1 + (1 : Int)))))) (by kernel_rfl) ⟨(decide_eq_true h1), h2, h3, h4, h2, h5, h6, trivial⟩ next

theorem laws_markRatioS_L0a_x2 (x1 : Int) (x5 : Int) (xo0 : (List (Int × Int)))
    (h1 : ¬ (x5 < ((List.length xo0 : Nat) : Int))) :
    LoopSC cfg.P 2 (lb P_laws_markRatioS 0) (laws_markRatioS_L0a x1 x5 xo0) (.exit 0) (laws_markRatioS_L0X1 x1 x5 false xo0) :=
  loop_out cfgOK (f := i_laws_markRatioS) (its := [.bool false])
    (ps := [decide (x5 < ((List.length xo0 : Nat) : Int)) = false]) (by kernel_rfl) ⟨(decide_eq_false h1), trivial⟩ (fun h => by cases h)

theorem laws_markRatioS_p1 (a0 : (List (Int × Int))) (a1 : Int) (k1y1 : Int) (k1y5 : Int) (k1y9 : Bool) (k1yo0 : (List (Int × Int)))
    (h1 : LoopSC cfg.P 2 (lb P_laws_markRatioS 0) (laws_markRatioS_L0a a1 (0 : Int) a0) (.exit 0) (laws_markRatioS_L0X1 k1y1 k1y5 k1y9 k1yo0)) :
    SC cfg.P i_laws_markRatioS [.s (.msl t_impl_Ratio (.pr (.int .i64) (.int .i64)) a0), .s (.v (.int .i64) a1)] (.s (.v (.int .i64) k1y1)) [.row t_impl_Ratio (.pr (.int .i64) (.int .i64)) k1yo0] :=
  SC_of_run cfgOK (its := [.loop (fun _ => (.exit 0, laws_markRatioS_L0X1 k1y1 k1y5 k1y9 k1yo0))])
    (ps := [LoopSC cfg.P 2 (lb P_laws_markRatioS 0) (laws_markRatioS_L0a a1 (0 : Int) a0) (.exit 0) (laws_markRatioS_L0X1 k1y1 k1y5 k1y9 k1yo0)]) (by kernel_rfl) ⟨h1, trivial⟩ get_laws_markRatioS (by decide)

/-! ### laws_heldRatioS -/


def laws_heldRatioS_L0a (x0 : (List (Int × Int))) (x1 : Int) (x5 : Int) : St := mkSt 31 [(0, .s (.v (.sl (.pr (.int .i64) (.int .i64))) x0)), (1, .s (.v (.int .i64) x1)), (5, .s (.v (.int .i64) x5))] []

def laws_heldRatioS_L0X1 (y4 : Int) : St := mkSt 31 [(4, .s (.v (.int .i64) y4))] []

def laws_heldRatioS_L0X2 (y0 : (List (Int × Int))) (y1 : Int) (y5 : Int) (y9 : Bool) : St := mkSt 31 [(0, .s (.v (.sl (.pr (.int .i64) (.int .i64))) y0)), (1, .s (.v (.int .i64) y1)), (5, .s (.v (.int .i64) y5)), (9, .s (.v .bool y9))] []

theorem laws_heldRatioS_L0a_x1 (x0 : (List (Int × Int))) (x1 : Int) (x5 : Int)
    (h1 : x5 < ((List.length x0 : Nat) : Int))
    (h2 : 0 ≤ x5)
    (h3 : x5 < (List.length x0 : Int))
    (h4 : (List.getD x0 (x5).toNat ((0 : Int), (0 : Int))).1 ≠ x1) :
    LoopSC cfg.P 2 (lb P_laws_heldRatioS 0) (laws_heldRatioS_L0a x0 x1 x5) (.ret) (laws_heldRatioS_L0X1 (-1 : Int)) :=
  loop_out cfgOK (f := i_laws_heldRatioS) (its := [.bool true, .bool true])
    (ps := [decide (x5 < ((List.length x0 : Nat) : Int)) = true,
      0 ≤ x5,
      x5 < (List.length x0 : Int),
      ((List.getD x0 (x5).toNat ((0 : Int), (0 : Int))).1 != x1) = true]) (by kernel_rfl) ⟨(decide_eq_true h1), h2, h3, (bne_t h4), trivial⟩ (fun h => by cases h)

theorem laws_heldRatioS_L0a_x2 (x0 : (List (Int × Int))) (x1 : Int) (x5 : Int)
    (h1 : x5 < ((List.length x0 : Nat) : Int))
    (h2 : 0 ≤ x5)
    (h3 : x5 < (List.length x0 : Int))
    (h4 : (List.getD x0 (x5).toNat ((0 : Int), (0 : Int))).1 = x1)
    (h5 : (List.getD x0 (x5).toNat ((0 : Int), (0 : Int))).2 ≠ (IntKind.wrap .i64 (x1 + (1 : Int)))) :
    LoopSC cfg.P 2 (lb P_laws_heldRatioS 0) (laws_heldRatioS_L0a x0 x1 x5) (.ret) (laws_heldRatioS_L0X1 (-1 : Int)) :=
  loop_out cfgOK (f := i_laws_heldRatioS) (its := [.bool true, .bool false, .bool true])
    (ps := [decide (x5 < ((List.length x0 : Nat) : Int)) = true,
      0 ≤ x5,
      x5 < (List.length x0 : Int),
      ((List.getD x0 (x5).toNat ((0 : Int), (0 : Int))).1 != x1) = false,
      0 ≤ x5,
      x5 < (List.length x0 : Int),
      ((List.getD x0 (x5).toNat ((0 : Int), (0 : Int))).2 != (IntKind.wrap .i64 (x1 + (1 : Int)))) = true]) (by kernel_rfl) ⟨(decide_eq_true h1), h2, h3, (bne_f h4), h2, h3, (bne_t h5), trivial⟩ (fun h => by cases h)

theorem laws_heldRatioS_L0a_i3 (x0 : (List (Int × Int))) (x1 : Int) (x5 : Int)
    (h1 : x5 < ((List.length x0 : Nat) : Int))
    (h2 : 0 ≤ x5)
    (h3 : x5 < (List.length x0 : Int))
    (h4 : (List.getD x0 (x5).toNat ((0 : Int), (0 : Int))).1 = x1)
    (h5 : (List.getD x0 (x5).toNat ((0 : Int), (0 : Int))).2 = (IntKind.wrap .i64 (x1 + (1 : Int))))
    {e : AEx} {st : St} (next : LoopSC cfg.P 2 (lb P_laws_heldRatioS 0) (laws_heldRatioS_L0a x0 (IntKind.wrap .i64 ((IntKind.wrap .i64 (x1 + (1 : Int))) + (1 : Int))) (IntKind.wrap .i64 (x5 + (1 : Int)))) e st) :
    LoopSC cfg.P 2 (lb P_laws_heldRatioS 0) (laws_heldRatioS_L0a x0 x1 x5) e st :=
  loop_iter cfgOK (f := i_laws_heldRatioS) (its := [.bool true, .bool false, .bool false])
    (ps := [decide (x5 < ((List.length x0 : Nat) : Int)) = true,
      0 ≤ x5,
      x5 < (List.length x0 : Int),
      ((List.getD x0 (x5).toNat ((0 : Int), (0 : Int))).1 != x1) = false,
      0 ≤ x5,
      x5 < (List.length x0 : Int),
      ((List.getD x0 (x5).toNat ((0 : Int), (0 : Int))).2 != (IntKind.wrap .i64 (x1 + (1 : Int)))) = false]) (st1 := laws_heldRatioS_L0a x0 (IntKind.wrap .i64 ((IntKind.wrap .i64 (x1 + (1 : Int))) + (1 : Int))) (IntKind.wrap .i64 (x5 + (1 : Int)))) (by kernel_rfl) ⟨(decide_eq_true h1), h2, h3, (bne_f h4), h2, h3, (bne_f h5), trivial⟩ next

theorem laws_heldRatioS_L0a_x4 (x0 : (List (Int × Int))) (x1 : Int) (x5 : Int)
    (h1 : ¬ (x5 < ((List.length x0 : Nat) : Int))) :
    LoopSC cfg.P 2 (lb P_laws_heldRatioS 0) (laws_heldRatioS_L0a x0 x1 x5) (.exit 0) (laws_heldRatioS_L0X2 x0 x1 x5 false) :=
  loop_out cfgOK (f := i_laws_heldRatioS) (its := [.bool false])
    (ps := [decide (x5 < ((List.length x0 : Nat) : Int)) = false]) (by kernel_rfl) ⟨(decide_eq_false h1), trivial⟩ (fun h => by cases h)

theorem laws_heldRatioS_p1 (a0 : (List (Int × Int))) (a1 : Int) (k1y4 : Int)
    (h1 : LoopSC cfg.P 2 (lb P_laws_heldRatioS 0) (laws_heldRatioS_L0a a0 a1 (0 : Int)) (.ret) (laws_heldRatioS_L0X1 k1y4)) :
    SC cfg.P i_laws_heldRatioS [.s (.v (.sl (.pr (.int .i64) (.int .i64))) a0), .s (.v (.int .i64) a1)] (.s (.v (.int .i64) k1y4)) [] :=
  SC_of_run cfgOK (its := [.loop (fun _ => (.ret, laws_heldRatioS_L0X1 k1y4))])
    (ps := [LoopSC cfg.P 2 (lb P_laws_heldRatioS 0) (laws_heldRatioS_L0a a0 a1 (0 : Int)) (.ret) (laws_heldRatioS_L0X1 k1y4)]) (by kernel_rfl) ⟨h1, trivial⟩ get_laws_heldRatioS (by decide)

theorem laws_heldRatioS_p2 (a0 : (List (Int × Int))) (a1 : Int) (k1y0 : (List (Int × Int))) (k1y1 : Int) (k1y5 : Int) (k1y9 : Bool)
    (h1 : LoopSC cfg.P 2 (lb P_laws_heldRatioS 0) (laws_heldRatioS_L0a a0 a1 (0 : Int)) (.exit 0) (laws_heldRatioS_L0X2 k1y0 k1y1 k1y5 k1y9)) :
    SC cfg.P i_laws_heldRatioS [.s (.v (.sl (.pr (.int .i64) (.int .i64))) a0), .s (.v (.int .i64) a1)] (.s (.v (.int .i64) k1y1)) [] :=
  SC_of_run cfgOK (its := [.loop (fun _ => (.exit 0, laws_heldRatioS_L0X2 k1y0 k1y1 k1y5 k1y9))])
    (ps := [LoopSC cfg.P 2 (lb P_laws_heldRatioS 0) (laws_heldRatioS_L0a a0 a1 (0 : Int)) (.exit 0) (laws_heldRatioS_L0X2 k1y0 k1y1 k1y5 k1y9)]) (by kernel_rfl) ⟨h1, trivial⟩ get_laws_heldRatioS (by decide)

end Go.AI
