/- A part of the road: what it proves stands in its last texts. -/
import Derived.Test.YtndnckjnnfnnnaaDoorSIds
import Derived.Test.YtndnckjnnfnnnaaDoorProg
set_option autoImplicit false
set_option maxRecDepth 100000
set_option linter.unusedVariables false
namespace Go.AI
open Go.Proofs

/-! ### spec_mpRising -/


def spec_mpRising_L0a (x0 : (List (Int × Int))) (x8 : (List (Int × Int))) (x9 : Int) (x10 : Int) : St := mkSt 38 [(0, .s (.v (.sl (.pr (.int .i64) (.int .i64))) x0)), (8, .s (.v (.sl (.pr (.int .i64) (.int .i64))) x8)), (9, .s (.v (.int .i64) x9)), (10, .s (.v (.int .i64) x10))] []

def spec_mpRising_L0X1 (y2 : Bool) : St := mkSt 38 [(2, .s (.v .bool y2))] []

def spec_mpRising_L0X2 (y0 : (List (Int × Int))) (y8 : (List (Int × Int))) (y9 : Int) (y10 : Int) (y11 : Bool) : St := mkSt 38 [(0, .s (.v (.sl (.pr (.int .i64) (.int .i64))) y0)), (8, .s (.v (.sl (.pr (.int .i64) (.int .i64))) y8)), (9, .s (.v (.int .i64) y9)), (10, .s (.v (.int .i64) y10)), (11, .s (.v .bool y11))] []

theorem spec_mpRising_L0a_x1 (x0 : (List (Int × Int))) (x8 : (List (Int × Int))) (x9 : Int) (x10 : Int)
    (h1 : x10 < x9)
    (h2 : 0 ≤ x10)
    (h3 : x10 < (List.length x8 : Int))
    (h4 : SC cfg.P i_spec_mpGood [.s (.v (.pr (.int .i64) (.int .i64)) (List.getD x8 (x10).toNat ((0 : Int), (0 : Int))))] (.s (.v .bool true)) [])
    (h5 : (List.getD x8 (x10).toNat ((0 : Int), (0 : Int))).2 = (1 : Int)) :
    LoopSC cfg.P 1 (lb P_spec_mpRising 0) (spec_mpRising_L0a x0 x8 x9 x10) (.ret) (spec_mpRising_L0X1 false) :=
  loop_out cfgOK (f := i_spec_mpRising) (its := [.bool true, .res (.s (.v .bool true)) [] [] [], .bool true])
    (ps := [decide (x10 < x9) = true,
      0 ≤ x10,
      x10 < (List.length x8 : Int),
      SC cfg.P i_spec_mpGood [.s (.v (.pr (.int .i64) (.int .i64)) (List.getD x8 (x10).toNat ((0 : Int), (0 : Int))))] (.s (.v .bool true)) [],
      ((List.getD x8 (x10).toNat ((0 : Int), (0 : Int))).2 == (1 : Int)) = true]) (by kernel_rfl) ⟨(decide_eq_true h1), h2, h3, h4, (beq_iff_eq.mpr h5), trivial⟩ (fun h => by cases h)

theorem spec_mpRising_L0a_i2 (x0 : (List (Int × Int))) (x8 : (List (Int × Int))) (x9 : Int) (x10 : Int)
    (h1 : x10 < x9)
    (h2 : 0 ≤ x10)
    (h3 : x10 < (List.length x8 : Int))
    (h4 : SC cfg.P i_spec_mpGood [.s (.v (.pr (.int .i64) (.int .i64)) (List.getD x8 (x10).toNat ((0 : Int), (0 : Int))))] (.s (.v .bool true)) [])
    (h5 : (List.getD x8 (x10).toNat ((0 : Int), (0 : Int))).2 ≠ (1 : Int))
    (h6 : x10 > (0 : Int))
    (h7 : 0 ≤ (IntKind.wrap .i64 (x10 - (1 : Int))))
    (h8 : (IntKind.wrap .i64 (x10 - (1 : Int))) < (List.length x0 : Int))
    (h9 : SC cfg.P i_spec_mpLess [.s (.v (.pr (.int .i64) (.int .i64)) (List.getD x0 ((IntKind.wrap .i64 (x10 - (1 : Int)))).toNat ((0 : Int), (0 : Int)))), .s (.v (.pr (.int .i64) (.int .i64)) (List.getD x8 (x10).toNat ((0 : Int), (0 : Int))))] (.s (.v .bool true)) [])
    {e : AEx} {st : St} (next : LoopSC cfg.P 1 (lb P_spec_mpRising 0) (spec_mpRising_L0a x0 x8 x9 (IntKind.wrap .i64 (x10 + (1 : Int)))) e st) :
    LoopSC cfg.P 1 (lb P_spec_mpRising 0) (spec_mpRising_L0a x0 x8 x9 x10) e st :=
  loop_iter cfgOK (f := i_spec_mpRising) (its := [.bool true, .res (.s (.v .bool true)) [] [] [], .bool false, .bool true, .res (.s (.v .bool true)) [] [] []])
    (ps := [decide (x10 < x9) = true,
      0 ≤ x10,
      x10 < (List.length x8 : Int),
      SC cfg.P i_spec_mpGood [.s (.v (.pr (.int .i64) (.int .i64)) (List.getD x8 (x10).toNat ((0 : Int), (0 : Int))))] (.s (.v .bool true)) [],
      ((List.getD x8 (x10).toNat ((0 : Int), (0 : Int))).2 == (1 : Int)) = false,
      decide (x10 > (0 : Int)) = true,
      0 ≤ (IntKind.wrap .i64 (x10 - (1 : Int))),
      (IntKind.wrap .i64 (x10 - (1 : Int))) < (List.length x0 : Int),
      SC cfg.P i_spec_mpLess [.s (.v (.pr (.int .i64) (.int .i64)) (List.getD x0 ((IntKind.wrap .i64 (x10 - (1 : Int)))).toNat ((0 : Int), (0 : Int)))), .s (.v (.pr (.int .i64) (.int .i64)) (List.getD x8 (x10).toNat ((0 : Int), (0 : Int))))] (.s (.v .bool true)) []]) (st1 := spec_mpRising_L0a x0 x8 x9 (IntKind.wrap .i64 (x10 + (1 : Int)))) (by kernel_rfl) ⟨(decide_eq_true h1), h2, h3, h4, (beq_eq_false_iff_ne.mpr h5), (decide_eq_true h6), h7, h8, h9, trivial⟩ next

theorem spec_mpRising_L0a_x3 (x0 : (List (Int × Int))) (x8 : (List (Int × Int))) (x9 : Int) (x10 : Int)
    (h1 : x10 < x9)
    (h2 : 0 ≤ x10)
    (h3 : x10 < (List.length x8 : Int))
    (h4 : SC cfg.P i_spec_mpGood [.s (.v (.pr (.int .i64) (.int .i64)) (List.getD x8 (x10).toNat ((0 : Int), (0 : Int))))] (.s (.v .bool true)) [])
    (h5 : (List.getD x8 (x10).toNat ((0 : Int), (0 : Int))).2 ≠ (1 : Int))
    (h6 : x10 > (0 : Int))
    (h7 : 0 ≤ (IntKind.wrap .i64 (x10 - (1 : Int))))
    (h8 : (IntKind.wrap .i64 (x10 - (1 : Int))) < (List.length x0 : Int))
    (h9 : SC cfg.P i_spec_mpLess [.s (.v (.pr (.int .i64) (.int .i64)) (List.getD x0 ((IntKind.wrap .i64 (x10 - (1 : Int)))).toNat ((0 : Int), (0 : Int)))), .s (.v (.pr (.int .i64) (.int .i64)) (List.getD x8 (x10).toNat ((0 : Int), (0 : Int))))] (.s (.v .bool false)) []) :
    LoopSC cfg.P 1 (lb P_spec_mpRising 0) (spec_mpRising_L0a x0 x8 x9 x10) (.ret) (spec_mpRising_L0X1 false) :=
  loop_out cfgOK (f := i_spec_mpRising) (its := [.bool true, .res (.s (.v .bool true)) [] [] [], .bool false, .bool true, .res (.s (.v .bool false)) [] [] []])
    (ps := [decide (x10 < x9) = true,
      0 ≤ x10,
      x10 < (List.length x8 : Int),
      SC cfg.P i_spec_mpGood [.s (.v (.pr (.int .i64) (.int .i64)) (List.getD x8 (x10).toNat ((0 : Int), (0 : Int))))] (.s (.v .bool true)) [],
      ((List.getD x8 (x10).toNat ((0 : Int), (0 : Int))).2 == (1 : Int)) = false,
      decide (x10 > (0 : Int)) = true,
      0 ≤ (IntKind.wrap .i64 (x10 - (1 : Int))),
      (IntKind.wrap .i64 (x10 - (1 : Int))) < (List.length x0 : Int),
      SC cfg.P i_spec_mpLess [.s (.v (.pr (.int .i64) (.int .i64)) (List.getD x0 ((IntKind.wrap .i64 (x10 - (1 : Int)))).toNat ((0 : Int), (0 : Int)))), .s (.v (.pr (.int .i64) (.int .i64)) (List.getD x8 (x10).toNat ((0 : Int), (0 : Int))))] (.s (.v .bool false)) []]) (by kernel_rfl) ⟨(decide_eq_true h1), h2, h3, h4, (beq_eq_false_iff_ne.mpr h5), (decide_eq_true h6), h7, h8, h9, trivial⟩ (fun h => by cases h)

theorem spec_mpRising_L0a_i4 (x0 : (List (Int × Int))) (x8 : (List (Int × Int))) (x9 : Int) (x10 : Int)
    (h1 : x10 < x9)
    (h2 : 0 ≤ x10)
    (h3 : x10 < (List.length x8 : Int))
    (h4 : SC cfg.P i_spec_mpGood [.s (.v (.pr (.int .i64) (.int .i64)) (List.getD x8 (x10).toNat ((0 : Int), (0 : Int))))] (.s (.v .bool true)) [])
    (h5 : (List.getD x8 (x10).toNat ((0 : Int), (0 : Int))).2 ≠ (1 : Int))
    (h6 : ¬ (x10 > (0 : Int)))
    {e : AEx} {st : St} (next : LoopSC cfg.P 1 (lb P_spec_mpRising 0) (spec_mpRising_L0a x0 x8 x9 (IntKind.wrap .i64 (x10 + (1 : Int)))) e st) :
    LoopSC cfg.P 1 (lb P_spec_mpRising 0) (spec_mpRising_L0a x0 x8 x9 x10) e st :=
  loop_iter cfgOK (f := i_spec_mpRising) (its := [.bool true, .res (.s (.v .bool true)) [] [] [], .bool false, .bool false])
    (ps := [decide (x10 < x9) = true,
      0 ≤ x10,
      x10 < (List.length x8 : Int),
      SC cfg.P i_spec_mpGood [.s (.v (.pr (.int .i64) (.int .i64)) (List.getD x8 (x10).toNat ((0 : Int), (0 : Int))))] (.s (.v .bool true)) [],
      ((List.getD x8 (x10).toNat ((0 : Int), (0 : Int))).2 == (1 : Int)) = false,
      decide (x10 > (0 : Int)) = false]) (st1 := spec_mpRising_L0a x0 x8 x9 (IntKind.wrap .i64 (x10 + (1 : Int)))) (by kernel_rfl) ⟨(decide_eq_true h1), h2, h3, h4, (beq_eq_false_iff_ne.mpr h5), (decide_eq_false h6), trivial⟩ next

theorem spec_mpRising_L0a_x5 (x0 : (List (Int × Int))) (x8 : (List (Int × Int))) (x9 : Int) (x10 : Int)
    (h1 : x10 < x9)
    (h2 : 0 ≤ x10)
    (h3 : x10 < (List.length x8 : Int))
    (h4 : SC cfg.P i_spec_mpGood [.s (.v (.pr (.int .i64) (.int .i64)) (List.getD x8 (x10).toNat ((0 : Int), (0 : Int))))] (.s (.v .bool false)) []) :
    LoopSC cfg.P 1 (lb P_spec_mpRising 0) (spec_mpRising_L0a x0 x8 x9 x10) (.ret) (spec_mpRising_L0X1 false) :=
  loop_out cfgOK (f := i_spec_mpRising) (its := [.bool true, .res (.s (.v .bool false)) [] [] []])
    (ps := [decide (x10 < x9) = true,
      0 ≤ x10,
      x10 < (List.length x8 : Int),
      SC cfg.P i_spec_mpGood [.s (.v (.pr (.int .i64) (.int .i64)) (List.getD x8 (x10).toNat ((0 : Int), (0 : Int))))] (.s (.v .bool false)) []]) (by kernel_rfl) ⟨(decide_eq_true h1), h2, h3, h4, trivial⟩ (fun h => by cases h)

theorem spec_mpRising_L0a_x6 (x0 : (List (Int × Int))) (x8 : (List (Int × Int))) (x9 : Int) (x10 : Int)
    (h1 : ¬ (x10 < x9)) :
    LoopSC cfg.P 1 (lb P_spec_mpRising 0) (spec_mpRising_L0a x0 x8 x9 x10) (.exit 0) (spec_mpRising_L0X2 x0 x8 x9 x10 false) :=
  loop_out cfgOK (f := i_spec_mpRising) (its := [.bool false])
    (ps := [decide (x10 < x9) = false]) (by kernel_rfl) ⟨(decide_eq_false h1), trivial⟩ (fun h => by cases h)

theorem spec_mpRising_p1 (a0 : (List (Int × Int)))
    (h1 : ((List.length a0 : Nat) : Int) > (8 : Int)) :
    SC cfg.P i_spec_mpRising [.s (.v (.sl (.pr (.int .i64) (.int .i64))) a0)] (.s (.v .bool false)) [] :=
  SC_of_run cfgOK (its := [.bool true])
    (ps := [decide (((List.length a0 : Nat) : Int) > (8 : Int)) = true]) (by kernel_rfl) ⟨(decide_eq_true h1), trivial⟩ get_spec_mpRising (by decide)

theorem spec_mpRising_p2 (a0 : (List (Int × Int))) (k1y2 : Bool)
    (h1 : ¬ (((List.length a0 : Nat) : Int) > (8 : Int)))
    (h2 : LoopSC cfg.P 1 (lb P_spec_mpRising 0) (spec_mpRising_L0a a0 a0 ((List.length a0 : Nat) : Int) (0 : Int)) (.ret) (spec_mpRising_L0X1 k1y2)) :
    SC cfg.P i_spec_mpRising [.s (.v (.sl (.pr (.int .i64) (.int .i64))) a0)] (.s (.v .bool k1y2)) [] :=
  SC_of_run cfgOK (its := [.bool false, .loop (fun _ => (.ret, spec_mpRising_L0X1 k1y2))])
    (ps := [decide (((List.length a0 : Nat) : Int) > (8 : Int)) = false,
      LoopSC cfg.P 1 (lb P_spec_mpRising 0) (spec_mpRising_L0a a0 a0 ((List.length a0 : Nat) : Int) (0 : Int)) (.ret) (spec_mpRising_L0X1 k1y2)]) (by kernel_rfl) ⟨(decide_eq_false h1), h2, trivial⟩ get_spec_mpRising (by decide)

theorem spec_mpRising_p3 (a0 : (List (Int × Int))) (k1y0 : (List (Int × Int))) (k1y8 : (List (Int × Int))) (k1y9 : Int) (k1y10 : Int) (k1y11 : Bool)
    (h1 : ¬ (((List.length a0 : Nat) : Int) > (8 : Int)))
    (h2 : LoopSC cfg.P 1 (lb P_spec_mpRising 0) (spec_mpRising_L0a a0 a0 ((List.length a0 : Nat) : Int) (0 : Int)) (.exit 0) (spec_mpRising_L0X2 k1y0 k1y8 k1y9 k1y10 k1y11)) :
    SC cfg.P i_spec_mpRising [.s (.v (.sl (.pr (.int .i64) (.int .i64))) a0)] (.s (.v .bool true)) [] :=
  SC_of_run cfgOK (its := [.bool false, .loop (fun _ => (.exit 0, spec_mpRising_L0X2 k1y0 k1y8 k1y9 k1y10 k1y11))])
    (ps := [decide (((List.length a0 : Nat) : Int) > (8 : Int)) = false,
      LoopSC cfg.P 1 (lb P_spec_mpRising 0) (spec_mpRising_L0a a0 a0 ((List.length a0 : Nat) : Int) (0 : Int)) (.exit 0) (spec_mpRising_L0X2 k1y0 k1y8 k1y9 k1y10 k1y11)]) (by kernel_rfl) ⟨(decide_eq_false h1), h2, trivial⟩ get_spec_mpRising (by decide)

/-! ### spec_mpLess -/


theorem spec_mpLess_p1 (a0 : (Int × Int)) (a1 : (Int × Int))
    (h1 : (IntKind.wrap .i64 (a0.1 * a1.2)) < (IntKind.wrap .i64 (a1.1 * a0.2))) :
    SC cfg.P i_spec_mpLess [.s (.v (.pr (.int .i64) (.int .i64)) a0), .s (.v (.pr (.int .i64) (.int .i64)) a1)] (.s (.v .bool true)) [] :=
  SC_of_run cfgOK (its := [.bool true])
    (ps := [decide ((IntKind.wrap .i64 (a0.1 * a1.2)) < (IntKind.wrap .i64 (a1.1 * a0.2))) = true]) (by kernel_rfl) ⟨(decide_eq_true h1), trivial⟩ get_spec_mpLess (by decide)

theorem spec_mpLess_p2 (a0 : (Int × Int)) (a1 : (Int × Int))
    (h1 : ¬ ((IntKind.wrap .i64 (a0.1 * a1.2)) < (IntKind.wrap .i64 (a1.1 * a0.2)))) :
    SC cfg.P i_spec_mpLess [.s (.v (.pr (.int .i64) (.int .i64)) a0), .s (.v (.pr (.int .i64) (.int .i64)) a1)] (.s (.v .bool false)) [] :=
  SC_of_run cfgOK (its := [.bool false])
    (ps := [decide ((IntKind.wrap .i64 (a0.1 * a1.2)) < (IntKind.wrap .i64 (a1.1 * a0.2))) = false]) (by kernel_rfl) ⟨(decide_eq_false h1), trivial⟩ get_spec_mpLess (by decide)

/-! ### spec_mpEnds -/


theorem spec_mpEnds_p1 (a0 : (List (Int × Int)))
    (h1 : sizeOK (List.length ([((0 : Int), (1 : Int))] : List (Int × Int)) + List.length a0))
    (h2 : sizeOK (List.length (([((0 : Int), (1 : Int))] : List (Int × Int)) ++ a0) + List.length ([((1 : Int), (1 : Int))] : List (Int × Int)))) :
    SC cfg.P i_spec_mpEnds [.s (.v (.sl (.pr (.int .i64) (.int .i64))) a0)] (.s (.own t_impl_Fraction (.pr (.int .i64) (.int .i64)) ((([((0 : Int), (1 : Int))] : List (Int × Int)) ++ a0) ++ ([((1 : Int), (1 : Int))] : List (Int × Int))))) [] :=
  SC_of_run cfgOK (its := [])
    (ps := [sizeOK (List.length ([((0 : Int), (1 : Int))] : List (Int × Int)) + List.length a0),
      sizeOK (List.length (([((0 : Int), (1 : Int))] : List (Int × Int)) ++ a0) + List.length ([((1 : Int), (1 : Int))] : List (Int × Int)))]) (by kernel_rfl) ⟨h1, h2, trivial⟩ get_spec_mpEnds (by decide)

/-! ### spec_mpSlope -/


def spec_mpSlope_L0a (x0 : Int) (x1 : Int) (x6 : Int) : St := mkSt 25 [(0, .s (.v (.int .i64) x0)), (1, .s (.v (.int .i64) x1)), (6, .s (.v (.int .i64) x6))] []

def spec_mpSlope_L0X1 (y0 : Int) (y1 : Int) (y6 : Int) (y9 : Bool) : St := mkSt 25 [(0, .s (.v (.int .i64) y0)), (1, .s (.v (.int .i64) y1)), (6, .s (.v (.int .i64) y6)), (9, .s (.v .bool y9))] []

def spec_mpSlope_L1a (x0 : Int) (x1 : Int) (x6 : Int) (x9 : Bool) : St := mkSt 25 [(0, .s (.v (.int .i64) x0)), (1, .s (.v (.int .i64) x1)), (6, .s (.v (.int .i64) x6)), (9, .s (.v .bool x9))] []

def spec_mpSlope_L1b (x0 : Int) (x1 : Int) (x6 : Int) : St := mkSt 25 [(0, .s (.v (.int .i64) x0)), (1, .s (.v (.int .i64) x1)), (6, .s (.v (.int .i64) x6))] []

def spec_mpSlope_L1X1 (y0 : Int) (y1 : Int) (y6 : Int) (y16 : Bool) : St := mkSt 25 [(0, .s (.v (.int .i64) y0)), (1, .s (.v (.int .i64) y1)), (6, .s (.v (.int .i64) y6)), (16, .s (.v .bool y16))] []

theorem spec_mpSlope_L0a_i1 (x0 : Int) (x1 : Int) (x6 : Int)
    (h1 : x0 < x1)
    {e : AEx} {st : St} (next : LoopSC cfg.P 2 (lb P_spec_mpSlope 0) (spec_mpSlope_L0a (IntKind.wrap .i64 (x0 * (2 : Int))) x1 (IntKind.wrap .i64 (x6 - (1 : Int)))) e st) :
    LoopSC cfg.P 2 (lb P_spec_mpSlope 0) (spec_mpSlope_L0a x0 x1 x6) e st :=
  loop_iter cfgOK (f := i_spec_mpSlope) (its := [.bool true])
    (ps := [decide (x0 < x1) = true]) (st1 := spec_mpSlope_L0a (IntKind.wrap .i64 (x0 * (2 : Int))) x1 (IntKind.wrap .i64 (x6 - (1 : Int)))) (by kernel_rfl) ⟨(decide_eq_true h1), trivial⟩ next

theorem spec_mpSlope_L0a_x2 (x0 : Int) (x1 : Int) (x6 : Int)
    (h1 : ¬ (x0 < x1)) :
    LoopSC cfg.P 2 (lb P_spec_mpSlope 0) (spec_mpSlope_L0a x0 x1 x6) (.exit 0) (spec_mpSlope_L0X1 x0 x1 x6 false) :=
  loop_out cfgOK (f := i_spec_mpSlope) (its := [.bool false])
    (ps := [decide (x0 < x1) = false]) (by kernel_rfl) ⟨(decide_eq_false h1), trivial⟩ (fun h => by cases h)

theorem spec_mpSlope_L1a_i1 (x0 : Int) (x1 : Int) (x6 : Int) (x9 : Bool)
    (h1 : x1 < x0)
    {e : AEx} {st : St} (next : LoopSC cfg.P 2 (lb P_spec_mpSlope 1) (spec_mpSlope_L1b x0 (IntKind.wrap .i64 (x1 * (2 : Int))) (IntKind.wrap .i64 (x6 + (1 : Int)))) e st) :
    LoopSC cfg.P 2 (lb P_spec_mpSlope 1) (spec_mpSlope_L1a x0 x1 x6 x9) e st :=
  loop_iter cfgOK (f := i_spec_mpSlope) (its := [.bool true])
    (ps := [decide (x1 < x0) = true]) (st1 := spec_mpSlope_L1b x0 (IntKind.wrap .i64 (x1 * (2 : Int))) (IntKind.wrap .i64 (x6 + (1 : Int)))) (by kernel_rfl) ⟨(decide_eq_true h1), trivial⟩ next

theorem spec_mpSlope_L1a_x2 (x0 : Int) (x1 : Int) (x6 : Int) (x9 : Bool)
    (h1 : ¬ (x1 < x0)) :
    LoopSC cfg.P 2 (lb P_spec_mpSlope 1) (spec_mpSlope_L1a x0 x1 x6 x9) (.exit 2) (spec_mpSlope_L1X1 x0 x1 x6 false) :=
  loop_out cfgOK (f := i_spec_mpSlope) (its := [.bool false])
    (ps := [decide (x1 < x0) = false]) (by kernel_rfl) ⟨(decide_eq_false h1), trivial⟩ (fun h => by cases h)

theorem spec_mpSlope_L1b_i1 (x0 : Int) (x1 : Int) (x6 : Int)
    (h1 : x1 < x0)
    {e : AEx} {st : St} (next : LoopSC cfg.P 2 (lb P_spec_mpSlope 1) (spec_mpSlope_L1b x0 (IntKind.wrap .i64 (x1 * (2 : Int))) (IntKind.wrap .i64 (x6 + (1 : Int)))) e st) :
    LoopSC cfg.P 2 (lb P_spec_mpSlope 1) (spec_mpSlope_L1b x0 x1 x6) e st :=
  loop_iter cfgOK (f := i_spec_mpSlope) (its := [.bool true])
    (ps := [decide (x1 < x0) = true]) (st1 := spec_mpSlope_L1b x0 (IntKind.wrap .i64 (x1 * (2 : Int))) (IntKind.wrap .i64 (x6 + (1 : Int)))) (by kernel_rfl) ⟨(decide_eq_true h1), trivial⟩ next

theorem spec_mpSlope_L1b_x2 (x0 : Int) (x1 : Int) (x6 : Int)
    (h1 : ¬ (x1 < x0)) :
    LoopSC cfg.P 2 (lb P_spec_mpSlope 1) (spec_mpSlope_L1b x0 x1 x6) (.exit 2) (spec_mpSlope_L1X1 x0 x1 x6 false) :=
  loop_out cfgOK (f := i_spec_mpSlope) (its := [.bool false])
    (ps := [decide (x1 < x0) = false]) (by kernel_rfl) ⟨(decide_eq_false h1), trivial⟩ (fun h => by cases h)

theorem spec_mpSlope_p1 (a0 : Int) (a1 : Int) (k1y0 : Int) (k1y1 : Int) (k1y6 : Int) (k1y9 : Bool) (k2y0 : Int) (k2y1 : Int) (k2y6 : Int) (k2y16 : Bool)
    (h1 : LoopSC cfg.P 2 (lb P_spec_mpSlope 0) (spec_mpSlope_L0a a0 a1 (0 : Int)) (.exit 0) (spec_mpSlope_L0X1 k1y0 k1y1 k1y6 k1y9))
    (h2 : LoopSC cfg.P 2 (lb P_spec_mpSlope 1) (spec_mpSlope_L1a k1y0 k1y1 k1y6 k1y9) (.exit 2) (spec_mpSlope_L1X1 k2y0 k2y1 k2y6 k2y16))
    (h3 : k2y0 = k2y1) :
    SC cfg.P i_spec_mpSlope [.s (.v (.int .i64) a0), .s (.v (.int .i64) a1)] (.tup [.v (.int .i64) k2y6, .v .bool true]) [] :=
  SC_of_run cfgOK (its := [.loop (fun _ => (.exit 0, spec_mpSlope_L0X1 k1y0 k1y1 k1y6 k1y9)), .loop (fun _ => (.exit 2, spec_mpSlope_L1X1 k2y0 k2y1 k2y6 k2y16)), .bool true])
    (ps := [LoopSC cfg.P 2 (lb P_spec_mpSlope 0) (spec_mpSlope_L0a a0 a1 (0 : Int)) (.exit 0) (spec_mpSlope_L0X1 k1y0 k1y1 k1y6 k1y9),
      LoopSC cfg.P 2 (lb P_spec_mpSlope 1) (spec_mpSlope_L1a k1y0 k1y1 k1y6 k1y9) (.exit 2) (spec_mpSlope_L1X1 k2y0 k2y1 k2y6 k2y16),
      (k2y0 == k2y1) = true]) (by kernel_rfl) ⟨h1, h2, (beq_iff_eq.mpr h3), trivial⟩ get_spec_mpSlope (by decide)

theorem spec_mpSlope_p2 (a0 : Int) (a1 : Int) (k1y0 : Int) (k1y1 : Int) (k1y6 : Int) (k1y9 : Bool) (k2y0 : Int) (k2y1 : Int) (k2y6 : Int) (k2y16 : Bool)
    (h1 : LoopSC cfg.P 2 (lb P_spec_mpSlope 0) (spec_mpSlope_L0a a0 a1 (0 : Int)) (.exit 0) (spec_mpSlope_L0X1 k1y0 k1y1 k1y6 k1y9))
    (h2 : LoopSC cfg.P 2 (lb P_spec_mpSlope 1) (spec_mpSlope_L1a k1y0 k1y1 k1y6 k1y9) (.exit 2) (spec_mpSlope_L1X1 k2y0 k2y1 k2y6 k2y16))
    (h3 : k2y0 ≠ k2y1) :
    SC cfg.P i_spec_mpSlope [.s (.v (.int .i64) a0), .s (.v (.int .i64) a1)] (.tup [.v (.int .i64) k2y6, .v .bool false]) [] :=
  SC_of_run cfgOK (its := [.loop (fun _ => (.exit 0, spec_mpSlope_L0X1 k1y0 k1y1 k1y6 k1y9)), .loop (fun _ => (.exit 2, spec_mpSlope_L1X1 k2y0 k2y1 k2y6 k2y16)), .bool false])
    (ps := [LoopSC cfg.P 2 (lb P_spec_mpSlope 0) (spec_mpSlope_L0a a0 a1 (0 : Int)) (.exit 0) (spec_mpSlope_L0X1 k1y0 k1y1 k1y6 k1y9),
      LoopSC cfg.P 2 (lb P_spec_mpSlope 1) (spec_mpSlope_L1a k1y0 k1y1 k1y6 k1y9) (.exit 2) (spec_mpSlope_L1X1 k2y0 k2y1 k2y6 k2y16),
      (k2y0 == k2y1) = false]) (by kernel_rfl) ⟨h1, h2, (beq_eq_false_iff_ne.mpr h3), trivial⟩ get_spec_mpSlope (by decide)

/-! ### spec_AddressOf -/


def spec_AddressOf_L0a (x6 : Int) (x7 : ByteArray) (x8 : Int) : St := mkSt 56 [(6, .s (.v (.int .i64) x6)), (7, .s (.v .str x7)), (8, .s (.v (.int .i64) x8))] []

def spec_AddressOf_L0X1 (y6 : Int) (y7 : ByteArray) (y8 : Int) (y42 : Bool) : St := mkSt 56 [(6, .s (.v (.int .i64) y6)), (7, .s (.v .str y7)), (8, .s (.v (.int .i64) y8)), (42, .s (.v .bool y42))] []

theorem spec_AddressOf_L0a_i1 (x6 : Int) (x7 : ByteArray) (x8 : Int)
    (h1 : x8 ≥ (0 : Int))
    (h2 : 0 ≤ x8)
    (h3 : (2 : Int) ≠ 0)
    (h4 : (x7).size + ((strOf ([(IntKind.wrap .u8 (IntKind.wrap .i64 ((48 : Int) + (Int.tmod (Int.fdiv x6 (2 ^ (min (x8).toNat (IntKind.bits .i64)))) (2 : Int)))))] : List Int))).size ≤ 2 ^ 62)
    {e : AEx} {st : St} (next : LoopSC cfg.P 2 (lb P_spec_AddressOf 0) (spec_AddressOf_L0a x6 (x7 ++ (strOf ([(IntKind.wrap .u8 (IntKind.wrap .i64 ((48 : Int) + (Int.tmod (Int.fdiv x6 (2 ^ (min (x8).toNat (IntKind.bits .i64)))) (2 : Int)))))] : List Int))) (IntKind.wrap .i64 (x8 - (1 : Int)))) e st) :
    LoopSC cfg.P 2 (lb P_spec_AddressOf 0) (spec_AddressOf_L0a x6 x7 x8) e st :=
  loop_iter cfgOK (f := i_spec_AddressOf) (its := [.bool true])
    (ps := [decide (x8 ≥ (0 : Int)) = true,
      0 ≤ x8,
      (2 : Int) ≠ 0,
      (x7).size + ((strOf ([(IntKind.wrap .u8 (IntKind.wrap .i64 ((48 : Int) + (Int.tmod (Int.fdiv x6 (2 ^ (min (x8).toNat (IntKind.bits .i64)))) (2 : Int)))))] : List Int))).size ≤ 2 ^ 62]) (st1 := spec_AddressOf_L0a x6 (x7 ++ (strOf ([(IntKind.wrap .u8 (IntKind.wrap .i64 ((48 : Int) + (Int.tmod (Int.fdiv x6 (2 ^ (min (x8).toNat (IntKind.bits .i64)))) (2 : Int)))))] : List Int))) (IntKind.wrap .i64 (x8 - (1 : Int)))) (by kernel_rfl) ⟨(decide_eq_true h1), h2, h3, h4, trivial⟩ next

theorem spec_AddressOf_L0a_x2 (x6 : Int) (x7 : ByteArray) (x8 : Int)
    (h1 : ¬ (x8 ≥ (0 : Int))) :
    LoopSC cfg.P 2 (lb P_spec_AddressOf 0) (spec_AddressOf_L0a x6 x7 x8) (.exit 0) (spec_AddressOf_L0X1 x6 x7 x8 false) :=
  loop_out cfgOK (f := i_spec_AddressOf) (its := [.bool false])
    (ps := [decide (x8 ≥ (0 : Int)) = false]) (by kernel_rfl) ⟨(decide_eq_false h1), trivial⟩ (fun h => by cases h)

theorem spec_AddressOf_p1 (a0 : (Int × Int)) (a1 : Int)
    (h1 : SC cfg.P i_spec_mpGood [.s (.v (.pr (.int .i64) (.int .i64)) a0)] (.s (.v .bool true)) [])
    (h2 : a0.1 = a0.2) :
    SC cfg.P i_spec_AddressOf [.s (.v (.pr (.int .i64) (.int .i64)) a0), .s (.v (.int .i64) a1)] (.tup [.v .str (⟨#[]⟩ : ByteArray), .v .bool false]) [] :=
  SC_of_run cfgOK (its := [.res (.s (.v .bool true)) [] [] [], .bool true])
    (ps := [SC cfg.P i_spec_mpGood [.s (.v (.pr (.int .i64) (.int .i64)) a0)] (.s (.v .bool true)) [],
      (a0.1 == a0.2) = true]) (by kernel_rfl) ⟨h1, (beq_iff_eq.mpr h2), trivial⟩ get_spec_AddressOf (by decide)

theorem spec_AddressOf_p2 (a0 : (Int × Int)) (a1 : Int)
    (h1 : SC cfg.P i_spec_mpGood [.s (.v (.pr (.int .i64) (.int .i64)) a0)] (.s (.v .bool true)) [])
    (h2 : a0.1 ≠ a0.2)
    (h3 : SC cfg.P i_spec_l1In [.s (.v (.int .i64) a1), .s (.v (.int .i64) (0 : Int)), .s (.v (.int .i64) (10 : Int))] (.s (.v .bool true)) [])
    (h4 : 0 ≤ a1)
    (h5 : a0.2 > (IntKind.wrap .i64 ((1 : Int) * 2 ^ (min (a1).toNat (IntKind.bits .i64))))) :
    SC cfg.P i_spec_AddressOf [.s (.v (.pr (.int .i64) (.int .i64)) a0), .s (.v (.int .i64) a1)] (.tup [.v .str (⟨#[]⟩ : ByteArray), .v .bool false]) [] :=
  SC_of_run cfgOK (its := [.res (.s (.v .bool true)) [] [] [], .bool false, .res (.s (.v .bool true)) [] [] [], .bool true])
    (ps := [SC cfg.P i_spec_mpGood [.s (.v (.pr (.int .i64) (.int .i64)) a0)] (.s (.v .bool true)) [],
      (a0.1 == a0.2) = false,
      SC cfg.P i_spec_l1In [.s (.v (.int .i64) a1), .s (.v (.int .i64) (0 : Int)), .s (.v (.int .i64) (10 : Int))] (.s (.v .bool true)) [],
      0 ≤ a1,
      decide (a0.2 > (IntKind.wrap .i64 ((1 : Int) * 2 ^ (min (a1).toNat (IntKind.bits .i64))))) = true]) (by kernel_rfl) ⟨h1, (beq_eq_false_iff_ne.mpr h2), h3, h4, (decide_eq_true h5), trivial⟩ get_spec_AddressOf (by decide)

theorem spec_AddressOf_p3 (a0 : (Int × Int)) (a1 : Int) (k1y6 : Int) (k1y7 : ByteArray) (k1y8 : Int) (k1y42 : Bool)
    (h1 : SC cfg.P i_spec_mpGood [.s (.v (.pr (.int .i64) (.int .i64)) a0)] (.s (.v .bool true)) [])
    (h2 : a0.1 ≠ a0.2)
    (h3 : SC cfg.P i_spec_l1In [.s (.v (.int .i64) a1), .s (.v (.int .i64) (0 : Int)), .s (.v (.int .i64) (10 : Int))] (.s (.v .bool true)) [])
    (h4 : 0 ≤ a1)
    (h5 : ¬ (a0.2 > (IntKind.wrap .i64 ((1 : Int) * 2 ^ (min (a1).toNat (IntKind.bits .i64))))))
    (h6 : a0.2 ≠ 0)
    (h7 : LoopSC cfg.P 2 (lb P_spec_AddressOf 0) (spec_AddressOf_L0a (IntKind.wrap .i64 (a0.1 * (IntKind.wrap .i64 (Int.tdiv (IntKind.wrap .i64 ((1 : Int) * 2 ^ (min (a1).toNat (IntKind.bits .i64)))) a0.2)))) (⟨#[]⟩ : ByteArray) (IntKind.wrap .i64 (a1 - (1 : Int)))) (.exit 0) (spec_AddressOf_L0X1 k1y6 k1y7 k1y8 k1y42)) :
    SC cfg.P i_spec_AddressOf [.s (.v (.pr (.int .i64) (.int .i64)) a0), .s (.v (.int .i64) a1)] (.tup [.v .str k1y7, .v .bool true]) [] :=
  SC_of_run cfgOK (its := [.res (.s (.v .bool true)) [] [] [], .bool false, .res (.s (.v .bool true)) [] [] [], .bool false, .loop (fun _ => (.exit 0, spec_AddressOf_L0X1 k1y6 k1y7 k1y8 k1y42))])
    (ps := [SC cfg.P i_spec_mpGood [.s (.v (.pr (.int .i64) (.int .i64)) a0)] (.s (.v .bool true)) [],
      (a0.1 == a0.2) = false,
      SC cfg.P i_spec_l1In [.s (.v (.int .i64) a1), .s (.v (.int .i64) (0 : Int)), .s (.v (.int .i64) (10 : Int))] (.s (.v .bool true)) [],
      0 ≤ a1,
      decide (a0.2 > (IntKind.wrap .i64 ((1 : Int) * 2 ^ (min (a1).toNat (IntKind.bits .i64))))) = false,
      0 ≤ a1,
      a0.2 ≠ 0,
      LoopSC cfg.P 2 (lb P_spec_AddressOf 0) (spec_AddressOf_L0a (IntKind.wrap .i64 (a0.1 * (IntKind.wrap .i64 (Int.tdiv (IntKind.wrap .i64 ((1 : Int) * 2 ^ (min (a1).toNat (IntKind.bits .i64)))) a0.2)))) (⟨#[]⟩ : ByteArray) (IntKind.wrap .i64 (a1 - (1 : Int)))) (.exit 0) (spec_AddressOf_L0X1 k1y6 k1y7 k1y8 k1y42)]) (by kernel_rfl) ⟨h1, (beq_eq_false_iff_ne.mpr h2), h3, h4, (decide_eq_false h5), h4, h6, h7, trivial⟩ get_spec_AddressOf (by decide)

theorem spec_AddressOf_p4 (a0 : (Int × Int)) (a1 : Int)
    (h1 : SC cfg.P i_spec_mpGood [.s (.v (.pr (.int .i64) (.int .i64)) a0)] (.s (.v .bool true)) [])
    (h2 : a0.1 ≠ a0.2)
    (h3 : SC cfg.P i_spec_l1In [.s (.v (.int .i64) a1), .s (.v (.int .i64) (0 : Int)), .s (.v (.int .i64) (10 : Int))] (.s (.v .bool false)) []) :
    SC cfg.P i_spec_AddressOf [.s (.v (.pr (.int .i64) (.int .i64)) a0), .s (.v (.int .i64) a1)] (.tup [.v .str (⟨#[]⟩ : ByteArray), .v .bool false]) [] :=
  SC_of_run cfgOK (its := [.res (.s (.v .bool true)) [] [] [], .bool false, .res (.s (.v .bool false)) [] [] []])
    (ps := [SC cfg.P i_spec_mpGood [.s (.v (.pr (.int .i64) (.int .i64)) a0)] (.s (.v .bool true)) [],
      (a0.1 == a0.2) = false,
      SC cfg.P i_spec_l1In [.s (.v (.int .i64) a1), .s (.v (.int .i64) (0 : Int)), .s (.v (.int .i64) (10 : Int))] (.s (.v .bool false)) []]) (by kernel_rfl) ⟨h1, (beq_eq_false_iff_ne.mpr h2), h3, trivial⟩ get_spec_AddressOf (by decide)

theorem spec_AddressOf_p5 (a0 : (Int × Int)) (a1 : Int)
    (h1 : SC cfg.P i_spec_mpGood [.s (.v (.pr (.int .i64) (.int .i64)) a0)] (.s (.v .bool false)) []) :
    SC cfg.P i_spec_AddressOf [.s (.v (.pr (.int .i64) (.int .i64)) a0), .s (.v (.int .i64) a1)] (.tup [.v .str (⟨#[]⟩ : ByteArray), .v .bool false]) [] :=
  SC_of_run cfgOK (its := [.res (.s (.v .bool false)) [] [] []])
    (ps := [SC cfg.P i_spec_mpGood [.s (.v (.pr (.int .i64) (.int .i64)) a0)] (.s (.v .bool false)) []]) (by kernel_rfl) ⟨h1, trivial⟩ get_spec_AddressOf (by decide)

end Go.AI
