/- A part of the road: what it proves stands in its last texts. -/
import Derived.Test.YtndnckjnnfnnnaaDoorSIds
import Derived.Test.YtndnckjnnfnnnaaDoorProg
set_option autoImplicit false
set_option maxRecDepth 100000
set_option linter.unusedVariables false
namespace Go.AI
open Go.Proofs

/-! ### impl_IsFraction -/


theorem impl_IsFraction_p1 (a0 : (Int × Int))
    (h1 : a0.2 < (1 : Int)) :
    SC cfg.P i_impl_IsFraction [.s (.v (.pr (.int .i64) (.int .i64)) a0)] (.s (.v .bool false)) [] :=
  SC_of_run cfgOK (its := [.bool true])
    (ps := [decide (a0.2 < (1 : Int)) = true]) (by kernel_rfl) ⟨(decide_eq_true h1), trivial⟩ get_impl_IsFraction (by decide)

theorem impl_IsFraction_p2 (a0 : (Int × Int))
    (h1 : ¬ (a0.2 < (1 : Int)))
    (h2 : a0.2 > (1024 : Int)) :
    SC cfg.P i_impl_IsFraction [.s (.v (.pr (.int .i64) (.int .i64)) a0)] (.s (.v .bool false)) [] :=
  SC_of_run cfgOK (its := [.bool false, .bool true])
    (ps := [decide (a0.2 < (1 : Int)) = false,
      decide (a0.2 > (1024 : Int)) = true]) (by kernel_rfl) ⟨(decide_eq_false h1), (decide_eq_true h2), trivial⟩ get_impl_IsFraction (by decide)

theorem impl_IsFraction_p3 (a0 : (Int × Int)) (c1 : Int)
    (h1 : ¬ (a0.2 < (1 : Int)))
    (h2 : ¬ (a0.2 > (1024 : Int)))
    (h3 : SC cfg.P i_math_bits_OnesCount [.s (.v (.int .u64) (IntKind.wrap .u64 a0.2))] (.s (.v (.int .i64) c1)) [])
    (h4 : c1 ≠ (1 : Int)) :
    SC cfg.P i_impl_IsFraction [.s (.v (.pr (.int .i64) (.int .i64)) a0)] (.s (.v .bool false)) [] :=
  SC_of_run cfgOK (its := [.bool false, .bool false, .res (.s (.v (.int .i64) c1)) [] [] [], .bool true])
    (ps := [decide (a0.2 < (1 : Int)) = false,
      decide (a0.2 > (1024 : Int)) = false,
      SC cfg.P i_math_bits_OnesCount [.s (.v (.int .u64) (IntKind.wrap .u64 a0.2))] (.s (.v (.int .i64) c1)) [],
      (c1 != (1 : Int)) = true]) (by kernel_rfl) ⟨(decide_eq_false h1), (decide_eq_false h2), h3, (bne_iff_ne.mpr h4), trivial⟩ get_impl_IsFraction (by decide)

theorem impl_IsFraction_p4 (a0 : (Int × Int)) (c1 : Int)
    (h1 : ¬ (a0.2 < (1 : Int)))
    (h2 : ¬ (a0.2 > (1024 : Int)))
    (h3 : SC cfg.P i_math_bits_OnesCount [.s (.v (.int .u64) (IntKind.wrap .u64 a0.2))] (.s (.v (.int .i64) c1)) [])
    (h4 : c1 = (1 : Int))
    (h5 : a0.1 < (0 : Int)) :
    SC cfg.P i_impl_IsFraction [.s (.v (.pr (.int .i64) (.int .i64)) a0)] (.s (.v .bool false)) [] :=
  SC_of_run cfgOK (its := [.bool false, .bool false, .res (.s (.v (.int .i64) c1)) [] [] [], .bool false, .bool true])
    (ps := [decide (a0.2 < (1 : Int)) = false,
      decide (a0.2 > (1024 : Int)) = false,
      SC cfg.P i_math_bits_OnesCount [.s (.v (.int .u64) (IntKind.wrap .u64 a0.2))] (.s (.v (.int .i64) c1)) [],
      (c1 != (1 : Int)) = false,
      decide (a0.1 < (0 : Int)) = true]) (by kernel_rfl) ⟨(decide_eq_false h1), (decide_eq_false h2), h3, (bne_eq_false_iff_eq.mpr h4), (decide_eq_true h5), trivial⟩ get_impl_IsFraction (by decide)

theorem impl_IsFraction_p5 (a0 : (Int × Int)) (c1 : Int)
    (h1 : ¬ (a0.2 < (1 : Int)))
    (h2 : ¬ (a0.2 > (1024 : Int)))
    (h3 : SC cfg.P i_math_bits_OnesCount [.s (.v (.int .u64) (IntKind.wrap .u64 a0.2))] (.s (.v (.int .i64) c1)) [])
    (h4 : c1 = (1 : Int))
    (h5 : ¬ (a0.1 < (0 : Int)))
    (h6 : a0.1 > a0.2) :
    SC cfg.P i_impl_IsFraction [.s (.v (.pr (.int .i64) (.int .i64)) a0)] (.s (.v .bool false)) [] :=
  SC_of_run cfgOK (its := [.bool false, .bool false, .res (.s (.v (.int .i64) c1)) [] [] [], .bool false, .bool false, .bool true])
    (ps := [decide (a0.2 < (1 : Int)) = false,
      decide (a0.2 > (1024 : Int)) = false,
      SC cfg.P i_math_bits_OnesCount [.s (.v (.int .u64) (IntKind.wrap .u64 a0.2))] (.s (.v (.int .i64) c1)) [],
      (c1 != (1 : Int)) = false,
      decide (a0.1 < (0 : Int)) = false,
      decide (a0.1 > a0.2) = true]) (by kernel_rfl) ⟨(decide_eq_false h1), (decide_eq_false h2), h3, (bne_eq_false_iff_eq.mpr h4), (decide_eq_false h5), (decide_eq_true h6), trivial⟩ get_impl_IsFraction (by decide)

theorem impl_IsFraction_p6 (a0 : (Int × Int)) (c1 : Int)
    (h1 : ¬ (a0.2 < (1 : Int)))
    (h2 : ¬ (a0.2 > (1024 : Int)))
    (h3 : SC cfg.P i_math_bits_OnesCount [.s (.v (.int .u64) (IntKind.wrap .u64 a0.2))] (.s (.v (.int .i64) c1)) [])
    (h4 : c1 = (1 : Int))
    (h5 : ¬ (a0.1 < (0 : Int)))
    (h6 : ¬ (a0.1 > a0.2))
    (h7 : a0.2 = (1 : Int)) :
    SC cfg.P i_impl_IsFraction [.s (.v (.pr (.int .i64) (.int .i64)) a0)] (.s (.v .bool true)) [] :=
  SC_of_run cfgOK (its := [.bool false, .bool false, .res (.s (.v (.int .i64) c1)) [] [] [], .bool false, .bool false, .bool false, .bool true])
    (ps := [decide (a0.2 < (1 : Int)) = false,
      decide (a0.2 > (1024 : Int)) = false,
      SC cfg.P i_math_bits_OnesCount [.s (.v (.int .u64) (IntKind.wrap .u64 a0.2))] (.s (.v (.int .i64) c1)) [],
      (c1 != (1 : Int)) = false,
      decide (a0.1 < (0 : Int)) = false,
      decide (a0.1 > a0.2) = false,
      (a0.2 == (1 : Int)) = true]) (by kernel_rfl) ⟨(decide_eq_false h1), (decide_eq_false h2), h3, (bne_eq_false_iff_eq.mpr h4), (decide_eq_false h5), (decide_eq_false h6), (beq_iff_eq.mpr h7), trivial⟩ get_impl_IsFraction (by decide)

theorem impl_IsFraction_p7 (a0 : (Int × Int)) (c1 : Int)
    (h1 : ¬ (a0.2 < (1 : Int)))
    (h2 : ¬ (a0.2 > (1024 : Int)))
    (h3 : SC cfg.P i_math_bits_OnesCount [.s (.v (.int .u64) (IntKind.wrap .u64 a0.2))] (.s (.v (.int .i64) c1)) [])
    (h4 : c1 = (1 : Int))
    (h5 : ¬ (a0.1 < (0 : Int)))
    (h6 : ¬ (a0.1 > a0.2))
    (h7 : a0.2 ≠ (1 : Int))
    (h8 : (2 : Int) ≠ 0)
    (h9 : (Int.tmod a0.1 (2 : Int)) = (1 : Int)) :
    SC cfg.P i_impl_IsFraction [.s (.v (.pr (.int .i64) (.int .i64)) a0)] (.s (.v .bool true)) [] :=
  SC_of_run cfgOK (its := [.bool false, .bool false, .res (.s (.v (.int .i64) c1)) [] [] [], .bool false, .bool false, .bool false, .bool false, .bool true])
    (ps := [decide (a0.2 < (1 : Int)) = false,
      decide (a0.2 > (1024 : Int)) = false,
      SC cfg.P i_math_bits_OnesCount [.s (.v (.int .u64) (IntKind.wrap .u64 a0.2))] (.s (.v (.int .i64) c1)) [],
      (c1 != (1 : Int)) = false,
      decide (a0.1 < (0 : Int)) = false,
      decide (a0.1 > a0.2) = false,
      (a0.2 == (1 : Int)) = false,
      (2 : Int) ≠ 0,
      ((Int.tmod a0.1 (2 : Int)) == (1 : Int)) = true]) (by kernel_rfl) ⟨(decide_eq_false h1), (decide_eq_false h2), h3, (bne_eq_false_iff_eq.mpr h4), (decide_eq_false h5), (decide_eq_false h6), (beq_eq_false_iff_ne.mpr h7), h8, (beq_iff_eq.mpr h9), trivial⟩ get_impl_IsFraction (by decide)

theorem impl_IsFraction_p8 (a0 : (Int × Int)) (c1 : Int)
    (h1 : ¬ (a0.2 < (1 : Int)))
    (h2 : ¬ (a0.2 > (1024 : Int)))
    (h3 : SC cfg.P i_math_bits_OnesCount [.s (.v (.int .u64) (IntKind.wrap .u64 a0.2))] (.s (.v (.int .i64) c1)) [])
    (h4 : c1 = (1 : Int))
    (h5 : ¬ (a0.1 < (0 : Int)))
    (h6 : ¬ (a0.1 > a0.2))
    (h7 : a0.2 ≠ (1 : Int))
    (h8 : (2 : Int) ≠ 0)
    (h9 : (Int.tmod a0.1 (2 : Int)) ≠ (1 : Int)) :
    SC cfg.P i_impl_IsFraction [.s (.v (.pr (.int .i64) (.int .i64)) a0)] (.s (.v .bool false)) [] :=
  SC_of_run cfgOK (its := [.bool false, .bool false, .res (.s (.v (.int .i64) c1)) [] [] [], .bool false, .bool false, .bool false, .bool false, .bool false])
    (ps := [decide (a0.2 < (1 : Int)) = false,
      decide (a0.2 > (1024 : Int)) = false,
      SC cfg.P i_math_bits_OnesCount [.s (.v (.int .u64) (IntKind.wrap .u64 a0.2))] (.s (.v (.int .i64) c1)) [],
      (c1 != (1 : Int)) = false,
      decide (a0.1 < (0 : Int)) = false,
      decide (a0.1 > a0.2) = false,
      (a0.2 == (1 : Int)) = false,
      (2 : Int) ≠ 0,
      ((Int.tmod a0.1 (2 : Int)) == (1 : Int)) = false]) (by kernel_rfl) ⟨(decide_eq_false h1), (decide_eq_false h2), h3, (bne_eq_false_iff_eq.mpr h4), (decide_eq_false h5), (decide_eq_false h6), (beq_eq_false_iff_ne.mpr h7), h8, (beq_eq_false_iff_ne.mpr h9), trivial⟩ get_impl_IsFraction (by decide)

/-! ### impl_Fraction_place -/


theorem impl_Fraction_place_p1 (a0 : (Int × Int))
    (h1 : a0.2 ≠ 0) :
    SC cfg.P i_impl_Fraction_place [.s (.v (.pr (.int .i64) (.int .i64)) a0)] (.s (.v (.int .i64) (IntKind.wrap .i64 (a0.1 * (IntKind.wrap .i64 (Int.tdiv (1099511627776 : Int) a0.2)))))) [] :=
  SC_of_run cfgOK (its := [])
    (ps := [a0.2 ≠ 0]) (by kernel_rfl) ⟨h1, trivial⟩ get_impl_Fraction_place (by decide)

/-! ### spec_mpGood -/


def spec_mpGood_L0a (x3 : Int) (xo1 : (Int × Int)) : St := mkSt 34 [(1, .s (.adr 1 none)), (3, .s (.v (.int .i64) x3))] [(1, .box (.pr (.int .i64) (.int .i64)) xo1 false)]

def spec_mpGood_L0X1 (y2 : Bool) : St := mkSt 34 [(2, .s (.v .bool y2))] []

def spec_mpGood_L0X2 (y3 : Int) (y19 : Bool) (yo1 : (Int × Int)) : St := mkSt 34 [(1, .s (.adr 1 none)), (3, .s (.v (.int .i64) y3)), (19, .s (.v .bool y19))] [(1, .box (.pr (.int .i64) (.int .i64)) yo1 false)]

theorem spec_mpGood_L0a_x1 (x3 : Int) (xo1 : (Int × Int))
    (h1 : x3 > (1 : Int))
    (h2 : (2 : Int) ≠ 0)
    (h3 : (Int.tmod x3 (2 : Int)) = (1 : Int)) :
    LoopSC cfg.P 1 (lb P_spec_mpGood 0) (spec_mpGood_L0a x3 xo1) (.ret) (spec_mpGood_L0X1 false) :=
  loop_out cfgOK (f := i_spec_mpGood) (its := [.bool true, .bool true])
    (ps := [decide (x3 > (1 : Int)) = true,
      (2 : Int) ≠ 0,
      ((Int.tmod x3 (2 : Int)) == (1 : Int)) = true]) (by kernel_rfl) ⟨(decide_eq_true h1), h2, (beq_iff_eq.mpr h3), trivial⟩ (fun h => by cases h)

theorem spec_mpGood_L0a_i2 (x3 : Int) (xo1 : (Int × Int))
    (h1 : x3 > (1 : Int))
    (h2 : (2 : Int) ≠ 0)
    (h3 : (Int.tmod x3 (2 : Int)) ≠ (1 : Int))
    {e : AEx} {st : St} (next : LoopSC cfg.P 1 (lb P_spec_mpGood 0) (spec_mpGood_L0a (IntKind.wrap .i64 (Int.tdiv x3 (2 : Int))) xo1) e st) :
    LoopSC cfg.P 1 (lb P_spec_mpGood 0) (spec_mpGood_L0a x3 xo1) e st :=
  loop_iter cfgOK (f := i_spec_mpGood) (its := [.bool true, .bool false])
    (ps := [decide (x3 > (1 : Int)) = true,
      (2 : Int) ≠ 0,
      ((Int.tmod x3 (2 : Int)) == (1 : Int)) = false,
      (2 : Int) ≠ 0]) (st1 := spec_mpGood_L0a (IntKind.wrap .i64 (Int.tdiv x3 (2 : Int))) xo1) (by kernel_rfl) ⟨(decide_eq_true h1), h2, (beq_eq_false_iff_ne.mpr h3), h2, trivial⟩ next

theorem spec_mpGood_L0a_x3 (x3 : Int) (xo1 : (Int × Int))
    (h1 : ¬ (x3 > (1 : Int))) :
    LoopSC cfg.P 1 (lb P_spec_mpGood 0) (spec_mpGood_L0a x3 xo1) (.exit 0) (spec_mpGood_L0X2 x3 false xo1) :=
  loop_out cfgOK (f := i_spec_mpGood) (its := [.bool false])
    (ps := [decide (x3 > (1 : Int)) = false]) (by kernel_rfl) ⟨(decide_eq_false h1), trivial⟩ (fun h => by cases h)

theorem spec_mpGood_p1 (a0 : (Int × Int)) (k1y2 : Bool)
    (h1 : SC cfg.P i_spec_l1In [.s (.v (.int .i64) a0.2), .s (.v (.int .i64) (1 : Int)), .s (.v (.int .i64) (1024 : Int))] (.s (.v .bool true)) [])
    (h2 : SC cfg.P i_spec_l1In [.s (.v (.int .i64) a0.1), .s (.v (.int .i64) (0 : Int)), .s (.v (.int .i64) a0.2)] (.s (.v .bool true)) [])
    (h3 : LoopSC cfg.P 1 (lb P_spec_mpGood 0) (spec_mpGood_L0a a0.2 a0) (.ret) (spec_mpGood_L0X1 k1y2)) :
    SC cfg.P i_spec_mpGood [.s (.v (.pr (.int .i64) (.int .i64)) a0)] (.s (.v .bool k1y2)) [] :=
  SC_of_run cfgOK (its := [.res (.s (.v .bool true)) [] [] [], .res (.s (.v .bool true)) [] [] [], .loop (fun _ => (.ret, spec_mpGood_L0X1 k1y2))])
    (ps := [SC cfg.P i_spec_l1In [.s (.v (.int .i64) a0.2), .s (.v (.int .i64) (1 : Int)), .s (.v (.int .i64) (1024 : Int))] (.s (.v .bool true)) [],
      SC cfg.P i_spec_l1In [.s (.v (.int .i64) a0.1), .s (.v (.int .i64) (0 : Int)), .s (.v (.int .i64) a0.2)] (.s (.v .bool true)) [],
      LoopSC cfg.P 1 (lb P_spec_mpGood 0) (spec_mpGood_L0a a0.2 a0) (.ret) (spec_mpGood_L0X1 k1y2)]) (by kernel_rfl) ⟨h1, h2, h3, trivial⟩ get_spec_mpGood (by decide)

theorem spec_mpGood_p2 (a0 : (Int × Int)) (k1y3 : Int) (k1y19 : Bool) (k1yo1 : (Int × Int))
    (h1 : SC cfg.P i_spec_l1In [.s (.v (.int .i64) a0.2), .s (.v (.int .i64) (1 : Int)), .s (.v (.int .i64) (1024 : Int))] (.s (.v .bool true)) [])
    (h2 : SC cfg.P i_spec_l1In [.s (.v (.int .i64) a0.1), .s (.v (.int .i64) (0 : Int)), .s (.v (.int .i64) a0.2)] (.s (.v .bool true)) [])
    (h3 : LoopSC cfg.P 1 (lb P_spec_mpGood 0) (spec_mpGood_L0a a0.2 a0) (.exit 0) (spec_mpGood_L0X2 k1y3 k1y19 k1yo1))
    (h4 : k1yo1.2 = (1 : Int)) :
    SC cfg.P i_spec_mpGood [.s (.v (.pr (.int .i64) (.int .i64)) a0)] (.s (.v .bool true)) [] :=
  SC_of_run cfgOK (its := [.res (.s (.v .bool true)) [] [] [], .res (.s (.v .bool true)) [] [] [], .loop (fun _ => (.exit 0, spec_mpGood_L0X2 k1y3 k1y19 k1yo1)), .bool true])
    (ps := [SC cfg.P i_spec_l1In [.s (.v (.int .i64) a0.2), .s (.v (.int .i64) (1 : Int)), .s (.v (.int .i64) (1024 : Int))] (.s (.v .bool true)) [],
      SC cfg.P i_spec_l1In [.s (.v (.int .i64) a0.1), .s (.v (.int .i64) (0 : Int)), .s (.v (.int .i64) a0.2)] (.s (.v .bool true)) [],
      LoopSC cfg.P 1 (lb P_spec_mpGood 0) (spec_mpGood_L0a a0.2 a0) (.exit 0) (spec_mpGood_L0X2 k1y3 k1y19 k1yo1),
      (k1yo1.2 == (1 : Int)) = true]) (by kernel_rfl) ⟨h1, h2, h3, (beq_iff_eq.mpr h4), trivial⟩ get_spec_mpGood (by decide)

theorem spec_mpGood_p3 (a0 : (Int × Int)) (k1y3 : Int) (k1y19 : Bool) (k1yo1 : (Int × Int))
    (h1 : SC cfg.P i_spec_l1In [.s (.v (.int .i64) a0.2), .s (.v (.int .i64) (1 : Int)), .s (.v (.int .i64) (1024 : Int))] (.s (.v .bool true)) [])
    (h2 : SC cfg.P i_spec_l1In [.s (.v (.int .i64) a0.1), .s (.v (.int .i64) (0 : Int)), .s (.v (.int .i64) a0.2)] (.s (.v .bool true)) [])
    (h3 : LoopSC cfg.P 1 (lb P_spec_mpGood 0) (spec_mpGood_L0a a0.2 a0) (.exit 0) (spec_mpGood_L0X2 k1y3 k1y19 k1yo1))
    (h4 : k1yo1.2 ≠ (1 : Int))
    (h5 : (2 : Int) ≠ 0)
    (h6 : (Int.tmod k1yo1.1 (2 : Int)) = (1 : Int)) :
    SC cfg.P i_spec_mpGood [.s (.v (.pr (.int .i64) (.int .i64)) a0)] (.s (.v .bool true)) [] :=
  SC_of_run cfgOK (its := [.res (.s (.v .bool true)) [] [] [], .res (.s (.v .bool true)) [] [] [], .loop (fun _ => (.exit 0, spec_mpGood_L0X2 k1y3 k1y19 k1yo1)), .bool false, .bool true])
    (ps := [SC cfg.P i_spec_l1In [.s (.v (.int .i64) a0.2), .s (.v (.int .i64) (1 : Int)), .s (.v (.int .i64) (1024 : Int))] (.s (.v .bool true)) [],
      SC cfg.P i_spec_l1In [.s (.v (.int .i64) a0.1), .s (.v (.int .i64) (0 : Int)), .s (.v (.int .i64) a0.2)] (.s (.v .bool true)) [],
      LoopSC cfg.P 1 (lb P_spec_mpGood 0) (spec_mpGood_L0a a0.2 a0) (.exit 0) (spec_mpGood_L0X2 k1y3 k1y19 k1yo1),
      (k1yo1.2 == (1 : Int)) = false,
      (2 : Int) ≠ 0,
      ((Int.tmod k1yo1.1 (2 : Int)) == (1 : Int)) = true]) (by kernel_rfl) ⟨h1, h2, h3, (beq_eq_false_iff_ne.mpr h4), h5, (beq_iff_eq.mpr h6), trivial⟩ get_spec_mpGood (by decide)

theorem spec_mpGood_p4 (a0 : (Int × Int)) (k1y3 : Int) (k1y19 : Bool) (k1yo1 : (Int × Int))
    (h1 : SC cfg.P i_spec_l1In [.s (.v (.int .i64) a0.2), .s (.v (.int .i64) (1 : Int)), .s (.v (.int .i64) (1024 : Int))] (.s (.v .bool true)) [])
    (h2 : SC cfg.P i_spec_l1In [.s (.v (.int .i64) a0.1), .s (.v (.int .i64) (0 : Int)), .s (.v (.int .i64) a0.2)] (.s (.v .bool true)) [])
    (h3 : LoopSC cfg.P 1 (lb P_spec_mpGood 0) (spec_mpGood_L0a a0.2 a0) (.exit 0) (spec_mpGood_L0X2 k1y3 k1y19 k1yo1))
    (h4 : k1yo1.2 ≠ (1 : Int))
    (h5 : (2 : Int) ≠ 0)
    (h6 : (Int.tmod k1yo1.1 (2 : Int)) ≠ (1 : Int)) :
    SC cfg.P i_spec_mpGood [.s (.v (.pr (.int .i64) (.int .i64)) a0)] (.s (.v .bool false)) [] :=
  SC_of_run cfgOK (its := [.res (.s (.v .bool true)) [] [] [], .res (.s (.v .bool true)) [] [] [], .loop (fun _ => (.exit 0, spec_mpGood_L0X2 k1y3 k1y19 k1yo1)), .bool false, .bool false])
    (ps := [SC cfg.P i_spec_l1In [.s (.v (.int .i64) a0.2), .s (.v (.int .i64) (1 : Int)), .s (.v (.int .i64) (1024 : Int))] (.s (.v .bool true)) [],
      SC cfg.P i_spec_l1In [.s (.v (.int .i64) a0.1), .s (.v (.int .i64) (0 : Int)), .s (.v (.int .i64) a0.2)] (.s (.v .bool true)) [],
      LoopSC cfg.P 1 (lb P_spec_mpGood 0) (spec_mpGood_L0a a0.2 a0) (.exit 0) (spec_mpGood_L0X2 k1y3 k1y19 k1yo1),
      (k1yo1.2 == (1 : Int)) = false,
      (2 : Int) ≠ 0,
      ((Int.tmod k1yo1.1 (2 : Int)) == (1 : Int)) = false]) (by kernel_rfl) ⟨h1, h2, h3, (beq_eq_false_iff_ne.mpr h4), h5, (beq_eq_false_iff_ne.mpr h6), trivial⟩ get_spec_mpGood (by decide)

theorem spec_mpGood_p5 (a0 : (Int × Int))
    (h1 : SC cfg.P i_spec_l1In [.s (.v (.int .i64) a0.2), .s (.v (.int .i64) (1 : Int)), .s (.v (.int .i64) (1024 : Int))] (.s (.v .bool true)) [])
    (h2 : SC cfg.P i_spec_l1In [.s (.v (.int .i64) a0.1), .s (.v (.int .i64) (0 : Int)), .s (.v (.int .i64) a0.2)] (.s (.v .bool false)) []) :
    SC cfg.P i_spec_mpGood [.s (.v (.pr (.int .i64) (.int .i64)) a0)] (.s (.v .bool false)) [] :=
  SC_of_run cfgOK (its := [.res (.s (.v .bool true)) [] [] [], .res (.s (.v .bool false)) [] [] []])
    (ps := [SC cfg.P i_spec_l1In [.s (.v (.int .i64) a0.2), .s (.v (.int .i64) (1 : Int)), .s (.v (.int .i64) (1024 : Int))] (.s (.v .bool true)) [],
      SC cfg.P i_spec_l1In [.s (.v (.int .i64) a0.1), .s (.v (.int .i64) (0 : Int)), .s (.v (.int .i64) a0.2)] (.s (.v .bool false)) []]) (by kernel_rfl) ⟨h1, h2, trivial⟩ get_spec_mpGood (by decide)

theorem spec_mpGood_p6 (a0 : (Int × Int))
    (h1 : SC cfg.P i_spec_l1In [.s (.v (.int .i64) a0.2), .s (.v (.int .i64) (1 : Int)), .s (.v (.int .i64) (1024 : Int))] (.s (.v .bool false)) []) :
    SC cfg.P i_spec_mpGood [.s (.v (.pr (.int .i64) (.int .i64)) a0)] (.s (.v .bool false)) [] :=
  SC_of_run cfgOK (its := [.res (.s (.v .bool false)) [] [] []])
    (ps := [SC cfg.P i_spec_l1In [.s (.v (.int .i64) a0.2), .s (.v (.int .i64) (1 : Int)), .s (.v (.int .i64) (1024 : Int))] (.s (.v .bool false)) []]) (by kernel_rfl) ⟨h1, trivial⟩ get_spec_mpGood (by decide)

/-! ### math_bits_OnesCount -/


theorem math_bits_OnesCount_p1 (a0 : Int) (c1 : Int)
    (h1 : SC cfg.P i_math_bits_OnesCount64 [.s (.v (.int .u64) a0)] (.s (.v (.int .i64) c1)) []) :
    SC cfg.P i_math_bits_OnesCount [.s (.v (.int .u64) a0)] (.s (.v (.int .i64) c1)) [] :=
  SC_of_run cfgOK (its := [.res (.s (.v (.int .i64) c1)) [] [] []])
    (ps := [SC cfg.P i_math_bits_OnesCount64 [.s (.v (.int .u64) a0)] (.s (.v (.int .i64) c1)) []]) (by kernel_rfl) ⟨h1, trivial⟩ get_math_bits_OnesCount (by decide)

/-! ### spec_l1In -/


theorem spec_l1In_p1 (a0 : Int) (a1 : Int) (a2 : Int)
    (h1 : a0 ≥ a1)
    (h2 : a0 ≤ a2) :
    SC cfg.P i_spec_l1In [.s (.v (.int .i64) a0), .s (.v (.int .i64) a1), .s (.v (.int .i64) a2)] (.s (.v .bool true)) [] :=
  SC_of_run cfgOK (its := [.bool true, .bool true])
    (ps := [decide (a0 ≥ a1) = true,
      decide (a0 ≤ a2) = true]) (by kernel_rfl) ⟨(decide_eq_true h1), (decide_eq_true h2), trivial⟩ get_spec_l1In (by decide)

theorem spec_l1In_p2 (a0 : Int) (a1 : Int) (a2 : Int)
    (h1 : a0 ≥ a1)
    (h2 : ¬ (a0 ≤ a2)) :
    SC cfg.P i_spec_l1In [.s (.v (.int .i64) a0), .s (.v (.int .i64) a1), .s (.v (.int .i64) a2)] (.s (.v .bool false)) [] :=
  SC_of_run cfgOK (its := [.bool true, .bool false])
    (ps := [decide (a0 ≥ a1) = true,
      decide (a0 ≤ a2) = false]) (by kernel_rfl) ⟨(decide_eq_true h1), (decide_eq_false h2), trivial⟩ get_spec_l1In (by decide)

theorem spec_l1In_p3 (a0 : Int) (a1 : Int) (a2 : Int)
    (h1 : ¬ (a0 ≥ a1)) :
    SC cfg.P i_spec_l1In [.s (.v (.int .i64) a0), .s (.v (.int .i64) a1), .s (.v (.int .i64) a2)] (.s (.v .bool false)) [] :=
  SC_of_run cfgOK (its := [.bool false])
    (ps := [decide (a0 ≥ a1) = false]) (by kernel_rfl) ⟨(decide_eq_false h1), trivial⟩ get_spec_l1In (by decide)

/-! ### spec_mpOf -/


def spec_mpOf_L0a (x0 : ByteArray) (x3 : Int) (x4 : Int) (xo2 : (Int × Int)) : St := mkSt 24 [(0, .s (.v .str x0)), (2, .s (.adr 2 none)), (3, .s (.v (.int .i64) x3)), (4, .s (.v (.int .i64) x4))] [(2, .box (.pr (.int .i64) (.int .i64)) xo2 false)]

def spec_mpOf_L0X1 (y0 : ByteArray) (y3 : Int) (y4 : Int) (y8 : Bool) (yo2 : (Int × Int)) : St := mkSt 24 [(0, .s (.v .str y0)), (2, .s (.adr 2 none)), (3, .s (.v (.int .i64) y3)), (4, .s (.v (.int .i64) y4)), (8, .s (.v .bool y8))] [(2, .box (.pr (.int .i64) (.int .i64)) yo2 false)]

theorem spec_mpOf_L0a_i1 (x0 : ByteArray) (x3 : Int) (x4 : Int) (xo2 : (Int × Int))
    (h1 : x4 < ((x0).size : Int))
    (h2 : 0 ≤ x4)
    {e : AEx} {st : St} (next : LoopSC cfg.P 1 (lb P_spec_mpOf 0) (spec_mpOf_L0a x0 (IntKind.wrap .i64 ((IntKind.wrap .i64 ((2 : Int) * x3)) + (IntKind.wrap .i64 (IntKind.wrap .u8 ((bt x0 x4) - (48 : Int)))))) (IntKind.wrap .i64 (x4 + (1 : Int))) xo2) e st) :
    LoopSC cfg.P 1 (lb P_spec_mpOf 0) (spec_mpOf_L0a x0 x3 x4 xo2) e st :=
  loop_iter cfgOK (f := i_spec_mpOf) (its := [.bool true])
    (ps := [decide (x4 < ((x0).size : Int)) = true,
      0 ≤ x4,
      x4 < ((x0).size : Int)]) (st1 := spec_mpOf_L0a x0 (IntKind.wrap .i64 ((IntKind.wrap .i64 ((2 : Int) * x3)) + (IntKind.wrap .i64 (IntKind.wrap .u8 ((bt x0 x4) - (48 : Int)))))) (IntKind.wrap .i64 (x4 + (1 : Int))) xo2) (by kernel_rfl) ⟨(decide_eq_true h1), h2, h1, trivial⟩ next

theorem spec_mpOf_L0a_x2 (x0 : ByteArray) (x3 : Int) (x4 : Int) (xo2 : (Int × Int))
    (h1 : ¬ (x4 < ((x0).size : Int))) :
    LoopSC cfg.P 1 (lb P_spec_mpOf 0) (spec_mpOf_L0a x0 x3 x4 xo2) (.exit 0) (spec_mpOf_L0X1 x0 x3 x4 false xo2) :=
  loop_out cfgOK (f := i_spec_mpOf) (its := [.bool false])
    (ps := [decide (x4 < ((x0).size : Int)) = false]) (by kernel_rfl) ⟨(decide_eq_false h1), trivial⟩ (fun h => by cases h)

theorem spec_mpOf_p1 (a0 : ByteArray) (k1y0 : ByteArray) (k1y3 : Int) (k1y4 : Int) (k1y8 : Bool) (k1yo2 : (Int × Int)) (c1 : (Int × Int))
    (h1 : LoopSC cfg.P 1 (lb P_spec_mpOf 0) (spec_mpOf_L0a a0 (0 : Int) (0 : Int) ((0 : Int), (0 : Int))) (.exit 0) (spec_mpOf_L0X1 k1y0 k1y3 k1y4 k1y8 k1yo2))
    (h2 : 0 ≤ ((k1y0).size : Int))
    (h3 : SC cfg.P i_spec_mpShort [.s (.v (.int .i64) k1y3), .s (.v (.int .i64) (IntKind.wrap .i64 ((1 : Int) * 2 ^ (min (((k1y0).size : Int)).toNat (IntKind.bits .i64)))))] (.s (.v (.pr (.int .i64) (.int .i64)) c1)) []) :
    SC cfg.P i_spec_mpOf [.s (.v .str a0)] (.s (.v (.pr (.int .i64) (.int .i64)) c1)) [] :=
  SC_of_run cfgOK (its := [.loop (fun _ => (.exit 0, spec_mpOf_L0X1 k1y0 k1y3 k1y4 k1y8 k1yo2)), .res (.s (.v (.pr (.int .i64) (.int .i64)) c1)) [] [] []])
    (ps := [LoopSC cfg.P 1 (lb P_spec_mpOf 0) (spec_mpOf_L0a a0 (0 : Int) (0 : Int) ((0 : Int), (0 : Int))) (.exit 0) (spec_mpOf_L0X1 k1y0 k1y3 k1y4 k1y8 k1yo2),
      0 ≤ ((k1y0).size : Int),
      SC cfg.P i_spec_mpShort [.s (.v (.int .i64) k1y3), .s (.v (.int .i64) (IntKind.wrap .i64 ((1 : Int) * 2 ^ (min (((k1y0).size : Int)).toNat (IntKind.bits .i64)))))] (.s (.v (.pr (.int .i64) (.int .i64)) c1)) []]) (by kernel_rfl) ⟨h1, h2, h3, trivial⟩ get_spec_mpOf (by decide)

/-! ### spec_mpShort -/


theorem spec_mpShort_p1 (a0 : Int) (a1 : Int) (c1 : Int)
    (h1 : SC cfg.P i_spec_mpGcd [.s (.v (.int .i64) a0), .s (.v (.int .i64) a1)] (.s (.v (.int .i64) c1)) [])
    (h2 : c1 = (0 : Int)) :
    SC cfg.P i_spec_mpShort [.s (.v (.int .i64) a0), .s (.v (.int .i64) a1)] (.s (.v (.pr (.int .i64) (.int .i64)) (a0, a1))) [] :=
  SC_of_run cfgOK (its := [.res (.s (.v (.int .i64) c1)) [] [] [], .bool true])
    (ps := [SC cfg.P i_spec_mpGcd [.s (.v (.int .i64) a0), .s (.v (.int .i64) a1)] (.s (.v (.int .i64) c1)) [],
      (c1 == (0 : Int)) = true]) (by kernel_rfl) ⟨h1, (beq_iff_eq.mpr h2), trivial⟩ get_spec_mpShort (by decide)

theorem spec_mpShort_p2 (a0 : Int) (a1 : Int) (c1 : Int)
    (h1 : SC cfg.P i_spec_mpGcd [.s (.v (.int .i64) a0), .s (.v (.int .i64) a1)] (.s (.v (.int .i64) c1)) [])
    (h2 : c1 ≠ (0 : Int))
    (h3 : c1 ≠ 0) :
    SC cfg.P i_spec_mpShort [.s (.v (.int .i64) a0), .s (.v (.int .i64) a1)] (.s (.v (.pr (.int .i64) (.int .i64)) ((IntKind.wrap .i64 (Int.tdiv a0 c1)), (IntKind.wrap .i64 (Int.tdiv a1 c1))))) [] :=
  SC_of_run cfgOK (its := [.res (.s (.v (.int .i64) c1)) [] [] [], .bool false])
    (ps := [SC cfg.P i_spec_mpGcd [.s (.v (.int .i64) a0), .s (.v (.int .i64) a1)] (.s (.v (.int .i64) c1)) [],
      (c1 == (0 : Int)) = false,
      c1 ≠ 0,
      c1 ≠ 0]) (by kernel_rfl) ⟨h1, (beq_eq_false_iff_ne.mpr h2), h3, h3, trivial⟩ get_spec_mpShort (by decide)

/-! ### math_bits_OnesCount64 -/


theorem math_bits_OnesCount64_p1 (a0 : Int)
     :
    SC cfg.P i_math_bits_OnesCount64 [.s (.v (.int .u64) a0)] (.s (.v (.int .i64) (IntKind.wrap .i64 ((BitVec.ofInt (IntKind.bits .i64) (IntKind.wrap .i64 (IntKind.wrap .u64 ((IntKind.wrap .u64 ((IntKind.wrap .u64 ((IntKind.wrap .u64 ((BitVec.ofInt (IntKind.bits .u64) (IntKind.wrap .u64 ((Int.fdiv (IntKind.wrap .u64 ((IntKind.wrap .u64 ((BitVec.ofInt (IntKind.bits .u64) (Int.fdiv (IntKind.wrap .u64 ((IntKind.wrap .u64 ((BitVec.ofInt (IntKind.bits .u64) (Int.fdiv a0 (2 ^ (min ((1 : Int)).toNat (IntKind.bits .u64)))) &&& BitVec.ofInt (IntKind.bits .u64) (6148914691236517205 : Int)).toNat)) + (IntKind.wrap .u64 ((BitVec.ofInt (IntKind.bits .u64) a0 &&& BitVec.ofInt (IntKind.bits .u64) (6148914691236517205 : Int)).toNat)))) (2 ^ (min ((2 : Int)).toNat (IntKind.bits .u64)))) &&& BitVec.ofInt (IntKind.bits .u64) (3689348814741910323 : Int)).toNat)) + (IntKind.wrap .u64 ((BitVec.ofInt (IntKind.bits .u64) (IntKind.wrap .u64 ((IntKind.wrap .u64 ((BitVec.ofInt (IntKind.bits .u64) (Int.fdiv a0 (2 ^ (min ((1 : Int)).toNat (IntKind.bits .u64)))) &&& BitVec.ofInt (IntKind.bits .u64) (6148914691236517205 : Int)).toNat)) + (IntKind.wrap .u64 ((BitVec.ofInt (IntKind.bits .u64) a0 &&& BitVec.ofInt (IntKind.bits .u64) (6148914691236517205 : Int)).toNat)))) &&& BitVec.ofInt (IntKind.bits .u64) (3689348814741910323 : Int)).toNat)))) (2 ^ (min ((4 : Int)).toNat (IntKind.bits .u64)))) + (IntKind.wrap .u64 ((IntKind.wrap .u64 ((BitVec.ofInt (IntKind.bits .u64) (Int.fdiv (IntKind.wrap .u64 ((IntKind.wrap .u64 ((BitVec.ofInt (IntKind.bits .u64) (Int.fdiv a0 (2 ^ (min ((1 : Int)).toNat (IntKind.bits .u64)))) &&& BitVec.ofInt (IntKind.bits .u64) (6148914691236517205 : Int)).toNat)) + (IntKind.wrap .u64 ((BitVec.ofInt (IntKind.bits .u64) a0 &&& BitVec.ofInt (IntKind.bits .u64) (6148914691236517205 : Int)).toNat)))) (2 ^ (min ((2 : Int)).toNat (IntKind.bits .u64)))) &&& BitVec.ofInt (IntKind.bits .u64) (3689348814741910323 : Int)).toNat)) + (IntKind.wrap .u64 ((BitVec.ofInt (IntKind.bits .u64) (IntKind.wrap .u64 ((IntKind.wrap .u64 ((BitVec.ofInt (IntKind.bits .u64) (Int.fdiv a0 (2 ^ (min ((1 : Int)).toNat (IntKind.bits .u64)))) &&& BitVec.ofInt (IntKind.bits .u64) (6148914691236517205 : Int)).toNat)) + (IntKind.wrap .u64 ((BitVec.ofInt (IntKind.bits .u64) a0 &&& BitVec.ofInt (IntKind.bits .u64) (6148914691236517205 : Int)).toNat)))) &&& BitVec.ofInt (IntKind.bits .u64) (3689348814741910323 : Int)).toNat)))))) &&& BitVec.ofInt (IntKind.bits .u64) (1085102592571150095 : Int)).toNat)) + (Int.fdiv (IntKind.wrap .u64 ((BitVec.ofInt (IntKind.bits .u64) (IntKind.wrap .u64 ((Int.fdiv (IntKind.wrap .u64 ((IntKind.wrap .u64 ((BitVec.ofInt (IntKind.bits .u64) (Int.fdiv (IntKind.wrap .u64 ((IntKind.wrap .u64 ((BitVec.ofInt (IntKind.bits .u64) (Int.fdiv a0 (2 ^ (min ((1 : Int)).toNat (IntKind.bits .u64)))) &&& BitVec.ofInt (IntKind.bits .u64) (6148914691236517205 : Int)).toNat)) + (IntKind.wrap .u64 ((BitVec.ofInt (IntKind.bits .u64) a0 &&& BitVec.ofInt (IntKind.bits .u64) (6148914691236517205 : Int)).toNat)))) (2 ^ (min ((2 : Int)).toNat (IntKind.bits .u64)))) &&& BitVec.ofInt (IntKind.bits .u64) (3689348814741910323 : Int)).toNat)) + (IntKind.wrap .u64 ((BitVec.ofInt (IntKind.bits .u64) (IntKind.wrap .u64 ((IntKind.wrap .u64 ((BitVec.ofInt (IntKind.bits .u64) (Int.fdiv a0 (2 ^ (min ((1 : Int)).toNat (IntKind.bits .u64)))) &&& BitVec.ofInt (IntKind.bits .u64) (6148914691236517205 : Int)).toNat)) + (IntKind.wrap .u64 ((BitVec.ofInt (IntKind.bits .u64) a0 &&& BitVec.ofInt (IntKind.bits .u64) (6148914691236517205 : Int)).toNat)))) &&& BitVec.ofInt (IntKind.bits .u64) (3689348814741910323 : Int)).toNat)))) (2 ^ (min ((4 : Int)).toNat (IntKind.bits .u64)))) + (IntKind.wrap .u64 ((IntKind.wrap .u64 ((BitVec.ofInt (IntKind.bits .u64) (Int.fdiv (IntKind.wrap .u64 ((IntKind.wrap .u64 ((BitVec.ofInt (IntKind.bits .u64) (Int.fdiv a0 (2 ^ (min ((1 : Int)).toNat (IntKind.bits .u64)))) &&& BitVec.ofInt (IntKind.bits .u64) (6148914691236517205 : Int)).toNat)) + (IntKind.wrap .u64 ((BitVec.ofInt (IntKind.bits .u64) a0 &&& BitVec.ofInt (IntKind.bits .u64) (6148914691236517205 : Int)).toNat)))) (2 ^ (min ((2 : Int)).toNat (IntKind.bits .u64)))) &&& BitVec.ofInt (IntKind.bits .u64) (3689348814741910323 : Int)).toNat)) + (IntKind.wrap .u64 ((BitVec.ofInt (IntKind.bits .u64) (IntKind.wrap .u64 ((IntKind.wrap .u64 ((BitVec.ofInt (IntKind.bits .u64) (Int.fdiv a0 (2 ^ (min ((1 : Int)).toNat (IntKind.bits .u64)))) &&& BitVec.ofInt (IntKind.bits .u64) (6148914691236517205 : Int)).toNat)) + (IntKind.wrap .u64 ((BitVec.ofInt (IntKind.bits .u64) a0 &&& BitVec.ofInt (IntKind.bits .u64) (6148914691236517205 : Int)).toNat)))) &&& BitVec.ofInt (IntKind.bits .u64) (3689348814741910323 : Int)).toNat)))))) &&& BitVec.ofInt (IntKind.bits .u64) (1085102592571150095 : Int)).toNat)) (2 ^ (min ((8 : Int)).toNat (IntKind.bits .u64)))))) + (Int.fdiv (IntKind.wrap .u64 ((IntKind.wrap .u64 ((BitVec.ofInt (IntKind.bits .u64) (IntKind.wrap .u64 ((Int.fdiv (IntKind.wrap .u64 ((IntKind.wrap .u64 ((BitVec.ofInt (IntKind.bits .u64) (Int.fdiv (IntKind.wrap .u64 ((IntKind.wrap .u64 ((BitVec.ofInt (IntKind.bits .u64) (Int.fdiv a0 (2 ^ (min ((1 : Int)).toNat (IntKind.bits .u64)))) &&& BitVec.ofInt (IntKind.bits .u64) (6148914691236517205 : Int)).toNat)) + (IntKind.wrap .u64 ((BitVec.ofInt (IntKind.bits .u64) a0 &&& BitVec.ofInt (IntKind.bits .u64) (6148914691236517205 : Int)).toNat)))) (2 ^ (min ((2 : Int)).toNat (IntKind.bits .u64)))) &&& BitVec.ofInt (IntKind.bits .u64) (3689348814741910323 : Int)).toNat)) + (IntKind.wrap .u64 ((BitVec.ofInt (IntKind.bits .u64) (IntKind.wrap .u64 ((IntKind.wrap .u64 ((BitVec.ofInt (IntKind.bits .u64) (Int.fdiv a0 (2 ^ (min ((1 : Int)).toNat (IntKind.bits .u64)))) &&& BitVec.ofInt (IntKind.bits .u64) (6148914691236517205 : Int)).toNat)) + (IntKind.wrap .u64 ((BitVec.ofInt (IntKind.bits .u64) a0 &&& BitVec.ofInt (IntKind.bits .u64) (6148914691236517205 : Int)).toNat)))) &&& BitVec.ofInt (IntKind.bits .u64) (3689348814741910323 : Int)).toNat)))) (2 ^ (min ((4 : Int)).toNat (IntKind.bits .u64)))) + (IntKind.wrap .u64 ((IntKind.wrap .u64 ((BitVec.ofInt (IntKind.bits .u64) (Int.fdiv (IntKind.wrap .u64 ((IntKind.wrap .u64 ((BitVec.ofInt (IntKind.bits .u64) (Int.fdiv a0 (2 ^ (min ((1 : Int)).toNat (IntKind.bits .u64)))) &&& BitVec.ofInt (IntKind.bits .u64) (6148914691236517205 : Int)).toNat)) + (IntKind.wrap .u64 ((BitVec.ofInt (IntKind.bits .u64) a0 &&& BitVec.ofInt (IntKind.bits .u64) (6148914691236517205 : Int)).toNat)))) (2 ^ (min ((2 : Int)).toNat (IntKind.bits .u64)))) &&& BitVec.ofInt (IntKind.bits .u64) (3689348814741910323 : Int)).toNat)) + (IntKind.wrap .u64 ((BitVec.ofInt (IntKind.bits .u64) (IntKind.wrap .u64 ((IntKind.wrap .u64 ((BitVec.ofInt (IntKind.bits .u64) (Int.fdiv a0 (2 ^ (min ((1 : Int)).toNat (IntKind.bits .u64)))) &&& BitVec.ofInt (IntKind.bits .u64) (6148914691236517205 : Int)).toNat)) + (IntKind.wrap .u64 ((BitVec.ofInt (IntKind.bits .u64) a0 &&& BitVec.ofInt (IntKind.bits .u64) (6148914691236517205 : Int)).toNat)))) &&& BitVec.ofInt (IntKind.bits .u64) (3689348814741910323 : Int)).toNat)))))) &&& BitVec.ofInt (IntKind.bits .u64) (1085102592571150095 : Int)).toNat)) + (Int.fdiv (IntKind.wrap .u64 ((BitVec.ofInt (IntKind.bits .u64) (IntKind.wrap .u64 ((Int.fdiv (IntKind.wrap .u64 ((IntKind.wrap .u64 ((BitVec.ofInt (IntKind.bits .u64) (Int.fdiv (IntKind.wrap .u64 ((IntKind.wrap .u64 ((BitVec.ofInt (IntKind.bits .u64) (Int.fdiv a0 (2 ^ (min ((1 : Int)).toNat (IntKind.bits .u64)))) &&& BitVec.ofInt (IntKind.bits .u64) (6148914691236517205 : Int)).toNat)) + (IntKind.wrap .u64 ((BitVec.ofInt (IntKind.bits .u64) a0 &&& BitVec.ofInt (IntKind.bits .u64) (6148914691236517205 : Int)).toNat)))) (2 ^ (min ((2 : Int)).toNat (IntKind.bits .u64)))) &&& BitVec.ofInt (IntKind.bits .u64) (3689348814741910323 : Int)).toNat)) + (IntKind.wrap .u64 ((BitVec.ofInt (IntKind.bits .u64) (IntKind.wrap .u64 ((IntKind.wrap .u64 ((BitVec.ofInt (IntKind.bits .u64) (Int.fdiv a0 (2 ^ (min ((1 : Int)).toNat (IntKind.bits .u64)))) &&& BitVec.ofInt (IntKind.bits .u64) (6148914691236517205 : Int)).toNat)) + (IntKind.wrap .u64 ((BitVec.ofInt (IntKind.bits .u64) a0 &&& BitVec.ofInt (IntKind.bits .u64) (6148914691236517205 : Int)).toNat)))) &&& BitVec.ofInt (IntKind.bits .u64) (3689348814741910323 : Int)).toNat)))) (2 ^ (min ((4 : Int)).toNat (IntKind.bits .u64)))) + (IntKind.wrap .u64 ((IntKind.wrap .u64 ((BitVec.ofInt (IntKind.bits .u64) (Int.fdiv (IntKind.wrap .u64 ((IntKind.wrap .u64 ((BitVec.ofInt (IntKind.bits .u64) (Int.fdiv a0 (2 ^ (min ((1 : Int)).toNat (IntKind.bits .u64)))) &&& BitVec.ofInt (IntKind.bits .u64) (6148914691236517205 : Int)).toNat)) + (IntKind.wrap .u64 ((BitVec.ofInt (IntKind.bits .u64) a0 &&& BitVec.ofInt (IntKind.bits .u64) (6148914691236517205 : Int)).toNat)))) (2 ^ (min ((2 : Int)).toNat (IntKind.bits .u64)))) &&& BitVec.ofInt (IntKind.bits .u64) (3689348814741910323 : Int)).toNat)) + (IntKind.wrap .u64 ((BitVec.ofInt (IntKind.bits .u64) (IntKind.wrap .u64 ((IntKind.wrap .u64 ((BitVec.ofInt (IntKind.bits .u64) (Int.fdiv a0 (2 ^ (min ((1 : Int)).toNat (IntKind.bits .u64)))) &&& BitVec.ofInt (IntKind.bits .u64) (6148914691236517205 : Int)).toNat)) + (IntKind.wrap .u64 ((BitVec.ofInt (IntKind.bits .u64) a0 &&& BitVec.ofInt (IntKind.bits .u64) (6148914691236517205 : Int)).toNat)))) &&& BitVec.ofInt (IntKind.bits .u64) (3689348814741910323 : Int)).toNat)))))) &&& BitVec.ofInt (IntKind.bits .u64) (1085102592571150095 : Int)).toNat)) (2 ^ (min ((8 : Int)).toNat (IntKind.bits .u64)))))) (2 ^ (min ((16 : Int)).toNat (IntKind.bits .u64)))))) + (Int.fdiv (IntKind.wrap .u64 ((IntKind.wrap .u64 ((IntKind.wrap .u64 ((BitVec.ofInt (IntKind.bits .u64) (IntKind.wrap .u64 ((Int.fdiv (IntKind.wrap .u64 ((IntKind.wrap .u64 ((BitVec.ofInt (IntKind.bits .u64) (Int.fdiv (IntKind.wrap .u64 ((IntKind.wrap .u64 ((BitVec.ofInt (IntKind.bits .u64) (Int.fdiv a0 (2 ^ (min ((1 : Int)).toNat (IntKind.bits .u64)))) &&& BitVec.ofInt (IntKind.bits .u64) (6148914691236517205 : Int)).toNat)) + (IntKind.wrap .u64 ((BitVec.ofInt (IntKind.bits .u64) a0 &&& BitVec.ofInt (IntKind.bits .u64) (6148914691236517205 : Int)).toNat)))) (2 ^ (min ((2 : Int)).toNat (IntKind.bits .u64)))) &&& BitVec.ofInt (IntKind.bits .u64) (3689348814741910323 : Int)).toNat)) + (IntKind.wrap .u64 ((BitVec.ofInt (IntKind.bits .u64) (IntKind.wrap .u64 ((IntKind.wrap .u64 ((BitVec.ofInt (IntKind.bits .u64) (Int.fdiv a0 (2 ^ (min ((1 : Int)).toNat (IntKind.bits .u64)))) &&& BitVec.ofInt (IntKind.bits .u64) (6148914691236517205 : Int)).toNat)) + (IntKind.wrap .u64 ((BitVec.ofInt (IntKind.bits .u64) a0 &&& BitVec.ofInt (IntKind.bits .u64) (6148914691236517205 : Int)).toNat)))) &&& BitVec.ofInt (IntKind.bits .u64) (3689348814741910323 : Int)).toNat)))) (2 ^ (min ((4 : Int)).toNat (IntKind.bits .u64)))) + (IntKind.wrap .u64 ((IntKind.wrap .u64 ((BitVec.ofInt (IntKind.bits .u64) (Int.fdiv (IntKind.wrap .u64 ((IntKind.wrap .u64 ((BitVec.ofInt (IntKind.bits .u64) (Int.fdiv a0 (2 ^ (min ((1 : Int)).toNat (IntKind.bits .u64)))) &&& BitVec.ofInt (IntKind.bits .u64) (6148914691236517205 : Int)).toNat)) + (IntKind.wrap .u64 ((BitVec.ofInt (IntKind.bits .u64) a0 &&& BitVec.ofInt (IntKind.bits .u64) (6148914691236517205 : Int)).toNat)))) (2 ^ (min ((2 : Int)).toNat (IntKind.bits .u64)))) &&& BitVec.ofInt (IntKind.bits .u64) (3689348814741910323 : Int)).toNat)) + (IntKind.wrap .u64 ((BitVec.ofInt (IntKind.bits .u64) (IntKind.wrap .u64 ((IntKind.wrap .u64 ((BitVec.ofInt (IntKind.bits .u64) (Int.fdiv a0 (2 ^ (min ((1 : Int)).toNat (IntKind.bits .u64)))) &&& BitVec.ofInt (IntKind.bits .u64) (6148914691236517205 : Int)).toNat)) + (IntKind.wrap .u64 ((BitVec.ofInt (IntKind.bits .u64) a0 &&& BitVec.ofInt (IntKind.bits .u64) (6148914691236517205 : Int)).toNat)))) &&& BitVec.ofInt (IntKind.bits .u64) (3689348814741910323 : Int)).toNat)))))) &&& BitVec.ofInt (IntKind.bits .u64) (1085102592571150095 : Int)).toNat)) + (Int.fdiv (IntKind.wrap .u64 ((BitVec.ofInt (IntKind.bits .u64) (IntKind.wrap .u64 ((Int.fdiv (IntKind.wrap .u64 ((IntKind.wrap .u64 ((BitVec.ofInt (IntKind.bits .u64) (Int.fdiv (IntKind.wrap .u64 ((IntKind.wrap .u64 ((BitVec.ofInt (IntKind.bits .u64) (Int.fdiv a0 (2 ^ (min ((1 : Int)).toNat (IntKind.bits .u64)))) &&& BitVec.ofInt (IntKind.bits .u64) (6148914691236517205 : Int)).toNat)) + (IntKind.wrap .u64 ((BitVec.ofInt (IntKind.bits .u64) a0 &&& BitVec.ofInt (IntKind.bits .u64) (6148914691236517205 : Int)).toNat)))) (2 ^ (min ((2 : Int)).toNat (IntKind.bits .u64)))) &&& BitVec.ofInt (IntKind.bits .u64) (3689348814741910323 : Int)).toNat)) + (IntKind.wrap .u64 ((BitVec.ofInt (IntKind.bits .u64) (IntKind.wrap .u64 ((IntKind.wrap .u64 ((BitVec.ofInt (IntKind.bits .u64) (Int.fdiv a0 (2 ^ (min ((1 : Int)).toNat (IntKind.bits .u64)))) &&& BitVec.ofInt (IntKind.bits .u64) (6148914691236517205 : Int)).toNat)) + (IntKind.wrap .u64 ((BitVec.ofInt (IntKind.bits .u64) a0 &&& BitVec.ofInt (IntKind.bits .u64) (6148914691236517205 : Int)).toNat)))) &&& BitVec.ofInt (IntKind.bits .u64) (3689348814741910323 : Int)).toNat)))) (2 ^ (min ((4 : Int)).toNat (IntKind.bits .u64)))) + (IntKind.wrap .u64 ((IntKind.wrap .u64 ((BitVec.ofInt (IntKind.bits .u64) (Int.fdiv (IntKind.wrap .u64 ((IntKind.wrap .u64 ((BitVec.ofInt (IntKind.bits .u64) (Int.fdiv a0 (2 ^ (min ((1 : Int)).toNat (IntKind.bits .u64)))) &&& BitVec.ofInt (IntKind.bits .u64) (6148914691236517205 : Int)).toNat)) + (IntKind.wrap .u64 ((BitVec.ofInt (IntKind.bits .u64) a0 &&& BitVec.ofInt (IntKind.bits .u64) (6148914691236517205 : Int)).toNat)))) (2 ^ (min ((2 : Int)).toNat (IntKind.bits .u64)))) &&& BitVec.ofInt (IntKind.bits .u64) (3689348814741910323 : Int)).toNat)) + (IntKind.wrap .u64 ((BitVec.ofInt (IntKind.bits .u64) (IntKind.wrap .u64 ((IntKind.wrap .u64 ((BitVec.ofInt (IntKind.bits .u64) (Int.fdiv a0 (2 ^ (min ((1 : Int)).toNat (IntKind.bits .u64)))) &&& BitVec.ofInt (IntKind.bits .u64) (6148914691236517205 : Int)).toNat)) + (IntKind.wrap .u64 ((BitVec.ofInt (IntKind.bits .u64) a0 &&& BitVec.ofInt (IntKind.bits .u64) (6148914691236517205 : Int)).toNat)))) &&& BitVec.ofInt (IntKind.bits .u64) (3689348814741910323 : Int)).toNat)))))) &&& BitVec.ofInt (IntKind.bits .u64) (1085102592571150095 : Int)).toNat)) (2 ^ (min ((8 : Int)).toNat (IntKind.bits .u64)))))) + (Int.fdiv (IntKind.wrap .u64 ((IntKind.wrap .u64 ((BitVec.ofInt (IntKind.bits .u64) (IntKind.wrap .u64 ((Int.fdiv (IntKind.wrap .u64 ((IntKind.wrap .u64 ((BitVec.ofInt (IntKind.bits .u64) (Int.fdiv (IntKind.wrap .u64 ((IntKind.wrap .u64 ((BitVec.ofInt (IntKind.bits .u64) (Int.fdiv a0 (2 ^ (min ((1 : Int)).toNat (IntKind.bits .u64)))) &&& BitVec.ofInt (IntKind.bits .u64) (6148914691236517205 : Int)).toNat)) + (IntKind.wrap .u64 ((BitVec.ofInt (IntKind.bits .u64) a0 &&& BitVec.ofInt (IntKind.bits .u64) (6148914691236517205 : Int)).toNat)))) (2 ^ (min ((2 : Int)).toNat (IntKind.bits .u64)))) &&& BitVec.ofInt (IntKind.bits .u64) (3689348814741910323 : Int)).toNat)) + (IntKind.wrap .u64 ((BitVec.ofInt (IntKind.bits .u64) (IntKind.wrap .u64 ((IntKind.wrap .u64 ((BitVec.ofInt (IntKind.bits .u64) (Int.fdiv a0 (2 ^ (min ((1 : Int)).toNat (IntKind.bits .u64)))) &&& BitVec.ofInt (IntKind.bits .u64) (6148914691236517205 : Int)).toNat)) + (IntKind.wrap .u64 ((BitVec.ofInt (IntKind.bits .u64) a0 &&& BitVec.ofInt (IntKind.bits .u64) (6148914691236517205 : Int)).toNat)))) &&& BitVec.ofInt (IntKind.bits .u64) (3689348814741910323 : Int)).toNat)))) (2 ^ (min ((4 : Int)).toNat (IntKind.bits .u64)))) + (IntKind.wrap .u64 ((IntKind.wrap .u64 ((BitVec.ofInt (IntKind.bits .u64) (Int.fdiv (IntKind.wrap .u64 ((IntKind.wrap .u64 ((BitVec.ofInt (IntKind.bits .u64) (Int.fdiv a0 (2 ^ (min ((1 : Int)).toNat (IntKind.bits .u64)))) &&& BitVec.ofInt (IntKind.bits .u64) (6148914691236517205 : Int)).toNat)) + (IntKind.wrap .u64 ((BitVec.ofInt (IntKind.bits .u64) a0 &&& BitVec.ofInt (IntKind.bits .u64) (6148914691236517205 : Int)).toNat)))) (2 ^ (min ((2 : Int)).toNat (IntKind.bits .u64)))) &&& BitVec.ofInt (IntKind.bits .u64) (3689348814741910323 : Int)).toNat)) + (IntKind.wrap .u64 ((BitVec.ofInt (IntKind.bits .u64) (IntKind.wrap .u64 ((IntKind.wrap .u64 ((BitVec.ofInt (IntKind.bits .u64) (Int.fdiv a0 (2 ^ (min ((1 : Int)).toNat (IntKind.bits .u64)))) &&& BitVec.ofInt (IntKind.bits .u64) (6148914691236517205 : Int)).toNat)) + (IntKind.wrap .u64 ((BitVec.ofInt (IntKind.bits .u64) a0 &&& BitVec.ofInt (IntKind.bits .u64) (6148914691236517205 : Int)).toNat)))) &&& BitVec.ofInt (IntKind.bits .u64) (3689348814741910323 : Int)).toNat)))))) &&& BitVec.ofInt (IntKind.bits .u64) (1085102592571150095 : Int)).toNat)) + (Int.fdiv (IntKind.wrap .u64 ((BitVec.ofInt (IntKind.bits .u64) (IntKind.wrap .u64 ((Int.fdiv (IntKind.wrap .u64 ((IntKind.wrap .u64 ((BitVec.ofInt (IntKind.bits .u64) (Int.fdiv (IntKind.wrap .u64 ((IntKind.wrap .u64 ((BitVec.ofInt (IntKind.bits .u64) (Int.fdiv a0 (2 ^ (min ((1 : Int)).toNat (IntKind.bits .u64)))) &&& BitVec.ofInt (IntKind.bits .u64) (6148914691236517205 : Int)).toNat)) + (IntKind.wrap .u64 ((BitVec.ofInt (IntKind.bits .u64) a0 &&& BitVec.ofInt (IntKind.bits .u64) (6148914691236517205 : Int)).toNat)))) (2 ^ (min ((2 : Int)).toNat (IntKind.bits .u64)))) &&& BitVec.ofInt (IntKind.bits .u64) (3689348814741910323 : Int)).toNat)) + (IntKind.wrap .u64 ((BitVec.ofInt (IntKind.bits .u64) (IntKind.wrap .u64 ((IntKind.wrap .u64 ((BitVec.ofInt (IntKind.bits .u64) (Int.fdiv a0 (2 ^ (min ((1 : Int)).toNat (IntKind.bits .u64)))) &&& BitVec.ofInt (IntKind.bits .u64) (6148914691236517205 : Int)).toNat)) + (IntKind.wrap .u64 ((BitVec.ofInt (IntKind.bits .u64) a0 &&& BitVec.ofInt (IntKind.bits .u64) (6148914691236517205 : Int)).toNat)))) &&& BitVec.ofInt (IntKind.bits .u64) (3689348814741910323 : Int)).toNat)))) (2 ^ (min ((4 : Int)).toNat (IntKind.bits .u64)))) + (IntKind.wrap .u64 ((IntKind.wrap .u64 ((BitVec.ofInt (IntKind.bits .u64) (Int.fdiv (IntKind.wrap .u64 ((IntKind.wrap .u64 ((BitVec.ofInt (IntKind.bits .u64) (Int.fdiv a0 (2 ^ (min ((1 : Int)).toNat (IntKind.bits .u64)))) &&& BitVec.ofInt (IntKind.bits .u64) (6148914691236517205 : Int)).toNat)) + (IntKind.wrap .u64 ((BitVec.ofInt (IntKind.bits .u64) a0 &&& BitVec.ofInt (IntKind.bits .u64) (6148914691236517205 : Int)).toNat)))) (2 ^ (min ((2 : Int)).toNat (IntKind.bits .u64)))) &&& BitVec.ofInt (IntKind.bits .u64) (3689348814741910323 : Int)).toNat)) + (IntKind.wrap .u64 ((BitVec.ofInt (IntKind.bits .u64) (IntKind.wrap .u64 ((IntKind.wrap .u64 ((BitVec.ofInt (IntKind.bits .u64) (Int.fdiv a0 (2 ^ (min ((1 : Int)).toNat (IntKind.bits .u64)))) &&& BitVec.ofInt (IntKind.bits .u64) (6148914691236517205 : Int)).toNat)) + (IntKind.wrap .u64 ((BitVec.ofInt (IntKind.bits .u64) a0 &&& BitVec.ofInt (IntKind.bits .u64) (6148914691236517205 : Int)).toNat)))) &&& BitVec.ofInt (IntKind.bits .u64) (3689348814741910323 : Int)).toNat)))))) &&& BitVec.ofInt (IntKind.bits .u64) (1085102592571150095 : Int)).toNat)) (2 ^ (min ((8 : Int)).toNat (IntKind.bits .u64)))))) (2 ^ (min ((16 : Int)).toNat (IntKind.bits .u64)))))) (2 ^ (min ((32 : Int)).toNat (IntKind.bits .u64))))))) &&& BitVec.ofInt (IntKind.bits .i64) (127 : Int)).toNat)))) [] :=
  SC_of_run cfgOK (its := [])
    (ps := [0 ≤ (1 : Int),
      0 ≤ (2 : Int),
      0 ≤ (4 : Int),
      0 ≤ (8 : Int),
      0 ≤ (16 : Int),
      0 ≤ (32 : Int)]) (by kernel_rfl) ⟨(by decide), (by decide), (by decide), (by decide), (by decide), (by decide), trivial⟩ get_math_bits_OnesCount64 (by decide)

/-! ### impl_placeOf -/


def impl_placeOf_L0a (x0 : ByteArray) (x3 : Int) (x4 : Int) (x7 : Int) (x8 : Int) : St := mkSt 22 [(0, .s (.v .str x0)), (3, .s (.v (.int .i64) x3)), (4, .s (.v (.int .i64) x4)), (7, .s (.v (.int .i64) x7)), (8, .s (.v (.int .i64) x8))] []

def impl_placeOf_L0X1 (y0 : ByteArray) (y3 : Int) (y4 : Int) (y7 : Int) (y8 : Int) (y9 : Bool) : St := mkSt 22 [(0, .s (.v .str y0)), (3, .s (.v (.int .i64) y3)), (4, .s (.v (.int .i64) y4)), (7, .s (.v (.int .i64) y7)), (8, .s (.v (.int .i64) y8)), (9, .s (.v .bool y9))] []

theorem impl_placeOf_L0a_i1 (x0 : ByteArray) (x3 : Int) (x4 : Int) (x7 : Int) (x8 : Int)
    (h1 : x8 < x7)
    (h2 : (2 : Int) ≠ 0)
    (h3 : 0 ≤ x8)
    (h4 : x8 < ((x0).size : Int))
    (h5 : (bt x0 x8) = (49 : Int))
    {e : AEx} {st : St} (next : LoopSC cfg.P 1 (lb P_impl_placeOf 0) (impl_placeOf_L0a x0 (IntKind.wrap .i64 (x3 + (IntKind.wrap .i64 (Int.tdiv x4 (2 : Int))))) (IntKind.wrap .i64 (Int.tdiv x4 (2 : Int))) x7 (IntKind.wrap .i64 (x8 + (1 : Int)))) e st) :
    LoopSC cfg.P 1 (lb P_impl_placeOf 0) (impl_placeOf_L0a x0 x3 x4 x7 x8) e st :=
  loop_iter cfgOK (f := i_impl_placeOf) (its := [.bool true, .bool true])
    (ps := [decide (x8 < x7) = true,
      (2 : Int) ≠ 0,
      0 ≤ x8,
      x8 < ((x0).size : Int),
      ((bt x0 x8) == (49 : Int)) = true]) (st1 := impl_placeOf_L0a x0 (IntKind.wrap .i64 (x3 + (IntKind.wrap .i64 (Int.tdiv x4 (2 : Int))))) (IntKind.wrap .i64 (Int.tdiv x4 (2 : Int))) x7 (IntKind.wrap .i64 (x8 + (1 : Int)))) (by kernel_rfl) ⟨(decide_eq_true h1), h2, h3, h4, (beq_iff_eq.mpr h5), trivial⟩ next

theorem impl_placeOf_L0a_i2 (x0 : ByteArray) (x3 : Int) (x4 : Int) (x7 : Int) (x8 : Int)
    (h1 : x8 < x7)
    (h2 : (2 : Int) ≠ 0)
    (h3 : 0 ≤ x8)
    (h4 : x8 < ((x0).size : Int))
    (h5 : (bt x0 x8) ≠ (49 : Int))
    {e : AEx} {st : St} (next : LoopSC cfg.P 1 (lb P_impl_placeOf 0) (impl_placeOf_L0a x0 x3 (IntKind.wrap .i64 (Int.tdiv x4 (2 : Int))) x7 (IntKind.wrap .i64 (x8 + (1 : Int)))) e st) :
    LoopSC cfg.P 1 (lb P_impl_placeOf 0) (impl_placeOf_L0a x0 x3 x4 x7 x8) e st :=
  loop_iter cfgOK (f := i_impl_placeOf) (its := [.bool true, .bool false])
    (ps := [decide (x8 < x7) = true,
      (2 : Int) ≠ 0,
      0 ≤ x8,
      x8 < ((x0).size : Int),
      ((bt x0 x8) == (49 : Int)) = false]) (st1 := impl_placeOf_L0a x0 x3 (IntKind.wrap .i64 (Int.tdiv x4 (2 : Int))) x7 (IntKind.wrap .i64 (x8 + (1 : Int)))) (by kernel_rfl) ⟨(decide_eq_true h1), h2, h3, h4, (beq_eq_false_iff_ne.mpr h5), trivial⟩ next

theorem impl_placeOf_L0a_x3 (x0 : ByteArray) (x3 : Int) (x4 : Int) (x7 : Int) (x8 : Int)
    (h1 : ¬ (x8 < x7)) :
    LoopSC cfg.P 1 (lb P_impl_placeOf 0) (impl_placeOf_L0a x0 x3 x4 x7 x8) (.exit 0) (impl_placeOf_L0X1 x0 x3 x4 x7 x8 false) :=
  loop_out cfgOK (f := i_impl_placeOf) (its := [.bool false])
    (ps := [decide (x8 < x7) = false]) (by kernel_rfl) ⟨(decide_eq_false h1), trivial⟩ (fun h => by cases h)

theorem impl_placeOf_p1 (a0 : ByteArray) (k1y0 : ByteArray) (k1y3 : Int) (k1y4 : Int) (k1y7 : Int) (k1y8 : Int) (k1y9 : Bool)
    (h1 : LoopSC cfg.P 1 (lb P_impl_placeOf 0) (impl_placeOf_L0a a0 (0 : Int) (1099511627776 : Int) ((a0).size : Int) (0 : Int)) (.exit 0) (impl_placeOf_L0X1 k1y0 k1y3 k1y4 k1y7 k1y8 k1y9)) :
    SC cfg.P i_impl_placeOf [.s (.v .str a0)] (.s (.v (.int .i64) k1y3)) [] :=
  SC_of_run cfgOK (its := [.loop (fun _ => (.exit 0, impl_placeOf_L0X1 k1y0 k1y3 k1y4 k1y7 k1y8 k1y9))])
    (ps := [LoopSC cfg.P 1 (lb P_impl_placeOf 0) (impl_placeOf_L0a a0 (0 : Int) (1099511627776 : Int) ((a0).size : Int) (0 : Int)) (.exit 0) (impl_placeOf_L0X1 k1y0 k1y3 k1y4 k1y7 k1y8 k1y9)]) (by kernel_rfl) ⟨h1, trivial⟩ get_impl_placeOf (by decide)

/-! ### impl_node_addresses -/


theorem impl_node_addresses_p1 (a1 : ByteArray)
     :
    SC cfg.P i_impl_node_addresses [.s (.v .tree Tr.leaf), .s (.v .str a1)] (.s (.own t_string .str ([a1] : List ByteArray))) [] :=
  SC_of_run cfgOK (its := [.bool true])
    (ps := [Tr.leaf.isLeaf = true]) (by kernel_rfl) ⟨rfl, trivial⟩ get_impl_node_addresses (by decide)

theorem impl_node_addresses_p2 (a0l : Tr) (a0r : Tr) (a1 : ByteArray) (c1 : (List ByteArray)) (c2 : (List ByteArray))
    (h1 : (a1).size + ((⟨#[48]⟩ : ByteArray)).size ≤ 2 ^ 62)
    (h2 : SC cfg.P i_impl_node_addresses [.s (.v .tree a0l), .s (.v .str (a1 ++ (⟨#[48]⟩ : ByteArray)))] (.s (.own t_string .str c1)) [])
    (h3 : (a1).size + ((⟨#[49]⟩ : ByteArray)).size ≤ 2 ^ 62)
    (h4 : SC cfg.P i_impl_node_addresses [.s (.v .tree a0r), .s (.v .str (a1 ++ (⟨#[49]⟩ : ByteArray)))] (.s (.own t_string .str c2)) [])
    (h5 : sizeOK (List.length c1 + List.length c2)) :
    SC cfg.P i_impl_node_addresses [.s (.v .tree (Tr.node a0l a0r)), .s (.v .str a1)] (.s (.own t_string .str (c1 ++ c2))) [] :=
  SC_of_run cfgOK (its := [.bool false, .res (.s (.own t_string .str c1)) [] [] [15], .res (.s (.own t_string .str c2)) [] [] [22]])
    (ps := [(Tr.node a0l a0r).isLeaf = false,
      (a1).size + ((⟨#[48]⟩ : ByteArray)).size ≤ 2 ^ 62,
      SC cfg.P i_impl_node_addresses [.s (.v .tree a0l), .s (.v .str (a1 ++ (⟨#[48]⟩ : ByteArray)))] (.s (.own t_string .str c1)) [],
      (a1).size + ((⟨#[49]⟩ : ByteArray)).size ≤ 2 ^ 62,
      SC cfg.P i_impl_node_addresses [.s (.v .tree a0r), .s (.v .str (a1 ++ (⟨#[49]⟩ : ByteArray)))] (.s (.own t_string .str c2)) [],
      sizeOK (List.length c1 + List.length c2)]) (by kernel_rfl) ⟨rfl, h1, h2, h3, h4, h5, trivial⟩ get_impl_node_addresses (by decide)

/-! ### spec_mpGcd -/


def spec_mpGcd_L0a (x0 : Int) (x1 : Int) : St := mkSt 12 [(0, .s (.v (.int .i64) x0)), (1, .s (.v (.int .i64) x1))] []

def spec_mpGcd_L0X1 (y0 : Int) (y1 : Int) (y6 : Bool) : St := mkSt 12 [(0, .s (.v (.int .i64) y0)), (1, .s (.v (.int .i64) y1)), (6, .s (.v .bool y6))] []

theorem spec_mpGcd_L0a_i1 (x0 : Int) (x1 : Int)
    (h1 : x1 > (0 : Int))
    (h2 : x1 ≠ 0)
    {e : AEx} {st : St} (next : LoopSC cfg.P 2 (lb P_spec_mpGcd 0) (spec_mpGcd_L0a x1 (Int.tmod x0 x1)) e st) :
    LoopSC cfg.P 2 (lb P_spec_mpGcd 0) (spec_mpGcd_L0a x0 x1) e st :=
  loop_iter cfgOK (f := i_spec_mpGcd) (its := [.bool true])
    (ps := [decide (x1 > (0 : Int)) = true,
      x1 ≠ 0]) (st1 := spec_mpGcd_L0a x1 (Int.tmod x0 x1)) (by kernel_rfl) ⟨(decide_eq_true h1), h2, trivial⟩ next

theorem spec_mpGcd_L0a_x2 (x0 : Int) (x1 : Int)
    (h1 : ¬ (x1 > (0 : Int))) :
    LoopSC cfg.P 2 (lb P_spec_mpGcd 0) (spec_mpGcd_L0a x0 x1) (.exit 0) (spec_mpGcd_L0X1 x0 x1 false) :=
  loop_out cfgOK (f := i_spec_mpGcd) (its := [.bool false])
    (ps := [decide (x1 > (0 : Int)) = false]) (by kernel_rfl) ⟨(decide_eq_false h1), trivial⟩ (fun h => by cases h)

theorem spec_mpGcd_p1 (a0 : Int) (a1 : Int) (k1y0 : Int) (k1y1 : Int) (k1y6 : Bool)
    (h1 : LoopSC cfg.P 2 (lb P_spec_mpGcd 0) (spec_mpGcd_L0a a0 a1) (.exit 0) (spec_mpGcd_L0X1 k1y0 k1y1 k1y6)) :
    SC cfg.P i_spec_mpGcd [.s (.v (.int .i64) a0), .s (.v (.int .i64) a1)] (.s (.v (.int .i64) k1y0)) [] :=
  SC_of_run cfgOK (its := [.loop (fun _ => (.exit 0, spec_mpGcd_L0X1 k1y0 k1y1 k1y6))])
    (ps := [LoopSC cfg.P 2 (lb P_spec_mpGcd 0) (spec_mpGcd_L0a a0 a1) (.exit 0) (spec_mpGcd_L0X1 k1y0 k1y1 k1y6)]) (by kernel_rfl) ⟨h1, trivial⟩ get_spec_mpGcd (by decide)

end Go.AI
