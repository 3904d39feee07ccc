/- A part of the road: what it proves stands in its last texts. -/
import Derived.Test.YtdfllkeekehplaaSIds
import Derived.Test.YtdfllkeekehplaaProg
set_option autoImplicit false
set_option maxRecDepth 100000
set_option linter.unusedVariables false
namespace Go.AI
open Go.Proofs

/-! ### impl_IsReduced -/


/-! ### laws_fSameMap -/


/-! ### impl_AreSamePairs -/


/-! ### spec_trRight -/


def spec_trRight_L0a (x0 : Int) (x3 : ByteArray) : St := mkSt 11 [(0, .s (.v (.int .i64) x0)), (3, .s (.v .str x3))] []

def spec_trRight_L0X1 (y0 : Int) (y3 : ByteArray) (y5 : Bool) : St := mkSt 11 [(0, .s (.v (.int .i64) y0)), (3, .s (.v .str y3)), (5, .s (.v .bool y5))] []

theorem spec_trRight_L0a_i1 (x0 : Int) (x3 : ByteArray) (dc1 : ByteArray)
    (h1 : x0 > (0 : Int))
    (h2 : SC cfg.P i_spec_trOf [.s (.v .str (⟨#[46]⟩ : ByteArray)), .s (.v .str x3)] (.s (.v .str dc1)) [])
    {e : AEx} {st : St} (next : LoopSC cfg.P 1 (lb P_spec_trRight 0) (spec_trRight_L0a (IntKind.wrap .i64 (x0 - (1 : Int))) dc1) e st) :
    LoopSC cfg.P 1 (lb P_spec_trRight 0) (spec_trRight_L0a x0 x3) e st :=
  loop_iter cfgOK (f := i_spec_trRight) (its := [.bool true, .res (.s (.v .str dc1)) [] [] []])
    (ps := [decide (x0 > (0 : Int)) = true,
      SC cfg.P i_spec_trOf [.s (.v .str (⟨#[46]⟩ : ByteArray)), .s (.v .str x3)] (.s (.v .str dc1)) []]) (st1 := spec_trRight_L0a (IntKind.wrap .i64 (x0 - (1 : Int))) dc1) (by kernel_rfl) ⟨(decide_eq_true h1), h2, trivial⟩ next

theorem spec_trRight_L0a_x2 (x0 : Int) (x3 : ByteArray)
    (h1 : ¬ (x0 > (0 : Int))) :
    LoopSC cfg.P 1 (lb P_spec_trRight 0) (spec_trRight_L0a x0 x3) (.exit 0) (spec_trRight_L0X1 x0 x3 false) :=
  loop_out cfgOK (f := i_spec_trRight) (its := [.bool false])
    (ps := [decide (x0 > (0 : Int)) = false]) (by kernel_rfl) ⟨(decide_eq_false h1), trivial⟩ (fun h => by cases h)

theorem spec_trRight_p1 (a0 : Int) (k1y0 : Int) (k1y3 : ByteArray) (k1y5 : Bool)
    (h1 : LoopSC cfg.P 1 (lb P_spec_trRight 0) (spec_trRight_L0a a0 (⟨#[46]⟩ : ByteArray)) (.exit 0) (spec_trRight_L0X1 k1y0 k1y3 k1y5)) :
    SC cfg.P i_spec_trRight [.s (.v (.int .i64) a0)] (.s (.v .str k1y3)) [] :=
  SC_of_run cfgOK (its := [.loop (fun _ => (.exit 0, spec_trRight_L0X1 k1y0 k1y3 k1y5))])
    (ps := [LoopSC cfg.P 1 (lb P_spec_trRight 0) (spec_trRight_L0a a0 (⟨#[46]⟩ : ByteArray)) (.exit 0) (spec_trRight_L0X1 k1y0 k1y3 k1y5)]) (by kernel_rfl) ⟨h1, trivial⟩ get_spec_trRight (by decide)

/-! ### spec_l1Cur_pair -/


theorem spec_l1Cur_pair_p1 (a0 : ((List Int) × (Int × Int))) (a1 : Int) (c1 : Int) (c1o0 : ((List Int) × (Int × Int))) (c2 : (ByteArray × ByteArray)) (c2o0 : ((List Int) × (Int × Int))) (c3 : Int) (c3o0 : ((List Int) × (Int × Int))) (c4 : ByteArray) (c4o0 : ((List Int) × (Int × Int)))
    (h1 : SC cfg.P i_spec_l1Cur_pick [.s (.mbx (.pr (.sl (.int .u8)) (.pr (.int .i64) (.int .u64))) a0), .s (.v (.int .i64) (IntKind.wrap .i64 (a1 + (1 : Int))))] (.s (.v (.int .i64) c1)) [.box (.pr (.sl (.int .u8)) (.pr (.int .i64) (.int .u64))) c1o0])
    (h2 : SC cfg.P i_spec_l1Cur_surePair [.s (.mbx (.pr (.sl (.int .u8)) (.pr (.int .i64) (.int .u64))) c1o0), .s (.v (.int .i64) c1)] (.s (.v (.pr .str .str) c2)) [.box (.pr (.sl (.int .u8)) (.pr (.int .i64) (.int .u64))) c2o0])
    (h3 : SC cfg.P i_spec_l1Cur_pick [.s (.mbx (.pr (.sl (.int .u8)) (.pr (.int .i64) (.int .u64))) c2o0), .s (.v (.int .i64) (14 : Int))] (.s (.v (.int .i64) c3)) [.box (.pr (.sl (.int .u8)) (.pr (.int .i64) (.int .u64))) c3o0])
    (h4 : c3 = (0 : Int))
    (h5 : SC cfg.P i_spec_l1Cur_tree [.s (.mbx (.pr (.sl (.int .u8)) (.pr (.int .i64) (.int .u64))) c3o0), .s (.v (.int .i64) a1)] (.s (.v .str c4)) [.box (.pr (.sl (.int .u8)) (.pr (.int .i64) (.int .u64))) c4o0]) :
    SC cfg.P i_spec_l1Cur_pair [.s (.mbx (.pr (.sl (.int .u8)) (.pr (.int .i64) (.int .u64))) a0), .s (.v (.int .i64) a1)] (.s (.v (.pr .str .str) (c2.1, c4))) [.box (.pr (.sl (.int .u8)) (.pr (.int .i64) (.int .u64))) c4o0] :=
  SC_of_run cfgOK (its := [.res (.s (.v (.int .i64) c1)) [.box (.pr (.sl (.int .u8)) (.pr (.int .i64) (.int .u64))) c1o0] [] [], .res (.s (.v (.pr .str .str) c2)) [.box (.pr (.sl (.int .u8)) (.pr (.int .i64) (.int .u64))) c2o0] [] [], .res (.s (.v (.int .i64) c3)) [.box (.pr (.sl (.int .u8)) (.pr (.int .i64) (.int .u64))) c3o0] [] [], .bool true, .res (.s (.v .str c4)) [.box (.pr (.sl (.int .u8)) (.pr (.int .i64) (.int .u64))) c4o0] [] []])
    (ps := [SC cfg.P i_spec_l1Cur_pick [.s (.mbx (.pr (.sl (.int .u8)) (.pr (.int .i64) (.int .u64))) a0), .s (.v (.int .i64) (IntKind.wrap .i64 (a1 + (1 : Int))))] (.s (.v (.int .i64) c1)) [.box (.pr (.sl (.int .u8)) (.pr (.int .i64) (.int .u64))) c1o0],
      SC cfg.P i_spec_l1Cur_surePair [.s (.mbx (.pr (.sl (.int .u8)) (.pr (.int .i64) (.int .u64))) c1o0), .s (.v (.int .i64) c1)] (.s (.v (.pr .str .str) c2)) [.box (.pr (.sl (.int .u8)) (.pr (.int .i64) (.int .u64))) c2o0],
      SC cfg.P i_spec_l1Cur_pick [.s (.mbx (.pr (.sl (.int .u8)) (.pr (.int .i64) (.int .u64))) c2o0), .s (.v (.int .i64) (14 : Int))] (.s (.v (.int .i64) c3)) [.box (.pr (.sl (.int .u8)) (.pr (.int .i64) (.int .u64))) c3o0],
      (c3 == (0 : Int)) = true,
      SC cfg.P i_spec_l1Cur_tree [.s (.mbx (.pr (.sl (.int .u8)) (.pr (.int .i64) (.int .u64))) c3o0), .s (.v (.int .i64) a1)] (.s (.v .str c4)) [.box (.pr (.sl (.int .u8)) (.pr (.int .i64) (.int .u64))) c4o0]]) (by kernel_rfl) ⟨h1, h2, h3, (beq_iff_eq.mpr h4), h5, trivial⟩ get_spec_l1Cur_pair (by decide)

theorem spec_l1Cur_pair_p2 (a0 : ((List Int) × (Int × Int))) (a1 : Int) (c1 : Int) (c1o0 : ((List Int) × (Int × Int))) (c2 : (ByteArray × ByteArray)) (c2o0 : ((List Int) × (Int × Int))) (c3 : Int) (c3o0 : ((List Int) × (Int × Int))) (c4 : ByteArray) (c4o0 : ((List Int) × (Int × Int)))
    (h1 : SC cfg.P i_spec_l1Cur_pick [.s (.mbx (.pr (.sl (.int .u8)) (.pr (.int .i64) (.int .u64))) a0), .s (.v (.int .i64) (IntKind.wrap .i64 (a1 + (1 : Int))))] (.s (.v (.int .i64) c1)) [.box (.pr (.sl (.int .u8)) (.pr (.int .i64) (.int .u64))) c1o0])
    (h2 : SC cfg.P i_spec_l1Cur_surePair [.s (.mbx (.pr (.sl (.int .u8)) (.pr (.int .i64) (.int .u64))) c1o0), .s (.v (.int .i64) c1)] (.s (.v (.pr .str .str) c2)) [.box (.pr (.sl (.int .u8)) (.pr (.int .i64) (.int .u64))) c2o0])
    (h3 : SC cfg.P i_spec_l1Cur_pick [.s (.mbx (.pr (.sl (.int .u8)) (.pr (.int .i64) (.int .u64))) c2o0), .s (.v (.int .i64) (14 : Int))] (.s (.v (.int .i64) c3)) [.box (.pr (.sl (.int .u8)) (.pr (.int .i64) (.int .u64))) c3o0])
    (h4 : c3 ≠ (0 : Int))
    (h5 : c3 = (1 : Int))
    (h6 : SC cfg.P i_spec_l1Cur_spoilt [.s (.mbx (.pr (.sl (.int .u8)) (.pr (.int .i64) (.int .u64))) c3o0), .s (.v .str c2.1), .s (.v .str (⟨#[40, 46, 41]⟩ : ByteArray))] (.s (.v .str c4)) [.box (.pr (.sl (.int .u8)) (.pr (.int .i64) (.int .u64))) c4o0]) :
    SC cfg.P i_spec_l1Cur_pair [.s (.mbx (.pr (.sl (.int .u8)) (.pr (.int .i64) (.int .u64))) a0), .s (.v (.int .i64) a1)] (.s (.v (.pr .str .str) (c4, c2.2))) [.box (.pr (.sl (.int .u8)) (.pr (.int .i64) (.int .u64))) c4o0] :=
  SC_of_run cfgOK (its := [.res (.s (.v (.int .i64) c1)) [.box (.pr (.sl (.int .u8)) (.pr (.int .i64) (.int .u64))) c1o0] [] [], .res (.s (.v (.pr .str .str) c2)) [.box (.pr (.sl (.int .u8)) (.pr (.int .i64) (.int .u64))) c2o0] [] [], .res (.s (.v (.int .i64) c3)) [.box (.pr (.sl (.int .u8)) (.pr (.int .i64) (.int .u64))) c3o0] [] [], .bool false, .bool true, .res (.s (.v .str c4)) [.box (.pr (.sl (.int .u8)) (.pr (.int .i64) (.int .u64))) c4o0] [] []])
    (ps := [SC cfg.P i_spec_l1Cur_pick [.s (.mbx (.pr (.sl (.int .u8)) (.pr (.int .i64) (.int .u64))) a0), .s (.v (.int .i64) (IntKind.wrap .i64 (a1 + (1 : Int))))] (.s (.v (.int .i64) c1)) [.box (.pr (.sl (.int .u8)) (.pr (.int .i64) (.int .u64))) c1o0],
      SC cfg.P i_spec_l1Cur_surePair [.s (.mbx (.pr (.sl (.int .u8)) (.pr (.int .i64) (.int .u64))) c1o0), .s (.v (.int .i64) c1)] (.s (.v (.pr .str .str) c2)) [.box (.pr (.sl (.int .u8)) (.pr (.int .i64) (.int .u64))) c2o0],
      SC cfg.P i_spec_l1Cur_pick [.s (.mbx (.pr (.sl (.int .u8)) (.pr (.int .i64) (.int .u64))) c2o0), .s (.v (.int .i64) (14 : Int))] (.s (.v (.int .i64) c3)) [.box (.pr (.sl (.int .u8)) (.pr (.int .i64) (.int .u64))) c3o0],
      (c3 == (0 : Int)) = false,
      (c3 == (1 : Int)) = true,
      SC cfg.P i_spec_l1Cur_spoilt [.s (.mbx (.pr (.sl (.int .u8)) (.pr (.int .i64) (.int .u64))) c3o0), .s (.v .str c2.1), .s (.v .str (⟨#[40, 46, 41]⟩ : ByteArray))] (.s (.v .str c4)) [.box (.pr (.sl (.int .u8)) (.pr (.int .i64) (.int .u64))) c4o0]]) (by kernel_rfl) ⟨h1, h2, h3, (beq_eq_false_iff_ne.mpr h4), (beq_iff_eq.mpr h5), h6, trivial⟩ get_spec_l1Cur_pair (by decide)

theorem spec_l1Cur_pair_p3 (a0 : ((List Int) × (Int × Int))) (a1 : Int) (c1 : Int) (c1o0 : ((List Int) × (Int × Int))) (c2 : (ByteArray × ByteArray)) (c2o0 : ((List Int) × (Int × Int))) (c3 : Int) (c3o0 : ((List Int) × (Int × Int))) (c4 : Int) (c4o0 : ((List Int) × (Int × Int))) (c5 : (ByteArray × ByteArray)) (c5o0 : ((List Int) × (Int × Int)))
    (h1 : SC cfg.P i_spec_l1Cur_pick [.s (.mbx (.pr (.sl (.int .u8)) (.pr (.int .i64) (.int .u64))) a0), .s (.v (.int .i64) (IntKind.wrap .i64 (a1 + (1 : Int))))] (.s (.v (.int .i64) c1)) [.box (.pr (.sl (.int .u8)) (.pr (.int .i64) (.int .u64))) c1o0])
    (h2 : SC cfg.P i_spec_l1Cur_surePair [.s (.mbx (.pr (.sl (.int .u8)) (.pr (.int .i64) (.int .u64))) c1o0), .s (.v (.int .i64) c1)] (.s (.v (.pr .str .str) c2)) [.box (.pr (.sl (.int .u8)) (.pr (.int .i64) (.int .u64))) c2o0])
    (h3 : SC cfg.P i_spec_l1Cur_pick [.s (.mbx (.pr (.sl (.int .u8)) (.pr (.int .i64) (.int .u64))) c2o0), .s (.v (.int .i64) (14 : Int))] (.s (.v (.int .i64) c3)) [.box (.pr (.sl (.int .u8)) (.pr (.int .i64) (.int .u64))) c3o0])
    (h4 : c3 ≠ (0 : Int))
    (h5 : c3 ≠ (1 : Int))
    (h6 : c3 = (2 : Int))
    (h7 : SC cfg.P i_spec_l1Cur_pick [.s (.mbx (.pr (.sl (.int .u8)) (.pr (.int .i64) (.int .u64))) c3o0), .s (.v (.int .i64) (2 : Int))] (.s (.v (.int .i64) c4)) [.box (.pr (.sl (.int .u8)) (.pr (.int .i64) (.int .u64))) c4o0])
    (h8 : SC cfg.P i_spec_l1Cur_surePair [.s (.mbx (.pr (.sl (.int .u8)) (.pr (.int .i64) (.int .u64))) c4o0), .s (.v (.int .i64) (IntKind.wrap .i64 ((8 : Int) + c4)))] (.s (.v (.pr .str .str) c5)) [.box (.pr (.sl (.int .u8)) (.pr (.int .i64) (.int .u64))) c5o0]) :
    SC cfg.P i_spec_l1Cur_pair [.s (.mbx (.pr (.sl (.int .u8)) (.pr (.int .i64) (.int .u64))) a0), .s (.v (.int .i64) a1)] (.s (.v (.pr .str .str) c5)) [.box (.pr (.sl (.int .u8)) (.pr (.int .i64) (.int .u64))) c5o0] :=
  SC_of_run cfgOK (its := [.res (.s (.v (.int .i64) c1)) [.box (.pr (.sl (.int .u8)) (.pr (.int .i64) (.int .u64))) c1o0] [] [], .res (.s (.v (.pr .str .str) c2)) [.box (.pr (.sl (.int .u8)) (.pr (.int .i64) (.int .u64))) c2o0] [] [], .res (.s (.v (.int .i64) c3)) [.box (.pr (.sl (.int .u8)) (.pr (.int .i64) (.int .u64))) c3o0] [] [], .bool false, .bool false, .bool true, .res (.s (.v (.int .i64) c4)) [.box (.pr (.sl (.int .u8)) (.pr (.int .i64) (.int .u64))) c4o0] [] [], .res (.s (.v (.pr .str .str) c5)) [.box (.pr (.sl (.int .u8)) (.pr (.int .i64) (.int .u64))) c5o0] [] []])
    (ps := [SC cfg.P i_spec_l1Cur_pick [.s (.mbx (.pr (.sl (.int .u8)) (.pr (.int .i64) (.int .u64))) a0), .s (.v (.int .i64) (IntKind.wrap .i64 (a1 + (1 : Int))))] (.s (.v (.int .i64) c1)) [.box (.pr (.sl (.int .u8)) (.pr (.int .i64) (.int .u64))) c1o0],
      SC cfg.P i_spec_l1Cur_surePair [.s (.mbx (.pr (.sl (.int .u8)) (.pr (.int .i64) (.int .u64))) c1o0), .s (.v (.int .i64) c1)] (.s (.v (.pr .str .str) c2)) [.box (.pr (.sl (.int .u8)) (.pr (.int .i64) (.int .u64))) c2o0],
      SC cfg.P i_spec_l1Cur_pick [.s (.mbx (.pr (.sl (.int .u8)) (.pr (.int .i64) (.int .u64))) c2o0), .s (.v (.int .i64) (14 : Int))] (.s (.v (.int .i64) c3)) [.box (.pr (.sl (.int .u8)) (.pr (.int .i64) (.int .u64))) c3o0],
      (c3 == (0 : Int)) = false,
      (c3 == (1 : Int)) = false,
      (c3 == (2 : Int)) = true,
      SC cfg.P i_spec_l1Cur_pick [.s (.mbx (.pr (.sl (.int .u8)) (.pr (.int .i64) (.int .u64))) c3o0), .s (.v (.int .i64) (2 : Int))] (.s (.v (.int .i64) c4)) [.box (.pr (.sl (.int .u8)) (.pr (.int .i64) (.int .u64))) c4o0],
      SC cfg.P i_spec_l1Cur_surePair [.s (.mbx (.pr (.sl (.int .u8)) (.pr (.int .i64) (.int .u64))) c4o0), .s (.v (.int .i64) (IntKind.wrap .i64 ((8 : Int) + c4)))] (.s (.v (.pr .str .str) c5)) [.box (.pr (.sl (.int .u8)) (.pr (.int .i64) (.int .u64))) c5o0]]) (by kernel_rfl) ⟨h1, h2, h3, (beq_eq_false_iff_ne.mpr h4), (beq_eq_false_iff_ne.mpr h5), (beq_iff_eq.mpr h6), h7, h8, trivial⟩ get_spec_l1Cur_pair (by decide)

theorem spec_l1Cur_pair_p4 (a0 : ((List Int) × (Int × Int))) (a1 : Int) (c1 : Int) (c1o0 : ((List Int) × (Int × Int))) (c2 : (ByteArray × ByteArray)) (c2o0 : ((List Int) × (Int × Int))) (c3 : Int) (c3o0 : ((List Int) × (Int × Int))) (c4 : Int) (c4o0 : ((List Int) × (Int × Int))) (c5 : (ByteArray × ByteArray))
    (h1 : SC cfg.P i_spec_l1Cur_pick [.s (.mbx (.pr (.sl (.int .u8)) (.pr (.int .i64) (.int .u64))) a0), .s (.v (.int .i64) (IntKind.wrap .i64 (a1 + (1 : Int))))] (.s (.v (.int .i64) c1)) [.box (.pr (.sl (.int .u8)) (.pr (.int .i64) (.int .u64))) c1o0])
    (h2 : SC cfg.P i_spec_l1Cur_surePair [.s (.mbx (.pr (.sl (.int .u8)) (.pr (.int .i64) (.int .u64))) c1o0), .s (.v (.int .i64) c1)] (.s (.v (.pr .str .str) c2)) [.box (.pr (.sl (.int .u8)) (.pr (.int .i64) (.int .u64))) c2o0])
    (h3 : SC cfg.P i_spec_l1Cur_pick [.s (.mbx (.pr (.sl (.int .u8)) (.pr (.int .i64) (.int .u64))) c2o0), .s (.v (.int .i64) (14 : Int))] (.s (.v (.int .i64) c3)) [.box (.pr (.sl (.int .u8)) (.pr (.int .i64) (.int .u64))) c3o0])
    (h4 : c3 ≠ (0 : Int))
    (h5 : c3 ≠ (1 : Int))
    (h6 : c3 ≠ (2 : Int))
    (h7 : c3 = (3 : Int))
    (h8 : SC cfg.P i_spec_l1Cur_pick [.s (.mbx (.pr (.sl (.int .u8)) (.pr (.int .i64) (.int .u64))) c3o0), .s (.v (.int .i64) (4 : Int))] (.s (.v (.int .i64) c4)) [.box (.pr (.sl (.int .u8)) (.pr (.int .i64) (.int .u64))) c4o0])
    (h9 : SC cfg.P i_spec_prGenerator [.s (.v (.int .i64) c4)] (.s (.v (.pr .str .str) c5)) []) :
    SC cfg.P i_spec_l1Cur_pair [.s (.mbx (.pr (.sl (.int .u8)) (.pr (.int .i64) (.int .u64))) a0), .s (.v (.int .i64) a1)] (.s (.v (.pr .str .str) c5)) [.box (.pr (.sl (.int .u8)) (.pr (.int .i64) (.int .u64))) c4o0] :=
  SC_of_run cfgOK (its := [.res (.s (.v (.int .i64) c1)) [.box (.pr (.sl (.int .u8)) (.pr (.int .i64) (.int .u64))) c1o0] [] [], .res (.s (.v (.pr .str .str) c2)) [.box (.pr (.sl (.int .u8)) (.pr (.int .i64) (.int .u64))) c2o0] [] [], .res (.s (.v (.int .i64) c3)) [.box (.pr (.sl (.int .u8)) (.pr (.int .i64) (.int .u64))) c3o0] [] [], .bool false, .bool false, .bool false, .bool true, .res (.s (.v (.int .i64) c4)) [.box (.pr (.sl (.int .u8)) (.pr (.int .i64) (.int .u64))) c4o0] [] [], .res (.s (.v (.pr .str .str) c5)) [] [] []])
    (ps := [SC cfg.P i_spec_l1Cur_pick [.s (.mbx (.pr (.sl (.int .u8)) (.pr (.int .i64) (.int .u64))) a0), .s (.v (.int .i64) (IntKind.wrap .i64 (a1 + (1 : Int))))] (.s (.v (.int .i64) c1)) [.box (.pr (.sl (.int .u8)) (.pr (.int .i64) (.int .u64))) c1o0],
      SC cfg.P i_spec_l1Cur_surePair [.s (.mbx (.pr (.sl (.int .u8)) (.pr (.int .i64) (.int .u64))) c1o0), .s (.v (.int .i64) c1)] (.s (.v (.pr .str .str) c2)) [.box (.pr (.sl (.int .u8)) (.pr (.int .i64) (.int .u64))) c2o0],
      SC cfg.P i_spec_l1Cur_pick [.s (.mbx (.pr (.sl (.int .u8)) (.pr (.int .i64) (.int .u64))) c2o0), .s (.v (.int .i64) (14 : Int))] (.s (.v (.int .i64) c3)) [.box (.pr (.sl (.int .u8)) (.pr (.int .i64) (.int .u64))) c3o0],
      (c3 == (0 : Int)) = false,
      (c3 == (1 : Int)) = false,
      (c3 == (2 : Int)) = false,
      (c3 == (3 : Int)) = true,
      SC cfg.P i_spec_l1Cur_pick [.s (.mbx (.pr (.sl (.int .u8)) (.pr (.int .i64) (.int .u64))) c3o0), .s (.v (.int .i64) (4 : Int))] (.s (.v (.int .i64) c4)) [.box (.pr (.sl (.int .u8)) (.pr (.int .i64) (.int .u64))) c4o0],
      SC cfg.P i_spec_prGenerator [.s (.v (.int .i64) c4)] (.s (.v (.pr .str .str) c5)) []]) (by kernel_rfl) ⟨h1, h2, h3, (beq_eq_false_iff_ne.mpr h4), (beq_eq_false_iff_ne.mpr h5), (beq_eq_false_iff_ne.mpr h6), (beq_iff_eq.mpr h7), h8, h9, trivial⟩ get_spec_l1Cur_pair (by decide)

theorem spec_l1Cur_pair_p5 (a0 : ((List Int) × (Int × Int))) (a1 : Int) (c1 : Int) (c1o0 : ((List Int) × (Int × Int))) (c2 : (ByteArray × ByteArray)) (c2o0 : ((List Int) × (Int × Int))) (c3 : Int) (c3o0 : ((List Int) × (Int × Int)))
    (h1 : SC cfg.P i_spec_l1Cur_pick [.s (.mbx (.pr (.sl (.int .u8)) (.pr (.int .i64) (.int .u64))) a0), .s (.v (.int .i64) (IntKind.wrap .i64 (a1 + (1 : Int))))] (.s (.v (.int .i64) c1)) [.box (.pr (.sl (.int .u8)) (.pr (.int .i64) (.int .u64))) c1o0])
    (h2 : SC cfg.P i_spec_l1Cur_surePair [.s (.mbx (.pr (.sl (.int .u8)) (.pr (.int .i64) (.int .u64))) c1o0), .s (.v (.int .i64) c1)] (.s (.v (.pr .str .str) c2)) [.box (.pr (.sl (.int .u8)) (.pr (.int .i64) (.int .u64))) c2o0])
    (h3 : SC cfg.P i_spec_l1Cur_pick [.s (.mbx (.pr (.sl (.int .u8)) (.pr (.int .i64) (.int .u64))) c2o0), .s (.v (.int .i64) (14 : Int))] (.s (.v (.int .i64) c3)) [.box (.pr (.sl (.int .u8)) (.pr (.int .i64) (.int .u64))) c3o0])
    (h4 : c3 ≠ (0 : Int))
    (h5 : c3 ≠ (1 : Int))
    (h6 : c3 ≠ (2 : Int))
    (h7 : c3 ≠ (3 : Int)) :
    SC cfg.P i_spec_l1Cur_pair [.s (.mbx (.pr (.sl (.int .u8)) (.pr (.int .i64) (.int .u64))) a0), .s (.v (.int .i64) a1)] (.s (.v (.pr .str .str) c2)) [.box (.pr (.sl (.int .u8)) (.pr (.int .i64) (.int .u64))) c3o0] :=
  SC_of_run cfgOK (its := [.res (.s (.v (.int .i64) c1)) [.box (.pr (.sl (.int .u8)) (.pr (.int .i64) (.int .u64))) c1o0] [] [], .res (.s (.v (.pr .str .str) c2)) [.box (.pr (.sl (.int .u8)) (.pr (.int .i64) (.int .u64))) c2o0] [] [], .res (.s (.v (.int .i64) c3)) [.box (.pr (.sl (.int .u8)) (.pr (.int .i64) (.int .u64))) c3o0] [] [], .bool false, .bool false, .bool false, .bool false])
    (ps := [SC cfg.P i_spec_l1Cur_pick [.s (.mbx (.pr (.sl (.int .u8)) (.pr (.int .i64) (.int .u64))) a0), .s (.v (.int .i64) (IntKind.wrap .i64 (a1 + (1 : Int))))] (.s (.v (.int .i64) c1)) [.box (.pr (.sl (.int .u8)) (.pr (.int .i64) (.int .u64))) c1o0],
      SC cfg.P i_spec_l1Cur_surePair [.s (.mbx (.pr (.sl (.int .u8)) (.pr (.int .i64) (.int .u64))) c1o0), .s (.v (.int .i64) c1)] (.s (.v (.pr .str .str) c2)) [.box (.pr (.sl (.int .u8)) (.pr (.int .i64) (.int .u64))) c2o0],
      SC cfg.P i_spec_l1Cur_pick [.s (.mbx (.pr (.sl (.int .u8)) (.pr (.int .i64) (.int .u64))) c2o0), .s (.v (.int .i64) (14 : Int))] (.s (.v (.int .i64) c3)) [.box (.pr (.sl (.int .u8)) (.pr (.int .i64) (.int .u64))) c3o0],
      (c3 == (0 : Int)) = false,
      (c3 == (1 : Int)) = false,
      (c3 == (2 : Int)) = false,
      (c3 == (3 : Int)) = false]) (by kernel_rfl) ⟨h1, h2, h3, (beq_eq_false_iff_ne.mpr h4), (beq_eq_false_iff_ne.mpr h5), (beq_eq_false_iff_ne.mpr h6), (beq_eq_false_iff_ne.mpr h7), trivial⟩ get_spec_l1Cur_pair (by decide)

/-! ### spec_prUnit -/


/-! ### impl_pair_same -/


/-! ### spec_l1Cur_surePair -/


theorem spec_l1Cur_surePair_p1 (a0 : ((List Int) × (Int × Int))) (a1 : Int) (c1 : ByteArray) (c1o0 : ((List Int) × (Int × Int))) (c2 : ByteArray) (c2o0 : ((List Int) × (Int × Int)))
    (h1 : SC cfg.P i_spec_l1Cur_sureTree [.s (.mbx (.pr (.sl (.int .u8)) (.pr (.int .i64) (.int .u64))) a0), .s (.v (.int .i64) a1)] (.s (.v .str c1)) [.box (.pr (.sl (.int .u8)) (.pr (.int .i64) (.int .u64))) c1o0])
    (h2 : SC cfg.P i_spec_l1Cur_sureTree [.s (.mbx (.pr (.sl (.int .u8)) (.pr (.int .i64) (.int .u64))) c1o0), .s (.v (.int .i64) a1)] (.s (.v .str c2)) [.box (.pr (.sl (.int .u8)) (.pr (.int .i64) (.int .u64))) c2o0]) :
    SC cfg.P i_spec_l1Cur_surePair [.s (.mbx (.pr (.sl (.int .u8)) (.pr (.int .i64) (.int .u64))) a0), .s (.v (.int .i64) a1)] (.s (.v (.pr .str .str) (c1, c2))) [.box (.pr (.sl (.int .u8)) (.pr (.int .i64) (.int .u64))) c2o0] :=
  SC_of_run cfgOK (its := [.res (.s (.v .str c1)) [.box (.pr (.sl (.int .u8)) (.pr (.int .i64) (.int .u64))) c1o0] [] [], .res (.s (.v .str c2)) [.box (.pr (.sl (.int .u8)) (.pr (.int .i64) (.int .u64))) c2o0] [] []])
    (ps := [SC cfg.P i_spec_l1Cur_sureTree [.s (.mbx (.pr (.sl (.int .u8)) (.pr (.int .i64) (.int .u64))) a0), .s (.v (.int .i64) a1)] (.s (.v .str c1)) [.box (.pr (.sl (.int .u8)) (.pr (.int .i64) (.int .u64))) c1o0],
      SC cfg.P i_spec_l1Cur_sureTree [.s (.mbx (.pr (.sl (.int .u8)) (.pr (.int .i64) (.int .u64))) c1o0), .s (.v (.int .i64) a1)] (.s (.v .str c2)) [.box (.pr (.sl (.int .u8)) (.pr (.int .i64) (.int .u64))) c2o0]]) (by kernel_rfl) ⟨h1, h2, trivial⟩ get_spec_l1Cur_surePair (by decide)

/-! ### spec_prGenerator -/


theorem spec_prGenerator_p1 (a0 : Int) (c1 : ByteArray) (c2 : ByteArray) (c3 : ByteArray)
    (h1 : SC cfg.P i_spec_trRight [.s (.v (.int .i64) a0)] (.s (.v .str c1)) [])
    (h2 : SC cfg.P i_spec_trGraft [.s (.v .str c1), .s (.v (.int .i64) a0), .s (.v .str (⟨#[40, 40, 46, 46, 41, 46, 41]⟩ : ByteArray))] (.s (.v .str c2)) [])
    (h3 : SC cfg.P i_spec_trRight [.s (.v (.int .i64) (IntKind.wrap .i64 (a0 + (2 : Int))))] (.s (.v .str c3)) []) :
    SC cfg.P i_spec_prGenerator [.s (.v (.int .i64) a0)] (.s (.v (.pr .str .str) (c2, c3))) [] :=
  SC_of_run cfgOK (its := [.res (.s (.v .str c1)) [] [] [], .res (.s (.v .str c2)) [] [] [], .res (.s (.v .str c3)) [] [] []])
    (ps := [SC cfg.P i_spec_trRight [.s (.v (.int .i64) a0)] (.s (.v .str c1)) [],
      SC cfg.P i_spec_trGraft [.s (.v .str c1), .s (.v (.int .i64) a0), .s (.v .str (⟨#[40, 40, 46, 46, 41, 46, 41]⟩ : ByteArray))] (.s (.v .str c2)) [],
      SC cfg.P i_spec_trRight [.s (.v (.int .i64) (IntKind.wrap .i64 (a0 + (2 : Int))))] (.s (.v .str c3)) []]) (by kernel_rfl) ⟨h1, h2, h3, trivial⟩ get_spec_prGenerator (by decide)

end Go.AI
