/- A part of the road: what it proves stands in its last texts. -/
import Derived.Test.YtnhjfdkogbelaaaSIds
import Derived.Test.YtnhjfdkogbelaaaProg
set_option autoImplicit false
set_option maxRecDepth 100000
set_option linter.unusedVariables false
namespace Go.AI
open Go.Proofs

/-! ### spec_l1Cur_pair -/


theorem spec_l1Cur_pair_p1 (a0 : ((List Int) × (Int × Int))) (a1 : Int) (c1 : Int) (c1o0 : ((List Int) × (Int × Int))) (c2 : (ByteArray × ByteArray)) (c2o0 : ((List Int) × (Int × Int))) (c3 : Int) (c3o0 : ((List Int) × (Int × Int))) (c4 : ByteArray) (c4o0 : ((List Int) × (Int × Int)))
    (h1 : SC cfg.P i_spec_l1Cur_pick [.s (.mbx (.pr (.sl (.int .u8)) (.pr (.int .i64) (.int .u64))) a0), .s (.v (.int .i64) (IntKind.wrap .i64 (a1 + (1 : Int))))] (.s (.v (.int .i64) c1)) [.box (.pr (.sl (.int .u8)) (.pr (.int .i64) (.int .u64))) c1o0])
    (h2 : SC cfg.P i_spec_l1Cur_surePair [.s (.mbx (.pr (.sl (.int .u8)) (.pr (.int .i64) (.int .u64))) c1o0), .s (.v (.int .i64) c1)] (.s (.v (.pr .str .str) c2)) [.box (.pr (.sl (.int .u8)) (.pr (.int .i64) (.int .u64))) c2o0])
    (h3 : SC cfg.P i_spec_l1Cur_pick [.s (.mbx (.pr (.sl (.int .u8)) (.pr (.int .i64) (.int .u64))) c2o0), .s (.v (.int .i64) (14 : Int))] (.s (.v (.int .i64) c3)) [.box (.pr (.sl (.int .u8)) (.pr (.int .i64) (.int .u64))) c3o0])
    (h4 : c3 = (0 : Int))
    (h5 : SC cfg.P i_spec_l1Cur_tree [.s (.mbx (.pr (.sl (.int .u8)) (.pr (.int .i64) (.int .u64))) c3o0), .s (.v (.int .i64) a1)] (.s (.v .str c4)) [.box (.pr (.sl (.int .u8)) (.pr (.int .i64) (.int .u64))) c4o0]) :
    SC cfg.P i_spec_l1Cur_pair [.s (.mbx (.pr (.sl (.int .u8)) (.pr (.int .i64) (.int .u64))) a0), .s (.v (.int .i64) a1)] (.s (.v (.pr .str .str) (c2.1, c4))) [.box (.pr (.sl (.int .u8)) (.pr (.int .i64) (.int .u64))) c4o0] :=
  SC_of_run cfgOK (its := [.res (.s (.v (.int .i64) c1)) [.box (.pr (.sl (.int .u8)) (.pr (.int .i64) (.int .u64))) c1o0] [] [], .res (.s (.v (.pr .str .str) c2)) [.box (.pr (.sl (.int .u8)) (.pr (.int .i64) (.int .u64))) c2o0] [] [], .res (.s (.v (.int .i64) c3)) [.box (.pr (.sl (.int .u8)) (.pr (.int .i64) (.int .u64))) c3o0] [] [], .bool true, .res (.s (.v .str c4)) [.box (.pr (.sl (.int .u8)) (.pr (.int .i64) (.int .u64))) c4o0] [] []])
    (ps := [SC cfg.P i_spec_l1Cur_pick [.s (.mbx (.pr (.sl (.int .u8)) (.pr (.int .i64) (.int .u64))) a0), .s (.v (.int .i64) (IntKind.wrap .i64 (a1 + (1 : Int))))] (.s (.v (.int .i64) c1)) [.box (.pr (.sl (.int .u8)) (.pr (.int .i64) (.int .u64))) c1o0],
      SC cfg.P i_spec_l1Cur_surePair [.s (.mbx (.pr (.sl (.int .u8)) (.pr (.int .i64) (.int .u64))) c1o0), .s (.v (.int .i64) c1)] (.s (.v (.pr .str .str) c2)) [.box (.pr (.sl (.int .u8)) (.pr (.int .i64) (.int .u64))) c2o0],
      SC cfg.P i_spec_l1Cur_pick [.s (.mbx (.pr (.sl (.int .u8)) (.pr (.int .i64) (.int .u64))) c2o0), .s (.v (.int .i64) (14 : Int))] (.s (.v (.int .i64) c3)) [.box (.pr (.sl (.int .u8)) (.pr (.int .i64) (.int .u64))) c3o0],
      (c3 == (0 : Int)) = true,
      SC cfg.P i_spec_l1Cur_tree [.s (.mbx (.pr (.sl (.int .u8)) (.pr (.int .i64) (.int .u64))) c3o0), .s (.v (.int .i64) a1)] (.s (.v .str c4)) [.box (.pr (.sl (.int .u8)) (.pr (.int .i64) (.int .u64))) c4o0]]) (by kernel_rfl) ⟨h1, h2, h3, (beq_iff_eq.mpr h4), h5, trivial⟩ get_spec_l1Cur_pair (by decide)

theorem spec_l1Cur_pair_p2 (a0 : ((List Int) × (Int × Int))) (a1 : Int) (c1 : Int) (c1o0 : ((List Int) × (Int × Int))) (c2 : (ByteArray × ByteArray)) (c2o0 : ((List Int) × (Int × Int))) (c3 : Int) (c3o0 : ((List Int) × (Int × Int))) (c4 : ByteArray) (c4o0 : ((List Int) × (Int × Int)))
    (h1 : SC cfg.P i_spec_l1Cur_pick [.s (.mbx (.pr (.sl (.int .u8)) (.pr (.int .i64) (.int .u64))) a0), .s (.v (.int .i64) (IntKind.wrap .i64 (a1 + (1 : Int))))] (.s (.v (.int .i64) c1)) [.box (.pr (.sl (.int .u8)) (.pr (.int .i64) (.int .u64))) c1o0])
    (h2 : SC cfg.P i_spec_l1Cur_surePair [.s (.mbx (.pr (.sl (.int .u8)) (.pr (.int .i64) (.int .u64))) c1o0), .s (.v (.int .i64) c1)] (.s (.v (.pr .str .str) c2)) [.box (.pr (.sl (.int .u8)) (.pr (.int .i64) (.int .u64))) c2o0])
    (h3 : SC cfg.P i_spec_l1Cur_pick [.s (.mbx (.pr (.sl (.int .u8)) (.pr (.int .i64) (.int .u64))) c2o0), .s (.v (.int .i64) (14 : Int))] (.s (.v (.int .i64) c3)) [.box (.pr (.sl (.int .u8)) (.pr (.int .i64) (.int .u64))) c3o0])
    (h4 : c3 ≠ (0 : Int))
    (h5 : c3 = (1 : Int))
    (h6 : SC cfg.P i_spec_l1Cur_spoilt [.s (.mbx (.pr (.sl (.int .u8)) (.pr (.int .i64) (.int .u64))) c3o0), .s (.v .str c2.1), .s (.v .str (⟨#[40, 46, 41]⟩ : ByteArray))] (.s (.v .str c4)) [.box (.pr (.sl (.int .u8)) (.pr (.int .i64) (.int .u64))) c4o0]) :
    SC cfg.P i_spec_l1Cur_pair [.s (.mbx (.pr (.sl (.int .u8)) (.pr (.int .i64) (.int .u64))) a0), .s (.v (.int .i64) a1)] (.s (.v (.pr .str .str) (c4, c2.2))) [.box (.pr (.sl (.int .u8)) (.pr (.int .i64) (.int .u64))) c4o0] :=
  SC_of_run cfgOK (its := [.res (.s (.v (.int .i64) c1)) [.box (.pr (.sl (.int .u8)) (.pr (.int .i64) (.int .u64))) c1o0] [] [], .res (.s (.v (.pr .str .str) c2)) [.box (.pr (.sl (.int .u8)) (.pr (.int .i64) (.int .u64))) c2o0] [] [], .res (.s (.v (.int .i64) c3)) [.box (.pr (.sl (.int .u8)) (.pr (.int .i64) (.int .u64))) c3o0] [] [], .bool false, .bool true, .res (.s (.v .str c4)) [.box (.pr (.sl (.int .u8)) (.pr (.int .i64) (.int .u64))) c4o0] [] []])
    (ps := [SC cfg.P i_spec_l1Cur_pick [.s (.mbx (.pr (.sl (.int .u8)) (.pr (.int .i64) (.int .u64))) a0), .s (.v (.int .i64) (IntKind.wrap .i64 (a1 + (1 : Int))))] (.s (.v (.int .i64) c1)) [.box (.pr (.sl (.int .u8)) (.pr (.int .i64) (.int .u64))) c1o0],
      SC cfg.P i_spec_l1Cur_surePair [.s (.mbx (.pr (.sl (.int .u8)) (.pr (.int .i64) (.int .u64))) c1o0), .s (.v (.int .i64) c1)] (.s (.v (.pr .str .str) c2)) [.box (.pr (.sl (.int .u8)) (.pr (.int .i64) (.int .u64))) c2o0],
      SC cfg.P i_spec_l1Cur_pick [.s (.mbx (.pr (.sl (.int .u8)) (.pr (.int .i64) (.int .u64))) c2o0), .s (.v (.int .i64) (14 : Int))] (.s (.v (.int .i64) c3)) [.box (.pr (.sl (.int .u8)) (.pr (.int .i64) (.int .u64))) c3o0],
      (c3 == (0 : Int)) = false,
      (c3 == (1 : Int)) = true,
      SC cfg.P i_spec_l1Cur_spoilt [.s (.mbx (.pr (.sl (.int .u8)) (.pr (.int .i64) (.int .u64))) c3o0), .s (.v .str c2.1), .s (.v .str (⟨#[40, 46, 41]⟩ : ByteArray))] (.s (.v .str c4)) [.box (.pr (.sl (.int .u8)) (.pr (.int .i64) (.int .u64))) c4o0]]) (by kernel_rfl) ⟨h1, h2, h3, (beq_eq_false_iff_ne.mpr h4), (beq_iff_eq.mpr h5), h6, trivial⟩ get_spec_l1Cur_pair (by decide)

theorem spec_l1Cur_pair_p3 (a0 : ((List Int) × (Int × Int))) (a1 : Int) (c1 : Int) (c1o0 : ((List Int) × (Int × Int))) (c2 : (ByteArray × ByteArray)) (c2o0 : ((List Int) × (Int × Int))) (c3 : Int) (c3o0 : ((List Int) × (Int × Int))) (c4 : Int) (c4o0 : ((List Int) × (Int × Int))) (c5 : (ByteArray × ByteArray)) (c5o0 : ((List Int) × (Int × Int)))
    (h1 : SC cfg.P i_spec_l1Cur_pick [.s (.mbx (.pr (.sl (.int .u8)) (.pr (.int .i64) (.int .u64))) a0), .s (.v (.int .i64) (IntKind.wrap .i64 (a1 + (1 : Int))))] (.s (.v (.int .i64) c1)) [.box (.pr (.sl (.int .u8)) (.pr (.int .i64) (.int .u64))) c1o0])
    (h2 : SC cfg.P i_spec_l1Cur_surePair [.s (.mbx (.pr (.sl (.int .u8)) (.pr (.int .i64) (.int .u64))) c1o0), .s (.v (.int .i64) c1)] (.s (.v (.pr .str .str) c2)) [.box (.pr (.sl (.int .u8)) (.pr (.int .i64) (.int .u64))) c2o0])
    (h3 : SC cfg.P i_spec_l1Cur_pick [.s (.mbx (.pr (.sl (.int .u8)) (.pr (.int .i64) (.int .u64))) c2o0), .s (.v (.int .i64) (14 : Int))] (.s (.v (.int .i64) c3)) [.box (.pr (.sl (.int .u8)) (.pr (.int .i64) (.int .u64))) c3o0])
    (h4 : c3 ≠ (0 : Int))
    (h5 : c3 ≠ (1 : Int))
    (h6 : c3 = (2 : Int))
    (h7 : SC cfg.P i_spec_l1Cur_pick [.s (.mbx (.pr (.sl (.int .u8)) (.pr (.int .i64) (.int .u64))) c3o0), .s (.v (.int .i64) (2 : Int))] (.s (.v (.int .i64) c4)) [.box (.pr (.sl (.int .u8)) (.pr (.int .i64) (.int .u64))) c4o0])
    (h8 : SC cfg.P i_spec_l1Cur_surePair [.s (.mbx (.pr (.sl (.int .u8)) (.pr (.int .i64) (.int .u64))) c4o0), .s (.v (.int .i64) (IntKind.wrap .i64 ((8 : Int) + c4)))] (.s (.v (.pr .str .str) c5)) [.box (.pr (.sl (.int .u8)) (.pr (.int .i64) (.int .u64))) c5o0]) :
    SC cfg.P i_spec_l1Cur_pair [.s (.mbx (.pr (.sl (.int .u8)) (.pr (.int .i64) (.int .u64))) a0), .s (.v (.int .i64) a1)] (.s (.v (.pr .str .str) c5)) [.box (.pr (.sl (.int .u8)) (.pr (.int .i64) (.int .u64))) c5o0] :=
  SC_of_run cfgOK (its := [.res (.s (.v (.int .i64) c1)) [.box (.pr (.sl (.int .u8)) (.pr (.int .i64) (.int .u64))) c1o0] [] [], .res (.s (.v (.pr .str .str) c2)) [.box (.pr (.sl (.int .u8)) (.pr (.int .i64) (.int .u64))) c2o0] [] [], .res (.s (.v (.int .i64) c3)) [.box (.pr (.sl (.int .u8)) (.pr (.int .i64) (.int .u64))) c3o0] [] [], .bool false, .bool false, .bool true, .res (.s (.v (.int .i64) c4)) [.box (.pr (.sl (.int .u8)) (.pr (.int .i64) (.int .u64))) c4o0] [] [], .res (.s (.v (.pr .str .str) c5)) [.box (.pr (.sl (.int .u8)) (.pr (.int .i64) (.int .u64))) c5o0] [] []])
    (ps := [SC cfg.P i_spec_l1Cur_pick [.s (.mbx (.pr (.sl (.int .u8)) (.pr (.int .i64) (.int .u64))) a0), .s (.v (.int .i64) (IntKind.wrap .i64 (a1 + (1 : Int))))] (.s (.v (.int .i64) c1)) [.box (.pr (.sl (.int .u8)) (.pr (.int .i64) (.int .u64))) c1o0],
      SC cfg.P i_spec_l1Cur_surePair [.s (.mbx (.pr (.sl (.int .u8)) (.pr (.int .i64) (.int .u64))) c1o0), .s (.v (.int .i64) c1)] (.s (.v (.pr .str .str) c2)) [.box (.pr (.sl (.int .u8)) (.pr (.int .i64) (.int .u64))) c2o0],
      SC cfg.P i_spec_l1Cur_pick [.s (.mbx (.pr (.sl (.int .u8)) (.pr (.int .i64) (.int .u64))) c2o0), .s (.v (.int .i64) (14 : Int))] (.s (.v (.int .i64) c3)) [.box (.pr (.sl (.int .u8)) (.pr (.int .i64) (.int .u64))) c3o0],
      (c3 == (0 : Int)) = false,
      (c3 == (1 : Int)) = false,
      (c3 == (2 : Int)) = true,
      SC cfg.P i_spec_l1Cur_pick [.s (.mbx (.pr (.sl (.int .u8)) (.pr (.int .i64) (.int .u64))) c3o0), .s (.v (.int .i64) (2 : Int))] (.s (.v (.int .i64) c4)) [.box (.pr (.sl (.int .u8)) (.pr (.int .i64) (.int .u64))) c4o0],
      SC cfg.P i_spec_l1Cur_surePair [.s (.mbx (.pr (.sl (.int .u8)) (.pr (.int .i64) (.int .u64))) c4o0), .s (.v (.int .i64) (IntKind.wrap .i64 ((8 : Int) + c4)))] (.s (.v (.pr .str .str) c5)) [.box (.pr (.sl (.int .u8)) (.pr (.int .i64) (.int .u64))) c5o0]]) (by kernel_rfl) ⟨h1, h2, h3, (beq_eq_false_iff_ne.mpr h4), (beq_eq_false_iff_ne.mpr h5), (beq_iff_eq.mpr h6), h7, h8, trivial⟩ get_spec_l1Cur_pair (by decide)

theorem spec_l1Cur_pair_p4 (a0 : ((List Int) × (Int × Int))) (a1 : Int) (c1 : Int) (c1o0 : ((List Int) × (Int × Int))) (c2 : (ByteArray × ByteArray)) (c2o0 : ((List Int) × (Int × Int))) (c3 : Int) (c3o0 : ((List Int) × (Int × Int))) (c4 : Int) (c4o0 : ((List Int) × (Int × Int))) (c5 : (ByteArray × ByteArray))
    (h1 : SC cfg.P i_spec_l1Cur_pick [.s (.mbx (.pr (.sl (.int .u8)) (.pr (.int .i64) (.int .u64))) a0), .s (.v (.int .i64) (IntKind.wrap .i64 (a1 + (1 : Int))))] (.s (.v (.int .i64) c1)) [.box (.pr (.sl (.int .u8)) (.pr (.int .i64) (.int .u64))) c1o0])
    (h2 : SC cfg.P i_spec_l1Cur_surePair [.s (.mbx (.pr (.sl (.int .u8)) (.pr (.int .i64) (.int .u64))) c1o0), .s (.v (.int .i64) c1)] (.s (.v (.pr .str .str) c2)) [.box (.pr (.sl (.int .u8)) (.pr (.int .i64) (.int .u64))) c2o0])
    (h3 : SC cfg.P i_spec_l1Cur_pick [.s (.mbx (.pr (.sl (.int .u8)) (.pr (.int .i64) (.int .u64))) c2o0), .s (.v (.int .i64) (14 : Int))] (.s (.v (.int .i64) c3)) [.box (.pr (.sl (.int .u8)) (.pr (.int .i64) (.int .u64))) c3o0])
    (h4 : c3 ≠ (0 : Int))
    (h5 : c3 ≠ (1 : Int))
    (h6 : c3 ≠ (2 : Int))
    (h7 : c3 = (3 : Int))
    (h8 : SC cfg.P i_spec_l1Cur_pick [.s (.mbx (.pr (.sl (.int .u8)) (.pr (.int .i64) (.int .u64))) c3o0), .s (.v (.int .i64) (4 : Int))] (.s (.v (.int .i64) c4)) [.box (.pr (.sl (.int .u8)) (.pr (.int .i64) (.int .u64))) c4o0])
    (h9 : SC cfg.P i_spec_prGenerator [.s (.v (.int .i64) c4)] (.s (.v (.pr .str .str) c5)) []) :
    SC cfg.P i_spec_l1Cur_pair [.s (.mbx (.pr (.sl (.int .u8)) (.pr (.int .i64) (.int .u64))) a0), .s (.v (.int .i64) a1)] (.s (.v (.pr .str .str) c5)) [.box (.pr (.sl (.int .u8)) (.pr (.int .i64) (.int .u64))) c4o0] :=
  SC_of_run cfgOK (its := [.res (.s (.v (.int .i64) c1)) [.box (.pr (.sl (.int .u8)) (.pr (.int .i64) (.int .u64))) c1o0] [] [], .res (.s (.v (.pr .str .str) c2)) [.box (.pr (.sl (.int .u8)) (.pr (.int .i64) (.int .u64))) c2o0] [] [], .res (.s (.v (.int .i64) c3)) [.box (.pr (.sl (.int .u8)) (.pr (.int .i64) (.int .u64))) c3o0] [] [], .bool false, .bool false, .bool false, .bool true, .res (.s (.v (.int .i64) c4)) [.box (.pr (.sl (.int .u8)) (.pr (.int .i64) (.int .u64))) c4o0] [] [], .res (.s (.v (.pr .str .str) c5)) [] [] []])
    (ps := [SC cfg.P i_spec_l1Cur_pick [.s (.mbx (.pr (.sl (.int .u8)) (.pr (.int .i64) (.int .u64))) a0), .s (.v (.int .i64) (IntKind.wrap .i64 (a1 + (1 : Int))))] (.s (.v (.int .i64) c1)) [.box (.pr (.sl (.int .u8)) (.pr (.int .i64) (.int .u64))) c1o0],
      SC cfg.P i_spec_l1Cur_surePair [.s (.mbx (.pr (.sl (.int .u8)) (.pr (.int .i64) (.int .u64))) c1o0), .s (.v (.int .i64) c1)] (.s (.v (.pr .str .str) c2)) [.box (.pr (.sl (.int .u8)) (.pr (.int .i64) (.int .u64))) c2o0],
      SC cfg.P i_spec_l1Cur_pick [.s (.mbx (.pr (.sl (.int .u8)) (.pr (.int .i64) (.int .u64))) c2o0), .s (.v (.int .i64) (14 : Int))] (.s (.v (.int .i64) c3)) [.box (.pr (.sl (.int .u8)) (.pr (.int .i64) (.int .u64))) c3o0],
      (c3 == (0 : Int)) = false,
      (c3 == (1 : Int)) = false,
      (c3 == (2 : Int)) = false,
      (c3 == (3 : Int)) = true,
      SC cfg.P i_spec_l1Cur_pick [.s (.mbx (.pr (.sl (.int .u8)) (.pr (.int .i64) (.int .u64))) c3o0), .s (.v (.int .i64) (4 : Int))] (.s (.v (.int .i64) c4)) [.box (.pr (.sl (.int .u8)) (.pr (.int .i64) (.int .u64))) c4o0],
      SC cfg.P i_spec_prGenerator [.s (.v (.int .i64) c4)] (.s (.v (.pr .str .str) c5)) []]) (by kernel_rfl) ⟨h1, h2, h3, (beq_eq_false_iff_ne.mpr h4), (beq_eq_false_iff_ne.mpr h5), (beq_eq_false_iff_ne.mpr h6), (beq_iff_eq.mpr h7), h8, h9, trivial⟩ get_spec_l1Cur_pair (by decide)

theorem spec_l1Cur_pair_p5 (a0 : ((List Int) × (Int × Int))) (a1 : Int) (c1 : Int) (c1o0 : ((List Int) × (Int × Int))) (c2 : (ByteArray × ByteArray)) (c2o0 : ((List Int) × (Int × Int))) (c3 : Int) (c3o0 : ((List Int) × (Int × Int)))
    (h1 : SC cfg.P i_spec_l1Cur_pick [.s (.mbx (.pr (.sl (.int .u8)) (.pr (.int .i64) (.int .u64))) a0), .s (.v (.int .i64) (IntKind.wrap .i64 (a1 + (1 : Int))))] (.s (.v (.int .i64) c1)) [.box (.pr (.sl (.int .u8)) (.pr (.int .i64) (.int .u64))) c1o0])
    (h2 : SC cfg.P i_spec_l1Cur_surePair [.s (.mbx (.pr (.sl (.int .u8)) (.pr (.int .i64) (.int .u64))) c1o0), .s (.v (.int .i64) c1)] (.s (.v (.pr .str .str) c2)) [.box (.pr (.sl (.int .u8)) (.pr (.int .i64) (.int .u64))) c2o0])
    (h3 : SC cfg.P i_spec_l1Cur_pick [.s (.mbx (.pr (.sl (.int .u8)) (.pr (.int .i64) (.int .u64))) c2o0), .s (.v (.int .i64) (14 : Int))] (.s (.v (.int .i64) c3)) [.box (.pr (.sl (.int .u8)) (.pr (.int .i64) (.int .u64))) c3o0])
    (h4 : c3 ≠ (0 : Int))
    (h5 : c3 ≠ (1 : Int))
    (h6 : c3 ≠ (2 : Int))
    (h7 : c3 ≠ (3 : Int)) :
    SC cfg.P i_spec_l1Cur_pair [.s (.mbx (.pr (.sl (.int .u8)) (.pr (.int .i64) (.int .u64))) a0), .s (.v (.int .i64) a1)] (.s (.v (.pr .str .str) c2)) [.box (.pr (.sl (.int .u8)) (.pr (.int .i64) (.int .u64))) c3o0] :=
  SC_of_run cfgOK (its := [.res (.s (.v (.int .i64) c1)) [.box (.pr (.sl (.int .u8)) (.pr (.int .i64) (.int .u64))) c1o0] [] [], .res (.s (.v (.pr .str .str) c2)) [.box (.pr (.sl (.int .u8)) (.pr (.int .i64) (.int .u64))) c2o0] [] [], .res (.s (.v (.int .i64) c3)) [.box (.pr (.sl (.int .u8)) (.pr (.int .i64) (.int .u64))) c3o0] [] [], .bool false, .bool false, .bool false, .bool false])
    (ps := [SC cfg.P i_spec_l1Cur_pick [.s (.mbx (.pr (.sl (.int .u8)) (.pr (.int .i64) (.int .u64))) a0), .s (.v (.int .i64) (IntKind.wrap .i64 (a1 + (1 : Int))))] (.s (.v (.int .i64) c1)) [.box (.pr (.sl (.int .u8)) (.pr (.int .i64) (.int .u64))) c1o0],
      SC cfg.P i_spec_l1Cur_surePair [.s (.mbx (.pr (.sl (.int .u8)) (.pr (.int .i64) (.int .u64))) c1o0), .s (.v (.int .i64) c1)] (.s (.v (.pr .str .str) c2)) [.box (.pr (.sl (.int .u8)) (.pr (.int .i64) (.int .u64))) c2o0],
      SC cfg.P i_spec_l1Cur_pick [.s (.mbx (.pr (.sl (.int .u8)) (.pr (.int .i64) (.int .u64))) c2o0), .s (.v (.int .i64) (14 : Int))] (.s (.v (.int .i64) c3)) [.box (.pr (.sl (.int .u8)) (.pr (.int .i64) (.int .u64))) c3o0],
      (c3 == (0 : Int)) = false,
      (c3 == (1 : Int)) = false,
      (c3 == (2 : Int)) = false,
      (c3 == (3 : Int)) = false]) (by kernel_rfl) ⟨h1, h2, h3, (beq_eq_false_iff_ne.mpr h4), (beq_eq_false_iff_ne.mpr h5), (beq_eq_false_iff_ne.mpr h6), (beq_eq_false_iff_ne.mpr h7), trivial⟩ get_spec_l1Cur_pair (by decide)

/-! ### spec_l1Cur_one -/


theorem spec_l1Cur_one_p1 (a0 : ((List Int) × (Int × Int))) (a1 : Int) (c1 : Int) (c1o0 : ((List Int) × (Int × Int)))
    (h1 : SC cfg.P i_spec_l1Cur_pick [.s (.mbx (.pr (.sl (.int .u8)) (.pr (.int .i64) (.int .u64))) a0), .s (.v (.int .i64) a1)] (.s (.v (.int .i64) c1)) [.box (.pr (.sl (.int .u8)) (.pr (.int .i64) (.int .u64))) c1o0])
    (h2 : c1 = (0 : Int)) :
    SC cfg.P i_spec_l1Cur_one [.s (.mbx (.pr (.sl (.int .u8)) (.pr (.int .i64) (.int .u64))) a0), .s (.v (.int .i64) a1)] (.s (.v .bool true)) [.box (.pr (.sl (.int .u8)) (.pr (.int .i64) (.int .u64))) c1o0] :=
  SC_of_run cfgOK (its := [.res (.s (.v (.int .i64) c1)) [.box (.pr (.sl (.int .u8)) (.pr (.int .i64) (.int .u64))) c1o0] [] [], .bool true])
    (ps := [SC cfg.P i_spec_l1Cur_pick [.s (.mbx (.pr (.sl (.int .u8)) (.pr (.int .i64) (.int .u64))) a0), .s (.v (.int .i64) a1)] (.s (.v (.int .i64) c1)) [.box (.pr (.sl (.int .u8)) (.pr (.int .i64) (.int .u64))) c1o0],
      (c1 == (0 : Int)) = true]) (by kernel_rfl) ⟨h1, (beq_iff_eq.mpr h2), trivial⟩ get_spec_l1Cur_one (by decide)

theorem spec_l1Cur_one_p2 (a0 : ((List Int) × (Int × Int))) (a1 : Int) (c1 : Int) (c1o0 : ((List Int) × (Int × Int)))
    (h1 : SC cfg.P i_spec_l1Cur_pick [.s (.mbx (.pr (.sl (.int .u8)) (.pr (.int .i64) (.int .u64))) a0), .s (.v (.int .i64) a1)] (.s (.v (.int .i64) c1)) [.box (.pr (.sl (.int .u8)) (.pr (.int .i64) (.int .u64))) c1o0])
    (h2 : c1 ≠ (0 : Int)) :
    SC cfg.P i_spec_l1Cur_one [.s (.mbx (.pr (.sl (.int .u8)) (.pr (.int .i64) (.int .u64))) a0), .s (.v (.int .i64) a1)] (.s (.v .bool false)) [.box (.pr (.sl (.int .u8)) (.pr (.int .i64) (.int .u64))) c1o0] :=
  SC_of_run cfgOK (its := [.res (.s (.v (.int .i64) c1)) [.box (.pr (.sl (.int .u8)) (.pr (.int .i64) (.int .u64))) c1o0] [] [], .bool false])
    (ps := [SC cfg.P i_spec_l1Cur_pick [.s (.mbx (.pr (.sl (.int .u8)) (.pr (.int .i64) (.int .u64))) a0), .s (.v (.int .i64) a1)] (.s (.v (.int .i64) c1)) [.box (.pr (.sl (.int .u8)) (.pr (.int .i64) (.int .u64))) c1o0],
      (c1 == (0 : Int)) = false]) (by kernel_rfl) ⟨h1, (beq_eq_false_iff_ne.mpr h2), trivial⟩ get_spec_l1Cur_one (by decide)

/-! ### spec_l1Cur_surePair -/


theorem spec_l1Cur_surePair_p1 (a0 : ((List Int) × (Int × Int))) (a1 : Int) (c1 : ByteArray) (c1o0 : ((List Int) × (Int × Int))) (c2 : ByteArray) (c2o0 : ((List Int) × (Int × Int)))
    (h1 : SC cfg.P i_spec_l1Cur_sureTree [.s (.mbx (.pr (.sl (.int .u8)) (.pr (.int .i64) (.int .u64))) a0), .s (.v (.int .i64) a1)] (.s (.v .str c1)) [.box (.pr (.sl (.int .u8)) (.pr (.int .i64) (.int .u64))) c1o0])
    (h2 : SC cfg.P i_spec_l1Cur_sureTree [.s (.mbx (.pr (.sl (.int .u8)) (.pr (.int .i64) (.int .u64))) c1o0), .s (.v (.int .i64) a1)] (.s (.v .str c2)) [.box (.pr (.sl (.int .u8)) (.pr (.int .i64) (.int .u64))) c2o0]) :
    SC cfg.P i_spec_l1Cur_surePair [.s (.mbx (.pr (.sl (.int .u8)) (.pr (.int .i64) (.int .u64))) a0), .s (.v (.int .i64) a1)] (.s (.v (.pr .str .str) (c1, c2))) [.box (.pr (.sl (.int .u8)) (.pr (.int .i64) (.int .u64))) c2o0] :=
  SC_of_run cfgOK (its := [.res (.s (.v .str c1)) [.box (.pr (.sl (.int .u8)) (.pr (.int .i64) (.int .u64))) c1o0] [] [], .res (.s (.v .str c2)) [.box (.pr (.sl (.int .u8)) (.pr (.int .i64) (.int .u64))) c2o0] [] []])
    (ps := [SC cfg.P i_spec_l1Cur_sureTree [.s (.mbx (.pr (.sl (.int .u8)) (.pr (.int .i64) (.int .u64))) a0), .s (.v (.int .i64) a1)] (.s (.v .str c1)) [.box (.pr (.sl (.int .u8)) (.pr (.int .i64) (.int .u64))) c1o0],
      SC cfg.P i_spec_l1Cur_sureTree [.s (.mbx (.pr (.sl (.int .u8)) (.pr (.int .i64) (.int .u64))) c1o0), .s (.v (.int .i64) a1)] (.s (.v .str c2)) [.box (.pr (.sl (.int .u8)) (.pr (.int .i64) (.int .u64))) c2o0]]) (by kernel_rfl) ⟨h1, h2, trivial⟩ get_spec_l1Cur_surePair (by decide)

/-! ### spec_l1Cur_pick -/


theorem spec_l1Cur_pick_p1 (a0 : ((List Int) × (Int × Int))) (a1 : Int)
    (h1 : a1 ≤ (1 : Int)) :
    SC cfg.P i_spec_l1Cur_pick [.s (.mbx (.pr (.sl (.int .u8)) (.pr (.int .i64) (.int .u64))) a0), .s (.v (.int .i64) a1)] (.s (.v (.int .i64) (0 : Int))) [.box (.pr (.sl (.int .u8)) (.pr (.int .i64) (.int .u64))) a0] :=
  SC_of_run cfgOK (its := [.bool true])
    (ps := [decide (a1 ≤ (1 : Int)) = true]) (by kernel_rfl) ⟨(decide_eq_true h1), trivial⟩ get_spec_l1Cur_pick (by decide)

theorem spec_l1Cur_pick_p2 (a0 : ((List Int) × (Int × Int))) (a1 : Int) (c1 : Int) (c1o0 : ((List Int) × (Int × Int))) (c2 : Int) (c2o0 : ((List Int) × (Int × Int)))
    (h1 : ¬ (a1 ≤ (1 : Int)))
    (h2 : SC cfg.P i_spec_l1Cur_next [.s (.mbx (.pr (.sl (.int .u8)) (.pr (.int .i64) (.int .u64))) a0)] (.s (.v (.int .i64) c1)) [.box (.pr (.sl (.int .u8)) (.pr (.int .i64) (.int .u64))) c1o0])
    (h3 : a1 > (200 : Int))
    (h4 : SC cfg.P i_spec_l1Cur_next [.s (.mbx (.pr (.sl (.int .u8)) (.pr (.int .i64) (.int .u64))) c1o0)] (.s (.v (.int .i64) c2)) [.box (.pr (.sl (.int .u8)) (.pr (.int .i64) (.int .u64))) c2o0])
    (h5 : a1 ≠ 0) :
    SC cfg.P i_spec_l1Cur_pick [.s (.mbx (.pr (.sl (.int .u8)) (.pr (.int .i64) (.int .u64))) a0), .s (.v (.int .i64) a1)] (.s (.v (.int .i64) (Int.tmod (IntKind.wrap .i64 ((IntKind.wrap .i64 (c1 * (256 : Int))) + c2)) a1))) [.box (.pr (.sl (.int .u8)) (.pr (.int .i64) (.int .u64))) c2o0] :=
  SC_of_run cfgOK (its := [.bool false, .res (.s (.v (.int .i64) c1)) [.box (.pr (.sl (.int .u8)) (.pr (.int .i64) (.int .u64))) c1o0] [] [], .bool true, .res (.s (.v (.int .i64) c2)) [.box (.pr (.sl (.int .u8)) (.pr (.int .i64) (.int .u64))) c2o0] [] []])
    (ps := [decide (a1 ≤ (1 : Int)) = false,
      SC cfg.P i_spec_l1Cur_next [.s (.mbx (.pr (.sl (.int .u8)) (.pr (.int .i64) (.int .u64))) a0)] (.s (.v (.int .i64) c1)) [.box (.pr (.sl (.int .u8)) (.pr (.int .i64) (.int .u64))) c1o0],
      decide (a1 > (200 : Int)) = true,
      SC cfg.P i_spec_l1Cur_next [.s (.mbx (.pr (.sl (.int .u8)) (.pr (.int .i64) (.int .u64))) c1o0)] (.s (.v (.int .i64) c2)) [.box (.pr (.sl (.int .u8)) (.pr (.int .i64) (.int .u64))) c2o0],
      a1 ≠ 0]) (by kernel_rfl) ⟨(decide_eq_false h1), h2, (decide_eq_true h3), h4, h5, trivial⟩ get_spec_l1Cur_pick (by decide)

theorem spec_l1Cur_pick_p3 (a0 : ((List Int) × (Int × Int))) (a1 : Int) (c1 : Int) (c1o0 : ((List Int) × (Int × Int)))
    (h1 : ¬ (a1 ≤ (1 : Int)))
    (h2 : SC cfg.P i_spec_l1Cur_next [.s (.mbx (.pr (.sl (.int .u8)) (.pr (.int .i64) (.int .u64))) a0)] (.s (.v (.int .i64) c1)) [.box (.pr (.sl (.int .u8)) (.pr (.int .i64) (.int .u64))) c1o0])
    (h3 : ¬ (a1 > (200 : Int)))
    (h4 : a1 ≠ 0) :
    SC cfg.P i_spec_l1Cur_pick [.s (.mbx (.pr (.sl (.int .u8)) (.pr (.int .i64) (.int .u64))) a0), .s (.v (.int .i64) a1)] (.s (.v (.int .i64) (Int.tmod c1 a1))) [.box (.pr (.sl (.int .u8)) (.pr (.int .i64) (.int .u64))) c1o0] :=
  SC_of_run cfgOK (its := [.bool false, .res (.s (.v (.int .i64) c1)) [.box (.pr (.sl (.int .u8)) (.pr (.int .i64) (.int .u64))) c1o0] [] [], .bool false])
    (ps := [decide (a1 ≤ (1 : Int)) = false,
      SC cfg.P i_spec_l1Cur_next [.s (.mbx (.pr (.sl (.int .u8)) (.pr (.int .i64) (.int .u64))) a0)] (.s (.v (.int .i64) c1)) [.box (.pr (.sl (.int .u8)) (.pr (.int .i64) (.int .u64))) c1o0],
      decide (a1 > (200 : Int)) = false,
      a1 ≠ 0]) (by kernel_rfl) ⟨(decide_eq_false h1), h2, (decide_eq_false h3), h4, trivial⟩ get_spec_l1Cur_pick (by decide)

/-! ### spec_l1Cur_tree -/


theorem spec_l1Cur_tree_p1 (a0 : ((List Int) × (Int × Int))) (a1 : Int) (c1 : Int) (c1o0 : ((List Int) × (Int × Int))) (c2 : ByteArray) (c2o0 : ((List Int) × (Int × Int))) (c3 : Int) (c3o0 : ((List Int) × (Int × Int))) (c4 : ByteArray) (c4o0 : ((List Int) × (Int × Int)))
    (h1 : SC cfg.P i_spec_l1Cur_pick [.s (.mbx (.pr (.sl (.int .u8)) (.pr (.int .i64) (.int .u64))) a0), .s (.v (.int .i64) (IntKind.wrap .i64 (a1 + (1 : Int))))] (.s (.v (.int .i64) c1)) [.box (.pr (.sl (.int .u8)) (.pr (.int .i64) (.int .u64))) c1o0])
    (h2 : SC cfg.P i_spec_l1Cur_sureTree [.s (.mbx (.pr (.sl (.int .u8)) (.pr (.int .i64) (.int .u64))) c1o0), .s (.v (.int .i64) c1)] (.s (.v .str c2)) [.box (.pr (.sl (.int .u8)) (.pr (.int .i64) (.int .u64))) c2o0])
    (h3 : SC cfg.P i_spec_l1Cur_pick [.s (.mbx (.pr (.sl (.int .u8)) (.pr (.int .i64) (.int .u64))) c2o0), .s (.v (.int .i64) (14 : Int))] (.s (.v (.int .i64) c3)) [.box (.pr (.sl (.int .u8)) (.pr (.int .i64) (.int .u64))) c3o0])
    (h4 : c3 = (0 : Int))
    (h5 : SC cfg.P i_spec_l1Cur_spoilt [.s (.mbx (.pr (.sl (.int .u8)) (.pr (.int .i64) (.int .u64))) c3o0), .s (.v .str c2), .s (.v .str (⟨#[40, 46, 41]⟩ : ByteArray))] (.s (.v .str c4)) [.box (.pr (.sl (.int .u8)) (.pr (.int .i64) (.int .u64))) c4o0]) :
    SC cfg.P i_spec_l1Cur_tree [.s (.mbx (.pr (.sl (.int .u8)) (.pr (.int .i64) (.int .u64))) a0), .s (.v (.int .i64) a1)] (.s (.v .str c4)) [.box (.pr (.sl (.int .u8)) (.pr (.int .i64) (.int .u64))) c4o0] :=
  SC_of_run cfgOK (its := [.res (.s (.v (.int .i64) c1)) [.box (.pr (.sl (.int .u8)) (.pr (.int .i64) (.int .u64))) c1o0] [] [], .res (.s (.v .str c2)) [.box (.pr (.sl (.int .u8)) (.pr (.int .i64) (.int .u64))) c2o0] [] [], .res (.s (.v (.int .i64) c3)) [.box (.pr (.sl (.int .u8)) (.pr (.int .i64) (.int .u64))) c3o0] [] [], .bool true, .res (.s (.v .str c4)) [.box (.pr (.sl (.int .u8)) (.pr (.int .i64) (.int .u64))) c4o0] [] []])
    (ps := [SC cfg.P i_spec_l1Cur_pick [.s (.mbx (.pr (.sl (.int .u8)) (.pr (.int .i64) (.int .u64))) a0), .s (.v (.int .i64) (IntKind.wrap .i64 (a1 + (1 : Int))))] (.s (.v (.int .i64) c1)) [.box (.pr (.sl (.int .u8)) (.pr (.int .i64) (.int .u64))) c1o0],
      SC cfg.P i_spec_l1Cur_sureTree [.s (.mbx (.pr (.sl (.int .u8)) (.pr (.int .i64) (.int .u64))) c1o0), .s (.v (.int .i64) c1)] (.s (.v .str c2)) [.box (.pr (.sl (.int .u8)) (.pr (.int .i64) (.int .u64))) c2o0],
      SC cfg.P i_spec_l1Cur_pick [.s (.mbx (.pr (.sl (.int .u8)) (.pr (.int .i64) (.int .u64))) c2o0), .s (.v (.int .i64) (14 : Int))] (.s (.v (.int .i64) c3)) [.box (.pr (.sl (.int .u8)) (.pr (.int .i64) (.int .u64))) c3o0],
      (c3 == (0 : Int)) = true,
      SC cfg.P i_spec_l1Cur_spoilt [.s (.mbx (.pr (.sl (.int .u8)) (.pr (.int .i64) (.int .u64))) c3o0), .s (.v .str c2), .s (.v .str (⟨#[40, 46, 41]⟩ : ByteArray))] (.s (.v .str c4)) [.box (.pr (.sl (.int .u8)) (.pr (.int .i64) (.int .u64))) c4o0]]) (by kernel_rfl) ⟨h1, h2, h3, (beq_iff_eq.mpr h4), h5, trivial⟩ get_spec_l1Cur_tree (by decide)

theorem spec_l1Cur_tree_p2 (a0 : ((List Int) × (Int × Int))) (a1 : Int) (c1 : Int) (c1o0 : ((List Int) × (Int × Int))) (c2 : ByteArray) (c2o0 : ((List Int) × (Int × Int))) (c3 : Int) (c3o0 : ((List Int) × (Int × Int))) (c4 : Int) (c4o0 : ((List Int) × (Int × Int))) (c5 : ByteArray) (c5o0 : ((List Int) × (Int × Int)))
    (h1 : SC cfg.P i_spec_l1Cur_pick [.s (.mbx (.pr (.sl (.int .u8)) (.pr (.int .i64) (.int .u64))) a0), .s (.v (.int .i64) (IntKind.wrap .i64 (a1 + (1 : Int))))] (.s (.v (.int .i64) c1)) [.box (.pr (.sl (.int .u8)) (.pr (.int .i64) (.int .u64))) c1o0])
    (h2 : SC cfg.P i_spec_l1Cur_sureTree [.s (.mbx (.pr (.sl (.int .u8)) (.pr (.int .i64) (.int .u64))) c1o0), .s (.v (.int .i64) c1)] (.s (.v .str c2)) [.box (.pr (.sl (.int .u8)) (.pr (.int .i64) (.int .u64))) c2o0])
    (h3 : SC cfg.P i_spec_l1Cur_pick [.s (.mbx (.pr (.sl (.int .u8)) (.pr (.int .i64) (.int .u64))) c2o0), .s (.v (.int .i64) (14 : Int))] (.s (.v (.int .i64) c3)) [.box (.pr (.sl (.int .u8)) (.pr (.int .i64) (.int .u64))) c3o0])
    (h4 : c3 ≠ (0 : Int))
    (h5 : c3 = (1 : Int))
    (h6 : SC cfg.P i_spec_l1Cur_pick [.s (.mbx (.pr (.sl (.int .u8)) (.pr (.int .i64) (.int .u64))) c3o0), .s (.v (.int .i64) (2 : Int))] (.s (.v (.int .i64) c4)) [.box (.pr (.sl (.int .u8)) (.pr (.int .i64) (.int .u64))) c4o0])
    (h7 : SC cfg.P i_spec_l1Cur_sureTree [.s (.mbx (.pr (.sl (.int .u8)) (.pr (.int .i64) (.int .u64))) c4o0), .s (.v (.int .i64) (IntKind.wrap .i64 ((8 : Int) + c4)))] (.s (.v .str c5)) [.box (.pr (.sl (.int .u8)) (.pr (.int .i64) (.int .u64))) c5o0]) :
    SC cfg.P i_spec_l1Cur_tree [.s (.mbx (.pr (.sl (.int .u8)) (.pr (.int .i64) (.int .u64))) a0), .s (.v (.int .i64) a1)] (.s (.v .str c5)) [.box (.pr (.sl (.int .u8)) (.pr (.int .i64) (.int .u64))) c5o0] :=
  SC_of_run cfgOK (its := [.res (.s (.v (.int .i64) c1)) [.box (.pr (.sl (.int .u8)) (.pr (.int .i64) (.int .u64))) c1o0] [] [], .res (.s (.v .str c2)) [.box (.pr (.sl (.int .u8)) (.pr (.int .i64) (.int .u64))) c2o0] [] [], .res (.s (.v (.int .i64) c3)) [.box (.pr (.sl (.int .u8)) (.pr (.int .i64) (.int .u64))) c3o0] [] [], .bool false, .bool true, .res (.s (.v (.int .i64) c4)) [.box (.pr (.sl (.int .u8)) (.pr (.int .i64) (.int .u64))) c4o0] [] [], .res (.s (.v .str c5)) [.box (.pr (.sl (.int .u8)) (.pr (.int .i64) (.int .u64))) c5o0] [] []])
    (ps := [SC cfg.P i_spec_l1Cur_pick [.s (.mbx (.pr (.sl (.int .u8)) (.pr (.int .i64) (.int .u64))) a0), .s (.v (.int .i64) (IntKind.wrap .i64 (a1 + (1 : Int))))] (.s (.v (.int .i64) c1)) [.box (.pr (.sl (.int .u8)) (.pr (.int .i64) (.int .u64))) c1o0],
      SC cfg.P i_spec_l1Cur_sureTree [.s (.mbx (.pr (.sl (.int .u8)) (.pr (.int .i64) (.int .u64))) c1o0), .s (.v (.int .i64) c1)] (.s (.v .str c2)) [.box (.pr (.sl (.int .u8)) (.pr (.int .i64) (.int .u64))) c2o0],
      SC cfg.P i_spec_l1Cur_pick [.s (.mbx (.pr (.sl (.int .u8)) (.pr (.int .i64) (.int .u64))) c2o0), .s (.v (.int .i64) (14 : Int))] (.s (.v (.int .i64) c3)) [.box (.pr (.sl (.int .u8)) (.pr (.int .i64) (.int .u64))) c3o0],
      (c3 == (0 : Int)) = false,
      (c3 == (1 : Int)) = true,
      SC cfg.P i_spec_l1Cur_pick [.s (.mbx (.pr (.sl (.int .u8)) (.pr (.int .i64) (.int .u64))) c3o0), .s (.v (.int .i64) (2 : Int))] (.s (.v (.int .i64) c4)) [.box (.pr (.sl (.int .u8)) (.pr (.int .i64) (.int .u64))) c4o0],
      SC cfg.P i_spec_l1Cur_sureTree [.s (.mbx (.pr (.sl (.int .u8)) (.pr (.int .i64) (.int .u64))) c4o0), .s (.v (.int .i64) (IntKind.wrap .i64 ((8 : Int) + c4)))] (.s (.v .str c5)) [.box (.pr (.sl (.int .u8)) (.pr (.int .i64) (.int .u64))) c5o0]]) (by kernel_rfl) ⟨h1, h2, h3, (beq_eq_false_iff_ne.mpr h4), (beq_iff_eq.mpr h5), h6, h7, trivial⟩ get_spec_l1Cur_tree (by decide)

theorem spec_l1Cur_tree_p3 (a0 : ((List Int) × (Int × Int))) (a1 : Int) (c1 : Int) (c1o0 : ((List Int) × (Int × Int))) (c2 : ByteArray) (c2o0 : ((List Int) × (Int × Int))) (c3 : Int) (c3o0 : ((List Int) × (Int × Int)))
    (h1 : SC cfg.P i_spec_l1Cur_pick [.s (.mbx (.pr (.sl (.int .u8)) (.pr (.int .i64) (.int .u64))) a0), .s (.v (.int .i64) (IntKind.wrap .i64 (a1 + (1 : Int))))] (.s (.v (.int .i64) c1)) [.box (.pr (.sl (.int .u8)) (.pr (.int .i64) (.int .u64))) c1o0])
    (h2 : SC cfg.P i_spec_l1Cur_sureTree [.s (.mbx (.pr (.sl (.int .u8)) (.pr (.int .i64) (.int .u64))) c1o0), .s (.v (.int .i64) c1)] (.s (.v .str c2)) [.box (.pr (.sl (.int .u8)) (.pr (.int .i64) (.int .u64))) c2o0])
    (h3 : SC cfg.P i_spec_l1Cur_pick [.s (.mbx (.pr (.sl (.int .u8)) (.pr (.int .i64) (.int .u64))) c2o0), .s (.v (.int .i64) (14 : Int))] (.s (.v (.int .i64) c3)) [.box (.pr (.sl (.int .u8)) (.pr (.int .i64) (.int .u64))) c3o0])
    (h4 : c3 ≠ (0 : Int))
    (h5 : c3 ≠ (1 : Int)) :
    SC cfg.P i_spec_l1Cur_tree [.s (.mbx (.pr (.sl (.int .u8)) (.pr (.int .i64) (.int .u64))) a0), .s (.v (.int .i64) a1)] (.s (.v .str c2)) [.box (.pr (.sl (.int .u8)) (.pr (.int .i64) (.int .u64))) c3o0] :=
  SC_of_run cfgOK (its := [.res (.s (.v (.int .i64) c1)) [.box (.pr (.sl (.int .u8)) (.pr (.int .i64) (.int .u64))) c1o0] [] [], .res (.s (.v .str c2)) [.box (.pr (.sl (.int .u8)) (.pr (.int .i64) (.int .u64))) c2o0] [] [], .res (.s (.v (.int .i64) c3)) [.box (.pr (.sl (.int .u8)) (.pr (.int .i64) (.int .u64))) c3o0] [] [], .bool false, .bool false])
    (ps := [SC cfg.P i_spec_l1Cur_pick [.s (.mbx (.pr (.sl (.int .u8)) (.pr (.int .i64) (.int .u64))) a0), .s (.v (.int .i64) (IntKind.wrap .i64 (a1 + (1 : Int))))] (.s (.v (.int .i64) c1)) [.box (.pr (.sl (.int .u8)) (.pr (.int .i64) (.int .u64))) c1o0],
      SC cfg.P i_spec_l1Cur_sureTree [.s (.mbx (.pr (.sl (.int .u8)) (.pr (.int .i64) (.int .u64))) c1o0), .s (.v (.int .i64) c1)] (.s (.v .str c2)) [.box (.pr (.sl (.int .u8)) (.pr (.int .i64) (.int .u64))) c2o0],
      SC cfg.P i_spec_l1Cur_pick [.s (.mbx (.pr (.sl (.int .u8)) (.pr (.int .i64) (.int .u64))) c2o0), .s (.v (.int .i64) (14 : Int))] (.s (.v (.int .i64) c3)) [.box (.pr (.sl (.int .u8)) (.pr (.int .i64) (.int .u64))) c3o0],
      (c3 == (0 : Int)) = false,
      (c3 == (1 : Int)) = false]) (by kernel_rfl) ⟨h1, h2, h3, (beq_eq_false_iff_ne.mpr h4), (beq_eq_false_iff_ne.mpr h5), trivial⟩ get_spec_l1Cur_tree (by decide)

/-! ### spec_l1Cur_spoilt -/


def spec_l1Cur_spoilt_L0a (x1 : ByteArray) (x2 : ByteArray) (x7 : Int) (xo0 : ((List Int) × (Int × Int))) : St := mkSt 68 [(0, .s (.adr 0 none)), (1, .s (.v .str x1)), (2, .s (.v .str x2)), (7, .s (.v (.int .i64) x7))] [(0, .box (.pr (.sl (.int .u8)) (.pr (.int .i64) (.int .u64))) xo0 false)]

def spec_l1Cur_spoilt_L0X1 (y1 : ByteArray) (y2 : ByteArray) (y7 : Int) (y19 : Bool) (yo0 : ((List Int) × (Int × Int))) : St := mkSt 68 [(0, .s (.adr 0 none)), (1, .s (.v .str y1)), (2, .s (.v .str y2)), (7, .s (.v (.int .i64) y7)), (19, .s (.v .bool y19))] [(0, .box (.pr (.sl (.int .u8)) (.pr (.int .i64) (.int .u64))) yo0 false)]

theorem spec_l1Cur_spoilt_L0a_i1 (x1 : ByteArray) (x2 : ByteArray) (x7 : Int) (xo0 : ((List Int) × (Int × Int))) (dc1 : Int) (dc1o0 : ((List Int) × (Int × Int))) (dc2 : Int) (dc2o0 : ((List Int) × (Int × Int))) (dc3 : Int) (dc3o0 : ((List Int) × (Int × Int)))
    (h1 : x7 > (0 : Int))
    (h2 : ((x1).size : Int) > (0 : Int))
    (h3 : SC cfg.P i_spec_l1Cur_pick [.s (.mbx (.pr (.sl (.int .u8)) (.pr (.int .i64) (.int .u64))) xo0), .s (.v (.int .i64) ((x1).size : Int))] (.s (.v (.int .i64) dc1)) [.box (.pr (.sl (.int .u8)) (.pr (.int .i64) (.int .u64))) dc1o0])
    (h4 : SC cfg.P i_spec_l1Cur_pick [.s (.mbx (.pr (.sl (.int .u8)) (.pr (.int .i64) (.int .u64))) dc1o0), .s (.v (.int .i64) ((x2).size : Int))] (.s (.v (.int .i64) dc2)) [.box (.pr (.sl (.int .u8)) (.pr (.int .i64) (.int .u64))) dc2o0])
    (h5 : 0 ≤ dc2)
    (h6 : dc2 < ((x2).size : Int))
    (h7 : SC cfg.P i_spec_l1Cur_pick [.s (.mbx (.pr (.sl (.int .u8)) (.pr (.int .i64) (.int .u64))) dc2o0), .s (.v (.int .i64) (3 : Int))] (.s (.v (.int .i64) dc3)) [.box (.pr (.sl (.int .u8)) (.pr (.int .i64) (.int .u64))) dc3o0])
    (h8 : dc3 = (0 : Int))
    (h9 : 0 ≤ dc1)
    (h10 : dc1 ≤ ((x1).size : Int))
    (h11 : ((ByteArray.extract x1 ((0 : Int)).toNat (dc1).toNat)).size + ((strOf ([(bt x2 dc2)] : List Int))).size ≤ 2 ^ 62)
    (h12 : (((ByteArray.extract x1 ((0 : Int)).toNat (dc1).toNat) ++ (strOf ([(bt x2 dc2)] : List Int)))).size + ((ByteArray.extract x1 (dc1).toNat (((x1).size : Int)).toNat)).size ≤ 2 ^ 62)
    {e : AEx} {st : St} (next : LoopSC cfg.P 3 (lb P_spec_l1Cur_spoilt 0) (spec_l1Cur_spoilt_L0a (((ByteArray.extract x1 ((0 : Int)).toNat (dc1).toNat) ++ (strOf ([(bt x2 dc2)] : List Int))) ++ (ByteArray.extract x1 (dc1).toNat (((x1).size : Int)).toNat)) x2 (IntKind.wrap .i64 (x7 - (1 : Int))) dc3o0) e st) :
    LoopSC cfg.P 3 (lb P_spec_l1Cur_spoilt 0) (spec_l1Cur_spoilt_L0a x1 x2 x7 xo0) e st :=
  loop_iter cfgOK (f := i_spec_l1Cur_spoilt) (its := [.bool true, .bool true, .res (.s (.v (.int .i64) dc1)) [.box (.pr (.sl (.int .u8)) (.pr (.int .i64) (.int .u64))) dc1o0] [] [], .res (.s (.v (.int .i64) dc2)) [.box (.pr (.sl (.int .u8)) (.pr (.int .i64) (.int .u64))) dc2o0] [] [], .res (.s (.v (.int .i64) dc3)) [.box (.pr (.sl (.int .u8)) (.pr (.int .i64) (.int .u64))) dc3o0] [] [], .bool true])
    (ps := [decide (x7 > (0 : Int)) = true,
      decide (((x1).size : Int) > (0 : Int)) = true,
      SC cfg.P i_spec_l1Cur_pick [.s (.mbx (.pr (.sl (.int .u8)) (.pr (.int .i64) (.int .u64))) xo0), .s (.v (.int .i64) ((x1).size : Int))] (.s (.v (.int .i64) dc1)) [.box (.pr (.sl (.int .u8)) (.pr (.int .i64) (.int .u64))) dc1o0],
      SC cfg.P i_spec_l1Cur_pick [.s (.mbx (.pr (.sl (.int .u8)) (.pr (.int .i64) (.int .u64))) dc1o0), .s (.v (.int .i64) ((x2).size : Int))] (.s (.v (.int .i64) dc2)) [.box (.pr (.sl (.int .u8)) (.pr (.int .i64) (.int .u64))) dc2o0],
      0 ≤ dc2,
      dc2 < ((x2).size : Int),
      SC cfg.P i_spec_l1Cur_pick [.s (.mbx (.pr (.sl (.int .u8)) (.pr (.int .i64) (.int .u64))) dc2o0), .s (.v (.int .i64) (3 : Int))] (.s (.v (.int .i64) dc3)) [.box (.pr (.sl (.int .u8)) (.pr (.int .i64) (.int .u64))) dc3o0],
      (dc3 == (0 : Int)) = true,
      0 ≤ dc1,
      dc1 ≤ ((x1).size : Int),
      ((ByteArray.extract x1 ((0 : Int)).toNat (dc1).toNat)).size + ((strOf ([(bt x2 dc2)] : List Int))).size ≤ 2 ^ 62,
      0 ≤ dc1,
      dc1 ≤ ((x1).size : Int),
      (((ByteArray.extract x1 ((0 : Int)).toNat (dc1).toNat) ++ (strOf ([(bt x2 dc2)] : List Int)))).size + ((ByteArray.extract x1 (dc1).toNat (((x1).size : Int)).toNat)).size ≤ 2 ^ 62]) (st1 := spec_l1Cur_spoilt_L0a (((ByteArray.extract x1 ((0 : Int)).toNat (dc1).toNat) ++ (strOf ([(bt x2 dc2)] : List Int))) ++ (ByteArray.extract x1 (dc1).toNat (((x1).size : Int)).toNat)) x2 (IntKind.wrap .i64 (x7 - (1 : Int))) dc3o0) (by kernel_rfl) ⟨(decide_eq_true h1), (decide_eq_true h2), h3, h4, h5, h6, h7, (beq_iff_eq.mpr h8), h9, h10, h11, h9, h10, h12, trivial⟩ next

theorem spec_l1Cur_spoilt_L0a_i2 (x1 : ByteArray) (x2 : ByteArray) (x7 : Int) (xo0 : ((List Int) × (Int × Int))) (dc1 : Int) (dc1o0 : ((List Int) × (Int × Int))) (dc2 : Int) (dc2o0 : ((List Int) × (Int × Int))) (dc3 : Int) (dc3o0 : ((List Int) × (Int × Int)))
    (h1 : x7 > (0 : Int))
    (h2 : ((x1).size : Int) > (0 : Int))
    (h3 : SC cfg.P i_spec_l1Cur_pick [.s (.mbx (.pr (.sl (.int .u8)) (.pr (.int .i64) (.int .u64))) xo0), .s (.v (.int .i64) ((x1).size : Int))] (.s (.v (.int .i64) dc1)) [.box (.pr (.sl (.int .u8)) (.pr (.int .i64) (.int .u64))) dc1o0])
    (h4 : SC cfg.P i_spec_l1Cur_pick [.s (.mbx (.pr (.sl (.int .u8)) (.pr (.int .i64) (.int .u64))) dc1o0), .s (.v (.int .i64) ((x2).size : Int))] (.s (.v (.int .i64) dc2)) [.box (.pr (.sl (.int .u8)) (.pr (.int .i64) (.int .u64))) dc2o0])
    (h5 : 0 ≤ dc2)
    (h6 : dc2 < ((x2).size : Int))
    (h7 : SC cfg.P i_spec_l1Cur_pick [.s (.mbx (.pr (.sl (.int .u8)) (.pr (.int .i64) (.int .u64))) dc2o0), .s (.v (.int .i64) (3 : Int))] (.s (.v (.int .i64) dc3)) [.box (.pr (.sl (.int .u8)) (.pr (.int .i64) (.int .u64))) dc3o0])
    (h8 : dc3 ≠ (0 : Int))
    (h9 : dc3 = (1 : Int))
    (h10 : 0 ≤ dc1)
    (h11 : dc1 ≤ ((x1).size : Int))
    (h12 : ((ByteArray.extract x1 ((0 : Int)).toNat (dc1).toNat)).size + ((strOf ([(bt x2 dc2)] : List Int))).size ≤ 2 ^ 62)
    (h13 : 0 ≤ (IntKind.wrap .i64 (dc1 + (1 : Int))))
    (h14 : (IntKind.wrap .i64 (dc1 + (1 : Int))) ≤ ((x1).size : Int))
    (h15 : (((ByteArray.extract x1 ((0 : Int)).toNat (dc1).toNat) ++ (strOf ([(bt x2 dc2)] : List Int)))).size + ((ByteArray.extract x1 ((IntKind.wrap .i64 (dc1 + (1 : Int)))).toNat (((x1).size : Int)).toNat)).size ≤ 2 ^ 62)
    {e : AEx} {st : St} (next : LoopSC cfg.P 3 (lb P_spec_l1Cur_spoilt 0) (spec_l1Cur_spoilt_L0a (((ByteArray.extract x1 ((0 : Int)).toNat (dc1).toNat) ++ (strOf ([(bt x2 dc2)] : List Int))) ++ (ByteArray.extract x1 ((IntKind.wrap .i64 (dc1 + (1 : Int)))).toNat (((x1).size : Int)).toNat)) x2 (IntKind.wrap .i64 (x7 - (1 : Int))) dc3o0) e st) :
    LoopSC cfg.P 3 (lb P_spec_l1Cur_spoilt 0) (spec_l1Cur_spoilt_L0a x1 x2 x7 xo0) e st :=
  loop_iter cfgOK (f := i_spec_l1Cur_spoilt) (its := [.bool true, .bool true, .res (.s (.v (.int .i64) dc1)) [.box (.pr (.sl (.int .u8)) (.pr (.int .i64) (.int .u64))) dc1o0] [] [], .res (.s (.v (.int .i64) dc2)) [.box (.pr (.sl (.int .u8)) (.pr (.int .i64) (.int .u64))) dc2o0] [] [], .res (.s (.v (.int .i64) dc3)) [.box (.pr (.sl (.int .u8)) (.pr (.int .i64) (.int .u64))) dc3o0] [] [], .bool false, .bool true])
    (ps := [decide (x7 > (0 : Int)) = true,
      decide (((x1).size : Int) > (0 : Int)) = true,
      SC cfg.P i_spec_l1Cur_pick [.s (.mbx (.pr (.sl (.int .u8)) (.pr (.int .i64) (.int .u64))) xo0), .s (.v (.int .i64) ((x1).size : Int))] (.s (.v (.int .i64) dc1)) [.box (.pr (.sl (.int .u8)) (.pr (.int .i64) (.int .u64))) dc1o0],
      SC cfg.P i_spec_l1Cur_pick [.s (.mbx (.pr (.sl (.int .u8)) (.pr (.int .i64) (.int .u64))) dc1o0), .s (.v (.int .i64) ((x2).size : Int))] (.s (.v (.int .i64) dc2)) [.box (.pr (.sl (.int .u8)) (.pr (.int .i64) (.int .u64))) dc2o0],
      0 ≤ dc2,
      dc2 < ((x2).size : Int),
      SC cfg.P i_spec_l1Cur_pick [.s (.mbx (.pr (.sl (.int .u8)) (.pr (.int .i64) (.int .u64))) dc2o0), .s (.v (.int .i64) (3 : Int))] (.s (.v (.int .i64) dc3)) [.box (.pr (.sl (.int .u8)) (.pr (.int .i64) (.int .u64))) dc3o0],
      (dc3 == (0 : Int)) = false,
      (dc3 == (1 : Int)) = true,
      0 ≤ dc1,
      dc1 ≤ ((x1).size : Int),
      ((ByteArray.extract x1 ((0 : Int)).toNat (dc1).toNat)).size + ((strOf ([(bt x2 dc2)] : List Int))).size ≤ 2 ^ 62,
      0 ≤ (IntKind.wrap .i64 (dc1 + (1 : Int))),
      (IntKind.wrap .i64 (dc1 + (1 : Int))) ≤ ((x1).size : Int),
      (((ByteArray.extract x1 ((0 : Int)).toNat (dc1).toNat) ++ (strOf ([(bt x2 dc2)] : List Int)))).size + ((ByteArray.extract x1 ((IntKind.wrap .i64 (dc1 + (1 : Int)))).toNat (((x1).size : Int)).toNat)).size ≤ 2 ^ 62]) (st1 := spec_l1Cur_spoilt_L0a (((ByteArray.extract x1 ((0 : Int)).toNat (dc1).toNat) ++ (strOf ([(bt x2 dc2)] : List Int))) ++ (ByteArray.extract x1 ((IntKind.wrap .i64 (dc1 + (1 : Int)))).toNat (((x1).size : Int)).toNat)) x2 (IntKind.wrap .i64 (x7 - (1 : Int))) dc3o0) (by kernel_rfl) ⟨(decide_eq_true h1), (decide_eq_true h2), h3, h4, h5, h6, h7, (beq_eq_false_iff_ne.mpr h8), (beq_iff_eq.mpr h9), h10, h11, h12, h13, h14, h15, trivial⟩ next

theorem spec_l1Cur_spoilt_L0a_i3 (x1 : ByteArray) (x2 : ByteArray) (x7 : Int) (xo0 : ((List Int) × (Int × Int))) (dc1 : Int) (dc1o0 : ((List Int) × (Int × Int))) (dc2 : Int) (dc2o0 : ((List Int) × (Int × Int))) (dc3 : Int) (dc3o0 : ((List Int) × (Int × Int)))
    (h1 : x7 > (0 : Int))
    (h2 : ((x1).size : Int) > (0 : Int))
    (h3 : SC cfg.P i_spec_l1Cur_pick [.s (.mbx (.pr (.sl (.int .u8)) (.pr (.int .i64) (.int .u64))) xo0), .s (.v (.int .i64) ((x1).size : Int))] (.s (.v (.int .i64) dc1)) [.box (.pr (.sl (.int .u8)) (.pr (.int .i64) (.int .u64))) dc1o0])
    (h4 : SC cfg.P i_spec_l1Cur_pick [.s (.mbx (.pr (.sl (.int .u8)) (.pr (.int .i64) (.int .u64))) dc1o0), .s (.v (.int .i64) ((x2).size : Int))] (.s (.v (.int .i64) dc2)) [.box (.pr (.sl (.int .u8)) (.pr (.int .i64) (.int .u64))) dc2o0])
    (h5 : 0 ≤ dc2)
    (h6 : dc2 < ((x2).size : Int))
    (h7 : SC cfg.P i_spec_l1Cur_pick [.s (.mbx (.pr (.sl (.int .u8)) (.pr (.int .i64) (.int .u64))) dc2o0), .s (.v (.int .i64) (3 : Int))] (.s (.v (.int .i64) dc3)) [.box (.pr (.sl (.int .u8)) (.pr (.int .i64) (.int .u64))) dc3o0])
    (h8 : dc3 ≠ (0 : Int))
    (h9 : dc3 ≠ (1 : Int))
    (h10 : 0 ≤ dc1)
    (h11 : dc1 ≤ ((x1).size : Int))
    (h12 : 0 ≤ (IntKind.wrap .i64 (dc1 + (1 : Int))))
    (h13 : (IntKind.wrap .i64 (dc1 + (1 : Int))) ≤ ((x1).size : Int))
    (h14 : ((ByteArray.extract x1 ((0 : Int)).toNat (dc1).toNat)).size + ((ByteArray.extract x1 ((IntKind.wrap .i64 (dc1 + (1 : Int)))).toNat (((x1).size : Int)).toNat)).size ≤ 2 ^ 62)
    {e : AEx} {st : St} (next : LoopSC cfg.P 3 (lb P_spec_l1Cur_spoilt 0) (spec_l1Cur_spoilt_L0a ((ByteArray.extract x1 ((0 : Int)).toNat (dc1).toNat) ++ (ByteArray.extract x1 ((IntKind.wrap .i64 (dc1 + (1 : Int)))).toNat (((x1).size : Int)).toNat)) x2 (IntKind.wrap .i64 (x7 - (1 : Int))) dc3o0) e st) :
    LoopSC cfg.P 3 (lb P_spec_l1Cur_spoilt 0) (spec_l1Cur_spoilt_L0a x1 x2 x7 xo0) e st :=
  loop_iter cfgOK (f := i_spec_l1Cur_spoilt) (its := [.bool true, .bool true, .res (.s (.v (.int .i64) dc1)) [.box (.pr (.sl (.int .u8)) (.pr (.int .i64) (.int .u64))) dc1o0] [] [], .res (.s (.v (.int .i64) dc2)) [.box (.pr (.sl (.int .u8)) (.pr (.int .i64) (.int .u64))) dc2o0] [] [], .res (.s (.v (.int .i64) dc3)) [.box (.pr (.sl (.int .u8)) (.pr (.int .i64) (.int .u64))) dc3o0] [] [], .bool false, .bool false])
    (ps := [decide (x7 > (0 : Int)) = true,
      decide (((x1).size : Int) > (0 : Int)) = true,
      SC cfg.P i_spec_l1Cur_pick [.s (.mbx (.pr (.sl (.int .u8)) (.pr (.int .i64) (.int .u64))) xo0), .s (.v (.int .i64) ((x1).size : Int))] (.s (.v (.int .i64) dc1)) [.box (.pr (.sl (.int .u8)) (.pr (.int .i64) (.int .u64))) dc1o0],
      SC cfg.P i_spec_l1Cur_pick [.s (.mbx (.pr (.sl (.int .u8)) (.pr (.int .i64) (.int .u64))) dc1o0), .s (.v (.int .i64) ((x2).size : Int))] (.s (.v (.int .i64) dc2)) [.box (.pr (.sl (.int .u8)) (.pr (.int .i64) (.int .u64))) dc2o0],
      0 ≤ dc2,
      dc2 < ((x2).size : Int),
      SC cfg.P i_spec_l1Cur_pick [.s (.mbx (.pr (.sl (.int .u8)) (.pr (.int .i64) (.int .u64))) dc2o0), .s (.v (.int .i64) (3 : Int))] (.s (.v (.int .i64) dc3)) [.box (.pr (.sl (.int .u8)) (.pr (.int .i64) (.int .u64))) dc3o0],
      (dc3 == (0 : Int)) = false,
      (dc3 == (1 : Int)) = false,
      0 ≤ dc1,
      dc1 ≤ ((x1).size : Int),
      0 ≤ (IntKind.wrap .i64 (dc1 + (1 : Int))),
      (IntKind.wrap .i64 (dc1 + (1 : Int))) ≤ ((x1).size : Int),
      ((ByteArray.extract x1 ((0 : Int)).toNat (dc1).toNat)).size + ((ByteArray.extract x1 ((IntKind.wrap .i64 (dc1 + (1 : Int)))).toNat (((x1).size : Int)).toNat)).size ≤ 2 ^ 62]) (st1 := spec_l1Cur_spoilt_L0a ((ByteArray.extract x1 ((0 : Int)).toNat (dc1).toNat) ++ (ByteArray.extract x1 ((IntKind.wrap .i64 (dc1 + (1 : Int)))).toNat (((x1).size : Int)).toNat)) x2 (IntKind.wrap .i64 (x7 - (1 : Int))) dc3o0) (by kernel_rfl) ⟨(decide_eq_true h1), (decide_eq_true h2), h3, h4, h5, h6, h7, (beq_eq_false_iff_ne.mpr h8), (beq_eq_false_iff_ne.mpr h9), h10, h11, h12, h13, h14, trivial⟩ next

theorem spec_l1Cur_spoilt_L0a_x4 (x1 : ByteArray) (x2 : ByteArray) (x7 : Int) (xo0 : ((List Int) × (Int × Int)))
    (h1 : x7 > (0 : Int))
    (h2 : ¬ (((x1).size : Int) > (0 : Int))) :
    LoopSC cfg.P 3 (lb P_spec_l1Cur_spoilt 0) (spec_l1Cur_spoilt_L0a x1 x2 x7 xo0) (.exit 0) (spec_l1Cur_spoilt_L0X1 x1 x2 x7 false xo0) :=
  loop_out cfgOK (f := i_spec_l1Cur_spoilt) (its := [.bool true, .bool false])
    (ps := [decide (x7 > (0 : Int)) = true,
      decide (((x1).size : Int) > (0 : Int)) = false]) (by kernel_rfl) ⟨(decide_eq_true h1), (decide_eq_false h2), trivial⟩ (fun h => by cases h)

theorem spec_l1Cur_spoilt_L0a_x5 (x1 : ByteArray) (x2 : ByteArray) (x7 : Int) (xo0 : ((List Int) × (Int × Int)))
    (h1 : ¬ (x7 > (0 : Int))) :
    LoopSC cfg.P 3 (lb P_spec_l1Cur_spoilt 0) (spec_l1Cur_spoilt_L0a x1 x2 x7 xo0) (.exit 0) (spec_l1Cur_spoilt_L0X1 x1 x2 x7 false xo0) :=
  loop_out cfgOK (f := i_spec_l1Cur_spoilt) (its := [.bool false])
    (ps := [decide (x7 > (0 : Int)) = false]) (by kernel_rfl) ⟨(decide_eq_false h1), trivial⟩ (fun h => by cases h)

theorem spec_l1Cur_spoilt_p1 (a0 : ((List Int) × (Int × Int))) (a1 : ByteArray) (a2 : ByteArray) (c1 : Int) (c1o0 : ((List Int) × (Int × Int))) (k1y1 : ByteArray) (k1y2 : ByteArray) (k1y7 : Int) (k1y19 : Bool) (k1yo0 : ((List Int) × (Int × Int)))
    (h1 : SC cfg.P i_spec_l1Cur_pick [.s (.mbx (.pr (.sl (.int .u8)) (.pr (.int .i64) (.int .u64))) a0), .s (.v (.int .i64) (2 : Int))] (.s (.v (.int .i64) c1)) [.box (.pr (.sl (.int .u8)) (.pr (.int .i64) (.int .u64))) c1o0])
    (h2 : LoopSC cfg.P 3 (lb P_spec_l1Cur_spoilt 0) (spec_l1Cur_spoilt_L0a a1 a2 (IntKind.wrap .i64 ((1 : Int) + c1)) c1o0) (.exit 0) (spec_l1Cur_spoilt_L0X1 k1y1 k1y2 k1y7 k1y19 k1yo0)) :
    SC cfg.P i_spec_l1Cur_spoilt [.s (.mbx (.pr (.sl (.int .u8)) (.pr (.int .i64) (.int .u64))) a0), .s (.v .str a1), .s (.v .str a2)] (.s (.v .str k1y1)) [.box (.pr (.sl (.int .u8)) (.pr (.int .i64) (.int .u64))) k1yo0] :=
  SC_of_run cfgOK (its := [.res (.s (.v (.int .i64) c1)) [.box (.pr (.sl (.int .u8)) (.pr (.int .i64) (.int .u64))) c1o0] [] [], .loop (fun _ => (.exit 0, spec_l1Cur_spoilt_L0X1 k1y1 k1y2 k1y7 k1y19 k1yo0))])
    (ps := [SC cfg.P i_spec_l1Cur_pick [.s (.mbx (.pr (.sl (.int .u8)) (.pr (.int .i64) (.int .u64))) a0), .s (.v (.int .i64) (2 : Int))] (.s (.v (.int .i64) c1)) [.box (.pr (.sl (.int .u8)) (.pr (.int .i64) (.int .u64))) c1o0],
      LoopSC cfg.P 3 (lb P_spec_l1Cur_spoilt 0) (spec_l1Cur_spoilt_L0a a1 a2 (IntKind.wrap .i64 ((1 : Int) + c1)) c1o0) (.exit 0) (spec_l1Cur_spoilt_L0X1 k1y1 k1y2 k1y7 k1y19 k1yo0)]) (by kernel_rfl) ⟨h1, h2, trivial⟩ get_spec_l1Cur_spoilt (by decide)

/-! ### spec_prGenerator -/


theorem spec_prGenerator_p1 (a0 : Int) (c1 : ByteArray) (c2 : ByteArray) (c3 : ByteArray)
    (h1 : SC cfg.P i_spec_trRight [.s (.v (.int .i64) a0)] (.s (.v .str c1)) [])
    (h2 : SC cfg.P i_spec_trGraft [.s (.v .str c1), .s (.v (.int .i64) a0), .s (.v .str (⟨#[40, 40, 46, 46, 41, 46, 41]⟩ : ByteArray))] (.s (.v .str c2)) [])
    (h3 : SC cfg.P i_spec_trRight [.s (.v (.int .i64) (IntKind.wrap .i64 (a0 + (2 : Int))))] (.s (.v .str c3)) []) :
    SC cfg.P i_spec_prGenerator [.s (.v (.int .i64) a0)] (.s (.v (.pr .str .str) (c2, c3))) [] :=
  SC_of_run cfgOK (its := [.res (.s (.v .str c1)) [] [] [], .res (.s (.v .str c2)) [] [] [], .res (.s (.v .str c3)) [] [] []])
    (ps := [SC cfg.P i_spec_trRight [.s (.v (.int .i64) a0)] (.s (.v .str c1)) [],
      SC cfg.P i_spec_trGraft [.s (.v .str c1), .s (.v (.int .i64) a0), .s (.v .str (⟨#[40, 40, 46, 46, 41, 46, 41]⟩ : ByteArray))] (.s (.v .str c2)) [],
      SC cfg.P i_spec_trRight [.s (.v (.int .i64) (IntKind.wrap .i64 (a0 + (2 : Int))))] (.s (.v .str c3)) []]) (by kernel_rfl) ⟨h1, h2, h3, trivial⟩ get_spec_prGenerator (by decide)

/-! ### spec_l1Cur_sureTree -/


def spec_l1Cur_sureTree_L0a (x1 : Int) (x5 : ByteArray) (x6 : Int) (xo0 : ((List Int) × (Int × Int))) : St := mkSt 19 [(0, .s (.adr 0 none)), (1, .s (.v (.int .i64) x1)), (5, .s (.v .str x5)), (6, .s (.v (.int .i64) x6))] [(0, .box (.pr (.sl (.int .u8)) (.pr (.int .i64) (.int .u64))) xo0 false)]

def spec_l1Cur_sureTree_L0X1 (y1 : Int) (y5 : ByteArray) (y6 : Int) (y9 : Bool) (yo0 : ((List Int) × (Int × Int))) : St := mkSt 19 [(0, .s (.adr 0 none)), (1, .s (.v (.int .i64) y1)), (5, .s (.v .str y5)), (6, .s (.v (.int .i64) y6)), (9, .s (.v .bool y9))] [(0, .box (.pr (.sl (.int .u8)) (.pr (.int .i64) (.int .u64))) yo0 false)]

theorem spec_l1Cur_sureTree_L0a_i1 (x1 : Int) (x5 : ByteArray) (x6 : Int) (xo0 : ((List Int) × (Int × Int))) (dc1 : Int) (dc1o0 : ((List Int) × (Int × Int))) (dc2 : ByteArray)
    (h1 : x6 < x1)
    (h2 : SC cfg.P i_spec_l1Cur_pick [.s (.mbx (.pr (.sl (.int .u8)) (.pr (.int .i64) (.int .u64))) xo0), .s (.v (.int .i64) (IntKind.wrap .i64 (x6 + (1 : Int))))] (.s (.v (.int .i64) dc1)) [.box (.pr (.sl (.int .u8)) (.pr (.int .i64) (.int .u64))) dc1o0])
    (h3 : SC cfg.P i_spec_trGraft [.s (.v .str x5), .s (.v (.int .i64) dc1), .s (.v .str (⟨#[40, 46, 46, 41]⟩ : ByteArray))] (.s (.v .str dc2)) [])
    {e : AEx} {st : St} (next : LoopSC cfg.P 2 (lb P_spec_l1Cur_sureTree 0) (spec_l1Cur_sureTree_L0a x1 dc2 (IntKind.wrap .i64 (x6 + (1 : Int))) dc1o0) e st) :
    LoopSC cfg.P 2 (lb P_spec_l1Cur_sureTree 0) (spec_l1Cur_sureTree_L0a x1 x5 x6 xo0) e st :=
  loop_iter cfgOK (f := i_spec_l1Cur_sureTree) (its := [.bool true, .res (.s (.v (.int .i64) dc1)) [.box (.pr (.sl (.int .u8)) (.pr (.int .i64) (.int .u64))) dc1o0] [] [], .res (.s (.v .str dc2)) [] [] []])
    (ps := [decide (x6 < x1) = true,
      SC cfg.P i_spec_l1Cur_pick [.s (.mbx (.pr (.sl (.int .u8)) (.pr (.int .i64) (.int .u64))) xo0), .s (.v (.int .i64) (IntKind.wrap .i64 (x6 + (1 : Int))))] (.s (.v (.int .i64) dc1)) [.box (.pr (.sl (.int .u8)) (.pr (.int .i64) (.int .u64))) dc1o0],
      SC cfg.P i_spec_trGraft [.s (.v .str x5), .s (.v (.int .i64) dc1), .s (.v .str (⟨#[40, 46, 46, 41]⟩ : ByteArray))] (.s (.v .str dc2)) []]) (st1 := spec_l1Cur_sureTree_L0a x1 dc2 (IntKind.wrap .i64 (x6 + (1 : Int))) dc1o0) (by kernel_rfl) ⟨(decide_eq_true h1), h2, h3, trivial⟩ next

theorem spec_l1Cur_sureTree_L0a_x2 (x1 : Int) (x5 : ByteArray) (x6 : Int) (xo0 : ((List Int) × (Int × Int)))
    (h1 : ¬ (x6 < x1)) :
    LoopSC cfg.P 2 (lb P_spec_l1Cur_sureTree 0) (spec_l1Cur_sureTree_L0a x1 x5 x6 xo0) (.exit 0) (spec_l1Cur_sureTree_L0X1 x1 x5 x6 false xo0) :=
  loop_out cfgOK (f := i_spec_l1Cur_sureTree) (its := [.bool false])
    (ps := [decide (x6 < x1) = false]) (by kernel_rfl) ⟨(decide_eq_false h1), trivial⟩ (fun h => by cases h)

theorem spec_l1Cur_sureTree_p1 (a0 : ((List Int) × (Int × Int))) (a1 : Int) (k1y1 : Int) (k1y5 : ByteArray) (k1y6 : Int) (k1y9 : Bool) (k1yo0 : ((List Int) × (Int × Int)))
    (h1 : LoopSC cfg.P 2 (lb P_spec_l1Cur_sureTree 0) (spec_l1Cur_sureTree_L0a a1 (⟨#[46]⟩ : ByteArray) (0 : Int) a0) (.exit 0) (spec_l1Cur_sureTree_L0X1 k1y1 k1y5 k1y6 k1y9 k1yo0)) :
    SC cfg.P i_spec_l1Cur_sureTree [.s (.mbx (.pr (.sl (.int .u8)) (.pr (.int .i64) (.int .u64))) a0), .s (.v (.int .i64) a1)] (.s (.v .str k1y5)) [.box (.pr (.sl (.int .u8)) (.pr (.int .i64) (.int .u64))) k1yo0] :=
  SC_of_run cfgOK (its := [.loop (fun _ => (.exit 0, spec_l1Cur_sureTree_L0X1 k1y1 k1y5 k1y6 k1y9 k1yo0))])
    (ps := [LoopSC cfg.P 2 (lb P_spec_l1Cur_sureTree 0) (spec_l1Cur_sureTree_L0a a1 (⟨#[46]⟩ : ByteArray) (0 : Int) a0) (.exit 0) (spec_l1Cur_sureTree_L0X1 k1y1 k1y5 k1y6 k1y9 k1yo0)]) (by kernel_rfl) ⟨h1, trivial⟩ get_spec_l1Cur_sureTree (by decide)

/-! ### spec_l1Cur_next -/


theorem spec_l1Cur_next_p1 (a0 : ((List Int) × (Int × Int)))
    (h1 : a0.2.1 < ((List.length a0.1 : Nat) : Int))
    (h2 : 0 ≤ a0.2.1)
    (h3 : a0.2.1 < (List.length a0.1 : Int))
    (h4 : (IntKind.wrap .i64 (a0.2.1 + (1 : Int))) ≤ ((List.length a0.1 : Nat) : Int)) :
    SC cfg.P i_spec_l1Cur_next [.s (.mbx (.pr (.sl (.int .u8)) (.pr (.int .i64) (.int .u64))) a0)] (.s (.v (.int .i64) (IntKind.wrap .i64 (List.getD a0.1 (a0.2.1).toNat (0 : Int))))) [.box (.pr (.sl (.int .u8)) (.pr (.int .i64) (.int .u64))) (a0.1, ((IntKind.wrap .i64 (a0.2.1 + (1 : Int))), (IntKind.wrap .u64 ((IntKind.wrap .u64 ((IntKind.wrap .u64 (a0.2.2 * (6364136223846793005 : Int))) + (IntKind.wrap .u64 (IntKind.wrap .i64 (List.getD a0.1 (a0.2.1).toNat (0 : Int)))))) + (1442695040888963407 : Int)))))] :=
  SC_of_run cfgOK (its := [.bool true, .bool true])
    (ps := [decide (a0.2.1 < ((List.length a0.1 : Nat) : Int)) = true,
      0 ≤ a0.2.1,
      a0.2.1 < (List.length a0.1 : Int),
      decide ((IntKind.wrap .i64 (a0.2.1 + (1 : Int))) ≤ ((List.length a0.1 : Nat) : Int)) = true]) (by kernel_rfl) ⟨(decide_eq_true h1), h2, h3, (decide_eq_true h4), trivial⟩ get_spec_l1Cur_next (by decide)

theorem spec_l1Cur_next_p4 (a0 : ((List Int) × (Int × Int)))
    (h1 : ¬ (a0.2.1 < ((List.length a0.1 : Nat) : Int)))
    (h2 : ¬ ((IntKind.wrap .i64 (a0.2.1 + (1 : Int))) ≤ ((List.length a0.1 : Nat) : Int))) :
    SC cfg.P i_spec_l1Cur_next [.s (.mbx (.pr (.sl (.int .u8)) (.pr (.int .i64) (.int .u64))) a0)] (.s (.v (.int .i64) (IntKind.wrap .i64 (IntKind.wrap .u64 ((BitVec.ofInt (IntKind.bits .u64) (Int.fdiv (IntKind.wrap .u64 ((IntKind.wrap .u64 ((IntKind.wrap .u64 (a0.2.2 * (6364136223846793005 : Int))) + (IntKind.wrap .u64 (0 : Int)))) + (1442695040888963407 : Int))) (2 ^ (min ((40 : Int)).toNat (IntKind.bits .u64)))) &&& BitVec.ofInt (IntKind.bits .u64) (255 : Int)).toNat))))) [.box (.pr (.sl (.int .u8)) (.pr (.int .i64) (.int .u64))) (a0.1, ((IntKind.wrap .i64 (a0.2.1 + (1 : Int))), (IntKind.wrap .u64 ((IntKind.wrap .u64 ((IntKind.wrap .u64 (a0.2.2 * (6364136223846793005 : Int))) + (IntKind.wrap .u64 (0 : Int)))) + (1442695040888963407 : Int)))))] :=
  SC_of_run cfgOK (its := [.bool false, .bool false])
    (ps := [decide (a0.2.1 < ((List.length a0.1 : Nat) : Int)) = false,
      decide ((IntKind.wrap .i64 (a0.2.1 + (1 : Int))) ≤ ((List.length a0.1 : Nat) : Int)) = false,
      0 ≤ (40 : Int)]) (by kernel_rfl) ⟨(decide_eq_false h1), (decide_eq_false h2), (by decide), trivial⟩ get_spec_l1Cur_next (by decide)

/-! ### spec_trGraft -/


def spec_trGraft_L0a (x0 : ByteArray) (x1 : Int) (x2 : ByteArray) (x7 : Int) (x8 : Int) : St := mkSt 35 [(0, .s (.v .str x0)), (1, .s (.v (.int .i64) x1)), (2, .s (.v .str x2)), (7, .s (.v (.int .i64) x7)), (8, .s (.v (.int .i64) x8))] []

def spec_trGraft_L0X1 (y6 : ByteArray) : St := mkSt 35 [(6, .s (.v .str y6))] []

theorem spec_trGraft_L0a_x1 (x0 : ByteArray) (x1 : Int) (x2 : ByteArray) (x7 : Int) (x8 : Int)
    (h1 : x8 < ((x0).size : Int))
    (h2 : 0 ≤ x8)
    (h3 : (bt x0 x8) = (46 : Int))
    (h4 : (IntKind.wrap .i64 (x7 + (1 : Int))) = x1)
    (h5 : x8 ≤ ((x0).size : Int))
    (h6 : ((ByteArray.extract x0 ((0 : Int)).toNat (x8).toNat)).size + (x2).size ≤ 2 ^ 62)
    (h7 : 0 ≤ (IntKind.wrap .i64 (x8 + (1 : Int))))
    (h8 : (IntKind.wrap .i64 (x8 + (1 : Int))) ≤ ((x0).size : Int))
    (h9 : (((ByteArray.extract x0 ((0 : Int)).toNat (x8).toNat) ++ x2)).size + ((ByteArray.extract x0 ((IntKind.wrap .i64 (x8 + (1 : Int)))).toNat (((x0).size : Int)).toNat)).size ≤ 2 ^ 62) :
    LoopSC cfg.P 3 (lb P_spec_trGraft 0) (spec_trGraft_L0a x0 x1 x2 x7 x8) (.ret) (spec_trGraft_L0X1 (((ByteArray.extract x0 ((0 : Int)).toNat (x8).toNat) ++ x2) ++ (ByteArray.extract x0 ((IntKind.wrap .i64 (x8 + (1 : Int)))).toNat (((x0).size : Int)).toNat))) :=
  loop_out cfgOK (f := i_spec_trGraft) (its := [.bool true, .bool true, .bool true])
    (ps := [decide (x8 < ((x0).size : Int)) = true,
      0 ≤ x8,
      x8 < ((x0).size : Int),
      ((bt x0 x8) == (46 : Int)) = true,
      ((IntKind.wrap .i64 (x7 + (1 : Int))) == x1) = true,
      0 ≤ x8,
      x8 ≤ ((x0).size : Int),
      ((ByteArray.extract x0 ((0 : Int)).toNat (x8).toNat)).size + (x2).size ≤ 2 ^ 62,
      0 ≤ (IntKind.wrap .i64 (x8 + (1 : Int))),
      (IntKind.wrap .i64 (x8 + (1 : Int))) ≤ ((x0).size : Int),
      (((ByteArray.extract x0 ((0 : Int)).toNat (x8).toNat) ++ x2)).size + ((ByteArray.extract x0 ((IntKind.wrap .i64 (x8 + (1 : Int)))).toNat (((x0).size : Int)).toNat)).size ≤ 2 ^ 62]) (by kernel_rfl) ⟨(decide_eq_true h1), h2, h1, (beq_iff_eq.mpr h3), (beq_iff_eq.mpr h4), h2, h5, h6, h7, h8, h9, trivial⟩ (fun h => by cases h)

theorem spec_trGraft_L0a_i2 (x0 : ByteArray) (x1 : Int) (x2 : ByteArray) (x7 : Int) (x8 : Int)
    (h1 : x8 < ((x0).size : Int))
    (h2 : 0 ≤ x8)
    (h3 : (bt x0 x8) = (46 : Int))
    (h4 : (IntKind.wrap .i64 (x7 + (1 : Int))) ≠ x1)
    {e : AEx} {st : St} (next : LoopSC cfg.P 3 (lb P_spec_trGraft 0) (spec_trGraft_L0a x0 x1 x2 (IntKind.wrap .i64 (x7 + (1 : Int))) (IntKind.wrap .i64 (x8 + (1 : Int)))) e st) :
    LoopSC cfg.P 3 (lb P_spec_trGraft 0) (spec_trGraft_L0a x0 x1 x2 x7 x8) e st :=
  loop_iter cfgOK (f := i_spec_trGraft) (its := [.bool true, .bool true, .bool false])
    (ps := [decide (x8 < ((x0).size : Int)) = true,
      0 ≤ x8,
      x8 < ((x0).size : Int),
      ((bt x0 x8) == (46 : Int)) = true,
      ((IntKind.wrap .i64 (x7 + (1 : Int))) == x1) = false]) (st1 := spec_trGraft_L0a x0 x1 x2 (IntKind.wrap .i64 (x7 + (1 : Int))) (IntKind.wrap .i64 (x8 + (1 : Int)))) (by kernel_rfl) ⟨(decide_eq_true h1), h2, h1, (beq_iff_eq.mpr h3), (beq_eq_false_iff_ne.mpr h4), trivial⟩ next

theorem spec_trGraft_L0a_i4 (x0 : ByteArray) (x1 : Int) (x2 : ByteArray) (x7 : Int) (x8 : Int)
    (h1 : x8 < ((x0).size : Int))
    (h2 : 0 ≤ x8)
    (h3 : (bt x0 x8) ≠ (46 : Int))
    (h4 : x7 ≠ x1)
    {e : AEx} {st : St} (next : LoopSC cfg.P 3 (lb P_spec_trGraft 0) (spec_trGraft_L0a x0 x1 x2 x7 (IntKind.wrap .i64 (x8 + (1 : Int)))) e st) :
    LoopSC cfg.P 3 (lb P_spec_trGraft 0) (spec_trGraft_L0a x0 x1 x2 x7 x8) e st :=
  loop_iter cfgOK (f := i_spec_trGraft) (its := [.bool true, .bool false, .bool false])
    (ps := [decide (x8 < ((x0).size : Int)) = true,
      0 ≤ x8,
      x8 < ((x0).size : Int),
      ((bt x0 x8) == (46 : Int)) = false,
      (x7 == x1) = false]) (st1 := spec_trGraft_L0a x0 x1 x2 x7 (IntKind.wrap .i64 (x8 + (1 : Int)))) (by kernel_rfl) ⟨(decide_eq_true h1), h2, h1, (beq_eq_false_iff_ne.mpr h3), (beq_eq_false_iff_ne.mpr h4), trivial⟩ next

theorem spec_trGraft_p1 (a0 : ByteArray) (a1 : Int) (a2 : ByteArray) (k1y6 : ByteArray)
    (h1 : LoopSC cfg.P 3 (lb P_spec_trGraft 0) (spec_trGraft_L0a a0 a1 a2 (-1 : Int) (0 : Int)) (.ret) (spec_trGraft_L0X1 k1y6)) :
    SC cfg.P i_spec_trGraft [.s (.v .str a0), .s (.v (.int .i64) a1), .s (.v .str a2)] (.s (.v .str k1y6)) [] :=
  SC_of_run cfgOK (its := [.loop (fun _ => (.ret, spec_trGraft_L0X1 k1y6))])
    (ps := [LoopSC cfg.P 3 (lb P_spec_trGraft 0) (spec_trGraft_L0a a0 a1 a2 (-1 : Int) (0 : Int)) (.ret) (spec_trGraft_L0X1 k1y6)]) (by kernel_rfl) ⟨h1, trivial⟩ get_spec_trGraft (by decide)

/-! ### spec_trRight -/


def spec_trRight_L0a (x0 : Int) (x3 : ByteArray) : St := mkSt 11 [(0, .s (.v (.int .i64) x0)), (3, .s (.v .str x3))] []

def spec_trRight_L0X1 (y0 : Int) (y3 : ByteArray) (y5 : Bool) : St := mkSt 11 [(0, .s (.v (.int .i64) y0)), (3, .s (.v .str y3)), (5, .s (.v .bool y5))] []

theorem spec_trRight_L0a_i1 (x0 : Int) (x3 : ByteArray) (dc1 : ByteArray)
    (h1 : x0 > (0 : Int))
    (h2 : SC cfg.P i_spec_trOf [.s (.v .str (⟨#[46]⟩ : ByteArray)), .s (.v .str x3)] (.s (.v .str dc1)) [])
    {e : AEx} {st : St} (next : LoopSC cfg.P 1 (lb P_spec_trRight 0) (spec_trRight_L0a (IntKind.wrap .i64 (x0 - (1 : Int))) dc1) e st) :
    LoopSC cfg.P 1 (lb P_spec_trRight 0) (spec_trRight_L0a x0 x3) e st :=
  loop_iter cfgOK (f := i_spec_trRight) (its := [.bool true, .res (.s (.v .str dc1)) [] [] []])
    (ps := [decide (x0 > (0 : Int)) = true,
      SC cfg.P i_spec_trOf [.s (.v .str (⟨#[46]⟩ : ByteArray)), .s (.v .str x3)] (.s (.v .str dc1)) []]) (st1 := spec_trRight_L0a (IntKind.wrap .i64 (x0 - (1 : Int))) dc1) (by kernel_rfl) ⟨(decide_eq_true h1), h2, trivial⟩ next

theorem spec_trRight_L0a_x2 (x0 : Int) (x3 : ByteArray)
    (h1 : ¬ (x0 > (0 : Int))) :
    LoopSC cfg.P 1 (lb P_spec_trRight 0) (spec_trRight_L0a x0 x3) (.exit 0) (spec_trRight_L0X1 x0 x3 false) :=
  loop_out cfgOK (f := i_spec_trRight) (its := [.bool false])
    (ps := [decide (x0 > (0 : Int)) = false]) (by kernel_rfl) ⟨(decide_eq_false h1), trivial⟩ (fun h => by cases h)

theorem spec_trRight_p1 (a0 : Int) (k1y0 : Int) (k1y3 : ByteArray) (k1y5 : Bool)
    (h1 : LoopSC cfg.P 1 (lb P_spec_trRight 0) (spec_trRight_L0a a0 (⟨#[46]⟩ : ByteArray)) (.exit 0) (spec_trRight_L0X1 k1y0 k1y3 k1y5)) :
    SC cfg.P i_spec_trRight [.s (.v (.int .i64) a0)] (.s (.v .str k1y3)) [] :=
  SC_of_run cfgOK (its := [.loop (fun _ => (.exit 0, spec_trRight_L0X1 k1y0 k1y3 k1y5))])
    (ps := [LoopSC cfg.P 1 (lb P_spec_trRight 0) (spec_trRight_L0a a0 (⟨#[46]⟩ : ByteArray)) (.exit 0) (spec_trRight_L0X1 k1y0 k1y3 k1y5)]) (by kernel_rfl) ⟨h1, trivial⟩ get_spec_trRight (by decide)

end Go.AI
