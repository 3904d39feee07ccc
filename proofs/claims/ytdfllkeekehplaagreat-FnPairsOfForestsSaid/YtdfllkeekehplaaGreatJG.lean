/- A part of the road: what it proves stands in its last texts. -/
import Derived.Test.YtdfllkeekehplaaGreatSIds
import Derived.Test.YtdfllkeekehplaaGreatProg
import Derived.Test.YtdfllkeekehplaaGreatJF
import Derived.Test.YtdfllkeekehplaaGreatJD
import Derived.Test.YtdfllkeekehplaaGreatJE
import Derived.Test.YtdfllkeekehplaaGreatAiH
section
set_option autoImplicit false
set_option maxRecDepth 100000
set_option linter.unusedVariables false
namespace Go.AI
open Go.Proofs

/-! ### spec_l1Cur_pair -/


theorem spec_l1Cur_pair_p1 (a0 : ((List Int) × (Int × Int))) (a1 : Int) (c1 : Int) (c1o0 : ((List Int) × (Int × Int))) (c2 : (ByteArray × ByteArray)) (c2o0 : ((List Int) × (Int × Int))) (c3 : Int) (c3o0 : ((List Int) × (Int × Int))) (c4 : ByteArray) (c4o0 : ((List Int) × (Int × Int)))
    (h1 : SC cfg.P i_spec_l1Cur_pick [.s (.mbx (.pr (.sl (.int .u8)) (.pr (.int .i64) (.int .u64))) a0), .s (.v (.int .i64) (IntKind.wrap .i64 (a1 + (1 : Int))))] (.s (.v (.int .i64) c1)) [.box (.pr (.sl (.int .u8)) (.pr (.int .i64) (.int .u64))) c1o0])
    (h2 : SC cfg.P i_spec_l1Cur_surePair [.s (.mbx (.pr (.sl (.int .u8)) (.pr (.int .i64) (.int .u64))) c1o0), .s (.v (.int .i64) c1)] (.s (.v (.pr .str .str) c2)) [.box (.pr (.sl (.int .u8)) (.pr (.int .i64) (.int .u64))) c2o0])
    (h3 : SC cfg.P i_spec_l1Cur_pick [.s (.mbx (.pr (.sl (.int .u8)) (.pr (.int .i64) (.int .u64))) c2o0), .s (.v (.int .i64) (14 : Int))] (.s (.v (.int .i64) c3)) [.box (.pr (.sl (.int .u8)) (.pr (.int .i64) (.int .u64))) c3o0])
    (h4 : c3 = (0 : Int))
    (h5 : SC cfg.P i_spec_l1Cur_tree [.s (.mbx (.pr (.sl (.int .u8)) (.pr (.int .i64) (.int .u64))) c3o0), .s (.v (.int .i64) a1)] (.s (.v .str c4)) [.box (.pr (.sl (.int .u8)) (.pr (.int .i64) (.int .u64))) c4o0]) :
    SC cfg.P i_spec_l1Cur_pair [.s (.mbx (.pr (.sl (.int .u8)) (.pr (.int .i64) (.int .u64))) a0), .s (.v (.int .i64) a1)] (.s (.v (.pr .str .str) (c2.1, c4))) [.box (.pr (.sl (.int .u8)) (.pr (.int .i64) (.int .u64))) c4o0] :=
  SC_of_run cfgOK (its := [.res (.s (.v (.int .i64) c1)) [.box (.pr (.sl (.int .u8)) (.pr (.int .i64) (.int .u64))) c1o0] [] [], .res (.s (.v (.pr .str .str) c2)) [.box (.pr (.sl (.int .u8)) (.pr (.int .i64) (.int .u64))) c2o0] [] [], .res (.s (.v (.int .i64) c3)) [.box (.pr (.sl (.int .u8)) (.pr (.int .i64) (.int .u64))) c3o0] [] [], .bool true, .res (.s (.v .str c4)) [.box (.pr (.sl (.int .u8)) (.pr (.int .i64) (.int .u64))) c4o0] [] []])
    (ps := [SC cfg.P i_spec_l1Cur_pick [.s (.mbx (.pr (.sl (.int .u8)) (.pr (.int .i64) (.int .u64))) a0), .s (.v (.int .i64) (IntKind.wrap .i64 (a1 + (1 : Int))))] (.s (.v (.int .i64) c1)) [.box (.pr (.sl (.int .u8)) (.pr (.int .i64) (.int .u64))) c1o0],
      SC cfg.P i_spec_l1Cur_surePair [.s (.mbx (.pr (.sl (.int .u8)) (.pr (.int .i64) (.int .u64))) c1o0), .s (.v (.int .i64) c1)] (.s (.v (.pr .str .str) c2)) [.box (.pr (.sl (.int .u8)) (.pr (.int .i64) (.int .u64))) c2o0],
      SC cfg.P i_spec_l1Cur_pick [.s (.mbx (.pr (.sl (.int .u8)) (.pr (.int .i64) (.int .u64))) c2o0), .s (.v (.int .i64) (14 : Int))] (.s (.v (.int .i64) c3)) [.box (.pr (.sl (.int .u8)) (.pr (.int .i64) (.int .u64))) c3o0],
      (c3 == (0 : Int)) = true,
      SC cfg.P i_spec_l1Cur_tree [.s (.mbx (.pr (.sl (.int .u8)) (.pr (.int .i64) (.int .u64))) c3o0), .s (.v (.int .i64) a1)] (.s (.v .str c4)) [.box (.pr (.sl (.int .u8)) (.pr (.int .i64) (.int .u64))) c4o0]]) (by kernel_rfl) ⟨h1, h2, h3, (beq_iff_eq.mpr h4), h5, trivial⟩ get_spec_l1Cur_pair (by decide)

theorem spec_l1Cur_pair_p2 (a0 : ((List Int) × (Int × Int))) (a1 : Int) (c1 : Int) (c1o0 : ((List Int) × (Int × Int))) (c2 : (ByteArray × ByteArray)) (c2o0 : ((List Int) × (Int × Int))) (c3 : Int) (c3o0 : ((List Int) × (Int × Int))) (c4 : ByteArray) (c4o0 : ((List Int) × (Int × Int)))
    (h1 : SC cfg.P i_spec_l1Cur_pick [.s (.mbx (.pr (.sl (.int .u8)) (.pr (.int .i64) (.int .u64))) a0), .s (.v (.int .i64) (IntKind.wrap .i64 (a1 + (1 : Int))))] (.s (.v (.int .i64) c1)) [.box (.pr (.sl (.int .u8)) (.pr (.int .i64) (.int .u64))) c1o0])
    (h2 : SC cfg.P i_spec_l1Cur_surePair [.s (.mbx (.pr (.sl (.int .u8)) (.pr (.int .i64) (.int .u64))) c1o0), .s (.v (.int .i64) c1)] (.s (.v (.pr .str .str) c2)) [.box (.pr (.sl (.int .u8)) (.pr (.int .i64) (.int .u64))) c2o0])
    (h3 : SC cfg.P i_spec_l1Cur_pick [.s (.mbx (.pr (.sl (.int .u8)) (.pr (.int .i64) (.int .u64))) c2o0), .s (.v (.int .i64) (14 : Int))] (.s (.v (.int .i64) c3)) [.box (.pr (.sl (.int .u8)) (.pr (.int .i64) (.int .u64))) c3o0])
    (h4 : c3 ≠ (0 : Int))
    (h5 : c3 = (1 : Int))
    (h6 : SC cfg.P i_spec_l1Cur_spoilt [.s (.mbx (.pr (.sl (.int .u8)) (.pr (.int .i64) (.int .u64))) c3o0), .s (.v .str c2.1), .s (.v .str (⟨#[40, 46, 41]⟩ : ByteArray))] (.s (.v .str c4)) [.box (.pr (.sl (.int .u8)) (.pr (.int .i64) (.int .u64))) c4o0]) :
    SC cfg.P i_spec_l1Cur_pair [.s (.mbx (.pr (.sl (.int .u8)) (.pr (.int .i64) (.int .u64))) a0), .s (.v (.int .i64) a1)] (.s (.v (.pr .str .str) (c4, c2.2))) [.box (.pr (.sl (.int .u8)) (.pr (.int .i64) (.int .u64))) c4o0] :=
  SC_of_run cfgOK (its := [.res (.s (.v (.int .i64) c1)) [.box (.pr (.sl (.int .u8)) (.pr (.int .i64) (.int .u64))) c1o0] [] [], .res (.s (.v (.pr .str .str) c2)) [.box (.pr (.sl (.int .u8)) (.pr (.int .i64) (.int .u64))) c2o0] [] [], .res (.s (.v (.int .i64) c3)) [.box (.pr (.sl (.int .u8)) (.pr (.int .i64) (.int .u64))) c3o0] [] [], .bool false, .bool true, .res (.s (.v .str c4)) [.box (.pr (.sl (.int .u8)) (.pr (.int .i64) (.int .u64))) c4o0] [] []])
    (ps := [SC cfg.P i_spec_l1Cur_pick [.s (.mbx (.pr (.sl (.int .u8)) (.pr (.int .i64) (.int .u64))) a0), .s (.v (.int .i64) (IntKind.wrap .i64 (a1 + (1 : Int))))] (.s (.v (.int .i64) c1)) [.box (.pr (.sl (.int .u8)) (.pr (.int .i64) (.int .u64))) c1o0],
      SC cfg.P i_spec_l1Cur_surePair [.s (.mbx (.pr (.sl (.int .u8)) (.pr (.int .i64) (.int .u64))) c1o0), .s (.v (.int .i64) c1)] (.s (.v (.pr .str .str) c2)) [.box (.pr (.sl (.int .u8)) (.pr (.int .i64) (.int .u64))) c2o0],
      SC cfg.P i_spec_l1Cur_pick [.s (.mbx (.pr (.sl (.int .u8)) (.pr (.int .i64) (.int .u64))) c2o0), .s (.v (.int .i64) (14 : Int))] (.s (.v (.int .i64) c3)) [.box (.pr (.sl (.int .u8)) (.pr (.int .i64) (.int .u64))) c3o0],
      (c3 == (0 : Int)) = false,
      (c3 == (1 : Int)) = true,
      SC cfg.P i_spec_l1Cur_spoilt [.s (.mbx (.pr (.sl (.int .u8)) (.pr (.int .i64) (.int .u64))) c3o0), .s (.v .str c2.1), .s (.v .str (⟨#[40, 46, 41]⟩ : ByteArray))] (.s (.v .str c4)) [.box (.pr (.sl (.int .u8)) (.pr (.int .i64) (.int .u64))) c4o0]]) (by kernel_rfl) ⟨h1, h2, h3, (beq_eq_false_iff_ne.mpr h4), (beq_iff_eq.mpr h5), h6, trivial⟩ get_spec_l1Cur_pair (by decide)

theorem spec_l1Cur_pair_p3 (a0 : ((List Int) × (Int × Int))) (a1 : Int) (c1 : Int) (c1o0 : ((List Int) × (Int × Int))) (c2 : (ByteArray × ByteArray)) (c2o0 : ((List Int) × (Int × Int))) (c3 : Int) (c3o0 : ((List Int) × (Int × Int))) (c4 : Int) (c4o0 : ((List Int) × (Int × Int))) (c5 : (ByteArray × ByteArray)) (c5o0 : ((List Int) × (Int × Int)))
    (h1 : SC cfg.P i_spec_l1Cur_pick [.s (.mbx (.pr (.sl (.int .u8)) (.pr (.int .i64) (.int .u64))) a0), .s (.v (.int .i64) (IntKind.wrap .i64 (a1 + (1 : Int))))] (.s (.v (.int .i64) c1)) [.box (.pr (.sl (.int .u8)) (.pr (.int .i64) (.int .u64))) c1o0])
    (h2 : SC cfg.P i_spec_l1Cur_surePair [.s (.mbx (.pr (.sl (.int .u8)) (.pr (.int .i64) (.int .u64))) c1o0), .s (.v (.int .i64) c1)] (.s (.v (.pr .str .str) c2)) [.box (.pr (.sl (.int .u8)) (.pr (.int .i64) (.int .u64))) c2o0])
    (h3 : SC cfg.P i_spec_l1Cur_pick [.s (.mbx (.pr (.sl (.int .u8)) (.pr (.int .i64) (.int .u64))) c2o0), .s (.v (.int .i64) (14 : Int))] (.s (.v (.int .i64) c3)) [.box (.pr (.sl (.int .u8)) (.pr (.int .i64) (.int .u64))) c3o0])
    (h4 : c3 ≠ (0 : Int))
    (h5 : c3 ≠ (1 : Int))
    (h6 : c3 = (2 : Int))
    (h7 : SC cfg.P i_spec_l1Cur_pick [.s (.mbx (.pr (.sl (.int .u8)) (.pr (.int .i64) (.int .u64))) c3o0), .s (.v (.int .i64) (2 : Int))] (.s (.v (.int .i64) c4)) [.box (.pr (.sl (.int .u8)) (.pr (.int .i64) (.int .u64))) c4o0])
    (h8 : SC cfg.P i_spec_l1Cur_surePair [.s (.mbx (.pr (.sl (.int .u8)) (.pr (.int .i64) (.int .u64))) c4o0), .s (.v (.int .i64) (IntKind.wrap .i64 ((8 : Int) + c4)))] (.s (.v (.pr .str .str) c5)) [.box (.pr (.sl (.int .u8)) (.pr (.int .i64) (.int .u64))) c5o0]) :
    SC cfg.P i_spec_l1Cur_pair [.s (.mbx (.pr (.sl (.int .u8)) (.pr (.int .i64) (.int .u64))) a0), .s (.v (.int .i64) a1)] (.s (.v (.pr .str .str) c5)) [.box (.pr (.sl (.int .u8)) (.pr (.int .i64) (.int .u64))) c5o0] :=
  SC_of_run cfgOK (its := [.res (.s (.v (.int .i64) c1)) [.box (.pr (.sl (.int .u8)) (.pr (.int .i64) (.int .u64))) c1o0] [] [], .res (.s (.v (.pr .str .str) c2)) [.box (.pr (.sl (.int .u8)) (.pr (.int .i64) (.int .u64))) c2o0] [] [], .res (.s (.v (.int .i64) c3)) [.box (.pr (.sl (.int .u8)) (.pr (.int .i64) (.int .u64))) c3o0] [] [], .bool false, .bool false, .bool true, .res (.s (.v (.int .i64) c4)) [.box (.pr (.sl (.int .u8)) (.pr (.int .i64) (.int .u64))) c4o0] [] [], .res (.s (.v (.pr .str .str) c5)) [.box (.pr (.sl (.int .u8)) (.pr (.int .i64) (.int .u64))) c5o0] [] []])
    (ps := [SC cfg.P i_spec_l1Cur_pick [.s (.mbx (.pr (.sl (.int .u8)) (.pr (.int .i64) (.int .u64))) a0), .s (.v (.int .i64) (IntKind.wrap .i64 (a1 + (1 : Int))))] (.s (.v (.int .i64) c1)) [.box (.pr (.sl (.int .u8)) (.pr (.int .i64) (.int .u64))) c1o0],
      SC cfg.P i_spec_l1Cur_surePair [.s (.mbx (.pr (.sl (.int .u8)) (.pr (.int .i64) (.int .u64))) c1o0), .s (.v (.int .i64) c1)] (.s (.v (.pr .str .str) c2)) [.box (.pr (.sl (.int .u8)) (.pr (.int .i64) (.int .u64))) c2o0],
      SC cfg.P i_spec_l1Cur_pick [.s (.mbx (.pr (.sl (.int .u8)) (.pr (.int .i64) (.int .u64))) c2o0), .s (.v (.int .i64) (14 : Int))] (.s (.v (.int .i64) c3)) [.box (.pr (.sl (.int .u8)) (.pr (.int .i64) (.int .u64))) c3o0],
      (c3 == (0 : Int)) = false,
      (c3 == (1 : Int)) = false,
      (c3 == (2 : Int)) = true,
      SC cfg.P i_spec_l1Cur_pick [.s (.mbx (.pr (.sl (.int .u8)) (.pr (.int .i64) (.int .u64))) c3o0), .s (.v (.int .i64) (2 : Int))] (.s (.v (.int .i64) c4)) [.box (.pr (.sl (.int .u8)) (.pr (.int .i64) (.int .u64))) c4o0],
      SC cfg.P i_spec_l1Cur_surePair [.s (.mbx (.pr (.sl (.int .u8)) (.pr (.int .i64) (.int .u64))) c4o0), .s (.v (.int .i64) (IntKind.wrap .i64 ((8 : Int) + c4)))] (.s (.v (.pr .str .str) c5)) [.box (.pr (.sl (.int .u8)) (.pr (.int .i64) (.int .u64))) c5o0]]) (by kernel_rfl) ⟨h1, h2, h3, (beq_eq_false_iff_ne.mpr h4), (beq_eq_false_iff_ne.mpr h5), (beq_iff_eq.mpr h6), h7, h8, trivial⟩ get_spec_l1Cur_pair (by decide)

theorem spec_l1Cur_pair_p4 (a0 : ((List Int) × (Int × Int))) (a1 : Int) (c1 : Int) (c1o0 : ((List Int) × (Int × Int))) (c2 : (ByteArray × ByteArray)) (c2o0 : ((List Int) × (Int × Int))) (c3 : Int) (c3o0 : ((List Int) × (Int × Int))) (c4 : Int) (c4o0 : ((List Int) × (Int × Int))) (c5 : (ByteArray × ByteArray))
    (h1 : SC cfg.P i_spec_l1Cur_pick [.s (.mbx (.pr (.sl (.int .u8)) (.pr (.int .i64) (.int .u64))) a0), .s (.v (.int .i64) (IntKind.wrap .i64 (a1 + (1 : Int))))] (.s (.v (.int .i64) c1)) [.box (.pr (.sl (.int .u8)) (.pr (.int .i64) (.int .u64))) c1o0])
    (h2 : SC cfg.P i_spec_l1Cur_surePair [.s (.mbx (.pr (.sl (.int .u8)) (.pr (.int .i64) (.int .u64))) c1o0), .s (.v (.int .i64) c1)] (.s (.v (.pr .str .str) c2)) [.box (.pr (.sl (.int .u8)) (.pr (.int .i64) (.int .u64))) c2o0])
    (h3 : SC cfg.P i_spec_l1Cur_pick [.s (.mbx (.pr (.sl (.int .u8)) (.pr (.int .i64) (.int .u64))) c2o0), .s (.v (.int .i64) (14 : Int))] (.s (.v (.int .i64) c3)) [.box (.pr (.sl (.int .u8)) (.pr (.int .i64) (.int .u64))) c3o0])
    (h4 : c3 ≠ (0 : Int))
    (h5 : c3 ≠ (1 : Int))
    (h6 : c3 ≠ (2 : Int))
    (h7 : c3 = (3 : Int))
    (h8 : SC cfg.P i_spec_l1Cur_pick [.s (.mbx (.pr (.sl (.int .u8)) (.pr (.int .i64) (.int .u64))) c3o0), .s (.v (.int .i64) (4 : Int))] (.s (.v (.int .i64) c4)) [.box (.pr (.sl (.int .u8)) (.pr (.int .i64) (.int .u64))) c4o0])
    (h9 : SC cfg.P i_spec_prGenerator [.s (.v (.int .i64) c4)] (.s (.v (.pr .str .str) c5)) []) :
    SC cfg.P i_spec_l1Cur_pair [.s (.mbx (.pr (.sl (.int .u8)) (.pr (.int .i64) (.int .u64))) a0), .s (.v (.int .i64) a1)] (.s (.v (.pr .str .str) c5)) [.box (.pr (.sl (.int .u8)) (.pr (.int .i64) (.int .u64))) c4o0] :=
  SC_of_run cfgOK (its := [.res (.s (.v (.int .i64) c1)) [.box (.pr (.sl (.int .u8)) (.pr (.int .i64) (.int .u64))) c1o0] [] [], .res (.s (.v (.pr .str .str) c2)) [.box (.pr (.sl (.int .u8)) (.pr (.int .i64) (.int .u64))) c2o0] [] [], .res (.s (.v (.int .i64) c3)) [.box (.pr (.sl (.int .u8)) (.pr (.int .i64) (.int .u64))) c3o0] [] [], .bool false, .bool false, .bool false, .bool true, .res (.s (.v (.int .i64) c4)) [.box (.pr (.sl (.int .u8)) (.pr (.int .i64) (.int .u64))) c4o0] [] [], .res (.s (.v (.pr .str .str) c5)) [] [] []])
    (ps := [SC cfg.P i_spec_l1Cur_pick [.s (.mbx (.pr (.sl (.int .u8)) (.pr (.int .i64) (.int .u64))) a0), .s (.v (.int .i64) (IntKind.wrap .i64 (a1 + (1 : Int))))] (.s (.v (.int .i64) c1)) [.box (.pr (.sl (.int .u8)) (.pr (.int .i64) (.int .u64))) c1o0],
      SC cfg.P i_spec_l1Cur_surePair [.s (.mbx (.pr (.sl (.int .u8)) (.pr (.int .i64) (.int .u64))) c1o0), .s (.v (.int .i64) c1)] (.s (.v (.pr .str .str) c2)) [.box (.pr (.sl (.int .u8)) (.pr (.int .i64) (.int .u64))) c2o0],
      SC cfg.P i_spec_l1Cur_pick [.s (.mbx (.pr (.sl (.int .u8)) (.pr (.int .i64) (.int .u64))) c2o0), .s (.v (.int .i64) (14 : Int))] (.s (.v (.int .i64) c3)) [.box (.pr (.sl (.int .u8)) (.pr (.int .i64) (.int .u64))) c3o0],
      (c3 == (0 : Int)) = false,
      (c3 == (1 : Int)) = false,
      (c3 == (2 : Int)) = false,
      (c3 == (3 : Int)) = true,
      SC cfg.P i_spec_l1Cur_pick [.s (.mbx (.pr (.sl (.int .u8)) (.pr (.int .i64) (.int .u64))) c3o0), .s (.v (.int .i64) (4 : Int))] (.s (.v (.int .i64) c4)) [.box (.pr (.sl (.int .u8)) (.pr (.int .i64) (.int .u64))) c4o0],
      SC cfg.P i_spec_prGenerator [.s (.v (.int .i64) c4)] (.s (.v (.pr .str .str) c5)) []]) (by kernel_rfl) ⟨h1, h2, h3, (beq_eq_false_iff_ne.mpr h4), (beq_eq_false_iff_ne.mpr h5), (beq_eq_false_iff_ne.mpr h6), (beq_iff_eq.mpr h7), h8, h9, trivial⟩ get_spec_l1Cur_pair (by decide)

theorem spec_l1Cur_pair_p5 (a0 : ((List Int) × (Int × Int))) (a1 : Int) (c1 : Int) (c1o0 : ((List Int) × (Int × Int))) (c2 : (ByteArray × ByteArray)) (c2o0 : ((List Int) × (Int × Int))) (c3 : Int) (c3o0 : ((List Int) × (Int × Int)))
    (h1 : SC cfg.P i_spec_l1Cur_pick [.s (.mbx (.pr (.sl (.int .u8)) (.pr (.int .i64) (.int .u64))) a0), .s (.v (.int .i64) (IntKind.wrap .i64 (a1 + (1 : Int))))] (.s (.v (.int .i64) c1)) [.box (.pr (.sl (.int .u8)) (.pr (.int .i64) (.int .u64))) c1o0])
    (h2 : SC cfg.P i_spec_l1Cur_surePair [.s (.mbx (.pr (.sl (.int .u8)) (.pr (.int .i64) (.int .u64))) c1o0), .s (.v (.int .i64) c1)] (.s (.v (.pr .str .str) c2)) [.box (.pr (.sl (.int .u8)) (.pr (.int .i64) (.int .u64))) c2o0])
    (h3 : SC cfg.P i_spec_l1Cur_pick [.s (.mbx (.pr (.sl (.int .u8)) (.pr (.int .i64) (.int .u64))) c2o0), .s (.v (.int .i64) (14 : Int))] (.s (.v (.int .i64) c3)) [.box (.pr (.sl (.int .u8)) (.pr (.int .i64) (.int .u64))) c3o0])
    (h4 : c3 ≠ (0 : Int))
    (h5 : c3 ≠ (1 : Int))
    (h6 : c3 ≠ (2 : Int))
    (h7 : c3 ≠ (3 : Int)) :
    SC cfg.P i_spec_l1Cur_pair [.s (.mbx (.pr (.sl (.int .u8)) (.pr (.int .i64) (.int .u64))) a0), .s (.v (.int .i64) a1)] (.s (.v (.pr .str .str) c2)) [.box (.pr (.sl (.int .u8)) (.pr (.int .i64) (.int .u64))) c3o0] :=
  SC_of_run cfgOK (its := [.res (.s (.v (.int .i64) c1)) [.box (.pr (.sl (.int .u8)) (.pr (.int .i64) (.int .u64))) c1o0] [] [], .res (.s (.v (.pr .str .str) c2)) [.box (.pr (.sl (.int .u8)) (.pr (.int .i64) (.int .u64))) c2o0] [] [], .res (.s (.v (.int .i64) c3)) [.box (.pr (.sl (.int .u8)) (.pr (.int .i64) (.int .u64))) c3o0] [] [], .bool false, .bool false, .bool false, .bool false])
    (ps := [SC cfg.P i_spec_l1Cur_pick [.s (.mbx (.pr (.sl (.int .u8)) (.pr (.int .i64) (.int .u64))) a0), .s (.v (.int .i64) (IntKind.wrap .i64 (a1 + (1 : Int))))] (.s (.v (.int .i64) c1)) [.box (.pr (.sl (.int .u8)) (.pr (.int .i64) (.int .u64))) c1o0],
      SC cfg.P i_spec_l1Cur_surePair [.s (.mbx (.pr (.sl (.int .u8)) (.pr (.int .i64) (.int .u64))) c1o0), .s (.v (.int .i64) c1)] (.s (.v (.pr .str .str) c2)) [.box (.pr (.sl (.int .u8)) (.pr (.int .i64) (.int .u64))) c2o0],
      SC cfg.P i_spec_l1Cur_pick [.s (.mbx (.pr (.sl (.int .u8)) (.pr (.int .i64) (.int .u64))) c2o0), .s (.v (.int .i64) (14 : Int))] (.s (.v (.int .i64) c3)) [.box (.pr (.sl (.int .u8)) (.pr (.int .i64) (.int .u64))) c3o0],
      (c3 == (0 : Int)) = false,
      (c3 == (1 : Int)) = false,
      (c3 == (2 : Int)) = false,
      (c3 == (3 : Int)) = false]) (by kernel_rfl) ⟨h1, h2, h3, (beq_eq_false_iff_ne.mpr h4), (beq_eq_false_iff_ne.mpr h5), (beq_eq_false_iff_ne.mpr h6), (beq_eq_false_iff_ne.mpr h7), trivial⟩ get_spec_l1Cur_pair (by decide)

/-! ### spec_l1Cur_surePair -/


theorem spec_l1Cur_surePair_p1 (a0 : ((List Int) × (Int × Int))) (a1 : Int) (c1 : ByteArray) (c1o0 : ((List Int) × (Int × Int))) (c2 : ByteArray) (c2o0 : ((List Int) × (Int × Int)))
    (h1 : SC cfg.P i_spec_l1Cur_sureTree [.s (.mbx (.pr (.sl (.int .u8)) (.pr (.int .i64) (.int .u64))) a0), .s (.v (.int .i64) a1)] (.s (.v .str c1)) [.box (.pr (.sl (.int .u8)) (.pr (.int .i64) (.int .u64))) c1o0])
    (h2 : SC cfg.P i_spec_l1Cur_sureTree [.s (.mbx (.pr (.sl (.int .u8)) (.pr (.int .i64) (.int .u64))) c1o0), .s (.v (.int .i64) a1)] (.s (.v .str c2)) [.box (.pr (.sl (.int .u8)) (.pr (.int .i64) (.int .u64))) c2o0]) :
    SC cfg.P i_spec_l1Cur_surePair [.s (.mbx (.pr (.sl (.int .u8)) (.pr (.int .i64) (.int .u64))) a0), .s (.v (.int .i64) a1)] (.s (.v (.pr .str .str) (c1, c2))) [.box (.pr (.sl (.int .u8)) (.pr (.int .i64) (.int .u64))) c2o0] :=
  SC_of_run cfgOK (its := [.res (.s (.v .str c1)) [.box (.pr (.sl (.int .u8)) (.pr (.int .i64) (.int .u64))) c1o0] [] [], .res (.s (.v .str c2)) [.box (.pr (.sl (.int .u8)) (.pr (.int .i64) (.int .u64))) c2o0] [] []])
    (ps := [SC cfg.P i_spec_l1Cur_sureTree [.s (.mbx (.pr (.sl (.int .u8)) (.pr (.int .i64) (.int .u64))) a0), .s (.v (.int .i64) a1)] (.s (.v .str c1)) [.box (.pr (.sl (.int .u8)) (.pr (.int .i64) (.int .u64))) c1o0],
      SC cfg.P i_spec_l1Cur_sureTree [.s (.mbx (.pr (.sl (.int .u8)) (.pr (.int .i64) (.int .u64))) c1o0), .s (.v (.int .i64) a1)] (.s (.v .str c2)) [.box (.pr (.sl (.int .u8)) (.pr (.int .i64) (.int .u64))) c2o0]]) (by kernel_rfl) ⟨h1, h2, trivial⟩ get_spec_l1Cur_surePair (by decide)

/-! ### spec_prGenerator -/


theorem spec_prGenerator_p1 (a0 : Int) (c1 : ByteArray) (c2 : ByteArray) (c3 : ByteArray)
    (h1 : SC cfg.P i_spec_trRight [.s (.v (.int .i64) a0)] (.s (.v .str c1)) [])
    (h2 : SC cfg.P i_spec_trGraft [.s (.v .str c1), .s (.v (.int .i64) a0), .s (.v .str (⟨#[40, 40, 46, 46, 41, 46, 41]⟩ : ByteArray))] (.s (.v .str c2)) [])
    (h3 : SC cfg.P i_spec_trRight [.s (.v (.int .i64) (IntKind.wrap .i64 (a0 + (2 : Int))))] (.s (.v .str c3)) []) :
    SC cfg.P i_spec_prGenerator [.s (.v (.int .i64) a0)] (.s (.v (.pr .str .str) (c2, c3))) [] :=
  SC_of_run cfgOK (its := [.res (.s (.v .str c1)) [] [] [], .res (.s (.v .str c2)) [] [] [], .res (.s (.v .str c3)) [] [] []])
    (ps := [SC cfg.P i_spec_trRight [.s (.v (.int .i64) a0)] (.s (.v .str c1)) [],
      SC cfg.P i_spec_trGraft [.s (.v .str c1), .s (.v (.int .i64) a0), .s (.v .str (⟨#[40, 40, 46, 46, 41, 46, 41]⟩ : ByteArray))] (.s (.v .str c2)) [],
      SC cfg.P i_spec_trRight [.s (.v (.int .i64) (IntKind.wrap .i64 (a0 + (2 : Int))))] (.s (.v .str c3)) []]) (by kernel_rfl) ⟨h1, h2, h3, trivial⟩ get_spec_prGenerator (by decide)

/-! ### spec_trRight -/


def spec_trRight_L0a (x0 : Int) (x3 : ByteArray) : St := mkSt 11 [(0, .s (.v (.int .i64) x0)), (3, .s (.v .str x3))] []

def spec_trRight_L0X1 (y0 : Int) (y3 : ByteArray) (y5 : Bool) : St := mkSt 11 [(0, .s (.v (.int .i64) y0)), (3, .s (.v .str y3)), (5, .s (.v .bool y5))] []

theorem spec_trRight_L0a_i1 (x0 : Int) (x3 : ByteArray) (dc1 : ByteArray)
    (h1 : x0 > (0 : Int))
    (h2 : SC cfg.P i_spec_trOf [.s (.v .str (⟨#[46]⟩ : ByteArray)), .s (.v .str x3)] (.s (.v .str dc1)) [])
    {e : AEx} {st : St} (next : LoopSC cfg.P 1 (lb P_spec_trRight 0) (spec_trRight_L0a (IntKind.wrap .i64 (x0 - (1 : Int))) dc1) e st) :
    LoopSC cfg.P 1 (lb P_spec_trRight 0) (spec_trRight_L0a x0 x3) e st :=
  loop_iter cfgOK (f := i_spec_trRight) (its := [.bool true, .res (.s (.v .str dc1)) [] [] []])
    (ps := [decide (x0 > (0 : Int)) = true,
      SC cfg.P i_spec_trOf [.s (.v .str (⟨#[46]⟩ : ByteArray)), .s (.v .str x3)] (.s (.v .str dc1)) []]) (st1 := spec_trRight_L0a (IntKind.wrap .i64 (x0 - (1 : Int))) dc1) (by kernel_rfl) ⟨(decide_eq_true h1), h2, trivial⟩ next

theorem spec_trRight_L0a_x2 (x0 : Int) (x3 : ByteArray)
    (h1 : ¬ (x0 > (0 : Int))) :
    LoopSC cfg.P 1 (lb P_spec_trRight 0) (spec_trRight_L0a x0 x3) (.exit 0) (spec_trRight_L0X1 x0 x3 false) :=
  loop_out cfgOK (f := i_spec_trRight) (its := [.bool false])
    (ps := [decide (x0 > (0 : Int)) = false]) (by kernel_rfl) ⟨(decide_eq_false h1), trivial⟩ (fun h => by cases h)

theorem spec_trRight_p1 (a0 : Int) (k1y0 : Int) (k1y3 : ByteArray) (k1y5 : Bool)
    (h1 : LoopSC cfg.P 1 (lb P_spec_trRight 0) (spec_trRight_L0a a0 (⟨#[46]⟩ : ByteArray)) (.exit 0) (spec_trRight_L0X1 k1y0 k1y3 k1y5)) :
    SC cfg.P i_spec_trRight [.s (.v (.int .i64) a0)] (.s (.v .str k1y3)) [] :=
  SC_of_run cfgOK (its := [.loop (fun _ => (.exit 0, spec_trRight_L0X1 k1y0 k1y3 k1y5))])
    (ps := [LoopSC cfg.P 1 (lb P_spec_trRight 0) (spec_trRight_L0a a0 (⟨#[46]⟩ : ByteArray)) (.exit 0) (spec_trRight_L0X1 k1y0 k1y3 k1y5)]) (by kernel_rfl) ⟨h1, trivial⟩ get_spec_trRight (by decide)

end Go.AI
end

section
/- The draws of pairs. -/
set_option autoImplicit false
set_option maxRecDepth 100000
set_option linter.unusedVariables false
namespace Go.AI
open Go.Proofs

def combN : Nat → Tr → Tr
  | 0, t => t
  | n + 1, t => combN n (.node .leaf t)

theorem combN_c : ∀ (n : Nat) (t : Tr), (combN n t).c = t.c + n
  | 0, t => rfl
  | n + 1, t => by rw [combN, combN_c n]; simp only [Tr.c]; omega

theorem trRight_SC (k : Nat) (hk : k ≤ 100) : SC cfg.P i_spec_trRight [.s (.v (.int .i64) (k : Int))] (.s (.v .str (bs (txt (combN k .leaf))))) [] := by
  have key : ∀ (m : Nat) (t : Tr), m ≤ 100 → t.c ≤ 2 ^ 20 - m → LoopSC cfg.P 1 (lb P_spec_trRight 0) (spec_trRight_L0a (m : Int) (bs (txt t))) (.exit 0) (spec_trRight_L0X1 0 (bs (txt (combN m t))) false) := by
    intro m
    induction m with
    | zero => exact fun t _ _ => spec_trRight_L0a_x2 _ _ (by omega)
    | succ m ih =>
      intro t hm ht
      have e : IntKind.wrap .i64 (((m + 1 : Nat) : Int) - 1) = (m : Int) := by rw [w64] <;> omega
      have n1 := ih (.node .leaf t) (by omega) (by simp only [Tr.c]; omega)
      rw [← e] at n1
      exact spec_trRight_L0a_i1 _ _ _ (by omega) (trOf_SC .leaf t (by simp only [Tr.c]; omega) (by omega)) n1
  exact spec_trRight_p1 _ _ _ _ (key k .leaf hk (by simp only [Tr.c]; omega))

theorem prGenerator_SC (k : Nat) (hk : k ≤ 20) : ∃ p : Tr × Tr, p.1.c = k + 2 ∧ p.2.c = k + 2 ∧ SC cfg.P i_spec_prGenerator [.s (.v (.int .i64) (k : Int))] (.s (.v (.pr .str .str) (pt p))) [] := by
  have h1 := trRight_SC k (by omega)
  have c1 := combN_c k .leaf
  have c2 := combN_c (k + 2) .leaf
  have z : Tr.leaf.c = 0 := rfl
  have h2 := trGraft_SC (combN k .leaf) k (.node (.node .leaf .leaf) .leaf) (by omega) (by omega) (by decide)
  have e : IntKind.wrap .i64 ((k : Int) + 2) = ((k + 2 : Nat) : Int) := by rw [w64] <;> omega
  have h3 := trRight_SC (k + 2) (by omega)
  rw [← e] at h3
  refine ⟨(grf (combN k .leaf) k (.node (.node .leaf .leaf) .leaf), combN (k + 2) .leaf), ?_, ?_, spec_prGenerator_p1 _ _ _ _ h1 h2 h3⟩
  · show (grf (combN k .leaf) k (.node (.node .leaf .leaf) .leaf)).c = _
    rw [grf_c _ _ _ (by omega), c1]; simp only [Tr.c]; omega
  · show (combN (k + 2) .leaf).c = _
    rw [c2]; omega

theorem surePair_SC {n : Nat} {c : Cur} (h : CurOk n c) (k : Nat) (hk : k ≤ 2 ^ 9) (hn : n + 4 * k ≤ 2 ^ 40) : ∃ (p : Tr × Tr) (c' : Cur), p.1.c = k ∧ p.2.c = k ∧ CurOk (n + 4 * k) c' ∧ SC cfg.P i_spec_l1Cur_surePair [.s (.mbx CurK c), .s (.v (.int .i64) (k : Int))] (.s (.v (.pr .str .str) (pt p))) [.box CurK c'] := by
  obtain ⟨t, c1, h1, h2, s1⟩ := sureTree_SC h k (by omega) (by omega)
  obtain ⟨u, c2, h3, h4, s2⟩ := sureTree_SC h2 k (by omega) (by omega)
  exact ⟨(t, u), c2, h1, h3, h4.mono (by omega), spec_l1Cur_surePair_p1 _ _ _ _ _ _ s1 s2⟩

theorem pt_size (p : Tr × Tr) (b : Nat) (h1 : p.1.c ≤ b) (h2 : p.2.c ≤ b) : (pt p).1.size ≤ 3 * b + 1 ∧ (pt p).2.size ≤ 3 * b + 1 := by
  have l1 := txt_len p.1
  have l2 := txt_len p.2
  refine ⟨?_, ?_⟩
  · show (bs (txt p.1)).size ≤ _; rw [bs_size]; omega
  · show (bs (txt p.2)).size ≤ _; rw [bs_size]; omega

theorem pair_SC {n : Nat} {c : Cur} (h : CurOk n c) (hn : n ≤ 2 ^ 29) (most : Nat) (hm : most ≤ 10) : ∃ (a b : ByteArray) (c' : Cur), a.size ≤ 2 ^ 11 ∧ b.size ≤ 2 ^ 11 ∧ CurOk (n + 2000) c' ∧
    SC cfg.P i_spec_l1Cur_pair [.s (.mbx CurK c), .s (.v (.int .i64) (most : Int))] (.s (.v (.pr .str .str) (a, b))) [.box CurK c'] := by
  have e1 : IntKind.wrap .i64 ((most : Int) + 1) = ((most + 1 : Nat) : Int) := by rw [w64] <;> omega
  obtain ⟨r, c1, hr, h1, s1⟩ := pick_SC h (by omega) ((most + 1 : Nat) : Int) (by omega)
  rw [← e1] at s1
  have hr2 : r ≤ most := by omega
  obtain ⟨p, c2, p1, p2, h2, s2⟩ := surePair_SC h1 r (by omega) (by omega)
  obtain ⟨q1, q2⟩ := pt_size p 10 (by omega) (by omega)
  obtain ⟨k, c3, hk, h3, s3⟩ := pick_SC h2 (by omega) 14 (by omega)
  by_cases k0 : k = 0
  · obtain ⟨t, c4, ht, h4, s4⟩ := tree_SC h3 (by omega) most (by omega)
    exact ⟨(pt p).1, t, c4, by omega, by omega, h4.mono (by omega), spec_l1Cur_pair_p1 _ _ _ _ _ _ _ _ _ _ s1 s2 s3 (by omega) s4⟩
  · by_cases k1 : k = 1
    · obtain ⟨t, c4, ht, h4, s4⟩ := spoilt_SC h3 (by omega) (pt p).1 (⟨#[40, 46, 41]⟩ : ByteArray) (by omega) (by decide) (by decide)
      exact ⟨t, (pt p).2, c4, by omega, by omega, h4.mono (by omega), spec_l1Cur_pair_p2 _ _ _ _ _ _ _ _ _ _ s1 s2 s3 (by omega) (by omega) s4⟩
    · by_cases k2 : k = 2
      · obtain ⟨x, c4, hx, h4, s4⟩ := pick_SC h3 (by omega) 2 (by omega)
        have e2 : IntKind.wrap .i64 (8 + (x : Int)) = ((8 + x : Nat) : Int) := by rw [w64] <;> omega
        obtain ⟨p', c5, p3, p4, h5, s5⟩ := surePair_SC h4 (8 + x) (by omega) (by omega)
        obtain ⟨q3, q4⟩ := pt_size p' 10 (by omega) (by omega)
        rw [← e2] at s5
        exact ⟨(pt p').1, (pt p').2, c5, by omega, by omega, h5.mono (by omega), spec_l1Cur_pair_p3 _ _ _ _ _ _ _ _ _ _ _ _ s1 s2 s3 (by omega) (by omega) (by omega) s4 s5⟩
      · by_cases k3 : k = 3
        · obtain ⟨x, c4, hx, h4, s4⟩ := pick_SC h3 (by omega) 4 (by omega)
          obtain ⟨p', p3, p4, s5⟩ := prGenerator_SC x (by omega)
          obtain ⟨q3, q4⟩ := pt_size p' 10 (by omega) (by omega)
          exact ⟨(pt p').1, (pt p').2, c4, by omega, by omega, h4.mono (by omega), spec_l1Cur_pair_p4 _ _ _ _ _ _ _ _ _ _ _ s1 s2 s3 (by omega) (by omega) (by omega) (by omega) s4 s5⟩
        · exact ⟨(pt p).1, (pt p).2, c3, by omega, by omega, h3.mono (by omega), spec_l1Cur_pair_p5 _ _ _ _ _ _ _ _ s1 s2 s3 (by omega) (by omega) (by omega) (by omega)⟩


end Go.AI
end

section
set_option autoImplicit false
set_option maxRecDepth 100000
set_option linter.unusedVariables false
namespace Go.AI
open Go.Proofs

end Go.AI
end

section
/- Contracts: pairs that do the same. -/
set_option autoImplicit false
set_option maxRecDepth 100000
set_option linter.unusedVariables false
namespace Go.AI
open Go.Proofs

theorem txt_inj' {t u : Tr} (h : txt t = txt u) : t = u := by
  have := txt_inj t u [] [] (by simpa using h)
  exact this.1

end Go.AI
end

section
/- Contracts: drawn forests; rows of texts compared; carets, parts and pairs of forests. -/
set_option autoImplicit false
set_option maxRecDepth 100000
set_option linter.unusedVariables false
namespace Go.AI
open Go.Proofs

theorem nbeq (b : Bool) : (!(b == b)) = false := by simp

def Bytes (l : List Int) : Prop := ∀ x ∈ l, 0 ≤ x ∧ x ≤ 255

theorem cur0 {l : List Int} (h : Bytes l) (hl : l.length ≤ 2 ^ 40) : CurOk 0 (l, ((0 : Int), (0 : Int))) := ⟨Int.le_refl _, Int.le_refl _, hl, h⟩

/-! ### Rows of texts -/

theorem nT_L (a b : List ByteArray) (hl : a.length ≤ 2 ^ 40) (e : a.length = b.length) : ∀ (m i : Nat), a.length - i = m → i ≤ a.length →
    (a.drop i = b.drop i → LoopSC cfg.P 2 (lb P_laws_nTexts 0) (laws_nTexts_L0a a b (a.length : Int) (i : Int)) (.exit 0) (laws_nTexts_L0X2 a b (a.length : Int) (a.length : Int) false)) ∧
    (a.drop i ≠ b.drop i → LoopSC cfg.P 2 (lb P_laws_nTexts 0) (laws_nTexts_L0a a b (a.length : Int) (i : Int)) .ret (laws_nTexts_L0X1 false)) := by
  intro m
  induction m with
  | zero =>
    intro i hm hi
    have e1 : i = a.length := by omega
    subst e1
    refine ⟨fun _ => laws_nTexts_L0a_x3 _ _ _ _ (by omega), fun g => absurd ?_ g⟩
    rw [List.drop_length, e, List.drop_length]
  | succ m ih =>
    intro i hm hi
    have hlt : i < a.length := by omega
    have hlt2 : i < b.length := by omega
    have da : a.drop i = a[i] :: a.drop (i + 1) := List.drop_eq_getElem_cons hlt
    have db : b.drop i = b[i] :: b.drop (i + 1) := List.drop_eq_getElem_cons hlt2
    have ga : List.getD a ((i : Int)).toNat (⟨#[]⟩ : ByteArray) = a[i] := by rw [Int.toNat_natCast, List.getD_eq_getElem?_getD, List.getElem?_eq_getElem hlt]; rfl
    have gb : List.getD b ((i : Int)).toNat (⟨#[]⟩ : ByteArray) = b[i] := by rw [Int.toNat_natCast, List.getD_eq_getElem?_getD, List.getElem?_eq_getElem hlt2]; rfl
    obtain ⟨k1, k2⟩ := ih (i + 1) (by omega) (by omega)
    rw [← wrap_succ (by omega)] at k1 k2
    rw [da, db]
    refine ⟨fun g => ?_, fun g => ?_⟩
    · have g' := List.cons.inj g
      exact laws_nTexts_L0a_i2 _ _ _ _ (by omega) (by omega) (by omega) (by omega) (by rw [ga, gb]; exact g'.1) (k1 g'.2)
    · by_cases h : a[i] = b[i]
      · exact laws_nTexts_L0a_i2 _ _ _ _ (by omega) (by omega) (by omega) (by omega) (by rw [ga, gb]; exact h) (k2 fun h2 => g (by rw [h, h2]))
      · exact laws_nTexts_L0a_x1 _ _ _ _ (by omega) (by omega) (by omega) (by omega) (by rw [ga, gb]; exact h)

theorem nTexts_SC (a b : List ByteArray) (hl : a.length ≤ 2 ^ 40) : SC cfg.P i_laws_nTexts [.s (.v (.sl .str) a), .s (.v (.sl .str) b)] (.s (.v .bool (decide (a = b)))) [] := by
  by_cases e : a.length = b.length
  · obtain ⟨k1, k2⟩ := nT_L a b hl e _ 0 rfl (by omega)
    rw [List.drop_zero, List.drop_zero] at k1 k2
    by_cases h : a = b
    · rw [decide_eq_true h]; exact laws_nTexts_p3 _ _ _ _ _ _ _ (by omega) (k1 h)
    · rw [decide_eq_false h]; exact laws_nTexts_p2 _ _ _ (by omega) (k2 h)
  · rw [decide_eq_false (fun h => e (by rw [h]))]
    exact laws_nTexts_p1 _ _ (by omega)

theorem txs_inj {a b : List (List UInt8)} (h : txs a = txs b) : a = b := by
  have hi : Function.Injective bs := fun x y hxy => by
    have := congrArg (fun s : ByteArray => s.data.toList) hxy
    simpa [bs] using this
  exact (List.map_inj_right (fun x y hxy => hi hxy)).1 h

/-! ### Forests drawn -/

theorem least_SC (a b : Nat) : SC cfg.P i_spec_l1Least [.s (.v (.int .i64) (a : Int)), .s (.v (.int .i64) (b : Int))] (.s (.v (.int .i64) ((min a b : Nat) : Int))) [] := by
  by_cases h : a < b
  · rw [Nat.min_eq_left (by omega)]; exact spec_l1Least_p1 _ _ (by omega)
  · rw [Nat.min_eq_right (by omega)]; exact spec_l1Least_p2 _ _ (by omega)

theorem sureFo_L : ∀ (m left : Nat) {n : Nat} {c : Cur} (cur : List Tr), CurOk n c → n + 10 * m ≤ 2 ^ 30 → left ≤ 10 → cur.length + m ≤ 10 → (∀ t ∈ cur, t.c ≤ 3) →
    ∃ (left' : Int) (c' : Cur) (ts : List Tr), (ts.length ≤ 10 ∧ ∀ t ∈ ts, t.c ≤ 3) ∧ CurOk (n + 10 * m) c' ∧
      LoopSC cfg.P 2 (lb P_spec_l1Cur_sureForest 0) (spec_l1Cur_sureForest_L0a (left : Int) (m : Int) c (txs (cur.map txt))) (.exit 0) (spec_l1Cur_sureForest_L0X1 left' 0 false c' (txs (ts.map txt))) := by
  intro m
  induction m with
  | zero =>
    intro left n c cur h hn hle hc hs
    exact ⟨_, c, cur, ⟨by omega, hs⟩, h, spec_l1Cur_sureForest_L0a_x2 _ _ _ _ (by omega)⟩
  | succ m ih =>
    intro left n c cur h hn hle hc hs
    have s1 := least_SC left 3
    have w : IntKind.wrap .i64 (((min left 3 : Nat) : Int) + (1 : Int)) = ((min left 3 + 1 : Nat) : Int) := by rw [w64] <;> omega
    obtain ⟨r, c1, hr, h1, s2⟩ := pick_SC h (by omega) ((min left 3 + 1 : Nat) : Int) (by omega)
    obtain ⟨t, c2, ht, h2, s3⟩ := sureTree_SC h1 r (by omega) (by omega)
    obtain ⟨left', c3, ts, k1, k2, k3⟩ := ih (left - r) (cur ++ [t]) (h2.mono (m := n + 10) (by omega)) (by omega) (by omega) (by rw [List.length_append, List.length_singleton]; omega) (fun x hx => by
      rcases List.mem_append.1 hx with g | g
      · exact hs x g
      · rw [List.mem_singleton] at g; rw [g]; omega)
    have e : txs ((cur ++ [t]).map txt) = txs (cur.map txt) ++ [bs (txt t)] := by simp [txs]
    rw [e] at k3
    have w1 : IntKind.wrap .i64 ((left : Int) - (r : Int)) = ((left - r : Nat) : Int) := by rw [w64] <;> omega
    have w2 : IntKind.wrap .i64 (((m + 1 : Nat) : Int) - (1 : Int)) = (m : Int) := by rw [w64] <;> omega
    have st := spec_l1Cur_sureForest_L0a_i1 (left : Int) ((m + 1 : Nat) : Int) c (txs (cur.map txt)) _ _ _ _ _ (by omega) s1 (by rw [w]; exact s2) s3 (by
      have : (txs (cur.map txt)).length = cur.length := by simp [txs]
      unfold sizeOK lim; rw [this, List.length_singleton]; omega) (e := .exit 0) (st := spec_l1Cur_sureForest_L0X1 left' 0 false c3 (txs (ts.map txt)))
    rw [w1, w2] at st
    exact ⟨left', c3, ts, k1, k2.mono (by omega), st k3⟩

theorem sureFo_SC {n : Nat} {c : Cur} (h : CurOk n c) (hn : n ≤ 2 ^ 29) (k : Nat) (hk : k ≤ 10) : ∃ (ts : List Tr) (c' : Cur), (ts.length ≤ 10 ∧ ∀ t ∈ ts, t.c ≤ 3) ∧ CurOk (n + 60) c' ∧
    SC cfg.P i_spec_l1Cur_sureForest [.s (.mbx CurK c), .s (.v (.int .i64) (k : Int))] (.s (.own t_string .str (txs ((trim ts).map txt)))) [.box CurK c'] := by
  obtain ⟨r, c1, hr, h1, s1⟩ := pick_SC h (by omega) 5 (by omega)
  obtain ⟨left', c2, ts, k1, k2, k3⟩ := sureFo_L r k [] h1 (by omega) hk (by simp; omega) (by simp)
  exact ⟨ts, c2, k1, k2.mono (by omega), spec_l1Cur_sureForest_p1 _ _ _ _ _ _ _ _ _ _ s1 k3 (wdShort_SC ts (by have := k1.1; omega))⟩

/-- A row of texts that may be. -/
structure Row (fs : List (List UInt8)) : Prop where
  len : fs.length ≤ 40
  tx : ∀ l ∈ fs, l.length ≤ 2 ^ 40

theorem Row.snoc {fs : List (List UInt8)} {l : List UInt8} (h : Row fs) (hl : l.length ≤ 2 ^ 40) (h2 : fs.length ≤ 39) : Row (fs ++ [l]) :=
  ⟨by rw [List.length_append, List.length_singleton]; omega, fun x hx => by
    rcases List.mem_append.1 hx with g | g
    · exact h.tx x g
    · rw [List.mem_singleton] at g; rw [g]; exact hl⟩

theorem fo_Lb : ∀ (m : Nat) {n : Nat} {c : Cur} (cur : List (List UInt8)), CurOk n c → n + 2 * m ≤ 2 ^ 30 → Row cur → 8 - cur.length < m → cur.length ≤ 30 →
    ∃ (c' : Cur) (fs : List (List UInt8)), Row fs ∧ fs.length ≤ 30 ∧ CurOk (n + 2 * m) c' ∧
      LoopSC cfg.P 2 (lb P_spec_l1Cur_forest 0) (spec_l1Cur_forest_L0b c (txs cur)) (.exit 1) (spec_l1Cur_forest_L0X1 false c' (txs fs)) := by
  intro m
  induction m with
  | zero => intro n c cur h hn hr hm hc; omega
  | succ m ih =>
    intro n c cur h hn hr hm hc
    obtain ⟨r, c1, hr1, h1, s1⟩ := pick_SC h (by omega) 2 (by omega)
    have w : IntKind.wrap .i64 ((7 : Int) + (r : Int)) = 7 + (r : Int) := by rw [w64] <;> omega
    have hl : (txs cur).length = cur.length := by simp [txs]
    by_cases hlt : ((List.length (txs cur) : Nat) : Int) < IntKind.wrap .i64 ((7 : Int) + (r : Int))
    · have hlt' := hlt
      rw [w, hl] at hlt'
      obtain ⟨c2, fs, k1, k2, k3, k4⟩ := ih (cur ++ [[46]]) h1 (by omega) (hr.snoc (by simp) (by omega)) (by rw [List.length_append, List.length_singleton]; omega) (by rw [List.length_append, List.length_singleton]; omega)
      have e : txs (cur ++ [[46]]) = txs cur ++ [(⟨#[46]⟩ : ByteArray)] := by simp [txs]; rfl
      rw [e] at k4
      exact ⟨c2, fs, k1, k2, k3.mono (by omega), spec_l1Cur_forest_L0b_i1 _ _ _ _ s1 hlt (by unfold sizeOK lim; rw [hl, List.length_singleton]; omega) k4⟩
    · exact ⟨c1, cur, hr, hc, h1.mono (by omega), spec_l1Cur_forest_L0b_x2 _ _ _ _ s1 hlt⟩

theorem fo_La {n : Nat} {c : Cur} (x : Bool) (cur : List (List UInt8)) (h : CurOk n c) (hn : n ≤ 2 ^ 29) (hr : Row cur) (hc : cur.length ≤ 29) :
    ∃ (c' : Cur) (fs : List (List UInt8)), Row fs ∧ fs.length ≤ 30 ∧ CurOk (n + 30) c' ∧
      LoopSC cfg.P 2 (lb P_spec_l1Cur_forest 0) (spec_l1Cur_forest_L0a x c (txs cur)) (.exit 1) (spec_l1Cur_forest_L0X1 false c' (txs fs)) := by
  obtain ⟨r, c1, hr1, h1, s1⟩ := pick_SC h (by omega) 2 (by omega)
  have hl : (txs cur).length = cur.length := by simp [txs]
  by_cases hlt : ((List.length (txs cur) : Nat) : Int) < IntKind.wrap .i64 ((7 : Int) + (r : Int))
  · obtain ⟨c2, fs, k1, k2, k3, k4⟩ := fo_Lb 10 (cur ++ [[46]]) h1 (by omega) (hr.snoc (by simp) (by omega)) (by rw [List.length_append, List.length_singleton]; omega) (by rw [List.length_append, List.length_singleton]; omega)
    have e : txs (cur ++ [[46]]) = txs cur ++ [(⟨#[46]⟩ : ByteArray)] := by simp [txs]; rfl
    rw [e] at k4
    exact ⟨c2, fs, k1, k2, k3.mono (by omega), spec_l1Cur_forest_L0a_i1 _ _ _ _ _ s1 hlt (by unfold sizeOK lim; rw [hl, List.length_singleton]; omega) k4⟩
  · exact ⟨c1, cur, hr, by omega, h1.mono (by omega), spec_l1Cur_forest_L0a_x2 _ _ _ _ _ s1 hlt⟩

theorem row_trees {ts : List Tr} (hl : ts.length ≤ 10) (hc : ∀ t ∈ ts, t.c ≤ 2 ^ 20) : Row ((trim ts).map txt) :=
  ⟨by rw [List.length_map]; have := trim_len ts; omega, fun l hl' => by
    obtain ⟨t, ht, rfl⟩ := List.mem_map.1 hl'
    have := hc t (trim_mem ht)
    rw [txt_len]; omega⟩

theorem forest_SC {n : Nat} {c : Cur} (h : CurOk n c) (hn : n ≤ 2 ^ 28) (k : Nat) (hk : k ≤ 10) : ∃ (fs : List (List UInt8)) (c' : Cur), Row fs ∧ CurOk (n + 200) c' ∧
    SC cfg.P i_spec_l1Cur_forest [.s (.mbx CurK c), .s (.v (.int .i64) (k : Int))] (.s (.own t_string .str (txs fs))) [.box CurK c'] := by
  obtain ⟨ts, c1, l1, h1, s1⟩ := sureFo_SC h (by omega) k hk
  obtain ⟨r, c2, _, h2, s2⟩ := pick_SC h1 (by omega) 18 (by omega)
  have hr := row_trees l1.1 fun t ht => by have := l1.2 t ht; omega
  have hl : ((trim ts).map txt).length ≤ 10 := by rw [List.length_map]; have := trim_len ts; have := l1.1; omega
  have hl2 : (txs ((trim ts).map txt)).length = ((trim ts).map txt).length := List.length_map ..
  by_cases r0 : r = 0
  · subst r0
    obtain ⟨s, c3, hs, h3, s3⟩ := of_SC h2 (by omega) [(⟨#[46]⟩ : ByteArray), (⟨#[]⟩ : ByteArray), (⟨#[40, 46, 41]⟩ : ByteArray), (⟨#[40, 40, 40, 40, 40, 40, 40, 40, 46, 46, 41, 46, 41, 46, 41, 46, 41, 46, 41, 46, 41, 46, 41, 46, 41]⟩ : ByteArray)] (by decide) (by decide)
    have hsz : s.size ≤ 100 := by
      simp only [List.mem_cons, List.not_mem_nil, or_false] at hs
      rcases hs with rfl | rfl | rfl | rfl <;> decide
    obtain ⟨s, rfl⟩ := bs_ex s
    rw [bs_size] at hsz
    refine ⟨(trim ts).map txt ++ [s], c3, hr.snoc (by omega) (by omega), h3.mono (by omega), ?_⟩
    have e : txs ((trim ts).map txt ++ [s]) = txs ((trim ts).map txt) ++ [bs s] := by simp [txs]
    rw [e]
    exact spec_l1Cur_forest_p1 _ _ _ _ _ _ _ _ s1 s2 rfl s3 (by unfold sizeOK lim; rw [hl2, List.length_singleton]; omega)
  · by_cases r1 : r = 1
    · subst r1
      obtain ⟨c3, fs, k1, k2, k3, k4⟩ := fo_La true ((trim ts).map txt) h2 (by omega) hr (by omega)
      refine ⟨fs ++ [[40, 46, 46, 41]], c3, k1.snoc (by simp) (by omega), k3.mono (by omega), ?_⟩
      have e : txs (fs ++ [[40, 46, 46, 41]]) = txs fs ++ [(⟨#[40, 46, 46, 41]⟩ : ByteArray)] := by simp [txs]; rfl
      rw [e]
      have hl3 : (txs fs).length = fs.length := List.length_map ..
      exact spec_l1Cur_forest_p2 _ _ _ _ _ _ _ _ _ s1 s2 (by omega) (by omega) k4 (by unfold sizeOK lim; rw [hl3, List.length_singleton]; omega)
    · exact ⟨_, c2, hr, h2.mono (by omega), spec_l1Cur_forest_p3 _ _ _ _ _ _ s1 s2 (by omega) (by omega)⟩

end Go.AI
end

section
/- Forests that may be, and their contracts. -/
set_option autoImplicit false
set_option maxRecDepth 100000
set_option linter.unusedVariables false
namespace Go.AI
open Go.Proofs

/-- A forest that may be. -/
structure Gd (ts : List Tr) : Prop where
  tr : trim ts = ts
  len : ts.length ≤ 8
  sum : sumC ts ≤ 8

def tx (ts : List Tr) : List (List UInt8) := ts.map txt

theorem Gd.c {ts : List Tr} (h : Gd ts) : ∀ t ∈ ts, t.c ≤ 8 := fun t ht => Nat.le_trans (c_le_sum ts t ht) h.sum

theorem Gd.fo {ts : List Tr} (h : Gd ts) : isFo (tx ts) = true := by
  unfold tx; rw [isFo_trees ts h.tr]; exact decide_eq_true ⟨h.len, h.sum⟩

theorem Gd.trees {ts : List Tr} (h : Gd ts) : treesOf (tx ts) = ts := by
  unfold treesOf tx
  rw [List.map_map]
  conv => rhs; rw [← List.map_id ts]
  exact List.map_congr_left fun t ht => (treeOf_txt' t (h.c t ht)).2

theorem Gd.row {ts : List Tr} (h : Gd ts) : Row (tx ts) :=
  ⟨by unfold tx; rw [List.length_map]; have := h.len; omega, fun l hl => by
    obtain ⟨t, ht, rfl⟩ := List.mem_map.1 hl
    have := h.c t ht
    rw [txt_len]; omega⟩

theorem gd_of {fs : List (List UInt8)} (h : isFo fs = true) : ∃ ts, Gd ts ∧ fs = tx ts := by
  obtain ⟨e, l1, l2, l3⟩ := fo_facts2 h
  exact ⟨treesOf fs, ⟨l3, l1, l2⟩, e⟩

theorem foT_of {X S : List Tr} (h : Gd S) (e : ∀ i, X.getD i .leaf = S.getD i .leaf) : foTexts X = tx S ∧ foOk X = true := by
  have e1 : trim X = S := by rw [trim_ext X S e, h.tr]
  have e2 : sumC X = sumC S := by rw [← trim_sumC X, e1]
  unfold foTexts foOk
  have := h.len
  have := h.sum
  rw [e1, e2, if_pos ⟨h.len, h.sum⟩]
  exact ⟨rfl, decide_eq_true ⟨h.len, h.sum⟩⟩

theorem foT_ex {X : List Tr} (h : foOk X = true) : ∃ S, Gd S ∧ (∀ i, S.getD i .leaf = X.getD i .leaf) ∧ foTexts X = tx S := by
  have h' := of_decide_eq_true h
  have g : Gd (trim X) := ⟨trim_trim X, h'.1, by rw [trim_sumC]; exact h'.2⟩
  exact ⟨trim X, g, fun i => trim_getD X i, (foT_of g fun i => (trim_getD X i).symm).1⟩

/-! ### Contracts over forests that may be -/

section
variable {F G : List Tr}

theorem gstack_SC (hF : Gd F) (hG : Gd G) : SC cfg.P i_impl_StackForests [.s (.v (.sl .str) (txs (tx F))), .s (.v (.sl .str) (txs (tx G)))] (.tup [.own t_string .str (txs (foTexts (stackL F G))), .v .bool (foOk (stackL F G))]) [] := by
  have r := implStack_SC (tx F) (tx G) hF.row.tx (by have := hF.row.len; omega) hG.row.tx (by have := hG.row.len; omega)
  rw [stackV, stackB, hF.fo, hG.fo, hF.trees, hG.trees] at r
  exact r

theorem pbeq (x : ByteArray × ByteArray) : (!(((x.1).toList == (x.1).toList) && ((x.2).toList == (x.2).toList))) = false := by simp

/-! ### Draws -/

end

end Go.AI
end
