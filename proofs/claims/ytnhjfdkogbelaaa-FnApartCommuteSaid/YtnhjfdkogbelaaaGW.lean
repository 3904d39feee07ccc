/- A part of the road: what it proves stands in its last texts. -/
import Derived.Test.YtnhjfdkogbelaaaSIds
import Derived.Test.YtnhjfdkogbelaaaProg
set_option autoImplicit false
set_option maxRecDepth 100000
set_option linter.unusedVariables false
namespace Go.AI
open Go.Proofs

/-! ### impl_Ratio_less -/


theorem impl_Ratio_less_p1 (a0 : (Int × Int)) (a1 : (Int × Int))
    (h1 : (IntKind.wrap .i64 (a0.1 * a1.2)) < (IntKind.wrap .i64 (a1.1 * a0.2))) :
    SC cfg.P i_impl_Ratio_less [.s (.v (.pr (.int .i64) (.int .i64)) a0), .s (.v (.pr (.int .i64) (.int .i64)) a1)] (.s (.v .bool true)) [] :=
  SC_of_run cfgOK (its := [.bool true])
    (ps := [decide ((IntKind.wrap .i64 (a0.1 * a1.2)) < (IntKind.wrap .i64 (a1.1 * a0.2))) = true]) (by kernel_rfl) ⟨(decide_eq_true h1), trivial⟩ get_impl_Ratio_less (by decide)

theorem impl_Ratio_less_p2 (a0 : (Int × Int)) (a1 : (Int × Int))
    (h1 : ¬ ((IntKind.wrap .i64 (a0.1 * a1.2)) < (IntKind.wrap .i64 (a1.1 * a0.2)))) :
    SC cfg.P i_impl_Ratio_less [.s (.v (.pr (.int .i64) (.int .i64)) a0), .s (.v (.pr (.int .i64) (.int .i64)) a1)] (.s (.v .bool false)) [] :=
  SC_of_run cfgOK (its := [.bool false])
    (ps := [decide ((IntKind.wrap .i64 (a0.1 * a1.2)) < (IntKind.wrap .i64 (a1.1 * a0.2))) = false]) (by kernel_rfl) ⟨(decide_eq_false h1), trivial⟩ get_impl_Ratio_less (by decide)

/-! ### spec_obLess -/


theorem spec_obLess_p1 (a0 : (Int × Int)) (a1 : (Int × Int))
    (h1 : (IntKind.wrap .i64 (a0.1 * a1.2)) < (IntKind.wrap .i64 (a1.1 * a0.2))) :
    SC cfg.P i_spec_obLess [.s (.v (.pr (.int .i64) (.int .i64)) a0), .s (.v (.pr (.int .i64) (.int .i64)) a1)] (.s (.v .bool true)) [] :=
  SC_of_run cfgOK (its := [.bool true])
    (ps := [decide ((IntKind.wrap .i64 (a0.1 * a1.2)) < (IntKind.wrap .i64 (a1.1 * a0.2))) = true]) (by kernel_rfl) ⟨(decide_eq_true h1), trivial⟩ get_spec_obLess (by decide)

theorem spec_obLess_p2 (a0 : (Int × Int)) (a1 : (Int × Int))
    (h1 : ¬ ((IntKind.wrap .i64 (a0.1 * a1.2)) < (IntKind.wrap .i64 (a1.1 * a0.2)))) :
    SC cfg.P i_spec_obLess [.s (.v (.pr (.int .i64) (.int .i64)) a0), .s (.v (.pr (.int .i64) (.int .i64)) a1)] (.s (.v .bool false)) [] :=
  SC_of_run cfgOK (its := [.bool false])
    (ps := [decide ((IntKind.wrap .i64 (a0.1 * a1.2)) < (IntKind.wrap .i64 (a1.1 * a0.2))) = false]) (by kernel_rfl) ⟨(decide_eq_false h1), trivial⟩ get_spec_obLess (by decide)

/-! ### impl_piece_fixedIn -/


theorem impl_piece_fixedIn_p1 (a0 : (Int × (Int × (Int × Int)))) (c1 : Int) (c2 : Int) (c3 : Int) (c4 : Int) (c5 : Int) (c6 : (Int × Int)) (c7 : (Int × Int))
    (h1 : SC cfg.P i_impl_short [.s (.v (.int .i64) a0.1)] (.s (.v (.int .i64) c1)) [])
    (h2 : SC cfg.P i_impl_short [.s (.v (.int .i64) a0.2.1)] (.s (.v (.int .i64) c2)) [])
    (h3 : SC cfg.P i_impl_piece_end [.s (.v (.pr (.int .i64) (.pr (.int .i64) (.pr (.int .i64) (.int .i64)))) a0)] (.s (.v (.int .i64) c3)) [])
    (h4 : SC cfg.P i_impl_short [.s (.v (.int .i64) c3)] (.s (.v (.int .i64) c4)) [])
    (h5 : SC cfg.P i_impl_piece_slope [.s (.v (.pr (.int .i64) (.pr (.int .i64) (.pr (.int .i64) (.int .i64)))) a0)] (.s (.v (.int .i64) c5)) [])
    (h6 : c5 = (0 : Int))
    (h7 : SC cfg.P i_impl_ratio [.s (.v (.int .i64) c1), .s (.v (.int .i64) (256 : Int))] (.s (.v (.pr (.int .i64) (.int .i64)) c6)) [])
    (h8 : SC cfg.P i_impl_ratio [.s (.v (.int .i64) c4), .s (.v (.int .i64) (256 : Int))] (.s (.v (.pr (.int .i64) (.int .i64)) c7)) [])
    (h9 : c1 = c2) :
    SC cfg.P i_impl_piece_fixedIn [.s (.v (.pr (.int .i64) (.pr (.int .i64) (.pr (.int .i64) (.int .i64)))) a0)] (.tup [.own t_impl_Ratio (.pr (.int .i64) (.int .i64)) ([c6, c7] : List (Int × Int)), .v .bool true]) [] :=
  SC_of_run cfgOK (its := [.res (.s (.v (.int .i64) c1)) [] [] [], .res (.s (.v (.int .i64) c2)) [] [] [], .res (.s (.v (.int .i64) c3)) [] [] [], .res (.s (.v (.int .i64) c4)) [] [] [], .res (.s (.v (.int .i64) c5)) [] [] [], .bool true, .res (.s (.v (.pr (.int .i64) (.int .i64)) c6)) [] [] [], .res (.s (.v (.pr (.int .i64) (.int .i64)) c7)) [] [] [], .bool true])
    (ps := [SC cfg.P i_impl_short [.s (.v (.int .i64) a0.1)] (.s (.v (.int .i64) c1)) [],
      SC cfg.P i_impl_short [.s (.v (.int .i64) a0.2.1)] (.s (.v (.int .i64) c2)) [],
      SC cfg.P i_impl_piece_end [.s (.v (.pr (.int .i64) (.pr (.int .i64) (.pr (.int .i64) (.int .i64)))) a0)] (.s (.v (.int .i64) c3)) [],
      SC cfg.P i_impl_short [.s (.v (.int .i64) c3)] (.s (.v (.int .i64) c4)) [],
      SC cfg.P i_impl_piece_slope [.s (.v (.pr (.int .i64) (.pr (.int .i64) (.pr (.int .i64) (.int .i64)))) a0)] (.s (.v (.int .i64) c5)) [],
      (c5 == (0 : Int)) = true,
      SC cfg.P i_impl_ratio [.s (.v (.int .i64) c1), .s (.v (.int .i64) (256 : Int))] (.s (.v (.pr (.int .i64) (.int .i64)) c6)) [],
      SC cfg.P i_impl_ratio [.s (.v (.int .i64) c4), .s (.v (.int .i64) (256 : Int))] (.s (.v (.pr (.int .i64) (.int .i64)) c7)) [],
      (c1 == c2) = true]) (by kernel_rfl) ⟨h1, h2, h3, h4, h5, (beq_iff_eq.mpr h6), h7, h8, (beq_iff_eq.mpr h9), trivial⟩ get_impl_piece_fixedIn (by decide)

theorem impl_piece_fixedIn_p2 (a0 : (Int × (Int × (Int × Int)))) (c1 : Int) (c2 : Int) (c3 : Int) (c4 : Int) (c5 : Int) (c6 : (Int × Int)) (c7 : (Int × Int))
    (h1 : SC cfg.P i_impl_short [.s (.v (.int .i64) a0.1)] (.s (.v (.int .i64) c1)) [])
    (h2 : SC cfg.P i_impl_short [.s (.v (.int .i64) a0.2.1)] (.s (.v (.int .i64) c2)) [])
    (h3 : SC cfg.P i_impl_piece_end [.s (.v (.pr (.int .i64) (.pr (.int .i64) (.pr (.int .i64) (.int .i64)))) a0)] (.s (.v (.int .i64) c3)) [])
    (h4 : SC cfg.P i_impl_short [.s (.v (.int .i64) c3)] (.s (.v (.int .i64) c4)) [])
    (h5 : SC cfg.P i_impl_piece_slope [.s (.v (.pr (.int .i64) (.pr (.int .i64) (.pr (.int .i64) (.int .i64)))) a0)] (.s (.v (.int .i64) c5)) [])
    (h6 : c5 = (0 : Int))
    (h7 : SC cfg.P i_impl_ratio [.s (.v (.int .i64) c1), .s (.v (.int .i64) (256 : Int))] (.s (.v (.pr (.int .i64) (.int .i64)) c6)) [])
    (h8 : SC cfg.P i_impl_ratio [.s (.v (.int .i64) c4), .s (.v (.int .i64) (256 : Int))] (.s (.v (.pr (.int .i64) (.int .i64)) c7)) [])
    (h9 : c1 ≠ c2) :
    SC cfg.P i_impl_piece_fixedIn [.s (.v (.pr (.int .i64) (.pr (.int .i64) (.pr (.int .i64) (.int .i64)))) a0)] (.tup [.own t_impl_Ratio (.pr (.int .i64) (.int .i64)) ([c6, c7] : List (Int × Int)), .v .bool false]) [] :=
  SC_of_run cfgOK (its := [.res (.s (.v (.int .i64) c1)) [] [] [], .res (.s (.v (.int .i64) c2)) [] [] [], .res (.s (.v (.int .i64) c3)) [] [] [], .res (.s (.v (.int .i64) c4)) [] [] [], .res (.s (.v (.int .i64) c5)) [] [] [], .bool true, .res (.s (.v (.pr (.int .i64) (.int .i64)) c6)) [] [] [], .res (.s (.v (.pr (.int .i64) (.int .i64)) c7)) [] [] [], .bool false])
    (ps := [SC cfg.P i_impl_short [.s (.v (.int .i64) a0.1)] (.s (.v (.int .i64) c1)) [],
      SC cfg.P i_impl_short [.s (.v (.int .i64) a0.2.1)] (.s (.v (.int .i64) c2)) [],
      SC cfg.P i_impl_piece_end [.s (.v (.pr (.int .i64) (.pr (.int .i64) (.pr (.int .i64) (.int .i64)))) a0)] (.s (.v (.int .i64) c3)) [],
      SC cfg.P i_impl_short [.s (.v (.int .i64) c3)] (.s (.v (.int .i64) c4)) [],
      SC cfg.P i_impl_piece_slope [.s (.v (.pr (.int .i64) (.pr (.int .i64) (.pr (.int .i64) (.int .i64)))) a0)] (.s (.v (.int .i64) c5)) [],
      (c5 == (0 : Int)) = true,
      SC cfg.P i_impl_ratio [.s (.v (.int .i64) c1), .s (.v (.int .i64) (256 : Int))] (.s (.v (.pr (.int .i64) (.int .i64)) c6)) [],
      SC cfg.P i_impl_ratio [.s (.v (.int .i64) c4), .s (.v (.int .i64) (256 : Int))] (.s (.v (.pr (.int .i64) (.int .i64)) c7)) [],
      (c1 == c2) = false]) (by kernel_rfl) ⟨h1, h2, h3, h4, h5, (beq_iff_eq.mpr h6), h7, h8, (beq_eq_false_iff_ne.mpr h9), trivial⟩ get_impl_piece_fixedIn (by decide)

theorem impl_piece_fixedIn_p3 (a0 : (Int × (Int × (Int × Int)))) (c1 : Int) (c2 : Int) (c3 : Int) (c4 : Int) (c5 : Int) (c6 : (Int × Int)) (c7 : (Int × Int))
    (h1 : SC cfg.P i_impl_short [.s (.v (.int .i64) a0.1)] (.s (.v (.int .i64) c1)) [])
    (h2 : SC cfg.P i_impl_short [.s (.v (.int .i64) a0.2.1)] (.s (.v (.int .i64) c2)) [])
    (h3 : SC cfg.P i_impl_piece_end [.s (.v (.pr (.int .i64) (.pr (.int .i64) (.pr (.int .i64) (.int .i64)))) a0)] (.s (.v (.int .i64) c3)) [])
    (h4 : SC cfg.P i_impl_short [.s (.v (.int .i64) c3)] (.s (.v (.int .i64) c4)) [])
    (h5 : SC cfg.P i_impl_piece_slope [.s (.v (.pr (.int .i64) (.pr (.int .i64) (.pr (.int .i64) (.int .i64)))) a0)] (.s (.v (.int .i64) c5)) [])
    (h6 : c5 ≠ (0 : Int))
    (h7 : 0 ≤ (maxI c5 (0 : Int)))
    (h8 : c5 < (0 : Int))
    (h9 : 0 ≤ (IntKind.wrap .i64 (0 - c5)))
    (h10 : SC cfg.P i_impl_ratio [.s (.v (.int .i64) (IntKind.wrap .i64 ((IntKind.wrap .i64 (c2 * 2 ^ (min ((IntKind.wrap .i64 (0 - c5))).toNat (IntKind.bits .i64)))) - c1))), .s (.v (.int .i64) (IntKind.wrap .i64 ((256 : Int) * (IntKind.wrap .i64 ((IntKind.wrap .i64 ((1 : Int) * 2 ^ (min ((IntKind.wrap .i64 (0 - c5))).toNat (IntKind.bits .i64)))) - (1 : Int))))))] (.s (.v (.pr (.int .i64) (.int .i64)) c6)) [])
    (h11 : SC cfg.P i_impl_ratio [.s (.v (.int .i64) c1), .s (.v (.int .i64) (256 : Int))] (.s (.v (.pr (.int .i64) (.int .i64)) c7)) [])
    (h12 : SC cfg.P i_impl_Ratio_less [.s (.v (.pr (.int .i64) (.int .i64)) c6), .s (.v (.pr (.int .i64) (.int .i64)) c7)] (.s (.v .bool true)) []) :
    SC cfg.P i_impl_piece_fixedIn [.s (.v (.pr (.int .i64) (.pr (.int .i64) (.pr (.int .i64) (.int .i64)))) a0)] (.tup [.own t_impl_Ratio (.pr (.int .i64) (.int .i64)) ([] : List (Int × Int)), .v .bool false]) [] :=
  SC_of_run cfgOK (its := [.res (.s (.v (.int .i64) c1)) [] [] [], .res (.s (.v (.int .i64) c2)) [] [] [], .res (.s (.v (.int .i64) c3)) [] [] [], .res (.s (.v (.int .i64) c4)) [] [] [], .res (.s (.v (.int .i64) c5)) [] [] [], .bool false, .bool true, .res (.s (.v (.pr (.int .i64) (.int .i64)) c6)) [] [] [], .res (.s (.v (.pr (.int .i64) (.int .i64)) c7)) [] [] [], .res (.s (.v .bool true)) [] [] []])
    (ps := [SC cfg.P i_impl_short [.s (.v (.int .i64) a0.1)] (.s (.v (.int .i64) c1)) [],
      SC cfg.P i_impl_short [.s (.v (.int .i64) a0.2.1)] (.s (.v (.int .i64) c2)) [],
      SC cfg.P i_impl_piece_end [.s (.v (.pr (.int .i64) (.pr (.int .i64) (.pr (.int .i64) (.int .i64)))) a0)] (.s (.v (.int .i64) c3)) [],
      SC cfg.P i_impl_short [.s (.v (.int .i64) c3)] (.s (.v (.int .i64) c4)) [],
      SC cfg.P i_impl_piece_slope [.s (.v (.pr (.int .i64) (.pr (.int .i64) (.pr (.int .i64) (.int .i64)))) a0)] (.s (.v (.int .i64) c5)) [],
      (c5 == (0 : Int)) = false,
      0 ≤ (maxI c5 (0 : Int)),
      0 ≤ (maxI c5 (0 : Int)),
      decide (c5 < (0 : Int)) = true,
      0 ≤ (IntKind.wrap .i64 (0 - c5)),
      0 ≤ (IntKind.wrap .i64 (0 - c5)),
      SC cfg.P i_impl_ratio [.s (.v (.int .i64) (IntKind.wrap .i64 ((IntKind.wrap .i64 (c2 * 2 ^ (min ((IntKind.wrap .i64 (0 - c5))).toNat (IntKind.bits .i64)))) - c1))), .s (.v (.int .i64) (IntKind.wrap .i64 ((256 : Int) * (IntKind.wrap .i64 ((IntKind.wrap .i64 ((1 : Int) * 2 ^ (min ((IntKind.wrap .i64 (0 - c5))).toNat (IntKind.bits .i64)))) - (1 : Int))))))] (.s (.v (.pr (.int .i64) (.int .i64)) c6)) [],
      SC cfg.P i_impl_ratio [.s (.v (.int .i64) c1), .s (.v (.int .i64) (256 : Int))] (.s (.v (.pr (.int .i64) (.int .i64)) c7)) [],
      SC cfg.P i_impl_Ratio_less [.s (.v (.pr (.int .i64) (.int .i64)) c6), .s (.v (.pr (.int .i64) (.int .i64)) c7)] (.s (.v .bool true)) []]) (by kernel_rfl) ⟨h1, h2, h3, h4, h5, (beq_eq_false_iff_ne.mpr h6), h7, h7, (decide_eq_true h8), h9, h9, h10, h11, h12, trivial⟩ get_impl_piece_fixedIn (by decide)

theorem impl_piece_fixedIn_p4 (a0 : (Int × (Int × (Int × Int)))) (c1 : Int) (c2 : Int) (c3 : Int) (c4 : Int) (c5 : Int) (c6 : (Int × Int)) (c7 : (Int × Int)) (c9 : (Int × Int))
    (h1 : SC cfg.P i_impl_short [.s (.v (.int .i64) a0.1)] (.s (.v (.int .i64) c1)) [])
    (h2 : SC cfg.P i_impl_short [.s (.v (.int .i64) a0.2.1)] (.s (.v (.int .i64) c2)) [])
    (h3 : SC cfg.P i_impl_piece_end [.s (.v (.pr (.int .i64) (.pr (.int .i64) (.pr (.int .i64) (.int .i64)))) a0)] (.s (.v (.int .i64) c3)) [])
    (h4 : SC cfg.P i_impl_short [.s (.v (.int .i64) c3)] (.s (.v (.int .i64) c4)) [])
    (h5 : SC cfg.P i_impl_piece_slope [.s (.v (.pr (.int .i64) (.pr (.int .i64) (.pr (.int .i64) (.int .i64)))) a0)] (.s (.v (.int .i64) c5)) [])
    (h6 : c5 ≠ (0 : Int))
    (h7 : 0 ≤ (maxI c5 (0 : Int)))
    (h8 : c5 < (0 : Int))
    (h9 : 0 ≤ (IntKind.wrap .i64 (0 - c5)))
    (h10 : SC cfg.P i_impl_ratio [.s (.v (.int .i64) (IntKind.wrap .i64 ((IntKind.wrap .i64 (c2 * 2 ^ (min ((IntKind.wrap .i64 (0 - c5))).toNat (IntKind.bits .i64)))) - c1))), .s (.v (.int .i64) (IntKind.wrap .i64 ((256 : Int) * (IntKind.wrap .i64 ((IntKind.wrap .i64 ((1 : Int) * 2 ^ (min ((IntKind.wrap .i64 (0 - c5))).toNat (IntKind.bits .i64)))) - (1 : Int))))))] (.s (.v (.pr (.int .i64) (.int .i64)) c6)) [])
    (h11 : SC cfg.P i_impl_ratio [.s (.v (.int .i64) c1), .s (.v (.int .i64) (256 : Int))] (.s (.v (.pr (.int .i64) (.int .i64)) c7)) [])
    (h12 : SC cfg.P i_impl_Ratio_less [.s (.v (.pr (.int .i64) (.int .i64)) c6), .s (.v (.pr (.int .i64) (.int .i64)) c7)] (.s (.v .bool false)) [])
    (h13 : SC cfg.P i_impl_ratio [.s (.v (.int .i64) c4), .s (.v (.int .i64) (256 : Int))] (.s (.v (.pr (.int .i64) (.int .i64)) c9)) [])
    (h14 : SC cfg.P i_impl_Ratio_less [.s (.v (.pr (.int .i64) (.int .i64)) c9), .s (.v (.pr (.int .i64) (.int .i64)) c6)] (.s (.v .bool true)) []) :
    SC cfg.P i_impl_piece_fixedIn [.s (.v (.pr (.int .i64) (.pr (.int .i64) (.pr (.int .i64) (.int .i64)))) a0)] (.tup [.own t_impl_Ratio (.pr (.int .i64) (.int .i64)) ([] : List (Int × Int)), .v .bool false]) [] :=
  SC_of_run cfgOK (its := [.res (.s (.v (.int .i64) c1)) [] [] [], .res (.s (.v (.int .i64) c2)) [] [] [], .res (.s (.v (.int .i64) c3)) [] [] [], .res (.s (.v (.int .i64) c4)) [] [] [], .res (.s (.v (.int .i64) c5)) [] [] [], .bool false, .bool true, .res (.s (.v (.pr (.int .i64) (.int .i64)) c6)) [] [] [], .res (.s (.v (.pr (.int .i64) (.int .i64)) c7)) [] [] [], .res (.s (.v .bool false)) [] [] [], .res (.s (.v (.pr (.int .i64) (.int .i64)) c9)) [] [] [], .res (.s (.v .bool true)) [] [] []])
    (ps := [SC cfg.P i_impl_short [.s (.v (.int .i64) a0.1)] (.s (.v (.int .i64) c1)) [],
      SC cfg.P i_impl_short [.s (.v (.int .i64) a0.2.1)] (.s (.v (.int .i64) c2)) [],
      SC cfg.P i_impl_piece_end [.s (.v (.pr (.int .i64) (.pr (.int .i64) (.pr (.int .i64) (.int .i64)))) a0)] (.s (.v (.int .i64) c3)) [],
      SC cfg.P i_impl_short [.s (.v (.int .i64) c3)] (.s (.v (.int .i64) c4)) [],
      SC cfg.P i_impl_piece_slope [.s (.v (.pr (.int .i64) (.pr (.int .i64) (.pr (.int .i64) (.int .i64)))) a0)] (.s (.v (.int .i64) c5)) [],
      (c5 == (0 : Int)) = false,
      0 ≤ (maxI c5 (0 : Int)),
      0 ≤ (maxI c5 (0 : Int)),
      decide (c5 < (0 : Int)) = true,
      0 ≤ (IntKind.wrap .i64 (0 - c5)),
      0 ≤ (IntKind.wrap .i64 (0 - c5)),
      SC cfg.P i_impl_ratio [.s (.v (.int .i64) (IntKind.wrap .i64 ((IntKind.wrap .i64 (c2 * 2 ^ (min ((IntKind.wrap .i64 (0 - c5))).toNat (IntKind.bits .i64)))) - c1))), .s (.v (.int .i64) (IntKind.wrap .i64 ((256 : Int) * (IntKind.wrap .i64 ((IntKind.wrap .i64 ((1 : Int) * 2 ^ (min ((IntKind.wrap .i64 (0 - c5))).toNat (IntKind.bits .i64)))) - (1 : Int))))))] (.s (.v (.pr (.int .i64) (.int .i64)) c6)) [],
      SC cfg.P i_impl_ratio [.s (.v (.int .i64) c1), .s (.v (.int .i64) (256 : Int))] (.s (.v (.pr (.int .i64) (.int .i64)) c7)) [],
      SC cfg.P i_impl_Ratio_less [.s (.v (.pr (.int .i64) (.int .i64)) c6), .s (.v (.pr (.int .i64) (.int .i64)) c7)] (.s (.v .bool false)) [],
      SC cfg.P i_impl_ratio [.s (.v (.int .i64) c4), .s (.v (.int .i64) (256 : Int))] (.s (.v (.pr (.int .i64) (.int .i64)) c9)) [],
      SC cfg.P i_impl_Ratio_less [.s (.v (.pr (.int .i64) (.int .i64)) c9), .s (.v (.pr (.int .i64) (.int .i64)) c6)] (.s (.v .bool true)) []]) (by kernel_rfl) ⟨h1, h2, h3, h4, h5, (beq_eq_false_iff_ne.mpr h6), h7, h7, (decide_eq_true h8), h9, h9, h10, h11, h12, h13, h14, trivial⟩ get_impl_piece_fixedIn (by decide)

theorem impl_piece_fixedIn_p5 (a0 : (Int × (Int × (Int × Int)))) (c1 : Int) (c2 : Int) (c3 : Int) (c4 : Int) (c5 : Int) (c6 : (Int × Int)) (c7 : (Int × Int)) (c9 : (Int × Int))
    (h1 : SC cfg.P i_impl_short [.s (.v (.int .i64) a0.1)] (.s (.v (.int .i64) c1)) [])
    (h2 : SC cfg.P i_impl_short [.s (.v (.int .i64) a0.2.1)] (.s (.v (.int .i64) c2)) [])
    (h3 : SC cfg.P i_impl_piece_end [.s (.v (.pr (.int .i64) (.pr (.int .i64) (.pr (.int .i64) (.int .i64)))) a0)] (.s (.v (.int .i64) c3)) [])
    (h4 : SC cfg.P i_impl_short [.s (.v (.int .i64) c3)] (.s (.v (.int .i64) c4)) [])
    (h5 : SC cfg.P i_impl_piece_slope [.s (.v (.pr (.int .i64) (.pr (.int .i64) (.pr (.int .i64) (.int .i64)))) a0)] (.s (.v (.int .i64) c5)) [])
    (h6 : c5 ≠ (0 : Int))
    (h7 : 0 ≤ (maxI c5 (0 : Int)))
    (h8 : c5 < (0 : Int))
    (h9 : 0 ≤ (IntKind.wrap .i64 (0 - c5)))
    (h10 : SC cfg.P i_impl_ratio [.s (.v (.int .i64) (IntKind.wrap .i64 ((IntKind.wrap .i64 (c2 * 2 ^ (min ((IntKind.wrap .i64 (0 - c5))).toNat (IntKind.bits .i64)))) - c1))), .s (.v (.int .i64) (IntKind.wrap .i64 ((256 : Int) * (IntKind.wrap .i64 ((IntKind.wrap .i64 ((1 : Int) * 2 ^ (min ((IntKind.wrap .i64 (0 - c5))).toNat (IntKind.bits .i64)))) - (1 : Int))))))] (.s (.v (.pr (.int .i64) (.int .i64)) c6)) [])
    (h11 : SC cfg.P i_impl_ratio [.s (.v (.int .i64) c1), .s (.v (.int .i64) (256 : Int))] (.s (.v (.pr (.int .i64) (.int .i64)) c7)) [])
    (h12 : SC cfg.P i_impl_Ratio_less [.s (.v (.pr (.int .i64) (.int .i64)) c6), .s (.v (.pr (.int .i64) (.int .i64)) c7)] (.s (.v .bool false)) [])
    (h13 : SC cfg.P i_impl_ratio [.s (.v (.int .i64) c4), .s (.v (.int .i64) (256 : Int))] (.s (.v (.pr (.int .i64) (.int .i64)) c9)) [])
    (h14 : SC cfg.P i_impl_Ratio_less [.s (.v (.pr (.int .i64) (.int .i64)) c9), .s (.v (.pr (.int .i64) (.int .i64)) c6)] (.s (.v .bool false)) []) :
    SC cfg.P i_impl_piece_fixedIn [.s (.v (.pr (.int .i64) (.pr (.int .i64) (.pr (.int .i64) (.int .i64)))) a0)] (.tup [.own t_impl_Ratio (.pr (.int .i64) (.int .i64)) ([c6, c6] : List (Int × Int)), .v .bool true]) [] :=
  SC_of_run cfgOK (its := [.res (.s (.v (.int .i64) c1)) [] [] [], .res (.s (.v (.int .i64) c2)) [] [] [], .res (.s (.v (.int .i64) c3)) [] [] [], .res (.s (.v (.int .i64) c4)) [] [] [], .res (.s (.v (.int .i64) c5)) [] [] [], .bool false, .bool true, .res (.s (.v (.pr (.int .i64) (.int .i64)) c6)) [] [] [], .res (.s (.v (.pr (.int .i64) (.int .i64)) c7)) [] [] [], .res (.s (.v .bool false)) [] [] [], .res (.s (.v (.pr (.int .i64) (.int .i64)) c9)) [] [] [], .res (.s (.v .bool false)) [] [] []])
    (ps := [SC cfg.P i_impl_short [.s (.v (.int .i64) a0.1)] (.s (.v (.int .i64) c1)) [],
      SC cfg.P i_impl_short [.s (.v (.int .i64) a0.2.1)] (.s (.v (.int .i64) c2)) [],
      SC cfg.P i_impl_piece_end [.s (.v (.pr (.int .i64) (.pr (.int .i64) (.pr (.int .i64) (.int .i64)))) a0)] (.s (.v (.int .i64) c3)) [],
      SC cfg.P i_impl_short [.s (.v (.int .i64) c3)] (.s (.v (.int .i64) c4)) [],
      SC cfg.P i_impl_piece_slope [.s (.v (.pr (.int .i64) (.pr (.int .i64) (.pr (.int .i64) (.int .i64)))) a0)] (.s (.v (.int .i64) c5)) [],
      (c5 == (0 : Int)) = false,
      0 ≤ (maxI c5 (0 : Int)),
      0 ≤ (maxI c5 (0 : Int)),
      decide (c5 < (0 : Int)) = true,
      0 ≤ (IntKind.wrap .i64 (0 - c5)),
      0 ≤ (IntKind.wrap .i64 (0 - c5)),
      SC cfg.P i_impl_ratio [.s (.v (.int .i64) (IntKind.wrap .i64 ((IntKind.wrap .i64 (c2 * 2 ^ (min ((IntKind.wrap .i64 (0 - c5))).toNat (IntKind.bits .i64)))) - c1))), .s (.v (.int .i64) (IntKind.wrap .i64 ((256 : Int) * (IntKind.wrap .i64 ((IntKind.wrap .i64 ((1 : Int) * 2 ^ (min ((IntKind.wrap .i64 (0 - c5))).toNat (IntKind.bits .i64)))) - (1 : Int))))))] (.s (.v (.pr (.int .i64) (.int .i64)) c6)) [],
      SC cfg.P i_impl_ratio [.s (.v (.int .i64) c1), .s (.v (.int .i64) (256 : Int))] (.s (.v (.pr (.int .i64) (.int .i64)) c7)) [],
      SC cfg.P i_impl_Ratio_less [.s (.v (.pr (.int .i64) (.int .i64)) c6), .s (.v (.pr (.int .i64) (.int .i64)) c7)] (.s (.v .bool false)) [],
      SC cfg.P i_impl_ratio [.s (.v (.int .i64) c4), .s (.v (.int .i64) (256 : Int))] (.s (.v (.pr (.int .i64) (.int .i64)) c9)) [],
      SC cfg.P i_impl_Ratio_less [.s (.v (.pr (.int .i64) (.int .i64)) c9), .s (.v (.pr (.int .i64) (.int .i64)) c6)] (.s (.v .bool false)) []]) (by kernel_rfl) ⟨h1, h2, h3, h4, h5, (beq_eq_false_iff_ne.mpr h6), h7, h7, (decide_eq_true h8), h9, h9, h10, h11, h12, h13, h14, trivial⟩ get_impl_piece_fixedIn (by decide)

theorem impl_piece_fixedIn_p6 (a0 : (Int × (Int × (Int × Int)))) (c1 : Int) (c2 : Int) (c3 : Int) (c4 : Int) (c5 : Int) (c6 : (Int × Int)) (c7 : (Int × Int))
    (h1 : SC cfg.P i_impl_short [.s (.v (.int .i64) a0.1)] (.s (.v (.int .i64) c1)) [])
    (h2 : SC cfg.P i_impl_short [.s (.v (.int .i64) a0.2.1)] (.s (.v (.int .i64) c2)) [])
    (h3 : SC cfg.P i_impl_piece_end [.s (.v (.pr (.int .i64) (.pr (.int .i64) (.pr (.int .i64) (.int .i64)))) a0)] (.s (.v (.int .i64) c3)) [])
    (h4 : SC cfg.P i_impl_short [.s (.v (.int .i64) c3)] (.s (.v (.int .i64) c4)) [])
    (h5 : SC cfg.P i_impl_piece_slope [.s (.v (.pr (.int .i64) (.pr (.int .i64) (.pr (.int .i64) (.int .i64)))) a0)] (.s (.v (.int .i64) c5)) [])
    (h6 : c5 ≠ (0 : Int))
    (h7 : 0 ≤ (maxI c5 (0 : Int)))
    (h8 : ¬ (c5 < (0 : Int)))
    (h9 : SC cfg.P i_impl_ratio [.s (.v (.int .i64) (IntKind.wrap .i64 ((IntKind.wrap .i64 (c1 * 2 ^ (min ((maxI c5 (0 : Int))).toNat (IntKind.bits .i64)))) - c2))), .s (.v (.int .i64) (IntKind.wrap .i64 ((256 : Int) * (IntKind.wrap .i64 ((IntKind.wrap .i64 ((1 : Int) * 2 ^ (min ((maxI c5 (0 : Int))).toNat (IntKind.bits .i64)))) - (1 : Int))))))] (.s (.v (.pr (.int .i64) (.int .i64)) c6)) [])
    (h10 : SC cfg.P i_impl_ratio [.s (.v (.int .i64) c1), .s (.v (.int .i64) (256 : Int))] (.s (.v (.pr (.int .i64) (.int .i64)) c7)) [])
    (h11 : SC cfg.P i_impl_Ratio_less [.s (.v (.pr (.int .i64) (.int .i64)) c6), .s (.v (.pr (.int .i64) (.int .i64)) c7)] (.s (.v .bool true)) []) :
    SC cfg.P i_impl_piece_fixedIn [.s (.v (.pr (.int .i64) (.pr (.int .i64) (.pr (.int .i64) (.int .i64)))) a0)] (.tup [.own t_impl_Ratio (.pr (.int .i64) (.int .i64)) ([] : List (Int × Int)), .v .bool false]) [] :=
  SC_of_run cfgOK (its := [.res (.s (.v (.int .i64) c1)) [] [] [], .res (.s (.v (.int .i64) c2)) [] [] [], .res (.s (.v (.int .i64) c3)) [] [] [], .res (.s (.v (.int .i64) c4)) [] [] [], .res (.s (.v (.int .i64) c5)) [] [] [], .bool false, .bool false, .res (.s (.v (.pr (.int .i64) (.int .i64)) c6)) [] [] [], .res (.s (.v (.pr (.int .i64) (.int .i64)) c7)) [] [] [], .res (.s (.v .bool true)) [] [] []])
    (ps := [SC cfg.P i_impl_short [.s (.v (.int .i64) a0.1)] (.s (.v (.int .i64) c1)) [],
      SC cfg.P i_impl_short [.s (.v (.int .i64) a0.2.1)] (.s (.v (.int .i64) c2)) [],
      SC cfg.P i_impl_piece_end [.s (.v (.pr (.int .i64) (.pr (.int .i64) (.pr (.int .i64) (.int .i64)))) a0)] (.s (.v (.int .i64) c3)) [],
      SC cfg.P i_impl_short [.s (.v (.int .i64) c3)] (.s (.v (.int .i64) c4)) [],
      SC cfg.P i_impl_piece_slope [.s (.v (.pr (.int .i64) (.pr (.int .i64) (.pr (.int .i64) (.int .i64)))) a0)] (.s (.v (.int .i64) c5)) [],
      (c5 == (0 : Int)) = false,
      0 ≤ (maxI c5 (0 : Int)),
      0 ≤ (maxI c5 (0 : Int)),
      decide (c5 < (0 : Int)) = false,
      SC cfg.P i_impl_ratio [.s (.v (.int .i64) (IntKind.wrap .i64 ((IntKind.wrap .i64 (c1 * 2 ^ (min ((maxI c5 (0 : Int))).toNat (IntKind.bits .i64)))) - c2))), .s (.v (.int .i64) (IntKind.wrap .i64 ((256 : Int) * (IntKind.wrap .i64 ((IntKind.wrap .i64 ((1 : Int) * 2 ^ (min ((maxI c5 (0 : Int))).toNat (IntKind.bits .i64)))) - (1 : Int))))))] (.s (.v (.pr (.int .i64) (.int .i64)) c6)) [],
      SC cfg.P i_impl_ratio [.s (.v (.int .i64) c1), .s (.v (.int .i64) (256 : Int))] (.s (.v (.pr (.int .i64) (.int .i64)) c7)) [],
      SC cfg.P i_impl_Ratio_less [.s (.v (.pr (.int .i64) (.int .i64)) c6), .s (.v (.pr (.int .i64) (.int .i64)) c7)] (.s (.v .bool true)) []]) (by kernel_rfl) ⟨h1, h2, h3, h4, h5, (beq_eq_false_iff_ne.mpr h6), h7, h7, (decide_eq_false h8), h9, h10, h11, trivial⟩ get_impl_piece_fixedIn (by decide)

theorem impl_piece_fixedIn_p7 (a0 : (Int × (Int × (Int × Int)))) (c1 : Int) (c2 : Int) (c3 : Int) (c4 : Int) (c5 : Int) (c6 : (Int × Int)) (c7 : (Int × Int)) (c9 : (Int × Int))
    (h1 : SC cfg.P i_impl_short [.s (.v (.int .i64) a0.1)] (.s (.v (.int .i64) c1)) [])
    (h2 : SC cfg.P i_impl_short [.s (.v (.int .i64) a0.2.1)] (.s (.v (.int .i64) c2)) [])
    (h3 : SC cfg.P i_impl_piece_end [.s (.v (.pr (.int .i64) (.pr (.int .i64) (.pr (.int .i64) (.int .i64)))) a0)] (.s (.v (.int .i64) c3)) [])
    (h4 : SC cfg.P i_impl_short [.s (.v (.int .i64) c3)] (.s (.v (.int .i64) c4)) [])
    (h5 : SC cfg.P i_impl_piece_slope [.s (.v (.pr (.int .i64) (.pr (.int .i64) (.pr (.int .i64) (.int .i64)))) a0)] (.s (.v (.int .i64) c5)) [])
    (h6 : c5 ≠ (0 : Int))
    (h7 : 0 ≤ (maxI c5 (0 : Int)))
    (h8 : ¬ (c5 < (0 : Int)))
    (h9 : SC cfg.P i_impl_ratio [.s (.v (.int .i64) (IntKind.wrap .i64 ((IntKind.wrap .i64 (c1 * 2 ^ (min ((maxI c5 (0 : Int))).toNat (IntKind.bits .i64)))) - c2))), .s (.v (.int .i64) (IntKind.wrap .i64 ((256 : Int) * (IntKind.wrap .i64 ((IntKind.wrap .i64 ((1 : Int) * 2 ^ (min ((maxI c5 (0 : Int))).toNat (IntKind.bits .i64)))) - (1 : Int))))))] (.s (.v (.pr (.int .i64) (.int .i64)) c6)) [])
    (h10 : SC cfg.P i_impl_ratio [.s (.v (.int .i64) c1), .s (.v (.int .i64) (256 : Int))] (.s (.v (.pr (.int .i64) (.int .i64)) c7)) [])
    (h11 : SC cfg.P i_impl_Ratio_less [.s (.v (.pr (.int .i64) (.int .i64)) c6), .s (.v (.pr (.int .i64) (.int .i64)) c7)] (.s (.v .bool false)) [])
    (h12 : SC cfg.P i_impl_ratio [.s (.v (.int .i64) c4), .s (.v (.int .i64) (256 : Int))] (.s (.v (.pr (.int .i64) (.int .i64)) c9)) [])
    (h13 : SC cfg.P i_impl_Ratio_less [.s (.v (.pr (.int .i64) (.int .i64)) c9), .s (.v (.pr (.int .i64) (.int .i64)) c6)] (.s (.v .bool true)) []) :
    SC cfg.P i_impl_piece_fixedIn [.s (.v (.pr (.int .i64) (.pr (.int .i64) (.pr (.int .i64) (.int .i64)))) a0)] (.tup [.own t_impl_Ratio (.pr (.int .i64) (.int .i64)) ([] : List (Int × Int)), .v .bool false]) [] :=
  SC_of_run cfgOK (its := [.res (.s (.v (.int .i64) c1)) [] [] [], .res (.s (.v (.int .i64) c2)) [] [] [], .res (.s (.v (.int .i64) c3)) [] [] [], .res (.s (.v (.int .i64) c4)) [] [] [], .res (.s (.v (.int .i64) c5)) [] [] [], .bool false, .bool false, .res (.s (.v (.pr (.int .i64) (.int .i64)) c6)) [] [] [], .res (.s (.v (.pr (.int .i64) (.int .i64)) c7)) [] [] [], .res (.s (.v .bool false)) [] [] [], .res (.s (.v (.pr (.int .i64) (.int .i64)) c9)) [] [] [], .res (.s (.v .bool true)) [] [] []])
    (ps := [SC cfg.P i_impl_short [.s (.v (.int .i64) a0.1)] (.s (.v (.int .i64) c1)) [],
      SC cfg.P i_impl_short [.s (.v (.int .i64) a0.2.1)] (.s (.v (.int .i64) c2)) [],
      SC cfg.P i_impl_piece_end [.s (.v (.pr (.int .i64) (.pr (.int .i64) (.pr (.int .i64) (.int .i64)))) a0)] (.s (.v (.int .i64) c3)) [],
      SC cfg.P i_impl_short [.s (.v (.int .i64) c3)] (.s (.v (.int .i64) c4)) [],
      SC cfg.P i_impl_piece_slope [.s (.v (.pr (.int .i64) (.pr (.int .i64) (.pr (.int .i64) (.int .i64)))) a0)] (.s (.v (.int .i64) c5)) [],
      (c5 == (0 : Int)) = false,
      0 ≤ (maxI c5 (0 : Int)),
      0 ≤ (maxI c5 (0 : Int)),
      decide (c5 < (0 : Int)) = false,
      SC cfg.P i_impl_ratio [.s (.v (.int .i64) (IntKind.wrap .i64 ((IntKind.wrap .i64 (c1 * 2 ^ (min ((maxI c5 (0 : Int))).toNat (IntKind.bits .i64)))) - c2))), .s (.v (.int .i64) (IntKind.wrap .i64 ((256 : Int) * (IntKind.wrap .i64 ((IntKind.wrap .i64 ((1 : Int) * 2 ^ (min ((maxI c5 (0 : Int))).toNat (IntKind.bits .i64)))) - (1 : Int))))))] (.s (.v (.pr (.int .i64) (.int .i64)) c6)) [],
      SC cfg.P i_impl_ratio [.s (.v (.int .i64) c1), .s (.v (.int .i64) (256 : Int))] (.s (.v (.pr (.int .i64) (.int .i64)) c7)) [],
      SC cfg.P i_impl_Ratio_less [.s (.v (.pr (.int .i64) (.int .i64)) c6), .s (.v (.pr (.int .i64) (.int .i64)) c7)] (.s (.v .bool false)) [],
      SC cfg.P i_impl_ratio [.s (.v (.int .i64) c4), .s (.v (.int .i64) (256 : Int))] (.s (.v (.pr (.int .i64) (.int .i64)) c9)) [],
      SC cfg.P i_impl_Ratio_less [.s (.v (.pr (.int .i64) (.int .i64)) c9), .s (.v (.pr (.int .i64) (.int .i64)) c6)] (.s (.v .bool true)) []]) (by kernel_rfl) ⟨h1, h2, h3, h4, h5, (beq_eq_false_iff_ne.mpr h6), h7, h7, (decide_eq_false h8), h9, h10, h11, h12, h13, trivial⟩ get_impl_piece_fixedIn (by decide)

theorem impl_piece_fixedIn_p8 (a0 : (Int × (Int × (Int × Int)))) (c1 : Int) (c2 : Int) (c3 : Int) (c4 : Int) (c5 : Int) (c6 : (Int × Int)) (c7 : (Int × Int)) (c9 : (Int × Int))
    (h1 : SC cfg.P i_impl_short [.s (.v (.int .i64) a0.1)] (.s (.v (.int .i64) c1)) [])
    (h2 : SC cfg.P i_impl_short [.s (.v (.int .i64) a0.2.1)] (.s (.v (.int .i64) c2)) [])
    (h3 : SC cfg.P i_impl_piece_end [.s (.v (.pr (.int .i64) (.pr (.int .i64) (.pr (.int .i64) (.int .i64)))) a0)] (.s (.v (.int .i64) c3)) [])
    (h4 : SC cfg.P i_impl_short [.s (.v (.int .i64) c3)] (.s (.v (.int .i64) c4)) [])
    (h5 : SC cfg.P i_impl_piece_slope [.s (.v (.pr (.int .i64) (.pr (.int .i64) (.pr (.int .i64) (.int .i64)))) a0)] (.s (.v (.int .i64) c5)) [])
    (h6 : c5 ≠ (0 : Int))
    (h7 : 0 ≤ (maxI c5 (0 : Int)))
    (h8 : ¬ (c5 < (0 : Int)))
    (h9 : SC cfg.P i_impl_ratio [.s (.v (.int .i64) (IntKind.wrap .i64 ((IntKind.wrap .i64 (c1 * 2 ^ (min ((maxI c5 (0 : Int))).toNat (IntKind.bits .i64)))) - c2))), .s (.v (.int .i64) (IntKind.wrap .i64 ((256 : Int) * (IntKind.wrap .i64 ((IntKind.wrap .i64 ((1 : Int) * 2 ^ (min ((maxI c5 (0 : Int))).toNat (IntKind.bits .i64)))) - (1 : Int))))))] (.s (.v (.pr (.int .i64) (.int .i64)) c6)) [])
    (h10 : SC cfg.P i_impl_ratio [.s (.v (.int .i64) c1), .s (.v (.int .i64) (256 : Int))] (.s (.v (.pr (.int .i64) (.int .i64)) c7)) [])
    (h11 : SC cfg.P i_impl_Ratio_less [.s (.v (.pr (.int .i64) (.int .i64)) c6), .s (.v (.pr (.int .i64) (.int .i64)) c7)] (.s (.v .bool false)) [])
    (h12 : SC cfg.P i_impl_ratio [.s (.v (.int .i64) c4), .s (.v (.int .i64) (256 : Int))] (.s (.v (.pr (.int .i64) (.int .i64)) c9)) [])
    (h13 : SC cfg.P i_impl_Ratio_less [.s (.v (.pr (.int .i64) (.int .i64)) c9), .s (.v (.pr (.int .i64) (.int .i64)) c6)] (.s (.v .bool false)) []) :
    SC cfg.P i_impl_piece_fixedIn [.s (.v (.pr (.int .i64) (.pr (.int .i64) (.pr (.int .i64) (.int .i64)))) a0)] (.tup [.own t_impl_Ratio (.pr (.int .i64) (.int .i64)) ([c6, c6] : List (Int × Int)), .v .bool true]) [] :=
  SC_of_run cfgOK (its := [.res (.s (.v (.int .i64) c1)) [] [] [], .res (.s (.v (.int .i64) c2)) [] [] [], .res (.s (.v (.int .i64) c3)) [] [] [], .res (.s (.v (.int .i64) c4)) [] [] [], .res (.s (.v (.int .i64) c5)) [] [] [], .bool false, .bool false, .res (.s (.v (.pr (.int .i64) (.int .i64)) c6)) [] [] [], .res (.s (.v (.pr (.int .i64) (.int .i64)) c7)) [] [] [], .res (.s (.v .bool false)) [] [] [], .res (.s (.v (.pr (.int .i64) (.int .i64)) c9)) [] [] [], .res (.s (.v .bool false)) [] [] []])
    (ps := [SC cfg.P i_impl_short [.s (.v (.int .i64) a0.1)] (.s (.v (.int .i64) c1)) [],
      SC cfg.P i_impl_short [.s (.v (.int .i64) a0.2.1)] (.s (.v (.int .i64) c2)) [],
      SC cfg.P i_impl_piece_end [.s (.v (.pr (.int .i64) (.pr (.int .i64) (.pr (.int .i64) (.int .i64)))) a0)] (.s (.v (.int .i64) c3)) [],
      SC cfg.P i_impl_short [.s (.v (.int .i64) c3)] (.s (.v (.int .i64) c4)) [],
      SC cfg.P i_impl_piece_slope [.s (.v (.pr (.int .i64) (.pr (.int .i64) (.pr (.int .i64) (.int .i64)))) a0)] (.s (.v (.int .i64) c5)) [],
      (c5 == (0 : Int)) = false,
      0 ≤ (maxI c5 (0 : Int)),
      0 ≤ (maxI c5 (0 : Int)),
      decide (c5 < (0 : Int)) = false,
      SC cfg.P i_impl_ratio [.s (.v (.int .i64) (IntKind.wrap .i64 ((IntKind.wrap .i64 (c1 * 2 ^ (min ((maxI c5 (0 : Int))).toNat (IntKind.bits .i64)))) - c2))), .s (.v (.int .i64) (IntKind.wrap .i64 ((256 : Int) * (IntKind.wrap .i64 ((IntKind.wrap .i64 ((1 : Int) * 2 ^ (min ((maxI c5 (0 : Int))).toNat (IntKind.bits .i64)))) - (1 : Int))))))] (.s (.v (.pr (.int .i64) (.int .i64)) c6)) [],
      SC cfg.P i_impl_ratio [.s (.v (.int .i64) c1), .s (.v (.int .i64) (256 : Int))] (.s (.v (.pr (.int .i64) (.int .i64)) c7)) [],
      SC cfg.P i_impl_Ratio_less [.s (.v (.pr (.int .i64) (.int .i64)) c6), .s (.v (.pr (.int .i64) (.int .i64)) c7)] (.s (.v .bool false)) [],
      SC cfg.P i_impl_ratio [.s (.v (.int .i64) c4), .s (.v (.int .i64) (256 : Int))] (.s (.v (.pr (.int .i64) (.int .i64)) c9)) [],
      SC cfg.P i_impl_Ratio_less [.s (.v (.pr (.int .i64) (.int .i64)) c9), .s (.v (.pr (.int .i64) (.int .i64)) c6)] (.s (.v .bool false)) []]) (by kernel_rfl) ⟨h1, h2, h3, h4, h5, (beq_eq_false_iff_ne.mpr h6), h7, h7, (decide_eq_false h8), h9, h10, h11, h12, h13, trivial⟩ get_impl_piece_fixedIn (by decide)

/-! ### spec_obRatio -/


theorem spec_obRatio_p1 (a0 : Int) (a1 : Int) (c1 : Int) (c2 : Int)
    (h1 : a1 < (0 : Int))
    (h2 : SC cfg.P i_spec_l1Abs [.s (.v (.int .i64) (IntKind.wrap .i64 (0 - a0)))] (.s (.v (.int .i64) c1)) [])
    (h3 : SC cfg.P i_spec_mpGcd [.s (.v (.int .i64) c1), .s (.v (.int .i64) (IntKind.wrap .i64 (0 - a1)))] (.s (.v (.int .i64) c2)) [])
    (h4 : c2 ≠ 0) :
    SC cfg.P i_spec_obRatio [.s (.v (.int .i64) a0), .s (.v (.int .i64) a1)] (.s (.v (.pr (.int .i64) (.int .i64)) ((IntKind.wrap .i64 (Int.tdiv (IntKind.wrap .i64 (0 - a0)) c2)), (IntKind.wrap .i64 (Int.tdiv (IntKind.wrap .i64 (0 - a1)) c2))))) [] :=
  SC_of_run cfgOK (its := [.bool true, .res (.s (.v (.int .i64) c1)) [] [] [], .res (.s (.v (.int .i64) c2)) [] [] []])
    (ps := [decide (a1 < (0 : Int)) = true,
      SC cfg.P i_spec_l1Abs [.s (.v (.int .i64) (IntKind.wrap .i64 (0 - a0)))] (.s (.v (.int .i64) c1)) [],
      SC cfg.P i_spec_mpGcd [.s (.v (.int .i64) c1), .s (.v (.int .i64) (IntKind.wrap .i64 (0 - a1)))] (.s (.v (.int .i64) c2)) [],
      c2 ≠ 0,
      c2 ≠ 0]) (by kernel_rfl) ⟨(decide_eq_true h1), h2, h3, h4, h4, trivial⟩ get_spec_obRatio (by decide)

theorem spec_obRatio_p2 (a0 : Int) (a1 : Int) (c1 : Int) (c2 : Int)
    (h1 : ¬ (a1 < (0 : Int)))
    (h2 : SC cfg.P i_spec_l1Abs [.s (.v (.int .i64) a0)] (.s (.v (.int .i64) c1)) [])
    (h3 : SC cfg.P i_spec_mpGcd [.s (.v (.int .i64) c1), .s (.v (.int .i64) a1)] (.s (.v (.int .i64) c2)) [])
    (h4 : c2 ≠ 0) :
    SC cfg.P i_spec_obRatio [.s (.v (.int .i64) a0), .s (.v (.int .i64) a1)] (.s (.v (.pr (.int .i64) (.int .i64)) ((IntKind.wrap .i64 (Int.tdiv a0 c2)), (IntKind.wrap .i64 (Int.tdiv a1 c2))))) [] :=
  SC_of_run cfgOK (its := [.bool false, .res (.s (.v (.int .i64) c1)) [] [] [], .res (.s (.v (.int .i64) c2)) [] [] []])
    (ps := [decide (a1 < (0 : Int)) = false,
      SC cfg.P i_spec_l1Abs [.s (.v (.int .i64) a0)] (.s (.v (.int .i64) c1)) [],
      SC cfg.P i_spec_mpGcd [.s (.v (.int .i64) c1), .s (.v (.int .i64) a1)] (.s (.v (.int .i64) c2)) [],
      c2 ≠ 0,
      c2 ≠ 0]) (by kernel_rfl) ⟨(decide_eq_false h1), h2, h3, h4, h4, trivial⟩ get_spec_obRatio (by decide)

/-! ### impl_short -/


theorem impl_short_p1 (a0 : Int)
    (h1 : (4294967296 : Int) ≠ 0) :
    SC cfg.P i_impl_short [.s (.v (.int .i64) a0)] (.s (.v (.int .i64) (IntKind.wrap .i64 (Int.tdiv a0 (4294967296 : Int))))) [] :=
  SC_of_run cfgOK (its := [])
    (ps := [(4294967296 : Int) ≠ 0]) (by kernel_rfl) ⟨h1, trivial⟩ get_impl_short (by decide)

/-! ### impl_ratio -/


def impl_ratio_L0a (x0 : Int) (x1 : Int) (x5 : Int) (x6 : Int) (xo4 : (Int × Int)) : St := mkSt 23 [(0, .s (.v (.int .i64) x0)), (1, .s (.v (.int .i64) x1)), (4, .s (.adr 4 none)), (5, .s (.v (.int .i64) x5)), (6, .s (.v (.int .i64) x6))] [(4, .box (.pr (.int .i64) (.int .i64)) xo4 false)]

def impl_ratio_L0X1 (y0 : Int) (y1 : Int) (y5 : Int) (y6 : Int) (y11 : Bool) (yo4 : (Int × Int)) : St := mkSt 23 [(0, .s (.v (.int .i64) y0)), (1, .s (.v (.int .i64) y1)), (4, .s (.adr 4 none)), (5, .s (.v (.int .i64) y5)), (6, .s (.v (.int .i64) y6)), (11, .s (.v .bool y11))] [(4, .box (.pr (.int .i64) (.int .i64)) yo4 false)]

theorem impl_ratio_L0a_i1 (x0 : Int) (x1 : Int) (x5 : Int) (x6 : Int) (xo4 : (Int × Int))
    (h1 : x6 > (0 : Int))
    (h2 : x6 ≠ 0)
    {e : AEx} {st : St} (next : LoopSC cfg.P 2 (lb P_impl_ratio 0) (impl_ratio_L0a x0 x1 x6 (Int.tmod x5 x6) xo4) e st) :
    LoopSC cfg.P 2 (lb P_impl_ratio 0) (impl_ratio_L0a x0 x1 x5 x6 xo4) e st :=
  loop_iter cfgOK (f := i_impl_ratio) (its := [.bool true])
    (ps := [decide (x6 > (0 : Int)) = true,
      x6 ≠ 0]) (st1 := impl_ratio_L0a x0 x1 x6 (Int.tmod x5 x6) xo4) (by kernel_rfl) ⟨(decide_eq_true h1), h2, trivial⟩ next

theorem impl_ratio_L0a_x2 (x0 : Int) (x1 : Int) (x5 : Int) (x6 : Int) (xo4 : (Int × Int))
    (h1 : ¬ (x6 > (0 : Int))) :
    LoopSC cfg.P 2 (lb P_impl_ratio 0) (impl_ratio_L0a x0 x1 x5 x6 xo4) (.exit 0) (impl_ratio_L0X1 x0 x1 x5 x6 false xo4) :=
  loop_out cfgOK (f := i_impl_ratio) (its := [.bool false])
    (ps := [decide (x6 > (0 : Int)) = false]) (by kernel_rfl) ⟨(decide_eq_false h1), trivial⟩ (fun h => by cases h)

theorem impl_ratio_p1 (a0 : Int) (a1 : Int) (c1 : Int) (k1y0 : Int) (k1y1 : Int) (k1y5 : Int) (k1y6 : Int) (k1y11 : Bool) (k1yo4 : (Int × Int))
    (h1 : SC cfg.P i_impl_size [.s (.v (.int .i64) a0)] (.s (.v (.int .i64) c1)) [])
    (h2 : LoopSC cfg.P 2 (lb P_impl_ratio 0) (impl_ratio_L0a a0 a1 c1 a1 ((0 : Int), (0 : Int))) (.exit 0) (impl_ratio_L0X1 k1y0 k1y1 k1y5 k1y6 k1y11 k1yo4))
    (h3 : k1y5 ≠ 0) :
    SC cfg.P i_impl_ratio [.s (.v (.int .i64) a0), .s (.v (.int .i64) a1)] (.s (.v (.pr (.int .i64) (.int .i64)) ((IntKind.wrap .i64 (Int.tdiv k1y0 k1y5)), (IntKind.wrap .i64 (Int.tdiv k1y1 k1y5))))) [] :=
  SC_of_run cfgOK (its := [.res (.s (.v (.int .i64) c1)) [] [] [], .loop (fun _ => (.exit 0, impl_ratio_L0X1 k1y0 k1y1 k1y5 k1y6 k1y11 k1yo4))])
    (ps := [SC cfg.P i_impl_size [.s (.v (.int .i64) a0)] (.s (.v (.int .i64) c1)) [],
      LoopSC cfg.P 2 (lb P_impl_ratio 0) (impl_ratio_L0a a0 a1 c1 a1 ((0 : Int), (0 : Int))) (.exit 0) (impl_ratio_L0X1 k1y0 k1y1 k1y5 k1y6 k1y11 k1yo4),
      k1y5 ≠ 0,
      k1y5 ≠ 0]) (by kernel_rfl) ⟨h1, h2, h3, h3, trivial⟩ get_impl_ratio (by decide)

/-! ### spec_l1Abs -/


theorem spec_l1Abs_p1 (a0 : Int) (c1 : Int)
    (h1 : SC cfg.P i_spec_l1Most [.s (.v (.int .i64) a0), .s (.v (.int .i64) (IntKind.wrap .i64 (0 - a0)))] (.s (.v (.int .i64) c1)) []) :
    SC cfg.P i_spec_l1Abs [.s (.v (.int .i64) a0)] (.s (.v (.int .i64) c1)) [] :=
  SC_of_run cfgOK (its := [.res (.s (.v (.int .i64) c1)) [] [] []])
    (ps := [SC cfg.P i_spec_l1Most [.s (.v (.int .i64) a0), .s (.v (.int .i64) (IntKind.wrap .i64 (0 - a0)))] (.s (.v (.int .i64) c1)) []]) (by kernel_rfl) ⟨h1, trivial⟩ get_spec_l1Abs (by decide)

/-! ### impl_size -/


theorem impl_size_p1 (a0 : Int)
     :
    SC cfg.P i_impl_size [.s (.v (.int .i64) a0)] (.s (.v (.int .i64) (maxI a0 (IntKind.wrap .i64 (0 - a0))))) [] :=
  SC_of_run cfgOK (its := [])
    (ps := []) (by kernel_rfl) trivial get_impl_size (by decide)

/-! ### spec_l1Most -/


theorem spec_l1Most_p1 (a0 : Int) (a1 : Int)
    (h1 : a0 > a1) :
    SC cfg.P i_spec_l1Most [.s (.v (.int .i64) a0), .s (.v (.int .i64) a1)] (.s (.v (.int .i64) a0)) [] :=
  SC_of_run cfgOK (its := [.bool true])
    (ps := [decide (a0 > a1) = true]) (by kernel_rfl) ⟨(decide_eq_true h1), trivial⟩ get_spec_l1Most (by decide)

theorem spec_l1Most_p2 (a0 : Int) (a1 : Int)
    (h1 : ¬ (a0 > a1)) :
    SC cfg.P i_spec_l1Most [.s (.v (.int .i64) a0), .s (.v (.int .i64) a1)] (.s (.v (.int .i64) a1)) [] :=
  SC_of_run cfgOK (its := [.bool false])
    (ps := [decide (a0 > a1) = false]) (by kernel_rfl) ⟨(decide_eq_false h1), trivial⟩ get_spec_l1Most (by decide)

end Go.AI
