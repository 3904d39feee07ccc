/- A part of the road: what it proves stands in its last texts. -/
import Derived.Test.YtndnckjnnfnnnaaDoorSIds
import Derived.Test.YtndnckjnnfnnnaaDoorProg
set_option autoImplicit false
set_option maxRecDepth 100000
set_option linter.unusedVariables false
namespace Go.AI
open Go.Proofs

/-! ### spec_PairOfBreaks -/


theorem spec_PairOfBreaks_p1 (a0 : (List (Int × Int))) (a1 : (List (Int × Int)))
    (h1 : SC cfg.P i_spec_mpRising [.s (.v (.sl (.pr (.int .i64) (.int .i64))) a0)] (.s (.v .bool true)) [])
    (h2 : SC cfg.P i_spec_mpRising [.s (.v (.sl (.pr (.int .i64) (.int .i64))) a1)] (.s (.v .bool true)) [])
    (h3 : ((List.length a0 : Nat) : Int) ≠ ((List.length a1 : Nat) : Int)) :
    SC cfg.P i_spec_PairOfBreaks [.s (.v (.sl (.pr (.int .i64) (.int .i64))) a0), .s (.v (.sl (.pr (.int .i64) (.int .i64))) a1)] (.tup [.v (.pr .str .str) ((⟨#[]⟩ : ByteArray), (⟨#[]⟩ : ByteArray)), .v .bool false]) [] :=
  SC_of_run cfgOK (its := [.res (.s (.v .bool true)) [] [] [], .res (.s (.v .bool true)) [] [] [], .bool true])
    (ps := [SC cfg.P i_spec_mpRising [.s (.v (.sl (.pr (.int .i64) (.int .i64))) a0)] (.s (.v .bool true)) [],
      SC cfg.P i_spec_mpRising [.s (.v (.sl (.pr (.int .i64) (.int .i64))) a1)] (.s (.v .bool true)) [],
      (((List.length a0 : Nat) : Int) != ((List.length a1 : Nat) : Int)) = true]) (by kernel_rfl) ⟨h1, h2, (bne_iff_ne.mpr h3), trivial⟩ get_spec_PairOfBreaks (by decide)

theorem spec_PairOfBreaks_p2 (a0 : (List (Int × Int))) (a1 : (List (Int × Int))) (c3a : (ByteArray × ByteArray)) (c3b : Bool)
    (h1 : SC cfg.P i_spec_mpRising [.s (.v (.sl (.pr (.int .i64) (.int .i64))) a0)] (.s (.v .bool true)) [])
    (h2 : SC cfg.P i_spec_mpRising [.s (.v (.sl (.pr (.int .i64) (.int .i64))) a1)] (.s (.v .bool true)) [])
    (h3 : ((List.length a0 : Nat) : Int) = ((List.length a1 : Nat) : Int))
    (h4 : SC cfg.P i_spec_mpPair [.s (.v (.sl (.pr (.int .i64) (.int .i64))) a0), .s (.v (.sl (.pr (.int .i64) (.int .i64))) a1)] (.tup [.v (.pr .str .str) c3a, .v .bool c3b]) []) :
    SC cfg.P i_spec_PairOfBreaks [.s (.v (.sl (.pr (.int .i64) (.int .i64))) a0), .s (.v (.sl (.pr (.int .i64) (.int .i64))) a1)] (.tup [.v (.pr .str .str) c3a, .v .bool c3b]) [] :=
  SC_of_run cfgOK (its := [.res (.s (.v .bool true)) [] [] [], .res (.s (.v .bool true)) [] [] [], .bool false, .res (.tup [.v (.pr .str .str) c3a, .v .bool c3b]) [] [] []])
    (ps := [SC cfg.P i_spec_mpRising [.s (.v (.sl (.pr (.int .i64) (.int .i64))) a0)] (.s (.v .bool true)) [],
      SC cfg.P i_spec_mpRising [.s (.v (.sl (.pr (.int .i64) (.int .i64))) a1)] (.s (.v .bool true)) [],
      (((List.length a0 : Nat) : Int) != ((List.length a1 : Nat) : Int)) = false,
      SC cfg.P i_spec_mpPair [.s (.v (.sl (.pr (.int .i64) (.int .i64))) a0), .s (.v (.sl (.pr (.int .i64) (.int .i64))) a1)] (.tup [.v (.pr .str .str) c3a, .v .bool c3b]) []]) (by kernel_rfl) ⟨h1, h2, (bne_eq_false_iff_eq.mpr h3), h4, trivial⟩ get_spec_PairOfBreaks (by decide)

theorem spec_PairOfBreaks_p3 (a0 : (List (Int × Int))) (a1 : (List (Int × Int)))
    (h1 : SC cfg.P i_spec_mpRising [.s (.v (.sl (.pr (.int .i64) (.int .i64))) a0)] (.s (.v .bool true)) [])
    (h2 : SC cfg.P i_spec_mpRising [.s (.v (.sl (.pr (.int .i64) (.int .i64))) a1)] (.s (.v .bool false)) []) :
    SC cfg.P i_spec_PairOfBreaks [.s (.v (.sl (.pr (.int .i64) (.int .i64))) a0), .s (.v (.sl (.pr (.int .i64) (.int .i64))) a1)] (.tup [.v (.pr .str .str) ((⟨#[]⟩ : ByteArray), (⟨#[]⟩ : ByteArray)), .v .bool false]) [] :=
  SC_of_run cfgOK (its := [.res (.s (.v .bool true)) [] [] [], .res (.s (.v .bool false)) [] [] []])
    (ps := [SC cfg.P i_spec_mpRising [.s (.v (.sl (.pr (.int .i64) (.int .i64))) a0)] (.s (.v .bool true)) [],
      SC cfg.P i_spec_mpRising [.s (.v (.sl (.pr (.int .i64) (.int .i64))) a1)] (.s (.v .bool false)) []]) (by kernel_rfl) ⟨h1, h2, trivial⟩ get_spec_PairOfBreaks (by decide)

theorem spec_PairOfBreaks_p4 (a0 : (List (Int × Int))) (a1 : (List (Int × Int)))
    (h1 : SC cfg.P i_spec_mpRising [.s (.v (.sl (.pr (.int .i64) (.int .i64))) a0)] (.s (.v .bool false)) []) :
    SC cfg.P i_spec_PairOfBreaks [.s (.v (.sl (.pr (.int .i64) (.int .i64))) a0), .s (.v (.sl (.pr (.int .i64) (.int .i64))) a1)] (.tup [.v (.pr .str .str) ((⟨#[]⟩ : ByteArray), (⟨#[]⟩ : ByteArray)), .v .bool false]) [] :=
  SC_of_run cfgOK (its := [.res (.s (.v .bool false)) [] [] []])
    (ps := [SC cfg.P i_spec_mpRising [.s (.v (.sl (.pr (.int .i64) (.int .i64))) a0)] (.s (.v .bool false)) []]) (by kernel_rfl) ⟨h1, trivial⟩ get_spec_PairOfBreaks (by decide)

/-! ### spec_mpPair -/


def spec_mpPair_L0a (x6 : (List (Int × Int))) (x7 : (List (Int × Int))) (x11 : Int) (xo4 : (ByteArray × ByteArray)) (xo10 : (List Int)) (xo31 : (List (Int × Int))) (xo35 : (List (Int × Int))) : St := mkSt 200 [(4, .s (.adr 4 none)), (6, .s (.v (.sl (.pr (.int .i64) (.int .i64))) x6)), (7, .s (.v (.sl (.pr (.int .i64) (.int .i64))) x7)), (8, .s (.osl 31 0)), (9, .s (.osl 35 0)), (10, .s (.osl 10 0)), (11, .s (.v (.int .i64) x11))] [(4, .box (.pr .str .str) xo4 false), (10, .row t_int (.int .i64) xo10 0 false), (31, .row t_impl_Fraction (.pr (.int .i64) (.int .i64)) xo31 0 false), (35, .row t_impl_Fraction (.pr (.int .i64) (.int .i64)) xo35 0 false)]

def spec_mpPair_L0X1 (y5 : Bool) (yo4 : (ByteArray × ByteArray)) : St := mkSt 200 [(4, .s (.adr 4 none)), (5, .s (.v .bool y5))] [(4, .box (.pr .str .str) yo4 false)]

def spec_mpPair_L0X2 (y6 : (List (Int × Int))) (y7 : (List (Int × Int))) (y11 : Int) (y39 : Bool) (yo4 : (ByteArray × ByteArray)) (yo10 : (List Int)) (yo31 : (List (Int × Int))) (yo35 : (List (Int × Int))) : St := mkSt 200 [(4, .s (.adr 4 none)), (6, .s (.v (.sl (.pr (.int .i64) (.int .i64))) y6)), (7, .s (.v (.sl (.pr (.int .i64) (.int .i64))) y7)), (8, .s (.osl 31 0)), (9, .s (.osl 35 0)), (10, .s (.osl 10 0)), (11, .s (.v (.int .i64) y11)), (39, .s (.v .bool y39))] [(4, .box (.pr .str .str) yo4 false), (10, .row t_int (.int .i64) yo10 0 false), (31, .row t_impl_Fraction (.pr (.int .i64) (.int .i64)) yo31 0 false), (35, .row t_impl_Fraction (.pr (.int .i64) (.int .i64)) yo35 0 false)]

theorem spec_mpPair_L0a_i1 (x6 : (List (Int × Int))) (x7 : (List (Int × Int))) (x11 : Int) (xo4 : (ByteArray × ByteArray)) (xo10 : (List Int)) (xo31 : (List (Int × Int))) (xo35 : (List (Int × Int))) (dc1a : Int)
    (h1 : x11 < ((List.length x6 : Nat) : Int))
    (h2 : 0 ≤ x11)
    (h3 : x11 < (List.length x7 : Int))
    (h4 : 0 ≤ (IntKind.wrap .i64 (x11 - (1 : Int))))
    (h5 : (IntKind.wrap .i64 (x11 - (1 : Int))) < (List.length x7 : Int))
    (h6 : x11 < (List.length x6 : Int))
    (h7 : (IntKind.wrap .i64 (x11 - (1 : Int))) < (List.length x6 : Int))
    (h8 : SC cfg.P i_spec_mpSlope [.s (.v (.int .i64) (IntKind.wrap .i64 ((IntKind.wrap .i64 ((IntKind.wrap .i64 ((IntKind.wrap .i64 ((List.getD x7 (x11).toNat ((0 : Int), (0 : Int))).1 * (List.getD x7 ((IntKind.wrap .i64 (x11 - (1 : Int)))).toNat ((0 : Int), (0 : Int))).2)) - (IntKind.wrap .i64 ((List.getD x7 ((IntKind.wrap .i64 (x11 - (1 : Int)))).toNat ((0 : Int), (0 : Int))).1 * (List.getD x7 (x11).toNat ((0 : Int), (0 : Int))).2)))) * (List.getD x6 (x11).toNat ((0 : Int), (0 : Int))).2)) * (List.getD x6 ((IntKind.wrap .i64 (x11 - (1 : Int)))).toNat ((0 : Int), (0 : Int))).2))), .s (.v (.int .i64) (IntKind.wrap .i64 ((IntKind.wrap .i64 ((IntKind.wrap .i64 ((IntKind.wrap .i64 ((List.getD x6 (x11).toNat ((0 : Int), (0 : Int))).1 * (List.getD x6 ((IntKind.wrap .i64 (x11 - (1 : Int)))).toNat ((0 : Int), (0 : Int))).2)) - (IntKind.wrap .i64 ((List.getD x6 ((IntKind.wrap .i64 (x11 - (1 : Int)))).toNat ((0 : Int), (0 : Int))).1 * (List.getD x6 (x11).toNat ((0 : Int), (0 : Int))).2)))) * (List.getD x7 (x11).toNat ((0 : Int), (0 : Int))).2)) * (List.getD x7 ((IntKind.wrap .i64 (x11 - (1 : Int)))).toNat ((0 : Int), (0 : Int))).2)))] (.tup [.v (.int .i64) dc1a, .v .bool true]) [])
    (h9 : ((List.length xo10 : Nat) : Int) > (0 : Int))
    (h10 : 0 ≤ (IntKind.wrap .i64 (((List.length xo10 : Nat) : Int) - (1 : Int))))
    (h11 : (IntKind.wrap .i64 (((List.length xo10 : Nat) : Int) - (1 : Int))) < (List.length xo10 : Int))
    (h12 : ((IntKind.wrap .i64 (((List.length xo10 : Nat) : Int) - (1 : Int)))).toNat < List.length xo10)
    (h13 : (List.getD xo10 ((IntKind.wrap .i64 (((List.length xo10 : Nat) : Int) - (1 : Int)))).toNat (0 : Int)) = dc1a)
    (h14 : 0 ≤ ((List.length xo10 : Nat) : Int))
    (h15 : ((List.length xo10 : Nat) : Int) < (List.length xo31 : Int))
    (h16 : (((List.length xo10 : Nat) : Int)).toNat < List.length xo31)
    (h17 : ((List.length xo10 : Nat) : Int) < (List.length xo35 : Int))
    (h18 : (((List.length xo10 : Nat) : Int)).toNat < List.length xo35)
    {e : AEx} {st : St} (next : LoopSC cfg.P 2 (lb P_spec_mpPair 0) (spec_mpPair_L0a x6 x7 (IntKind.wrap .i64 (x11 + (1 : Int))) xo4 xo10 (List.set xo31 (((List.length xo10 : Nat) : Int)).toNat (List.getD x6 (x11).toNat ((0 : Int), (0 : Int)))) (List.set xo35 (((List.length xo10 : Nat) : Int)).toNat (List.getD x7 (x11).toNat ((0 : Int), (0 : Int))))) e st) :
    LoopSC cfg.P 2 (lb P_spec_mpPair 0) (spec_mpPair_L0a x6 x7 x11 xo4 xo10 xo31 xo35) e st :=
  loop_iter cfgOK (f := i_spec_mpPair) (its := [.bool true, .res (.tup [.v (.int .i64) dc1a, .v .bool true]) [] [] [], .bool true, .bool true])
    (ps := [decide (x11 < ((List.length x6 : Nat) : Int)) = true,
      0 ≤ x11,
      x11 < (List.length x7 : Int),
      0 ≤ (IntKind.wrap .i64 (x11 - (1 : Int))),
      (IntKind.wrap .i64 (x11 - (1 : Int))) < (List.length x7 : Int),
      0 ≤ (IntKind.wrap .i64 (x11 - (1 : Int))),
      (IntKind.wrap .i64 (x11 - (1 : Int))) < (List.length x7 : Int),
      0 ≤ x11,
      x11 < (List.length x7 : Int),
      0 ≤ x11,
      x11 < (List.length x6 : Int),
      0 ≤ (IntKind.wrap .i64 (x11 - (1 : Int))),
      (IntKind.wrap .i64 (x11 - (1 : Int))) < (List.length x6 : Int),
      0 ≤ x11,
      x11 < (List.length x6 : Int),
      0 ≤ (IntKind.wrap .i64 (x11 - (1 : Int))),
      (IntKind.wrap .i64 (x11 - (1 : Int))) < (List.length x6 : Int),
      0 ≤ (IntKind.wrap .i64 (x11 - (1 : Int))),
      (IntKind.wrap .i64 (x11 - (1 : Int))) < (List.length x6 : Int),
      0 ≤ x11,
      x11 < (List.length x6 : Int),
      0 ≤ x11,
      x11 < (List.length x7 : Int),
      0 ≤ (IntKind.wrap .i64 (x11 - (1 : Int))),
      (IntKind.wrap .i64 (x11 - (1 : Int))) < (List.length x7 : Int),
      SC cfg.P i_spec_mpSlope [.s (.v (.int .i64) (IntKind.wrap .i64 ((IntKind.wrap .i64 ((IntKind.wrap .i64 ((IntKind.wrap .i64 ((List.getD x7 (x11).toNat ((0 : Int), (0 : Int))).1 * (List.getD x7 ((IntKind.wrap .i64 (x11 - (1 : Int)))).toNat ((0 : Int), (0 : Int))).2)) - (IntKind.wrap .i64 ((List.getD x7 ((IntKind.wrap .i64 (x11 - (1 : Int)))).toNat ((0 : Int), (0 : Int))).1 * (List.getD x7 (x11).toNat ((0 : Int), (0 : Int))).2)))) * (List.getD x6 (x11).toNat ((0 : Int), (0 : Int))).2)) * (List.getD x6 ((IntKind.wrap .i64 (x11 - (1 : Int)))).toNat ((0 : Int), (0 : Int))).2))), .s (.v (.int .i64) (IntKind.wrap .i64 ((IntKind.wrap .i64 ((IntKind.wrap .i64 ((IntKind.wrap .i64 ((List.getD x6 (x11).toNat ((0 : Int), (0 : Int))).1 * (List.getD x6 ((IntKind.wrap .i64 (x11 - (1 : Int)))).toNat ((0 : Int), (0 : Int))).2)) - (IntKind.wrap .i64 ((List.getD x6 ((IntKind.wrap .i64 (x11 - (1 : Int)))).toNat ((0 : Int), (0 : Int))).1 * (List.getD x6 (x11).toNat ((0 : Int), (0 : Int))).2)))) * (List.getD x7 (x11).toNat ((0 : Int), (0 : Int))).2)) * (List.getD x7 ((IntKind.wrap .i64 (x11 - (1 : Int)))).toNat ((0 : Int), (0 : Int))).2)))] (.tup [.v (.int .i64) dc1a, .v .bool true]) [],
      decide (((List.length xo10 : Nat) : Int) > (0 : Int)) = true,
      0 ≤ (IntKind.wrap .i64 (((List.length xo10 : Nat) : Int) - (1 : Int))),
      (IntKind.wrap .i64 (((List.length xo10 : Nat) : Int) - (1 : Int))) < (List.length xo10 : Int),
      ((IntKind.wrap .i64 (((List.length xo10 : Nat) : Int) - (1 : Int)))).toNat < List.length xo10,
      ((List.getD xo10 ((IntKind.wrap .i64 (((List.length xo10 : Nat) : Int) - (1 : Int)))).toNat (0 : Int)) == dc1a) = true,
      0 ≤ x11,
      x11 < (List.length x6 : Int),
      0 ≤ ((List.length xo10 : Nat) : Int),
      ((List.length xo10 : Nat) : Int) < (List.length xo31 : Int),
      (((List.length xo10 : Nat) : Int)).toNat < List.length xo31,
      0 ≤ x11,
      x11 < (List.length x7 : Int),
      0 ≤ ((List.length xo10 : Nat) : Int),
      ((List.length xo10 : Nat) : Int) < (List.length xo35 : Int),
      (((List.length xo10 : Nat) : Int)).toNat < List.length xo35]) (st1 := spec_mpPair_L0a x6 x7 (IntKind.wrap .i64 (x11 + (1 : Int))) xo4 xo10 (List.set xo31 (((List.length xo10 : Nat) : Int)).toNat (List.getD x6 (x11).toNat ((0 : Int), (0 : Int)))) (List.set xo35 (((List.length xo10 : Nat) : Int)).toNat (List.getD x7 (x11).toNat ((0 : Int), (0 : Int))))) (by kernel_rfl) ⟨(decide_eq_true h1), h2, h3, h4, h5, h4, h5, h2, h3, h2, h6, h4, h7, h2, h6, h4, h7, h4, h7, h2, h6, h2, h3, h4, h5, h8, (decide_eq_true h9), h10, h11, h12, (beq_iff_eq.mpr h13), h2, h6, h14, h15, h16, h2, h3, h14, h17, h18, trivial⟩ next

theorem spec_mpPair_L0a_i2 (x6 : (List (Int × Int))) (x7 : (List (Int × Int))) (x11 : Int) (xo4 : (ByteArray × ByteArray)) (xo10 : (List Int)) (xo31 : (List (Int × Int))) (xo35 : (List (Int × Int))) (dc1a : Int)
    (h1 : x11 < ((List.length x6 : Nat) : Int))
    (h2 : 0 ≤ x11)
    (h3 : x11 < (List.length x7 : Int))
    (h4 : 0 ≤ (IntKind.wrap .i64 (x11 - (1 : Int))))
    (h5 : (IntKind.wrap .i64 (x11 - (1 : Int))) < (List.length x7 : Int))
    (h6 : x11 < (List.length x6 : Int))
    (h7 : (IntKind.wrap .i64 (x11 - (1 : Int))) < (List.length x6 : Int))
    (h8 : SC cfg.P i_spec_mpSlope [.s (.v (.int .i64) (IntKind.wrap .i64 ((IntKind.wrap .i64 ((IntKind.wrap .i64 ((IntKind.wrap .i64 ((List.getD x7 (x11).toNat ((0 : Int), (0 : Int))).1 * (List.getD x7 ((IntKind.wrap .i64 (x11 - (1 : Int)))).toNat ((0 : Int), (0 : Int))).2)) - (IntKind.wrap .i64 ((List.getD x7 ((IntKind.wrap .i64 (x11 - (1 : Int)))).toNat ((0 : Int), (0 : Int))).1 * (List.getD x7 (x11).toNat ((0 : Int), (0 : Int))).2)))) * (List.getD x6 (x11).toNat ((0 : Int), (0 : Int))).2)) * (List.getD x6 ((IntKind.wrap .i64 (x11 - (1 : Int)))).toNat ((0 : Int), (0 : Int))).2))), .s (.v (.int .i64) (IntKind.wrap .i64 ((IntKind.wrap .i64 ((IntKind.wrap .i64 ((IntKind.wrap .i64 ((List.getD x6 (x11).toNat ((0 : Int), (0 : Int))).1 * (List.getD x6 ((IntKind.wrap .i64 (x11 - (1 : Int)))).toNat ((0 : Int), (0 : Int))).2)) - (IntKind.wrap .i64 ((List.getD x6 ((IntKind.wrap .i64 (x11 - (1 : Int)))).toNat ((0 : Int), (0 : Int))).1 * (List.getD x6 (x11).toNat ((0 : Int), (0 : Int))).2)))) * (List.getD x7 (x11).toNat ((0 : Int), (0 : Int))).2)) * (List.getD x7 ((IntKind.wrap .i64 (x11 - (1 : Int)))).toNat ((0 : Int), (0 : Int))).2)))] (.tup [.v (.int .i64) dc1a, .v .bool true]) [])
    (h9 : ((List.length xo10 : Nat) : Int) > (0 : Int))
    (h10 : 0 ≤ (IntKind.wrap .i64 (((List.length xo10 : Nat) : Int) - (1 : Int))))
    (h11 : (IntKind.wrap .i64 (((List.length xo10 : Nat) : Int) - (1 : Int))) < (List.length xo10 : Int))
    (h12 : ((IntKind.wrap .i64 (((List.length xo10 : Nat) : Int) - (1 : Int)))).toNat < List.length xo10)
    (h13 : (List.getD xo10 ((IntKind.wrap .i64 (((List.length xo10 : Nat) : Int) - (1 : Int)))).toNat (0 : Int)) ≠ dc1a)
    (h14 : sizeOK (List.length xo10 + List.length ([dc1a] : List Int)))
    (h15 : sizeOK (List.length xo31 + List.length ([(List.getD x6 (x11).toNat ((0 : Int), (0 : Int)))] : List (Int × Int))))
    (h16 : sizeOK (List.length xo35 + List.length ([(List.getD x7 (x11).toNat ((0 : Int), (0 : Int)))] : List (Int × Int))))
    {e : AEx} {st : St} (next : LoopSC cfg.P 2 (lb P_spec_mpPair 0) (spec_mpPair_L0a x6 x7 (IntKind.wrap .i64 (x11 + (1 : Int))) xo4 (xo10 ++ ([dc1a] : List Int)) (xo31 ++ ([(List.getD x6 (x11).toNat ((0 : Int), (0 : Int)))] : List (Int × Int))) (xo35 ++ ([(List.getD x7 (x11).toNat ((0 : Int), (0 : Int)))] : List (Int × Int)))) e st) :
    LoopSC cfg.P 2 (lb P_spec_mpPair 0) (spec_mpPair_L0a x6 x7 x11 xo4 xo10 xo31 xo35) e st :=
  loop_iter cfgOK (f := i_spec_mpPair) (its := [.bool true, .res (.tup [.v (.int .i64) dc1a, .v .bool true]) [] [] [], .bool true, .bool false])
    (ps := [decide (x11 < ((List.length x6 : Nat) : Int)) = true,
      0 ≤ x11,
      x11 < (List.length x7 : Int),
      0 ≤ (IntKind.wrap .i64 (x11 - (1 : Int))),
      (IntKind.wrap .i64 (x11 - (1 : Int))) < (List.length x7 : Int),
      0 ≤ (IntKind.wrap .i64 (x11 - (1 : Int))),
      (IntKind.wrap .i64 (x11 - (1 : Int))) < (List.length x7 : Int),
      0 ≤ x11,
      x11 < (List.length x7 : Int),
      0 ≤ x11,
      x11 < (List.length x6 : Int),
      0 ≤ (IntKind.wrap .i64 (x11 - (1 : Int))),
      (IntKind.wrap .i64 (x11 - (1 : Int))) < (List.length x6 : Int),
      0 ≤ x11,
      x11 < (List.length x6 : Int),
      0 ≤ (IntKind.wrap .i64 (x11 - (1 : Int))),
      (IntKind.wrap .i64 (x11 - (1 : Int))) < (List.length x6 : Int),
      0 ≤ (IntKind.wrap .i64 (x11 - (1 : Int))),
      (IntKind.wrap .i64 (x11 - (1 : Int))) < (List.length x6 : Int),
      0 ≤ x11,
      x11 < (List.length x6 : Int),
      0 ≤ x11,
      x11 < (List.length x7 : Int),
      0 ≤ (IntKind.wrap .i64 (x11 - (1 : Int))),
      (IntKind.wrap .i64 (x11 - (1 : Int))) < (List.length x7 : Int),
      SC cfg.P i_spec_mpSlope [.s (.v (.int .i64) (IntKind.wrap .i64 ((IntKind.wrap .i64 ((IntKind.wrap .i64 ((IntKind.wrap .i64 ((List.getD x7 (x11).toNat ((0 : Int), (0 : Int))).1 * (List.getD x7 ((IntKind.wrap .i64 (x11 - (1 : Int)))).toNat ((0 : Int), (0 : Int))).2)) - (IntKind.wrap .i64 ((List.getD x7 ((IntKind.wrap .i64 (x11 - (1 : Int)))).toNat ((0 : Int), (0 : Int))).1 * (List.getD x7 (x11).toNat ((0 : Int), (0 : Int))).2)))) * (List.getD x6 (x11).toNat ((0 : Int), (0 : Int))).2)) * (List.getD x6 ((IntKind.wrap .i64 (x11 - (1 : Int)))).toNat ((0 : Int), (0 : Int))).2))), .s (.v (.int .i64) (IntKind.wrap .i64 ((IntKind.wrap .i64 ((IntKind.wrap .i64 ((IntKind.wrap .i64 ((List.getD x6 (x11).toNat ((0 : Int), (0 : Int))).1 * (List.getD x6 ((IntKind.wrap .i64 (x11 - (1 : Int)))).toNat ((0 : Int), (0 : Int))).2)) - (IntKind.wrap .i64 ((List.getD x6 ((IntKind.wrap .i64 (x11 - (1 : Int)))).toNat ((0 : Int), (0 : Int))).1 * (List.getD x6 (x11).toNat ((0 : Int), (0 : Int))).2)))) * (List.getD x7 (x11).toNat ((0 : Int), (0 : Int))).2)) * (List.getD x7 ((IntKind.wrap .i64 (x11 - (1 : Int)))).toNat ((0 : Int), (0 : Int))).2)))] (.tup [.v (.int .i64) dc1a, .v .bool true]) [],
      decide (((List.length xo10 : Nat) : Int) > (0 : Int)) = true,
      0 ≤ (IntKind.wrap .i64 (((List.length xo10 : Nat) : Int) - (1 : Int))),
      (IntKind.wrap .i64 (((List.length xo10 : Nat) : Int) - (1 : Int))) < (List.length xo10 : Int),
      ((IntKind.wrap .i64 (((List.length xo10 : Nat) : Int) - (1 : Int)))).toNat < List.length xo10,
      ((List.getD xo10 ((IntKind.wrap .i64 (((List.length xo10 : Nat) : Int) - (1 : Int)))).toNat (0 : Int)) == dc1a) = false,
      sizeOK (List.length xo10 + List.length ([dc1a] : List Int)),
      0 ≤ x11,
      x11 < (List.length x6 : Int),
      sizeOK (List.length xo31 + List.length ([(List.getD x6 (x11).toNat ((0 : Int), (0 : Int)))] : List (Int × Int))),
      0 ≤ x11,
      x11 < (List.length x7 : Int),
      sizeOK (List.length xo35 + List.length ([(List.getD x7 (x11).toNat ((0 : Int), (0 : Int)))] : List (Int × Int)))]) (st1 := spec_mpPair_L0a x6 x7 (IntKind.wrap .i64 (x11 + (1 : Int))) xo4 (xo10 ++ ([dc1a] : List Int)) (xo31 ++ ([(List.getD x6 (x11).toNat ((0 : Int), (0 : Int)))] : List (Int × Int))) (xo35 ++ ([(List.getD x7 (x11).toNat ((0 : Int), (0 : Int)))] : List (Int × Int)))) (by kernel_rfl) ⟨(decide_eq_true h1), h2, h3, h4, h5, h4, h5, h2, h3, h2, h6, h4, h7, h2, h6, h4, h7, h4, h7, h2, h6, h2, h3, h4, h5, h8, (decide_eq_true h9), h10, h11, h12, (beq_eq_false_iff_ne.mpr h13), h14, h2, h6, h15, h2, h3, h16, trivial⟩ next

theorem spec_mpPair_L0a_i3 (x6 : (List (Int × Int))) (x7 : (List (Int × Int))) (x11 : Int) (xo4 : (ByteArray × ByteArray)) (xo10 : (List Int)) (xo31 : (List (Int × Int))) (xo35 : (List (Int × Int))) (dc1a : Int)
    (h1 : x11 < ((List.length x6 : Nat) : Int))
    (h2 : 0 ≤ x11)
    (h3 : x11 < (List.length x7 : Int))
    (h4 : 0 ≤ (IntKind.wrap .i64 (x11 - (1 : Int))))
    (h5 : (IntKind.wrap .i64 (x11 - (1 : Int))) < (List.length x7 : Int))
    (h6 : x11 < (List.length x6 : Int))
    (h7 : (IntKind.wrap .i64 (x11 - (1 : Int))) < (List.length x6 : Int))
    (h8 : SC cfg.P i_spec_mpSlope [.s (.v (.int .i64) (IntKind.wrap .i64 ((IntKind.wrap .i64 ((IntKind.wrap .i64 ((IntKind.wrap .i64 ((List.getD x7 (x11).toNat ((0 : Int), (0 : Int))).1 * (List.getD x7 ((IntKind.wrap .i64 (x11 - (1 : Int)))).toNat ((0 : Int), (0 : Int))).2)) - (IntKind.wrap .i64 ((List.getD x7 ((IntKind.wrap .i64 (x11 - (1 : Int)))).toNat ((0 : Int), (0 : Int))).1 * (List.getD x7 (x11).toNat ((0 : Int), (0 : Int))).2)))) * (List.getD x6 (x11).toNat ((0 : Int), (0 : Int))).2)) * (List.getD x6 ((IntKind.wrap .i64 (x11 - (1 : Int)))).toNat ((0 : Int), (0 : Int))).2))), .s (.v (.int .i64) (IntKind.wrap .i64 ((IntKind.wrap .i64 ((IntKind.wrap .i64 ((IntKind.wrap .i64 ((List.getD x6 (x11).toNat ((0 : Int), (0 : Int))).1 * (List.getD x6 ((IntKind.wrap .i64 (x11 - (1 : Int)))).toNat ((0 : Int), (0 : Int))).2)) - (IntKind.wrap .i64 ((List.getD x6 ((IntKind.wrap .i64 (x11 - (1 : Int)))).toNat ((0 : Int), (0 : Int))).1 * (List.getD x6 (x11).toNat ((0 : Int), (0 : Int))).2)))) * (List.getD x7 (x11).toNat ((0 : Int), (0 : Int))).2)) * (List.getD x7 ((IntKind.wrap .i64 (x11 - (1 : Int)))).toNat ((0 : Int), (0 : Int))).2)))] (.tup [.v (.int .i64) dc1a, .v .bool true]) [])
    (h9 : ¬ (((List.length xo10 : Nat) : Int) > (0 : Int)))
    (h10 : sizeOK (List.length xo10 + List.length ([dc1a] : List Int)))
    (h11 : sizeOK (List.length xo31 + List.length ([(List.getD x6 (x11).toNat ((0 : Int), (0 : Int)))] : List (Int × Int))))
    (h12 : sizeOK (List.length xo35 + List.length ([(List.getD x7 (x11).toNat ((0 : Int), (0 : Int)))] : List (Int × Int))))
    {e : AEx} {st : St} (next : LoopSC cfg.P 2 (lb P_spec_mpPair 0) (spec_mpPair_L0a x6 x7 (IntKind.wrap .i64 (x11 + (1 : Int))) xo4 (xo10 ++ ([dc1a] : List Int)) (xo31 ++ ([(List.getD x6 (x11).toNat ((0 : Int), (0 : Int)))] : List (Int × Int))) (xo35 ++ ([(List.getD x7 (x11).toNat ((0 : Int), (0 : Int)))] : List (Int × Int)))) e st) :
    LoopSC cfg.P 2 (lb P_spec_mpPair 0) (spec_mpPair_L0a x6 x7 x11 xo4 xo10 xo31 xo35) e st :=
  loop_iter cfgOK (f := i_spec_mpPair) (its := [.bool true, .res (.tup [.v (.int .i64) dc1a, .v .bool true]) [] [] [], .bool false])
    (ps := [decide (x11 < ((List.length x6 : Nat) : Int)) = true,
      0 ≤ x11,
      x11 < (List.length x7 : Int),
      0 ≤ (IntKind.wrap .i64 (x11 - (1 : Int))),
      (IntKind.wrap .i64 (x11 - (1 : Int))) < (List.length x7 : Int),
      0 ≤ (IntKind.wrap .i64 (x11 - (1 : Int))),
      (IntKind.wrap .i64 (x11 - (1 : Int))) < (List.length x7 : Int),
      0 ≤ x11,
      x11 < (List.length x7 : Int),
      0 ≤ x11,
      x11 < (List.length x6 : Int),
      0 ≤ (IntKind.wrap .i64 (x11 - (1 : Int))),
      (IntKind.wrap .i64 (x11 - (1 : Int))) < (List.length x6 : Int),
      0 ≤ x11,
      x11 < (List.length x6 : Int),
      0 ≤ (IntKind.wrap .i64 (x11 - (1 : Int))),
      (IntKind.wrap .i64 (x11 - (1 : Int))) < (List.length x6 : Int),
      0 ≤ (IntKind.wrap .i64 (x11 - (1 : Int))),
      (IntKind.wrap .i64 (x11 - (1 : Int))) < (List.length x6 : Int),
      0 ≤ x11,
      x11 < (List.length x6 : Int),
      0 ≤ x11,
      x11 < (List.length x7 : Int),
      0 ≤ (IntKind.wrap .i64 (x11 - (1 : Int))),
      (IntKind.wrap .i64 (x11 - (1 : Int))) < (List.length x7 : Int),
      SC cfg.P i_spec_mpSlope [.s (.v (.int .i64) (IntKind.wrap .i64 ((IntKind.wrap .i64 ((IntKind.wrap .i64 ((IntKind.wrap .i64 ((List.getD x7 (x11).toNat ((0 : Int), (0 : Int))).1 * (List.getD x7 ((IntKind.wrap .i64 (x11 - (1 : Int)))).toNat ((0 : Int), (0 : Int))).2)) - (IntKind.wrap .i64 ((List.getD x7 ((IntKind.wrap .i64 (x11 - (1 : Int)))).toNat ((0 : Int), (0 : Int))).1 * (List.getD x7 (x11).toNat ((0 : Int), (0 : Int))).2)))) * (List.getD x6 (x11).toNat ((0 : Int), (0 : Int))).2)) * (List.getD x6 ((IntKind.wrap .i64 (x11 - (1 : Int)))).toNat ((0 : Int), (0 : Int))).2))), .s (.v (.int .i64) (IntKind.wrap .i64 ((IntKind.wrap .i64 ((IntKind.wrap .i64 ((IntKind.wrap .i64 ((List.getD x6 (x11).toNat ((0 : Int), (0 : Int))).1 * (List.getD x6 ((IntKind.wrap .i64 (x11 - (1 : Int)))).toNat ((0 : Int), (0 : Int))).2)) - (IntKind.wrap .i64 ((List.getD x6 ((IntKind.wrap .i64 (x11 - (1 : Int)))).toNat ((0 : Int), (0 : Int))).1 * (List.getD x6 (x11).toNat ((0 : Int), (0 : Int))).2)))) * (List.getD x7 (x11).toNat ((0 : Int), (0 : Int))).2)) * (List.getD x7 ((IntKind.wrap .i64 (x11 - (1 : Int)))).toNat ((0 : Int), (0 : Int))).2)))] (.tup [.v (.int .i64) dc1a, .v .bool true]) [],
      decide (((List.length xo10 : Nat) : Int) > (0 : Int)) = false,
      sizeOK (List.length xo10 + List.length ([dc1a] : List Int)),
      0 ≤ x11,
      x11 < (List.length x6 : Int),
      sizeOK (List.length xo31 + List.length ([(List.getD x6 (x11).toNat ((0 : Int), (0 : Int)))] : List (Int × Int))),
      0 ≤ x11,
      x11 < (List.length x7 : Int),
      sizeOK (List.length xo35 + List.length ([(List.getD x7 (x11).toNat ((0 : Int), (0 : Int)))] : List (Int × Int)))]) (st1 := spec_mpPair_L0a x6 x7 (IntKind.wrap .i64 (x11 + (1 : Int))) xo4 (xo10 ++ ([dc1a] : List Int)) (xo31 ++ ([(List.getD x6 (x11).toNat ((0 : Int), (0 : Int)))] : List (Int × Int))) (xo35 ++ ([(List.getD x7 (x11).toNat ((0 : Int), (0 : Int)))] : List (Int × Int)))) (by kernel_rfl) ⟨(decide_eq_true h1), h2, h3, h4, h5, h4, h5, h2, h3, h2, h6, h4, h7, h2, h6, h4, h7, h4, h7, h2, h6, h2, h3, h4, h5, h8, (decide_eq_false h9), h10, h2, h6, h11, h2, h3, h12, trivial⟩ next

theorem spec_mpPair_L0a_x4 (x6 : (List (Int × Int))) (x7 : (List (Int × Int))) (x11 : Int) (xo4 : (ByteArray × ByteArray)) (xo10 : (List Int)) (xo31 : (List (Int × Int))) (xo35 : (List (Int × Int))) (dc1a : Int)
    (h1 : x11 < ((List.length x6 : Nat) : Int))
    (h2 : 0 ≤ x11)
    (h3 : x11 < (List.length x7 : Int))
    (h4 : 0 ≤ (IntKind.wrap .i64 (x11 - (1 : Int))))
    (h5 : (IntKind.wrap .i64 (x11 - (1 : Int))) < (List.length x7 : Int))
    (h6 : x11 < (List.length x6 : Int))
    (h7 : (IntKind.wrap .i64 (x11 - (1 : Int))) < (List.length x6 : Int))
    (h8 : SC cfg.P i_spec_mpSlope [.s (.v (.int .i64) (IntKind.wrap .i64 ((IntKind.wrap .i64 ((IntKind.wrap .i64 ((IntKind.wrap .i64 ((List.getD x7 (x11).toNat ((0 : Int), (0 : Int))).1 * (List.getD x7 ((IntKind.wrap .i64 (x11 - (1 : Int)))).toNat ((0 : Int), (0 : Int))).2)) - (IntKind.wrap .i64 ((List.getD x7 ((IntKind.wrap .i64 (x11 - (1 : Int)))).toNat ((0 : Int), (0 : Int))).1 * (List.getD x7 (x11).toNat ((0 : Int), (0 : Int))).2)))) * (List.getD x6 (x11).toNat ((0 : Int), (0 : Int))).2)) * (List.getD x6 ((IntKind.wrap .i64 (x11 - (1 : Int)))).toNat ((0 : Int), (0 : Int))).2))), .s (.v (.int .i64) (IntKind.wrap .i64 ((IntKind.wrap .i64 ((IntKind.wrap .i64 ((IntKind.wrap .i64 ((List.getD x6 (x11).toNat ((0 : Int), (0 : Int))).1 * (List.getD x6 ((IntKind.wrap .i64 (x11 - (1 : Int)))).toNat ((0 : Int), (0 : Int))).2)) - (IntKind.wrap .i64 ((List.getD x6 ((IntKind.wrap .i64 (x11 - (1 : Int)))).toNat ((0 : Int), (0 : Int))).1 * (List.getD x6 (x11).toNat ((0 : Int), (0 : Int))).2)))) * (List.getD x7 (x11).toNat ((0 : Int), (0 : Int))).2)) * (List.getD x7 ((IntKind.wrap .i64 (x11 - (1 : Int)))).toNat ((0 : Int), (0 : Int))).2)))] (.tup [.v (.int .i64) dc1a, .v .bool false]) []) :
    LoopSC cfg.P 2 (lb P_spec_mpPair 0) (spec_mpPair_L0a x6 x7 x11 xo4 xo10 xo31 xo35) (.ret) (spec_mpPair_L0X1 false ((⟨#[]⟩ : ByteArray), (⟨#[]⟩ : ByteArray))) :=
  loop_out cfgOK (f := i_spec_mpPair) (its := [.bool true, .res (.tup [.v (.int .i64) dc1a, .v .bool false]) [] [] []])
    (ps := [decide (x11 < ((List.length x6 : Nat) : Int)) = true,
      0 ≤ x11,
      x11 < (List.length x7 : Int),
      0 ≤ (IntKind.wrap .i64 (x11 - (1 : Int))),
      (IntKind.wrap .i64 (x11 - (1 : Int))) < (List.length x7 : Int),
      0 ≤ (IntKind.wrap .i64 (x11 - (1 : Int))),
      (IntKind.wrap .i64 (x11 - (1 : Int))) < (List.length x7 : Int),
      0 ≤ x11,
      x11 < (List.length x7 : Int),
      0 ≤ x11,
      x11 < (List.length x6 : Int),
      0 ≤ (IntKind.wrap .i64 (x11 - (1 : Int))),
      (IntKind.wrap .i64 (x11 - (1 : Int))) < (List.length x6 : Int),
      0 ≤ x11,
      x11 < (List.length x6 : Int),
      0 ≤ (IntKind.wrap .i64 (x11 - (1 : Int))),
      (IntKind.wrap .i64 (x11 - (1 : Int))) < (List.length x6 : Int),
      0 ≤ (IntKind.wrap .i64 (x11 - (1 : Int))),
      (IntKind.wrap .i64 (x11 - (1 : Int))) < (List.length x6 : Int),
      0 ≤ x11,
      x11 < (List.length x6 : Int),
      0 ≤ x11,
      x11 < (List.length x7 : Int),
      0 ≤ (IntKind.wrap .i64 (x11 - (1 : Int))),
      (IntKind.wrap .i64 (x11 - (1 : Int))) < (List.length x7 : Int),
      SC cfg.P i_spec_mpSlope [.s (.v (.int .i64) (IntKind.wrap .i64 ((IntKind.wrap .i64 ((IntKind.wrap .i64 ((IntKind.wrap .i64 ((List.getD x7 (x11).toNat ((0 : Int), (0 : Int))).1 * (List.getD x7 ((IntKind.wrap .i64 (x11 - (1 : Int)))).toNat ((0 : Int), (0 : Int))).2)) - (IntKind.wrap .i64 ((List.getD x7 ((IntKind.wrap .i64 (x11 - (1 : Int)))).toNat ((0 : Int), (0 : Int))).1 * (List.getD x7 (x11).toNat ((0 : Int), (0 : Int))).2)))) * (List.getD x6 (x11).toNat ((0 : Int), (0 : Int))).2)) * (List.getD x6 ((IntKind.wrap .i64 (x11 - (1 : Int)))).toNat ((0 : Int), (0 : Int))).2))), .s (.v (.int .i64) (IntKind.wrap .i64 ((IntKind.wrap .i64 ((IntKind.wrap .i64 ((IntKind.wrap .i64 ((List.getD x6 (x11).toNat ((0 : Int), (0 : Int))).1 * (List.getD x6 ((IntKind.wrap .i64 (x11 - (1 : Int)))).toNat ((0 : Int), (0 : Int))).2)) - (IntKind.wrap .i64 ((List.getD x6 ((IntKind.wrap .i64 (x11 - (1 : Int)))).toNat ((0 : Int), (0 : Int))).1 * (List.getD x6 (x11).toNat ((0 : Int), (0 : Int))).2)))) * (List.getD x7 (x11).toNat ((0 : Int), (0 : Int))).2)) * (List.getD x7 ((IntKind.wrap .i64 (x11 - (1 : Int)))).toNat ((0 : Int), (0 : Int))).2)))] (.tup [.v (.int .i64) dc1a, .v .bool false]) []]) (by kernel_rfl) ⟨(decide_eq_true h1), h2, h3, h4, h5, h4, h5, h2, h3, h2, h6, h4, h7, h2, h6, h4, h7, h4, h7, h2, h6, h2, h3, h4, h5, h8, trivial⟩ (fun h => by cases h)

theorem spec_mpPair_L0a_x5 (x6 : (List (Int × Int))) (x7 : (List (Int × Int))) (x11 : Int) (xo4 : (ByteArray × ByteArray)) (xo10 : (List Int)) (xo31 : (List (Int × Int))) (xo35 : (List (Int × Int)))
    (h1 : ¬ (x11 < ((List.length x6 : Nat) : Int))) :
    LoopSC cfg.P 2 (lb P_spec_mpPair 0) (spec_mpPair_L0a x6 x7 x11 xo4 xo10 xo31 xo35) (.exit 0) (spec_mpPair_L0X2 x6 x7 x11 false xo4 xo10 xo31 xo35) :=
  loop_out cfgOK (f := i_spec_mpPair) (its := [.bool false])
    (ps := [decide (x11 < ((List.length x6 : Nat) : Int)) = false]) (by kernel_rfl) ⟨(decide_eq_false h1), trivial⟩ (fun h => by cases h)

theorem spec_mpPair_p1 (a0 : (List (Int × Int))) (a1 : (List (Int × Int))) (c1 : (List (Int × Int))) (c2 : (List (Int × Int))) (k1y5 : Bool) (k1yo4 : (ByteArray × ByteArray))
    (h1 : SC cfg.P i_spec_mpEnds [.s (.v (.sl (.pr (.int .i64) (.int .i64))) a0)] (.s (.v (.sl (.pr (.int .i64) (.int .i64))) c1)) [])
    (h2 : SC cfg.P i_spec_mpEnds [.s (.v (.sl (.pr (.int .i64) (.int .i64))) a1)] (.s (.v (.sl (.pr (.int .i64) (.int .i64))) c2)) [])
    (h3 : (0 : Int) < (List.length c1 : Int))
    (h4 : (0 : Int) < (List.length c2 : Int))
    (h5 : LoopSC cfg.P 2 (lb P_spec_mpPair 0) (spec_mpPair_L0a c1 c2 (1 : Int) ((⟨#[]⟩ : ByteArray), (⟨#[]⟩ : ByteArray)) ([] : List Int) ([(List.getD c1 ((0 : Int)).toNat ((0 : Int), (0 : Int)))] : List (Int × Int)) ([(List.getD c2 ((0 : Int)).toNat ((0 : Int), (0 : Int)))] : List (Int × Int))) (.ret) (spec_mpPair_L0X1 k1y5 k1yo4)) :
    SC cfg.P i_spec_mpPair [.s (.v (.sl (.pr (.int .i64) (.int .i64))) a0), .s (.v (.sl (.pr (.int .i64) (.int .i64))) a1)] (.tup [.v (.pr .str .str) k1yo4, .v .bool k1y5]) [] :=
  SC_of_run cfgOK (its := [.res (.s (.v (.sl (.pr (.int .i64) (.int .i64))) c1)) [] [] [], .res (.s (.v (.sl (.pr (.int .i64) (.int .i64))) c2)) [] [] [], .loop (fun _ => (.ret, spec_mpPair_L0X1 k1y5 k1yo4))])
    (ps := [SC cfg.P i_spec_mpEnds [.s (.v (.sl (.pr (.int .i64) (.int .i64))) a0)] (.s (.v (.sl (.pr (.int .i64) (.int .i64))) c1)) [],
      SC cfg.P i_spec_mpEnds [.s (.v (.sl (.pr (.int .i64) (.int .i64))) a1)] (.s (.v (.sl (.pr (.int .i64) (.int .i64))) c2)) [],
      0 ≤ (0 : Int),
      (0 : Int) < (List.length c1 : Int),
      0 ≤ (0 : Int),
      (0 : Int) < (List.length c2 : Int),
      LoopSC cfg.P 2 (lb P_spec_mpPair 0) (spec_mpPair_L0a c1 c2 (1 : Int) ((⟨#[]⟩ : ByteArray), (⟨#[]⟩ : ByteArray)) ([] : List Int) ([(List.getD c1 ((0 : Int)).toNat ((0 : Int), (0 : Int)))] : List (Int × Int)) ([(List.getD c2 ((0 : Int)).toNat ((0 : Int), (0 : Int)))] : List (Int × Int))) (.ret) (spec_mpPair_L0X1 k1y5 k1yo4)]) (by kernel_rfl) ⟨h1, h2, (by decide), h3, (by decide), h4, h5, trivial⟩ get_spec_mpPair (by decide)

theorem spec_mpPair_p2 (a0 : (List (Int × Int))) (a1 : (List (Int × Int))) (c1 : (List (Int × Int))) (c2 : (List (Int × Int))) (k1y6 : (List (Int × Int))) (k1y7 : (List (Int × Int))) (k1y11 : Int) (k1y39 : Bool) (k1yo4 : (ByteArray × ByteArray)) (k1yo10 : (List Int)) (k1yo31 : (List (Int × Int))) (k1yo35 : (List (Int × Int))) (c3a : (List ByteArray)) (c3b : (List ByteArray)) (c4a : ByteArray) (c4b : Bool) (c5a : ByteArray) (c6 : (ByteArray × ByteArray))
    (h1 : SC cfg.P i_spec_mpEnds [.s (.v (.sl (.pr (.int .i64) (.int .i64))) a0)] (.s (.v (.sl (.pr (.int .i64) (.int .i64))) c1)) [])
    (h2 : SC cfg.P i_spec_mpEnds [.s (.v (.sl (.pr (.int .i64) (.int .i64))) a1)] (.s (.v (.sl (.pr (.int .i64) (.int .i64))) c2)) [])
    (h3 : (0 : Int) < (List.length c1 : Int))
    (h4 : (0 : Int) < (List.length c2 : Int))
    (h5 : LoopSC cfg.P 2 (lb P_spec_mpPair 0) (spec_mpPair_L0a c1 c2 (1 : Int) ((⟨#[]⟩ : ByteArray), (⟨#[]⟩ : ByteArray)) ([] : List Int) ([(List.getD c1 ((0 : Int)).toNat ((0 : Int), (0 : Int)))] : List (Int × Int)) ([(List.getD c2 ((0 : Int)).toNat ((0 : Int), (0 : Int)))] : List (Int × Int))) (.exit 0) (spec_mpPair_L0X2 k1y6 k1y7 k1y11 k1y39 k1yo4 k1yo10 k1yo31 k1yo35))
    (h6 : SC cfg.P i_spec_mpSplit [.s (.v (.sl (.pr (.int .i64) (.int .i64))) k1yo31), .s (.v (.sl (.pr (.int .i64) (.int .i64))) k1yo35), .s (.v (.sl (.int .i64)) k1yo10), .s (.v .str (⟨#[]⟩ : ByteArray))] (.tup [.own t_string .str c3a, .own t_string .str c3b, .v .bool true]) [])
    (h7 : SC cfg.P i_spec_TreeWith [.s (.v (.sl .str) c3a)] (.tup [.v .str c4a, .v .bool c4b]) [])
    (h8 : SC cfg.P i_spec_TreeWith [.s (.v (.sl .str) c3b)] (.tup [.v .str c5a, .v .bool true]) [])
    (h9 : SC cfg.P i_spec_prReduce [.s (.v (.pr .str .str) (c4a, c5a)), .s (.v (.sl (.int .i64)) ([] : List Int))] (.s (.v (.pr .str .str) c6)) []) :
    SC cfg.P i_spec_mpPair [.s (.v (.sl (.pr (.int .i64) (.int .i64))) a0), .s (.v (.sl (.pr (.int .i64) (.int .i64))) a1)] (.tup [.v (.pr .str .str) c6, .v .bool true]) [] :=
  SC_of_run cfgOK (its := [.res (.s (.v (.sl (.pr (.int .i64) (.int .i64))) c1)) [] [] [], .res (.s (.v (.sl (.pr (.int .i64) (.int .i64))) c2)) [] [] [], .loop (fun _ => (.exit 0, spec_mpPair_L0X2 k1y6 k1y7 k1y11 k1y39 k1yo4 k1yo10 k1yo31 k1yo35)), .res (.tup [.own t_string .str c3a, .own t_string .str c3b, .v .bool true]) [] [] [176, 198], .res (.tup [.v .str c4a, .v .bool c4b]) [] [] [], .res (.tup [.v .str c5a, .v .bool true]) [] [] [], .res (.s (.v (.pr .str .str) c6)) [] [] []])
    (ps := [SC cfg.P i_spec_mpEnds [.s (.v (.sl (.pr (.int .i64) (.int .i64))) a0)] (.s (.v (.sl (.pr (.int .i64) (.int .i64))) c1)) [],
      SC cfg.P i_spec_mpEnds [.s (.v (.sl (.pr (.int .i64) (.int .i64))) a1)] (.s (.v (.sl (.pr (.int .i64) (.int .i64))) c2)) [],
      0 ≤ (0 : Int),
      (0 : Int) < (List.length c1 : Int),
      0 ≤ (0 : Int),
      (0 : Int) < (List.length c2 : Int),
      LoopSC cfg.P 2 (lb P_spec_mpPair 0) (spec_mpPair_L0a c1 c2 (1 : Int) ((⟨#[]⟩ : ByteArray), (⟨#[]⟩ : ByteArray)) ([] : List Int) ([(List.getD c1 ((0 : Int)).toNat ((0 : Int), (0 : Int)))] : List (Int × Int)) ([(List.getD c2 ((0 : Int)).toNat ((0 : Int), (0 : Int)))] : List (Int × Int))) (.exit 0) (spec_mpPair_L0X2 k1y6 k1y7 k1y11 k1y39 k1yo4 k1yo10 k1yo31 k1yo35),
      SC cfg.P i_spec_mpSplit [.s (.v (.sl (.pr (.int .i64) (.int .i64))) k1yo31), .s (.v (.sl (.pr (.int .i64) (.int .i64))) k1yo35), .s (.v (.sl (.int .i64)) k1yo10), .s (.v .str (⟨#[]⟩ : ByteArray))] (.tup [.own t_string .str c3a, .own t_string .str c3b, .v .bool true]) [],
      SC cfg.P i_spec_TreeWith [.s (.v (.sl .str) c3a)] (.tup [.v .str c4a, .v .bool c4b]) [],
      SC cfg.P i_spec_TreeWith [.s (.v (.sl .str) c3b)] (.tup [.v .str c5a, .v .bool true]) [],
      SC cfg.P i_spec_prReduce [.s (.v (.pr .str .str) (c4a, c5a)), .s (.v (.sl (.int .i64)) ([] : List Int))] (.s (.v (.pr .str .str) c6)) []]) (by kernel_rfl) ⟨h1, h2, (by decide), h3, (by decide), h4, h5, h6, h7, h8, h9, trivial⟩ get_spec_mpPair (by decide)

theorem spec_mpPair_p3 (a0 : (List (Int × Int))) (a1 : (List (Int × Int))) (c1 : (List (Int × Int))) (c2 : (List (Int × Int))) (k1y6 : (List (Int × Int))) (k1y7 : (List (Int × Int))) (k1y11 : Int) (k1y39 : Bool) (k1yo4 : (ByteArray × ByteArray)) (k1yo10 : (List Int)) (k1yo31 : (List (Int × Int))) (k1yo35 : (List (Int × Int))) (c3a : (List ByteArray)) (c3b : (List ByteArray)) (c4a : ByteArray) (c4b : Bool) (c5a : ByteArray)
    (h1 : SC cfg.P i_spec_mpEnds [.s (.v (.sl (.pr (.int .i64) (.int .i64))) a0)] (.s (.v (.sl (.pr (.int .i64) (.int .i64))) c1)) [])
    (h2 : SC cfg.P i_spec_mpEnds [.s (.v (.sl (.pr (.int .i64) (.int .i64))) a1)] (.s (.v (.sl (.pr (.int .i64) (.int .i64))) c2)) [])
    (h3 : (0 : Int) < (List.length c1 : Int))
    (h4 : (0 : Int) < (List.length c2 : Int))
    (h5 : LoopSC cfg.P 2 (lb P_spec_mpPair 0) (spec_mpPair_L0a c1 c2 (1 : Int) ((⟨#[]⟩ : ByteArray), (⟨#[]⟩ : ByteArray)) ([] : List Int) ([(List.getD c1 ((0 : Int)).toNat ((0 : Int), (0 : Int)))] : List (Int × Int)) ([(List.getD c2 ((0 : Int)).toNat ((0 : Int), (0 : Int)))] : List (Int × Int))) (.exit 0) (spec_mpPair_L0X2 k1y6 k1y7 k1y11 k1y39 k1yo4 k1yo10 k1yo31 k1yo35))
    (h6 : SC cfg.P i_spec_mpSplit [.s (.v (.sl (.pr (.int .i64) (.int .i64))) k1yo31), .s (.v (.sl (.pr (.int .i64) (.int .i64))) k1yo35), .s (.v (.sl (.int .i64)) k1yo10), .s (.v .str (⟨#[]⟩ : ByteArray))] (.tup [.own t_string .str c3a, .own t_string .str c3b, .v .bool true]) [])
    (h7 : SC cfg.P i_spec_TreeWith [.s (.v (.sl .str) c3a)] (.tup [.v .str c4a, .v .bool c4b]) [])
    (h8 : SC cfg.P i_spec_TreeWith [.s (.v (.sl .str) c3b)] (.tup [.v .str c5a, .v .bool false]) []) :
    SC cfg.P i_spec_mpPair [.s (.v (.sl (.pr (.int .i64) (.int .i64))) a0), .s (.v (.sl (.pr (.int .i64) (.int .i64))) a1)] (.tup [.v (.pr .str .str) ((⟨#[]⟩ : ByteArray), (⟨#[]⟩ : ByteArray)), .v .bool false]) [] :=
  SC_of_run cfgOK (its := [.res (.s (.v (.sl (.pr (.int .i64) (.int .i64))) c1)) [] [] [], .res (.s (.v (.sl (.pr (.int .i64) (.int .i64))) c2)) [] [] [], .loop (fun _ => (.exit 0, spec_mpPair_L0X2 k1y6 k1y7 k1y11 k1y39 k1yo4 k1yo10 k1yo31 k1yo35)), .res (.tup [.own t_string .str c3a, .own t_string .str c3b, .v .bool true]) [] [] [176, 198], .res (.tup [.v .str c4a, .v .bool c4b]) [] [] [], .res (.tup [.v .str c5a, .v .bool false]) [] [] []])
    (ps := [SC cfg.P i_spec_mpEnds [.s (.v (.sl (.pr (.int .i64) (.int .i64))) a0)] (.s (.v (.sl (.pr (.int .i64) (.int .i64))) c1)) [],
      SC cfg.P i_spec_mpEnds [.s (.v (.sl (.pr (.int .i64) (.int .i64))) a1)] (.s (.v (.sl (.pr (.int .i64) (.int .i64))) c2)) [],
      0 ≤ (0 : Int),
      (0 : Int) < (List.length c1 : Int),
      0 ≤ (0 : Int),
      (0 : Int) < (List.length c2 : Int),
      LoopSC cfg.P 2 (lb P_spec_mpPair 0) (spec_mpPair_L0a c1 c2 (1 : Int) ((⟨#[]⟩ : ByteArray), (⟨#[]⟩ : ByteArray)) ([] : List Int) ([(List.getD c1 ((0 : Int)).toNat ((0 : Int), (0 : Int)))] : List (Int × Int)) ([(List.getD c2 ((0 : Int)).toNat ((0 : Int), (0 : Int)))] : List (Int × Int))) (.exit 0) (spec_mpPair_L0X2 k1y6 k1y7 k1y11 k1y39 k1yo4 k1yo10 k1yo31 k1yo35),
      SC cfg.P i_spec_mpSplit [.s (.v (.sl (.pr (.int .i64) (.int .i64))) k1yo31), .s (.v (.sl (.pr (.int .i64) (.int .i64))) k1yo35), .s (.v (.sl (.int .i64)) k1yo10), .s (.v .str (⟨#[]⟩ : ByteArray))] (.tup [.own t_string .str c3a, .own t_string .str c3b, .v .bool true]) [],
      SC cfg.P i_spec_TreeWith [.s (.v (.sl .str) c3a)] (.tup [.v .str c4a, .v .bool c4b]) [],
      SC cfg.P i_spec_TreeWith [.s (.v (.sl .str) c3b)] (.tup [.v .str c5a, .v .bool false]) []]) (by kernel_rfl) ⟨h1, h2, (by decide), h3, (by decide), h4, h5, h6, h7, h8, trivial⟩ get_spec_mpPair (by decide)

theorem spec_mpPair_p4 (a0 : (List (Int × Int))) (a1 : (List (Int × Int))) (c1 : (List (Int × Int))) (c2 : (List (Int × Int))) (k1y6 : (List (Int × Int))) (k1y7 : (List (Int × Int))) (k1y11 : Int) (k1y39 : Bool) (k1yo4 : (ByteArray × ByteArray)) (k1yo10 : (List Int)) (k1yo31 : (List (Int × Int))) (k1yo35 : (List (Int × Int))) (c3a : (List ByteArray)) (c3b : (List ByteArray))
    (h1 : SC cfg.P i_spec_mpEnds [.s (.v (.sl (.pr (.int .i64) (.int .i64))) a0)] (.s (.v (.sl (.pr (.int .i64) (.int .i64))) c1)) [])
    (h2 : SC cfg.P i_spec_mpEnds [.s (.v (.sl (.pr (.int .i64) (.int .i64))) a1)] (.s (.v (.sl (.pr (.int .i64) (.int .i64))) c2)) [])
    (h3 : (0 : Int) < (List.length c1 : Int))
    (h4 : (0 : Int) < (List.length c2 : Int))
    (h5 : LoopSC cfg.P 2 (lb P_spec_mpPair 0) (spec_mpPair_L0a c1 c2 (1 : Int) ((⟨#[]⟩ : ByteArray), (⟨#[]⟩ : ByteArray)) ([] : List Int) ([(List.getD c1 ((0 : Int)).toNat ((0 : Int), (0 : Int)))] : List (Int × Int)) ([(List.getD c2 ((0 : Int)).toNat ((0 : Int), (0 : Int)))] : List (Int × Int))) (.exit 0) (spec_mpPair_L0X2 k1y6 k1y7 k1y11 k1y39 k1yo4 k1yo10 k1yo31 k1yo35))
    (h6 : SC cfg.P i_spec_mpSplit [.s (.v (.sl (.pr (.int .i64) (.int .i64))) k1yo31), .s (.v (.sl (.pr (.int .i64) (.int .i64))) k1yo35), .s (.v (.sl (.int .i64)) k1yo10), .s (.v .str (⟨#[]⟩ : ByteArray))] (.tup [.own t_string .str c3a, .own t_string .str c3b, .v .bool false]) []) :
    SC cfg.P i_spec_mpPair [.s (.v (.sl (.pr (.int .i64) (.int .i64))) a0), .s (.v (.sl (.pr (.int .i64) (.int .i64))) a1)] (.tup [.v (.pr .str .str) ((⟨#[]⟩ : ByteArray), (⟨#[]⟩ : ByteArray)), .v .bool false]) [] :=
  SC_of_run cfgOK (its := [.res (.s (.v (.sl (.pr (.int .i64) (.int .i64))) c1)) [] [] [], .res (.s (.v (.sl (.pr (.int .i64) (.int .i64))) c2)) [] [] [], .loop (fun _ => (.exit 0, spec_mpPair_L0X2 k1y6 k1y7 k1y11 k1y39 k1yo4 k1yo10 k1yo31 k1yo35)), .res (.tup [.own t_string .str c3a, .own t_string .str c3b, .v .bool false]) [] [] [176, 198]])
    (ps := [SC cfg.P i_spec_mpEnds [.s (.v (.sl (.pr (.int .i64) (.int .i64))) a0)] (.s (.v (.sl (.pr (.int .i64) (.int .i64))) c1)) [],
      SC cfg.P i_spec_mpEnds [.s (.v (.sl (.pr (.int .i64) (.int .i64))) a1)] (.s (.v (.sl (.pr (.int .i64) (.int .i64))) c2)) [],
      0 ≤ (0 : Int),
      (0 : Int) < (List.length c1 : Int),
      0 ≤ (0 : Int),
      (0 : Int) < (List.length c2 : Int),
      LoopSC cfg.P 2 (lb P_spec_mpPair 0) (spec_mpPair_L0a c1 c2 (1 : Int) ((⟨#[]⟩ : ByteArray), (⟨#[]⟩ : ByteArray)) ([] : List Int) ([(List.getD c1 ((0 : Int)).toNat ((0 : Int), (0 : Int)))] : List (Int × Int)) ([(List.getD c2 ((0 : Int)).toNat ((0 : Int), (0 : Int)))] : List (Int × Int))) (.exit 0) (spec_mpPair_L0X2 k1y6 k1y7 k1y11 k1y39 k1yo4 k1yo10 k1yo31 k1yo35),
      SC cfg.P i_spec_mpSplit [.s (.v (.sl (.pr (.int .i64) (.int .i64))) k1yo31), .s (.v (.sl (.pr (.int .i64) (.int .i64))) k1yo35), .s (.v (.sl (.int .i64)) k1yo10), .s (.v .str (⟨#[]⟩ : ByteArray))] (.tup [.own t_string .str c3a, .own t_string .str c3b, .v .bool false]) []]) (by kernel_rfl) ⟨h1, h2, (by decide), h3, (by decide), h4, h5, h6, trivial⟩ get_spec_mpPair (by decide)

/-! ### spec_mpSplit -/


def spec_mpSplit_L0a (x0 : (List (Int × Int))) (x1 : (List (Int × Int))) (x2 : (List Int)) (x3 : ByteArray) (x12 : Int) (xo11 : (Int × Int)) : St := mkSt 195 [(0, .s (.v (.sl (.pr (.int .i64) (.int .i64))) x0)), (1, .s (.v (.sl (.pr (.int .i64) (.int .i64))) x1)), (2, .s (.v (.sl (.int .i64)) x2)), (3, .s (.v .str x3)), (11, .s (.adr 11 none)), (12, .s (.v (.int .i64) x12))] [(11, .box (.pr (.int .i64) (.int .i64)) xo11 false)]

def spec_mpSplit_L0X1 (y0 : (List (Int × Int))) (y1 : (List (Int × Int))) (y2 : (List Int)) (y3 : ByteArray) (y12 : Int) (y50 : Bool) (yo11 : (Int × Int)) : St := mkSt 195 [(0, .s (.v (.sl (.pr (.int .i64) (.int .i64))) y0)), (1, .s (.v (.sl (.pr (.int .i64) (.int .i64))) y1)), (2, .s (.v (.sl (.int .i64)) y2)), (3, .s (.v .str y3)), (11, .s (.adr 11 none)), (12, .s (.v (.int .i64) y12)), (50, .s (.v .bool y50))] [(11, .box (.pr (.int .i64) (.int .i64)) yo11 false)]

theorem spec_mpSplit_L0a_x1 (x0 : (List (Int × Int))) (x1 : (List (Int × Int))) (x2 : (List Int)) (x3 : ByteArray) (x12 : Int) (xo11 : (Int × Int))
    (h1 : (IntKind.wrap .i64 (x12 + (1 : Int))) < ((List.length x2 : Nat) : Int))
    (h2 : 0 ≤ (IntKind.wrap .i64 (x12 + (1 : Int))))
    (h3 : (IntKind.wrap .i64 (x12 + (1 : Int))) < (List.length x0 : Int))
    (h4 : SC cfg.P i_spec_mpLess [.s (.v (.pr (.int .i64) (.int .i64)) xo11), .s (.v (.pr (.int .i64) (.int .i64)) (List.getD x0 ((IntKind.wrap .i64 (x12 + (1 : Int)))).toNat ((0 : Int), (0 : Int))))] (.s (.v .bool true)) []) :
    LoopSC cfg.P 4 (lb P_spec_mpSplit 0) (spec_mpSplit_L0a x0 x1 x2 x3 x12 xo11) (.exit 0) (spec_mpSplit_L0X1 x0 x1 x2 x3 x12 false xo11) :=
  loop_out cfgOK (f := i_spec_mpSplit) (its := [.bool true, .res (.s (.v .bool true)) [] [] []])
    (ps := [decide ((IntKind.wrap .i64 (x12 + (1 : Int))) < ((List.length x2 : Nat) : Int)) = true,
      0 ≤ (IntKind.wrap .i64 (x12 + (1 : Int))),
      (IntKind.wrap .i64 (x12 + (1 : Int))) < (List.length x0 : Int),
      SC cfg.P i_spec_mpLess [.s (.v (.pr (.int .i64) (.int .i64)) xo11), .s (.v (.pr (.int .i64) (.int .i64)) (List.getD x0 ((IntKind.wrap .i64 (x12 + (1 : Int)))).toNat ((0 : Int), (0 : Int))))] (.s (.v .bool true)) []]) (by kernel_rfl) ⟨(decide_eq_true h1), h2, h3, h4, trivial⟩ (fun h => by cases h)

theorem spec_mpSplit_L0a_i2 (x0 : (List (Int × Int))) (x1 : (List (Int × Int))) (x2 : (List Int)) (x3 : ByteArray) (x12 : Int) (xo11 : (Int × Int))
    (h1 : (IntKind.wrap .i64 (x12 + (1 : Int))) < ((List.length x2 : Nat) : Int))
    (h2 : 0 ≤ (IntKind.wrap .i64 (x12 + (1 : Int))))
    (h3 : (IntKind.wrap .i64 (x12 + (1 : Int))) < (List.length x0 : Int))
    (h4 : SC cfg.P i_spec_mpLess [.s (.v (.pr (.int .i64) (.int .i64)) xo11), .s (.v (.pr (.int .i64) (.int .i64)) (List.getD x0 ((IntKind.wrap .i64 (x12 + (1 : Int)))).toNat ((0 : Int), (0 : Int))))] (.s (.v .bool false)) [])
    {e : AEx} {st : St} (next : LoopSC cfg.P 4 (lb P_spec_mpSplit 0) (spec_mpSplit_L0a x0 x1 x2 x3 (IntKind.wrap .i64 (x12 + (1 : Int))) xo11) e st) :
    LoopSC cfg.P 4 (lb P_spec_mpSplit 0) (spec_mpSplit_L0a x0 x1 x2 x3 x12 xo11) e st :=
  loop_iter cfgOK (f := i_spec_mpSplit) (its := [.bool true, .res (.s (.v .bool false)) [] [] []])
    (ps := [decide ((IntKind.wrap .i64 (x12 + (1 : Int))) < ((List.length x2 : Nat) : Int)) = true,
      0 ≤ (IntKind.wrap .i64 (x12 + (1 : Int))),
      (IntKind.wrap .i64 (x12 + (1 : Int))) < (List.length x0 : Int),
      SC cfg.P i_spec_mpLess [.s (.v (.pr (.int .i64) (.int .i64)) xo11), .s (.v (.pr (.int .i64) (.int .i64)) (List.getD x0 ((IntKind.wrap .i64 (x12 + (1 : Int)))).toNat ((0 : Int), (0 : Int))))] (.s (.v .bool false)) []]) (st1 := spec_mpSplit_L0a x0 x1 x2 x3 (IntKind.wrap .i64 (x12 + (1 : Int))) xo11) (by kernel_rfl) ⟨(decide_eq_true h1), h2, h3, h4, trivial⟩ next

theorem spec_mpSplit_L0a_x3 (x0 : (List (Int × Int))) (x1 : (List (Int × Int))) (x2 : (List Int)) (x3 : ByteArray) (x12 : Int) (xo11 : (Int × Int))
    (h1 : ¬ ((IntKind.wrap .i64 (x12 + (1 : Int))) < ((List.length x2 : Nat) : Int))) :
    LoopSC cfg.P 4 (lb P_spec_mpSplit 0) (spec_mpSplit_L0a x0 x1 x2 x3 x12 xo11) (.exit 0) (spec_mpSplit_L0X1 x0 x1 x2 x3 x12 false xo11) :=
  loop_out cfgOK (f := i_spec_mpSplit) (its := [.bool false])
    (ps := [decide ((IntKind.wrap .i64 (x12 + (1 : Int))) < ((List.length x2 : Nat) : Int)) = false]) (by kernel_rfl) ⟨(decide_eq_false h1), trivial⟩ (fun h => by cases h)

theorem spec_mpSplit_p1 (a0 : (List (Int × Int))) (a1 : (List (Int × Int))) (a2 : (List Int)) (a3 : ByteArray)
    (h1 : ((a3).size : Int) > (8 : Int)) :
    SC cfg.P i_spec_mpSplit [.s (.v (.sl (.pr (.int .i64) (.int .i64))) a0), .s (.v (.sl (.pr (.int .i64) (.int .i64))) a1), .s (.v (.sl (.int .i64)) a2), .s (.v .str a3)] (.tup [.own t_string .str ([] : List ByteArray), .own t_string .str ([] : List ByteArray), .v .bool false]) [] :=
  SC_of_run cfgOK (its := [.bool true])
    (ps := [decide (((a3).size : Int) > (8 : Int)) = true]) (by kernel_rfl) ⟨(decide_eq_true h1), trivial⟩ get_spec_mpSplit (by decide)

theorem spec_mpSplit_p2 (a0 : (List (Int × Int))) (a1 : (List (Int × Int))) (a2 : (List Int)) (a3 : ByteArray) (c1 : (Int × Int)) (k1y0 : (List (Int × Int))) (k1y1 : (List (Int × Int))) (k1y2 : (List Int)) (k1y3 : ByteArray) (k1y12 : Int) (k1y50 : Bool) (k1yo11 : (Int × Int)) (c3a : (List ByteArray)) (c3b : (List ByteArray)) (c4a : (List ByteArray)) (c4b : (List ByteArray))
    (h1 : ¬ (((a3).size : Int) > (8 : Int)))
    (h2 : SC cfg.P i_spec_mpOf [.s (.v .str a3)] (.s (.v (.pr (.int .i64) (.int .i64)) c1)) [])
    (h3 : LoopSC cfg.P 4 (lb P_spec_mpSplit 0) (spec_mpSplit_L0a a0 a1 a2 a3 (0 : Int) c1) (.exit 0) (spec_mpSplit_L0X1 k1y0 k1y1 k1y2 k1y3 k1y12 k1y50 k1yo11))
    (h4 : 0 ≤ k1y12)
    (h5 : k1y12 < (List.length k1y2 : Int))
    (h6 : 0 ≤ ((k1y3).size : Int))
    (h7 : k1yo11.2 ≠ 0)
    (h8 : 0 ≤ (IntKind.wrap .i64 (k1y12 + (1 : Int))))
    (h9 : (IntKind.wrap .i64 (k1y12 + (1 : Int))) < (List.length k1y0 : Int))
    (h10 : SC cfg.P i_spec_mpLess [.s (.v (.pr (.int .i64) (.int .i64)) (List.getD k1y0 ((IntKind.wrap .i64 (k1y12 + (1 : Int)))).toNat ((0 : Int), (0 : Int)))), .s (.v (.pr (.int .i64) (.int .i64)) ((IntKind.wrap .i64 ((IntKind.wrap .i64 (k1yo11.1 * (IntKind.wrap .i64 (Int.tdiv (IntKind.wrap .i64 ((1 : Int) * 2 ^ (min (((k1y3).size : Int)).toNat (IntKind.bits .i64)))) k1yo11.2)))) + (1 : Int))), (IntKind.wrap .i64 ((1 : Int) * 2 ^ (min (((k1y3).size : Int)).toNat (IntKind.bits .i64))))))] (.s (.v .bool true)) [])
    (h11 : (k1y3).size + ((⟨#[48]⟩ : ByteArray)).size ≤ 2 ^ 62)
    (h12 : SC cfg.P i_spec_mpSplit [.s (.v (.sl (.pr (.int .i64) (.int .i64))) k1y0), .s (.v (.sl (.pr (.int .i64) (.int .i64))) k1y1), .s (.v (.sl (.int .i64)) k1y2), .s (.v .str (k1y3 ++ (⟨#[48]⟩ : ByteArray)))] (.tup [.own t_string .str c3a, .own t_string .str c3b, .v .bool true]) [])
    (h13 : (k1y3).size + ((⟨#[49]⟩ : ByteArray)).size ≤ 2 ^ 62)
    (h14 : SC cfg.P i_spec_mpSplit [.s (.v (.sl (.pr (.int .i64) (.int .i64))) k1y0), .s (.v (.sl (.pr (.int .i64) (.int .i64))) k1y1), .s (.v (.sl (.int .i64)) k1y2), .s (.v .str (k1y3 ++ (⟨#[49]⟩ : ByteArray)))] (.tup [.own t_string .str c4a, .own t_string .str c4b, .v .bool true]) [])
    (h15 : (IntKind.wrap .i64 (((List.length c3a : Nat) : Int) + ((List.length c4a : Nat) : Int))) > (9 : Int)) :
    SC cfg.P i_spec_mpSplit [.s (.v (.sl (.pr (.int .i64) (.int .i64))) a0), .s (.v (.sl (.pr (.int .i64) (.int .i64))) a1), .s (.v (.sl (.int .i64)) a2), .s (.v .str a3)] (.tup [.own t_string .str ([] : List ByteArray), .own t_string .str ([] : List ByteArray), .v .bool false]) [] :=
  SC_of_run cfgOK (its := [.bool false, .res (.s (.v (.pr (.int .i64) (.int .i64)) c1)) [] [] [], .loop (fun _ => (.exit 0, spec_mpSplit_L0X1 k1y0 k1y1 k1y2 k1y3 k1y12 k1y50 k1yo11)), .res (.s (.v .bool true)) [] [] [], .res (.tup [.own t_string .str c3a, .own t_string .str c3b, .v .bool true]) [] [] [163, 193], .res (.tup [.own t_string .str c4a, .own t_string .str c4b, .v .bool true]) [] [] [175, 192], .bool true])
    (ps := [decide (((a3).size : Int) > (8 : Int)) = false,
      SC cfg.P i_spec_mpOf [.s (.v .str a3)] (.s (.v (.pr (.int .i64) (.int .i64)) c1)) [],
      LoopSC cfg.P 4 (lb P_spec_mpSplit 0) (spec_mpSplit_L0a a0 a1 a2 a3 (0 : Int) c1) (.exit 0) (spec_mpSplit_L0X1 k1y0 k1y1 k1y2 k1y3 k1y12 k1y50 k1yo11),
      0 ≤ k1y12,
      k1y12 < (List.length k1y2 : Int),
      0 ≤ ((k1y3).size : Int),
      k1yo11.2 ≠ 0,
      0 ≤ (IntKind.wrap .i64 (k1y12 + (1 : Int))),
      (IntKind.wrap .i64 (k1y12 + (1 : Int))) < (List.length k1y0 : Int),
      SC cfg.P i_spec_mpLess [.s (.v (.pr (.int .i64) (.int .i64)) (List.getD k1y0 ((IntKind.wrap .i64 (k1y12 + (1 : Int)))).toNat ((0 : Int), (0 : Int)))), .s (.v (.pr (.int .i64) (.int .i64)) ((IntKind.wrap .i64 ((IntKind.wrap .i64 (k1yo11.1 * (IntKind.wrap .i64 (Int.tdiv (IntKind.wrap .i64 ((1 : Int) * 2 ^ (min (((k1y3).size : Int)).toNat (IntKind.bits .i64)))) k1yo11.2)))) + (1 : Int))), (IntKind.wrap .i64 ((1 : Int) * 2 ^ (min (((k1y3).size : Int)).toNat (IntKind.bits .i64))))))] (.s (.v .bool true)) [],
      (k1y3).size + ((⟨#[48]⟩ : ByteArray)).size ≤ 2 ^ 62,
      SC cfg.P i_spec_mpSplit [.s (.v (.sl (.pr (.int .i64) (.int .i64))) k1y0), .s (.v (.sl (.pr (.int .i64) (.int .i64))) k1y1), .s (.v (.sl (.int .i64)) k1y2), .s (.v .str (k1y3 ++ (⟨#[48]⟩ : ByteArray)))] (.tup [.own t_string .str c3a, .own t_string .str c3b, .v .bool true]) [],
      (k1y3).size + ((⟨#[49]⟩ : ByteArray)).size ≤ 2 ^ 62,
      SC cfg.P i_spec_mpSplit [.s (.v (.sl (.pr (.int .i64) (.int .i64))) k1y0), .s (.v (.sl (.pr (.int .i64) (.int .i64))) k1y1), .s (.v (.sl (.int .i64)) k1y2), .s (.v .str (k1y3 ++ (⟨#[49]⟩ : ByteArray)))] (.tup [.own t_string .str c4a, .own t_string .str c4b, .v .bool true]) [],
      decide ((IntKind.wrap .i64 (((List.length c3a : Nat) : Int) + ((List.length c4a : Nat) : Int))) > (9 : Int)) = true]) (by kernel_rfl) ⟨(decide_eq_false h1), h2, h3, h4, h5, h6, h7, h8, h9, h10, h11, h12, h13, h14, (decide_eq_true h15), trivial⟩ get_spec_mpSplit (by decide)

theorem spec_mpSplit_p3 (a0 : (List (Int × Int))) (a1 : (List (Int × Int))) (a2 : (List Int)) (a3 : ByteArray) (c1 : (Int × Int)) (k1y0 : (List (Int × Int))) (k1y1 : (List (Int × Int))) (k1y2 : (List Int)) (k1y3 : ByteArray) (k1y12 : Int) (k1y50 : Bool) (k1yo11 : (Int × Int)) (c3a : (List ByteArray)) (c3b : (List ByteArray)) (c4a : (List ByteArray)) (c4b : (List ByteArray))
    (h1 : ¬ (((a3).size : Int) > (8 : Int)))
    (h2 : SC cfg.P i_spec_mpOf [.s (.v .str a3)] (.s (.v (.pr (.int .i64) (.int .i64)) c1)) [])
    (h3 : LoopSC cfg.P 4 (lb P_spec_mpSplit 0) (spec_mpSplit_L0a a0 a1 a2 a3 (0 : Int) c1) (.exit 0) (spec_mpSplit_L0X1 k1y0 k1y1 k1y2 k1y3 k1y12 k1y50 k1yo11))
    (h4 : 0 ≤ k1y12)
    (h5 : k1y12 < (List.length k1y2 : Int))
    (h6 : 0 ≤ ((k1y3).size : Int))
    (h7 : k1yo11.2 ≠ 0)
    (h8 : 0 ≤ (IntKind.wrap .i64 (k1y12 + (1 : Int))))
    (h9 : (IntKind.wrap .i64 (k1y12 + (1 : Int))) < (List.length k1y0 : Int))
    (h10 : SC cfg.P i_spec_mpLess [.s (.v (.pr (.int .i64) (.int .i64)) (List.getD k1y0 ((IntKind.wrap .i64 (k1y12 + (1 : Int)))).toNat ((0 : Int), (0 : Int)))), .s (.v (.pr (.int .i64) (.int .i64)) ((IntKind.wrap .i64 ((IntKind.wrap .i64 (k1yo11.1 * (IntKind.wrap .i64 (Int.tdiv (IntKind.wrap .i64 ((1 : Int) * 2 ^ (min (((k1y3).size : Int)).toNat (IntKind.bits .i64)))) k1yo11.2)))) + (1 : Int))), (IntKind.wrap .i64 ((1 : Int) * 2 ^ (min (((k1y3).size : Int)).toNat (IntKind.bits .i64))))))] (.s (.v .bool true)) [])
    (h11 : (k1y3).size + ((⟨#[48]⟩ : ByteArray)).size ≤ 2 ^ 62)
    (h12 : SC cfg.P i_spec_mpSplit [.s (.v (.sl (.pr (.int .i64) (.int .i64))) k1y0), .s (.v (.sl (.pr (.int .i64) (.int .i64))) k1y1), .s (.v (.sl (.int .i64)) k1y2), .s (.v .str (k1y3 ++ (⟨#[48]⟩ : ByteArray)))] (.tup [.own t_string .str c3a, .own t_string .str c3b, .v .bool true]) [])
    (h13 : (k1y3).size + ((⟨#[49]⟩ : ByteArray)).size ≤ 2 ^ 62)
    (h14 : SC cfg.P i_spec_mpSplit [.s (.v (.sl (.pr (.int .i64) (.int .i64))) k1y0), .s (.v (.sl (.pr (.int .i64) (.int .i64))) k1y1), .s (.v (.sl (.int .i64)) k1y2), .s (.v .str (k1y3 ++ (⟨#[49]⟩ : ByteArray)))] (.tup [.own t_string .str c4a, .own t_string .str c4b, .v .bool true]) [])
    (h15 : ¬ ((IntKind.wrap .i64 (((List.length c3a : Nat) : Int) + ((List.length c4a : Nat) : Int))) > (9 : Int)))
    (h16 : sizeOK (List.length c3a + List.length c4a))
    (h17 : sizeOK (List.length c3b + List.length c4b)) :
    SC cfg.P i_spec_mpSplit [.s (.v (.sl (.pr (.int .i64) (.int .i64))) a0), .s (.v (.sl (.pr (.int .i64) (.int .i64))) a1), .s (.v (.sl (.int .i64)) a2), .s (.v .str a3)] (.tup [.own t_string .str (c3a ++ c4a), .own t_string .str (c3b ++ c4b), .v .bool true]) [] :=
  SC_of_run cfgOK (its := [.bool false, .res (.s (.v (.pr (.int .i64) (.int .i64)) c1)) [] [] [], .loop (fun _ => (.exit 0, spec_mpSplit_L0X1 k1y0 k1y1 k1y2 k1y3 k1y12 k1y50 k1yo11)), .res (.s (.v .bool true)) [] [] [], .res (.tup [.own t_string .str c3a, .own t_string .str c3b, .v .bool true]) [] [] [163, 193], .res (.tup [.own t_string .str c4a, .own t_string .str c4b, .v .bool true]) [] [] [175, 192], .bool false])
    (ps := [decide (((a3).size : Int) > (8 : Int)) = false,
      SC cfg.P i_spec_mpOf [.s (.v .str a3)] (.s (.v (.pr (.int .i64) (.int .i64)) c1)) [],
      LoopSC cfg.P 4 (lb P_spec_mpSplit 0) (spec_mpSplit_L0a a0 a1 a2 a3 (0 : Int) c1) (.exit 0) (spec_mpSplit_L0X1 k1y0 k1y1 k1y2 k1y3 k1y12 k1y50 k1yo11),
      0 ≤ k1y12,
      k1y12 < (List.length k1y2 : Int),
      0 ≤ ((k1y3).size : Int),
      k1yo11.2 ≠ 0,
      0 ≤ (IntKind.wrap .i64 (k1y12 + (1 : Int))),
      (IntKind.wrap .i64 (k1y12 + (1 : Int))) < (List.length k1y0 : Int),
      SC cfg.P i_spec_mpLess [.s (.v (.pr (.int .i64) (.int .i64)) (List.getD k1y0 ((IntKind.wrap .i64 (k1y12 + (1 : Int)))).toNat ((0 : Int), (0 : Int)))), .s (.v (.pr (.int .i64) (.int .i64)) ((IntKind.wrap .i64 ((IntKind.wrap .i64 (k1yo11.1 * (IntKind.wrap .i64 (Int.tdiv (IntKind.wrap .i64 ((1 : Int) * 2 ^ (min (((k1y3).size : Int)).toNat (IntKind.bits .i64)))) k1yo11.2)))) + (1 : Int))), (IntKind.wrap .i64 ((1 : Int) * 2 ^ (min (((k1y3).size : Int)).toNat (IntKind.bits .i64))))))] (.s (.v .bool true)) [],
      (k1y3).size + ((⟨#[48]⟩ : ByteArray)).size ≤ 2 ^ 62,
      SC cfg.P i_spec_mpSplit [.s (.v (.sl (.pr (.int .i64) (.int .i64))) k1y0), .s (.v (.sl (.pr (.int .i64) (.int .i64))) k1y1), .s (.v (.sl (.int .i64)) k1y2), .s (.v .str (k1y3 ++ (⟨#[48]⟩ : ByteArray)))] (.tup [.own t_string .str c3a, .own t_string .str c3b, .v .bool true]) [],
      (k1y3).size + ((⟨#[49]⟩ : ByteArray)).size ≤ 2 ^ 62,
      SC cfg.P i_spec_mpSplit [.s (.v (.sl (.pr (.int .i64) (.int .i64))) k1y0), .s (.v (.sl (.pr (.int .i64) (.int .i64))) k1y1), .s (.v (.sl (.int .i64)) k1y2), .s (.v .str (k1y3 ++ (⟨#[49]⟩ : ByteArray)))] (.tup [.own t_string .str c4a, .own t_string .str c4b, .v .bool true]) [],
      decide ((IntKind.wrap .i64 (((List.length c3a : Nat) : Int) + ((List.length c4a : Nat) : Int))) > (9 : Int)) = false,
      sizeOK (List.length c3a + List.length c4a),
      sizeOK (List.length c3b + List.length c4b)]) (by kernel_rfl) ⟨(decide_eq_false h1), h2, h3, h4, h5, h6, h7, h8, h9, h10, h11, h12, h13, h14, (decide_eq_false h15), h16, h17, trivial⟩ get_spec_mpSplit (by decide)

theorem spec_mpSplit_p4 (a0 : (List (Int × Int))) (a1 : (List (Int × Int))) (a2 : (List Int)) (a3 : ByteArray) (c1 : (Int × Int)) (k1y0 : (List (Int × Int))) (k1y1 : (List (Int × Int))) (k1y2 : (List Int)) (k1y3 : ByteArray) (k1y12 : Int) (k1y50 : Bool) (k1yo11 : (Int × Int)) (c3a : (List ByteArray)) (c3b : (List ByteArray)) (c4a : (List ByteArray)) (c4b : (List ByteArray))
    (h1 : ¬ (((a3).size : Int) > (8 : Int)))
    (h2 : SC cfg.P i_spec_mpOf [.s (.v .str a3)] (.s (.v (.pr (.int .i64) (.int .i64)) c1)) [])
    (h3 : LoopSC cfg.P 4 (lb P_spec_mpSplit 0) (spec_mpSplit_L0a a0 a1 a2 a3 (0 : Int) c1) (.exit 0) (spec_mpSplit_L0X1 k1y0 k1y1 k1y2 k1y3 k1y12 k1y50 k1yo11))
    (h4 : 0 ≤ k1y12)
    (h5 : k1y12 < (List.length k1y2 : Int))
    (h6 : 0 ≤ ((k1y3).size : Int))
    (h7 : k1yo11.2 ≠ 0)
    (h8 : 0 ≤ (IntKind.wrap .i64 (k1y12 + (1 : Int))))
    (h9 : (IntKind.wrap .i64 (k1y12 + (1 : Int))) < (List.length k1y0 : Int))
    (h10 : SC cfg.P i_spec_mpLess [.s (.v (.pr (.int .i64) (.int .i64)) (List.getD k1y0 ((IntKind.wrap .i64 (k1y12 + (1 : Int)))).toNat ((0 : Int), (0 : Int)))), .s (.v (.pr (.int .i64) (.int .i64)) ((IntKind.wrap .i64 ((IntKind.wrap .i64 (k1yo11.1 * (IntKind.wrap .i64 (Int.tdiv (IntKind.wrap .i64 ((1 : Int) * 2 ^ (min (((k1y3).size : Int)).toNat (IntKind.bits .i64)))) k1yo11.2)))) + (1 : Int))), (IntKind.wrap .i64 ((1 : Int) * 2 ^ (min (((k1y3).size : Int)).toNat (IntKind.bits .i64))))))] (.s (.v .bool true)) [])
    (h11 : (k1y3).size + ((⟨#[48]⟩ : ByteArray)).size ≤ 2 ^ 62)
    (h12 : SC cfg.P i_spec_mpSplit [.s (.v (.sl (.pr (.int .i64) (.int .i64))) k1y0), .s (.v (.sl (.pr (.int .i64) (.int .i64))) k1y1), .s (.v (.sl (.int .i64)) k1y2), .s (.v .str (k1y3 ++ (⟨#[48]⟩ : ByteArray)))] (.tup [.own t_string .str c3a, .own t_string .str c3b, .v .bool true]) [])
    (h13 : (k1y3).size + ((⟨#[49]⟩ : ByteArray)).size ≤ 2 ^ 62)
    (h14 : SC cfg.P i_spec_mpSplit [.s (.v (.sl (.pr (.int .i64) (.int .i64))) k1y0), .s (.v (.sl (.pr (.int .i64) (.int .i64))) k1y1), .s (.v (.sl (.int .i64)) k1y2), .s (.v .str (k1y3 ++ (⟨#[49]⟩ : ByteArray)))] (.tup [.own t_string .str c4a, .own t_string .str c4b, .v .bool false]) []) :
    SC cfg.P i_spec_mpSplit [.s (.v (.sl (.pr (.int .i64) (.int .i64))) a0), .s (.v (.sl (.pr (.int .i64) (.int .i64))) a1), .s (.v (.sl (.int .i64)) a2), .s (.v .str a3)] (.tup [.own t_string .str ([] : List ByteArray), .own t_string .str ([] : List ByteArray), .v .bool false]) [] :=
  SC_of_run cfgOK (its := [.bool false, .res (.s (.v (.pr (.int .i64) (.int .i64)) c1)) [] [] [], .loop (fun _ => (.exit 0, spec_mpSplit_L0X1 k1y0 k1y1 k1y2 k1y3 k1y12 k1y50 k1yo11)), .res (.s (.v .bool true)) [] [] [], .res (.tup [.own t_string .str c3a, .own t_string .str c3b, .v .bool true]) [] [] [163, 193], .res (.tup [.own t_string .str c4a, .own t_string .str c4b, .v .bool false]) [] [] [175, 192]])
    (ps := [decide (((a3).size : Int) > (8 : Int)) = false,
      SC cfg.P i_spec_mpOf [.s (.v .str a3)] (.s (.v (.pr (.int .i64) (.int .i64)) c1)) [],
      LoopSC cfg.P 4 (lb P_spec_mpSplit 0) (spec_mpSplit_L0a a0 a1 a2 a3 (0 : Int) c1) (.exit 0) (spec_mpSplit_L0X1 k1y0 k1y1 k1y2 k1y3 k1y12 k1y50 k1yo11),
      0 ≤ k1y12,
      k1y12 < (List.length k1y2 : Int),
      0 ≤ ((k1y3).size : Int),
      k1yo11.2 ≠ 0,
      0 ≤ (IntKind.wrap .i64 (k1y12 + (1 : Int))),
      (IntKind.wrap .i64 (k1y12 + (1 : Int))) < (List.length k1y0 : Int),
      SC cfg.P i_spec_mpLess [.s (.v (.pr (.int .i64) (.int .i64)) (List.getD k1y0 ((IntKind.wrap .i64 (k1y12 + (1 : Int)))).toNat ((0 : Int), (0 : Int)))), .s (.v (.pr (.int .i64) (.int .i64)) ((IntKind.wrap .i64 ((IntKind.wrap .i64 (k1yo11.1 * (IntKind.wrap .i64 (Int.tdiv (IntKind.wrap .i64 ((1 : Int) * 2 ^ (min (((k1y3).size : Int)).toNat (IntKind.bits .i64)))) k1yo11.2)))) + (1 : Int))), (IntKind.wrap .i64 ((1 : Int) * 2 ^ (min (((k1y3).size : Int)).toNat (IntKind.bits .i64))))))] (.s (.v .bool true)) [],
      (k1y3).size + ((⟨#[48]⟩ : ByteArray)).size ≤ 2 ^ 62,
      SC cfg.P i_spec_mpSplit [.s (.v (.sl (.pr (.int .i64) (.int .i64))) k1y0), .s (.v (.sl (.pr (.int .i64) (.int .i64))) k1y1), .s (.v (.sl (.int .i64)) k1y2), .s (.v .str (k1y3 ++ (⟨#[48]⟩ : ByteArray)))] (.tup [.own t_string .str c3a, .own t_string .str c3b, .v .bool true]) [],
      (k1y3).size + ((⟨#[49]⟩ : ByteArray)).size ≤ 2 ^ 62,
      SC cfg.P i_spec_mpSplit [.s (.v (.sl (.pr (.int .i64) (.int .i64))) k1y0), .s (.v (.sl (.pr (.int .i64) (.int .i64))) k1y1), .s (.v (.sl (.int .i64)) k1y2), .s (.v .str (k1y3 ++ (⟨#[49]⟩ : ByteArray)))] (.tup [.own t_string .str c4a, .own t_string .str c4b, .v .bool false]) []]) (by kernel_rfl) ⟨(decide_eq_false h1), h2, h3, h4, h5, h6, h7, h8, h9, h10, h11, h12, h13, h14, trivial⟩ get_spec_mpSplit (by decide)

theorem spec_mpSplit_p5 (a0 : (List (Int × Int))) (a1 : (List (Int × Int))) (a2 : (List Int)) (a3 : ByteArray) (c1 : (Int × Int)) (k1y0 : (List (Int × Int))) (k1y1 : (List (Int × Int))) (k1y2 : (List Int)) (k1y3 : ByteArray) (k1y12 : Int) (k1y50 : Bool) (k1yo11 : (Int × Int)) (c3a : (List ByteArray)) (c3b : (List ByteArray))
    (h1 : ¬ (((a3).size : Int) > (8 : Int)))
    (h2 : SC cfg.P i_spec_mpOf [.s (.v .str a3)] (.s (.v (.pr (.int .i64) (.int .i64)) c1)) [])
    (h3 : LoopSC cfg.P 4 (lb P_spec_mpSplit 0) (spec_mpSplit_L0a a0 a1 a2 a3 (0 : Int) c1) (.exit 0) (spec_mpSplit_L0X1 k1y0 k1y1 k1y2 k1y3 k1y12 k1y50 k1yo11))
    (h4 : 0 ≤ k1y12)
    (h5 : k1y12 < (List.length k1y2 : Int))
    (h6 : 0 ≤ ((k1y3).size : Int))
    (h7 : k1yo11.2 ≠ 0)
    (h8 : 0 ≤ (IntKind.wrap .i64 (k1y12 + (1 : Int))))
    (h9 : (IntKind.wrap .i64 (k1y12 + (1 : Int))) < (List.length k1y0 : Int))
    (h10 : SC cfg.P i_spec_mpLess [.s (.v (.pr (.int .i64) (.int .i64)) (List.getD k1y0 ((IntKind.wrap .i64 (k1y12 + (1 : Int)))).toNat ((0 : Int), (0 : Int)))), .s (.v (.pr (.int .i64) (.int .i64)) ((IntKind.wrap .i64 ((IntKind.wrap .i64 (k1yo11.1 * (IntKind.wrap .i64 (Int.tdiv (IntKind.wrap .i64 ((1 : Int) * 2 ^ (min (((k1y3).size : Int)).toNat (IntKind.bits .i64)))) k1yo11.2)))) + (1 : Int))), (IntKind.wrap .i64 ((1 : Int) * 2 ^ (min (((k1y3).size : Int)).toNat (IntKind.bits .i64))))))] (.s (.v .bool true)) [])
    (h11 : (k1y3).size + ((⟨#[48]⟩ : ByteArray)).size ≤ 2 ^ 62)
    (h12 : SC cfg.P i_spec_mpSplit [.s (.v (.sl (.pr (.int .i64) (.int .i64))) k1y0), .s (.v (.sl (.pr (.int .i64) (.int .i64))) k1y1), .s (.v (.sl (.int .i64)) k1y2), .s (.v .str (k1y3 ++ (⟨#[48]⟩ : ByteArray)))] (.tup [.own t_string .str c3a, .own t_string .str c3b, .v .bool false]) []) :
    SC cfg.P i_spec_mpSplit [.s (.v (.sl (.pr (.int .i64) (.int .i64))) a0), .s (.v (.sl (.pr (.int .i64) (.int .i64))) a1), .s (.v (.sl (.int .i64)) a2), .s (.v .str a3)] (.tup [.own t_string .str ([] : List ByteArray), .own t_string .str ([] : List ByteArray), .v .bool false]) [] :=
  SC_of_run cfgOK (its := [.bool false, .res (.s (.v (.pr (.int .i64) (.int .i64)) c1)) [] [] [], .loop (fun _ => (.exit 0, spec_mpSplit_L0X1 k1y0 k1y1 k1y2 k1y3 k1y12 k1y50 k1yo11)), .res (.s (.v .bool true)) [] [] [], .res (.tup [.own t_string .str c3a, .own t_string .str c3b, .v .bool false]) [] [] [163, 193]])
    (ps := [decide (((a3).size : Int) > (8 : Int)) = false,
      SC cfg.P i_spec_mpOf [.s (.v .str a3)] (.s (.v (.pr (.int .i64) (.int .i64)) c1)) [],
      LoopSC cfg.P 4 (lb P_spec_mpSplit 0) (spec_mpSplit_L0a a0 a1 a2 a3 (0 : Int) c1) (.exit 0) (spec_mpSplit_L0X1 k1y0 k1y1 k1y2 k1y3 k1y12 k1y50 k1yo11),
      0 ≤ k1y12,
      k1y12 < (List.length k1y2 : Int),
      0 ≤ ((k1y3).size : Int),
      k1yo11.2 ≠ 0,
      0 ≤ (IntKind.wrap .i64 (k1y12 + (1 : Int))),
      (IntKind.wrap .i64 (k1y12 + (1 : Int))) < (List.length k1y0 : Int),
      SC cfg.P i_spec_mpLess [.s (.v (.pr (.int .i64) (.int .i64)) (List.getD k1y0 ((IntKind.wrap .i64 (k1y12 + (1 : Int)))).toNat ((0 : Int), (0 : Int)))), .s (.v (.pr (.int .i64) (.int .i64)) ((IntKind.wrap .i64 ((IntKind.wrap .i64 (k1yo11.1 * (IntKind.wrap .i64 (Int.tdiv (IntKind.wrap .i64 ((1 : Int) * 2 ^ (min (((k1y3).size : Int)).toNat (IntKind.bits .i64)))) k1yo11.2)))) + (1 : Int))), (IntKind.wrap .i64 ((1 : Int) * 2 ^ (min (((k1y3).size : Int)).toNat (IntKind.bits .i64))))))] (.s (.v .bool true)) [],
      (k1y3).size + ((⟨#[48]⟩ : ByteArray)).size ≤ 2 ^ 62,
      SC cfg.P i_spec_mpSplit [.s (.v (.sl (.pr (.int .i64) (.int .i64))) k1y0), .s (.v (.sl (.pr (.int .i64) (.int .i64))) k1y1), .s (.v (.sl (.int .i64)) k1y2), .s (.v .str (k1y3 ++ (⟨#[48]⟩ : ByteArray)))] (.tup [.own t_string .str c3a, .own t_string .str c3b, .v .bool false]) []]) (by kernel_rfl) ⟨(decide_eq_false h1), h2, h3, h4, h5, h6, h7, h8, h9, h10, h11, h12, trivial⟩ get_spec_mpSplit (by decide)

theorem spec_mpSplit_p6 (a0 : (List (Int × Int))) (a1 : (List (Int × Int))) (a2 : (List Int)) (a3 : ByteArray) (c1 : (Int × Int)) (k1y0 : (List (Int × Int))) (k1y1 : (List (Int × Int))) (k1y2 : (List Int)) (k1y3 : ByteArray) (k1y12 : Int) (k1y50 : Bool) (k1yo11 : (Int × Int)) (c4 : Int) (c5 : Int) (c6 : (Int × Int)) (c7a : ByteArray) (c7b : Bool)
    (h1 : ¬ (((a3).size : Int) > (8 : Int)))
    (h2 : SC cfg.P i_spec_mpOf [.s (.v .str a3)] (.s (.v (.pr (.int .i64) (.int .i64)) c1)) [])
    (h3 : LoopSC cfg.P 4 (lb P_spec_mpSplit 0) (spec_mpSplit_L0a a0 a1 a2 a3 (0 : Int) c1) (.exit 0) (spec_mpSplit_L0X1 k1y0 k1y1 k1y2 k1y3 k1y12 k1y50 k1yo11))
    (h4 : 0 ≤ k1y12)
    (h5 : k1y12 < (List.length k1y2 : Int))
    (h6 : 0 ≤ ((k1y3).size : Int))
    (h7 : k1yo11.2 ≠ 0)
    (h8 : 0 ≤ (IntKind.wrap .i64 (k1y12 + (1 : Int))))
    (h9 : (IntKind.wrap .i64 (k1y12 + (1 : Int))) < (List.length k1y0 : Int))
    (h10 : SC cfg.P i_spec_mpLess [.s (.v (.pr (.int .i64) (.int .i64)) (List.getD k1y0 ((IntKind.wrap .i64 (k1y12 + (1 : Int)))).toNat ((0 : Int), (0 : Int)))), .s (.v (.pr (.int .i64) (.int .i64)) ((IntKind.wrap .i64 ((IntKind.wrap .i64 (k1yo11.1 * (IntKind.wrap .i64 (Int.tdiv (IntKind.wrap .i64 ((1 : Int) * 2 ^ (min (((k1y3).size : Int)).toNat (IntKind.bits .i64)))) k1yo11.2)))) + (1 : Int))), (IntKind.wrap .i64 ((1 : Int) * 2 ^ (min (((k1y3).size : Int)).toNat (IntKind.bits .i64))))))] (.s (.v .bool false)) [])
    (h11 : SC cfg.P i_spec_l1In [.s (.v (.int .i64) (IntKind.wrap .i64 (((k1y3).size : Int) - (List.getD k1y2 (k1y12).toNat (0 : Int))))), .s (.v (.int .i64) (0 : Int)), .s (.v (.int .i64) (8 : Int))] (.s (.v .bool true)) [])
    (h12 : k1y12 < (List.length k1y0 : Int))
    (h13 : k1y12 < (List.length k1y1 : Int))
    (h14 : SC cfg.P i_spec_l1Most [.s (.v (.int .i64) (0 : Int)), .s (.v (.int .i64) (List.getD k1y2 (k1y12).toNat (0 : Int)))] (.s (.v (.int .i64) c4)) [])
    (h15 : 0 ≤ c4)
    (h16 : SC cfg.P i_spec_l1Most [.s (.v (.int .i64) (0 : Int)), .s (.v (.int .i64) (IntKind.wrap .i64 (0 - (List.getD k1y2 (k1y12).toNat (0 : Int)))))] (.s (.v (.int .i64) c5)) [])
    (h17 : 0 ≤ c5)
    (h18 : SC cfg.P i_spec_mpShort [.s (.v (.int .i64) (IntKind.wrap .i64 ((IntKind.wrap .i64 ((IntKind.wrap .i64 ((IntKind.wrap .i64 ((IntKind.wrap .i64 (k1yo11.1 * (List.getD k1y0 (k1y12).toNat ((0 : Int), (0 : Int))).2)) - (IntKind.wrap .i64 ((List.getD k1y0 (k1y12).toNat ((0 : Int), (0 : Int))).1 * k1yo11.2)))) * (IntKind.wrap .i64 ((1 : Int) * 2 ^ (min (c4).toNat (IntKind.bits .i64)))))) * (List.getD k1y1 (k1y12).toNat ((0 : Int), (0 : Int))).2)) + (IntKind.wrap .i64 ((IntKind.wrap .i64 ((List.getD k1y1 (k1y12).toNat ((0 : Int), (0 : Int))).1 * (IntKind.wrap .i64 (k1yo11.2 * (List.getD k1y0 (k1y12).toNat ((0 : Int), (0 : Int))).2)))) * (IntKind.wrap .i64 ((1 : Int) * 2 ^ (min (c5).toNat (IntKind.bits .i64))))))))), .s (.v (.int .i64) (IntKind.wrap .i64 ((IntKind.wrap .i64 ((IntKind.wrap .i64 (k1yo11.2 * (List.getD k1y0 (k1y12).toNat ((0 : Int), (0 : Int))).2)) * (IntKind.wrap .i64 ((1 : Int) * 2 ^ (min (c5).toNat (IntKind.bits .i64)))))) * (List.getD k1y1 (k1y12).toNat ((0 : Int), (0 : Int))).2)))] (.s (.v (.pr (.int .i64) (.int .i64)) c6)) [])
    (h19 : 0 ≤ (IntKind.wrap .i64 (((k1y3).size : Int) - (List.getD k1y2 (k1y12).toNat (0 : Int)))))
    (h20 : c6.2 ≤ (IntKind.wrap .i64 ((1 : Int) * 2 ^ (min ((IntKind.wrap .i64 (((k1y3).size : Int) - (List.getD k1y2 (k1y12).toNat (0 : Int))))).toNat (IntKind.bits .i64)))))
    (h21 : SC cfg.P i_spec_AddressOf [.s (.v (.pr (.int .i64) (.int .i64)) c6), .s (.v (.int .i64) (IntKind.wrap .i64 (((k1y3).size : Int) - (List.getD k1y2 (k1y12).toNat (0 : Int)))))] (.tup [.v .str c7a, .v .bool c7b]) []) :
    SC cfg.P i_spec_mpSplit [.s (.v (.sl (.pr (.int .i64) (.int .i64))) a0), .s (.v (.sl (.pr (.int .i64) (.int .i64))) a1), .s (.v (.sl (.int .i64)) a2), .s (.v .str a3)] (.tup [.own t_string .str ([k1y3] : List ByteArray), .own t_string .str ([c7a] : List ByteArray), .v .bool true]) [] :=
  SC_of_run cfgOK (its := [.bool false, .res (.s (.v (.pr (.int .i64) (.int .i64)) c1)) [] [] [], .loop (fun _ => (.exit 0, spec_mpSplit_L0X1 k1y0 k1y1 k1y2 k1y3 k1y12 k1y50 k1yo11)), .res (.s (.v .bool false)) [] [] [], .res (.s (.v .bool true)) [] [] [], .res (.s (.v (.int .i64) c4)) [] [] [], .res (.s (.v (.int .i64) c5)) [] [] [], .res (.s (.v (.pr (.int .i64) (.int .i64)) c6)) [] [] [], .bool true, .res (.tup [.v .str c7a, .v .bool c7b]) [] [] []])
    (ps := [decide (((a3).size : Int) > (8 : Int)) = false,
      SC cfg.P i_spec_mpOf [.s (.v .str a3)] (.s (.v (.pr (.int .i64) (.int .i64)) c1)) [],
      LoopSC cfg.P 4 (lb P_spec_mpSplit 0) (spec_mpSplit_L0a a0 a1 a2 a3 (0 : Int) c1) (.exit 0) (spec_mpSplit_L0X1 k1y0 k1y1 k1y2 k1y3 k1y12 k1y50 k1yo11),
      0 ≤ k1y12,
      k1y12 < (List.length k1y2 : Int),
      0 ≤ ((k1y3).size : Int),
      k1yo11.2 ≠ 0,
      0 ≤ (IntKind.wrap .i64 (k1y12 + (1 : Int))),
      (IntKind.wrap .i64 (k1y12 + (1 : Int))) < (List.length k1y0 : Int),
      SC cfg.P i_spec_mpLess [.s (.v (.pr (.int .i64) (.int .i64)) (List.getD k1y0 ((IntKind.wrap .i64 (k1y12 + (1 : Int)))).toNat ((0 : Int), (0 : Int)))), .s (.v (.pr (.int .i64) (.int .i64)) ((IntKind.wrap .i64 ((IntKind.wrap .i64 (k1yo11.1 * (IntKind.wrap .i64 (Int.tdiv (IntKind.wrap .i64 ((1 : Int) * 2 ^ (min (((k1y3).size : Int)).toNat (IntKind.bits .i64)))) k1yo11.2)))) + (1 : Int))), (IntKind.wrap .i64 ((1 : Int) * 2 ^ (min (((k1y3).size : Int)).toNat (IntKind.bits .i64))))))] (.s (.v .bool false)) [],
      SC cfg.P i_spec_l1In [.s (.v (.int .i64) (IntKind.wrap .i64 (((k1y3).size : Int) - (List.getD k1y2 (k1y12).toNat (0 : Int))))), .s (.v (.int .i64) (0 : Int)), .s (.v (.int .i64) (8 : Int))] (.s (.v .bool true)) [],
      0 ≤ k1y12,
      k1y12 < (List.length k1y0 : Int),
      0 ≤ k1y12,
      k1y12 < (List.length k1y1 : Int),
      0 ≤ k1y12,
      k1y12 < (List.length k1y2 : Int),
      SC cfg.P i_spec_l1Most [.s (.v (.int .i64) (0 : Int)), .s (.v (.int .i64) (List.getD k1y2 (k1y12).toNat (0 : Int)))] (.s (.v (.int .i64) c4)) [],
      0 ≤ c4,
      0 ≤ k1y12,
      k1y12 < (List.length k1y2 : Int),
      SC cfg.P i_spec_l1Most [.s (.v (.int .i64) (0 : Int)), .s (.v (.int .i64) (IntKind.wrap .i64 (0 - (List.getD k1y2 (k1y12).toNat (0 : Int)))))] (.s (.v (.int .i64) c5)) [],
      0 ≤ c5,
      SC cfg.P i_spec_mpShort [.s (.v (.int .i64) (IntKind.wrap .i64 ((IntKind.wrap .i64 ((IntKind.wrap .i64 ((IntKind.wrap .i64 ((IntKind.wrap .i64 (k1yo11.1 * (List.getD k1y0 (k1y12).toNat ((0 : Int), (0 : Int))).2)) - (IntKind.wrap .i64 ((List.getD k1y0 (k1y12).toNat ((0 : Int), (0 : Int))).1 * k1yo11.2)))) * (IntKind.wrap .i64 ((1 : Int) * 2 ^ (min (c4).toNat (IntKind.bits .i64)))))) * (List.getD k1y1 (k1y12).toNat ((0 : Int), (0 : Int))).2)) + (IntKind.wrap .i64 ((IntKind.wrap .i64 ((List.getD k1y1 (k1y12).toNat ((0 : Int), (0 : Int))).1 * (IntKind.wrap .i64 (k1yo11.2 * (List.getD k1y0 (k1y12).toNat ((0 : Int), (0 : Int))).2)))) * (IntKind.wrap .i64 ((1 : Int) * 2 ^ (min (c5).toNat (IntKind.bits .i64))))))))), .s (.v (.int .i64) (IntKind.wrap .i64 ((IntKind.wrap .i64 ((IntKind.wrap .i64 (k1yo11.2 * (List.getD k1y0 (k1y12).toNat ((0 : Int), (0 : Int))).2)) * (IntKind.wrap .i64 ((1 : Int) * 2 ^ (min (c5).toNat (IntKind.bits .i64)))))) * (List.getD k1y1 (k1y12).toNat ((0 : Int), (0 : Int))).2)))] (.s (.v (.pr (.int .i64) (.int .i64)) c6)) [],
      0 ≤ (IntKind.wrap .i64 (((k1y3).size : Int) - (List.getD k1y2 (k1y12).toNat (0 : Int)))),
      decide (c6.2 ≤ (IntKind.wrap .i64 ((1 : Int) * 2 ^ (min ((IntKind.wrap .i64 (((k1y3).size : Int) - (List.getD k1y2 (k1y12).toNat (0 : Int))))).toNat (IntKind.bits .i64))))) = true,
      SC cfg.P i_spec_AddressOf [.s (.v (.pr (.int .i64) (.int .i64)) c6), .s (.v (.int .i64) (IntKind.wrap .i64 (((k1y3).size : Int) - (List.getD k1y2 (k1y12).toNat (0 : Int)))))] (.tup [.v .str c7a, .v .bool c7b]) []]) (by kernel_rfl) ⟨(decide_eq_false h1), h2, h3, h4, h5, h6, h7, h8, h9, h10, h11, h4, h12, h4, h13, h4, h5, h14, h15, h4, h5, h16, h17, h18, h19, (decide_eq_true h20), h21, trivial⟩ get_spec_mpSplit (by decide)

theorem spec_mpSplit_p7 (a0 : (List (Int × Int))) (a1 : (List (Int × Int))) (a2 : (List Int)) (a3 : ByteArray) (c1 : (Int × Int)) (k1y0 : (List (Int × Int))) (k1y1 : (List (Int × Int))) (k1y2 : (List Int)) (k1y3 : ByteArray) (k1y12 : Int) (k1y50 : Bool) (k1yo11 : (Int × Int)) (c4 : Int) (c5 : Int) (c6 : (Int × Int)) (c7a : (List ByteArray)) (c7b : (List ByteArray)) (c8a : (List ByteArray)) (c8b : (List ByteArray))
    (h1 : ¬ (((a3).size : Int) > (8 : Int)))
    (h2 : SC cfg.P i_spec_mpOf [.s (.v .str a3)] (.s (.v (.pr (.int .i64) (.int .i64)) c1)) [])
    (h3 : LoopSC cfg.P 4 (lb P_spec_mpSplit 0) (spec_mpSplit_L0a a0 a1 a2 a3 (0 : Int) c1) (.exit 0) (spec_mpSplit_L0X1 k1y0 k1y1 k1y2 k1y3 k1y12 k1y50 k1yo11))
    (h4 : 0 ≤ k1y12)
    (h5 : k1y12 < (List.length k1y2 : Int))
    (h6 : 0 ≤ ((k1y3).size : Int))
    (h7 : k1yo11.2 ≠ 0)
    (h8 : 0 ≤ (IntKind.wrap .i64 (k1y12 + (1 : Int))))
    (h9 : (IntKind.wrap .i64 (k1y12 + (1 : Int))) < (List.length k1y0 : Int))
    (h10 : SC cfg.P i_spec_mpLess [.s (.v (.pr (.int .i64) (.int .i64)) (List.getD k1y0 ((IntKind.wrap .i64 (k1y12 + (1 : Int)))).toNat ((0 : Int), (0 : Int)))), .s (.v (.pr (.int .i64) (.int .i64)) ((IntKind.wrap .i64 ((IntKind.wrap .i64 (k1yo11.1 * (IntKind.wrap .i64 (Int.tdiv (IntKind.wrap .i64 ((1 : Int) * 2 ^ (min (((k1y3).size : Int)).toNat (IntKind.bits .i64)))) k1yo11.2)))) + (1 : Int))), (IntKind.wrap .i64 ((1 : Int) * 2 ^ (min (((k1y3).size : Int)).toNat (IntKind.bits .i64))))))] (.s (.v .bool false)) [])
    (h11 : SC cfg.P i_spec_l1In [.s (.v (.int .i64) (IntKind.wrap .i64 (((k1y3).size : Int) - (List.getD k1y2 (k1y12).toNat (0 : Int))))), .s (.v (.int .i64) (0 : Int)), .s (.v (.int .i64) (8 : Int))] (.s (.v .bool true)) [])
    (h12 : k1y12 < (List.length k1y0 : Int))
    (h13 : k1y12 < (List.length k1y1 : Int))
    (h14 : SC cfg.P i_spec_l1Most [.s (.v (.int .i64) (0 : Int)), .s (.v (.int .i64) (List.getD k1y2 (k1y12).toNat (0 : Int)))] (.s (.v (.int .i64) c4)) [])
    (h15 : 0 ≤ c4)
    (h16 : SC cfg.P i_spec_l1Most [.s (.v (.int .i64) (0 : Int)), .s (.v (.int .i64) (IntKind.wrap .i64 (0 - (List.getD k1y2 (k1y12).toNat (0 : Int)))))] (.s (.v (.int .i64) c5)) [])
    (h17 : 0 ≤ c5)
    (h18 : SC cfg.P i_spec_mpShort [.s (.v (.int .i64) (IntKind.wrap .i64 ((IntKind.wrap .i64 ((IntKind.wrap .i64 ((IntKind.wrap .i64 ((IntKind.wrap .i64 (k1yo11.1 * (List.getD k1y0 (k1y12).toNat ((0 : Int), (0 : Int))).2)) - (IntKind.wrap .i64 ((List.getD k1y0 (k1y12).toNat ((0 : Int), (0 : Int))).1 * k1yo11.2)))) * (IntKind.wrap .i64 ((1 : Int) * 2 ^ (min (c4).toNat (IntKind.bits .i64)))))) * (List.getD k1y1 (k1y12).toNat ((0 : Int), (0 : Int))).2)) + (IntKind.wrap .i64 ((IntKind.wrap .i64 ((List.getD k1y1 (k1y12).toNat ((0 : Int), (0 : Int))).1 * (IntKind.wrap .i64 (k1yo11.2 * (List.getD k1y0 (k1y12).toNat ((0 : Int), (0 : Int))).2)))) * (IntKind.wrap .i64 ((1 : Int) * 2 ^ (min (c5).toNat (IntKind.bits .i64))))))))), .s (.v (.int .i64) (IntKind.wrap .i64 ((IntKind.wrap .i64 ((IntKind.wrap .i64 (k1yo11.2 * (List.getD k1y0 (k1y12).toNat ((0 : Int), (0 : Int))).2)) * (IntKind.wrap .i64 ((1 : Int) * 2 ^ (min (c5).toNat (IntKind.bits .i64)))))) * (List.getD k1y1 (k1y12).toNat ((0 : Int), (0 : Int))).2)))] (.s (.v (.pr (.int .i64) (.int .i64)) c6)) [])
    (h19 : 0 ≤ (IntKind.wrap .i64 (((k1y3).size : Int) - (List.getD k1y2 (k1y12).toNat (0 : Int)))))
    (h20 : ¬ (c6.2 ≤ (IntKind.wrap .i64 ((1 : Int) * 2 ^ (min ((IntKind.wrap .i64 (((k1y3).size : Int) - (List.getD k1y2 (k1y12).toNat (0 : Int))))).toNat (IntKind.bits .i64))))))
    (h21 : (k1y3).size + ((⟨#[48]⟩ : ByteArray)).size ≤ 2 ^ 62)
    (h22 : SC cfg.P i_spec_mpSplit [.s (.v (.sl (.pr (.int .i64) (.int .i64))) k1y0), .s (.v (.sl (.pr (.int .i64) (.int .i64))) k1y1), .s (.v (.sl (.int .i64)) k1y2), .s (.v .str (k1y3 ++ (⟨#[48]⟩ : ByteArray)))] (.tup [.own t_string .str c7a, .own t_string .str c7b, .v .bool true]) [])
    (h23 : (k1y3).size + ((⟨#[49]⟩ : ByteArray)).size ≤ 2 ^ 62)
    (h24 : SC cfg.P i_spec_mpSplit [.s (.v (.sl (.pr (.int .i64) (.int .i64))) k1y0), .s (.v (.sl (.pr (.int .i64) (.int .i64))) k1y1), .s (.v (.sl (.int .i64)) k1y2), .s (.v .str (k1y3 ++ (⟨#[49]⟩ : ByteArray)))] (.tup [.own t_string .str c8a, .own t_string .str c8b, .v .bool true]) [])
    (h25 : (IntKind.wrap .i64 (((List.length c7a : Nat) : Int) + ((List.length c8a : Nat) : Int))) > (9 : Int)) :
    SC cfg.P i_spec_mpSplit [.s (.v (.sl (.pr (.int .i64) (.int .i64))) a0), .s (.v (.sl (.pr (.int .i64) (.int .i64))) a1), .s (.v (.sl (.int .i64)) a2), .s (.v .str a3)] (.tup [.own t_string .str ([] : List ByteArray), .own t_string .str ([] : List ByteArray), .v .bool false]) [] :=
  SC_of_run cfgOK (its := [.bool false, .res (.s (.v (.pr (.int .i64) (.int .i64)) c1)) [] [] [], .loop (fun _ => (.exit 0, spec_mpSplit_L0X1 k1y0 k1y1 k1y2 k1y3 k1y12 k1y50 k1yo11)), .res (.s (.v .bool false)) [] [] [], .res (.s (.v .bool true)) [] [] [], .res (.s (.v (.int .i64) c4)) [] [] [], .res (.s (.v (.int .i64) c5)) [] [] [], .res (.s (.v (.pr (.int .i64) (.int .i64)) c6)) [] [] [], .bool false, .res (.tup [.own t_string .str c7a, .own t_string .str c7b, .v .bool true]) [] [] [163, 193], .res (.tup [.own t_string .str c8a, .own t_string .str c8b, .v .bool true]) [] [] [175, 192], .bool true])
    (ps := [decide (((a3).size : Int) > (8 : Int)) = false,
      SC cfg.P i_spec_mpOf [.s (.v .str a3)] (.s (.v (.pr (.int .i64) (.int .i64)) c1)) [],
      LoopSC cfg.P 4 (lb P_spec_mpSplit 0) (spec_mpSplit_L0a a0 a1 a2 a3 (0 : Int) c1) (.exit 0) (spec_mpSplit_L0X1 k1y0 k1y1 k1y2 k1y3 k1y12 k1y50 k1yo11),
      0 ≤ k1y12,
      k1y12 < (List.length k1y2 : Int),
      0 ≤ ((k1y3).size : Int),
      k1yo11.2 ≠ 0,
      0 ≤ (IntKind.wrap .i64 (k1y12 + (1 : Int))),
      (IntKind.wrap .i64 (k1y12 + (1 : Int))) < (List.length k1y0 : Int),
      SC cfg.P i_spec_mpLess [.s (.v (.pr (.int .i64) (.int .i64)) (List.getD k1y0 ((IntKind.wrap .i64 (k1y12 + (1 : Int)))).toNat ((0 : Int), (0 : Int)))), .s (.v (.pr (.int .i64) (.int .i64)) ((IntKind.wrap .i64 ((IntKind.wrap .i64 (k1yo11.1 * (IntKind.wrap .i64 (Int.tdiv (IntKind.wrap .i64 ((1 : Int) * 2 ^ (min (((k1y3).size : Int)).toNat (IntKind.bits .i64)))) k1yo11.2)))) + (1 : Int))), (IntKind.wrap .i64 ((1 : Int) * 2 ^ (min (((k1y3).size : Int)).toNat (IntKind.bits .i64))))))] (.s (.v .bool false)) [],
      SC cfg.P i_spec_l1In [.s (.v (.int .i64) (IntKind.wrap .i64 (((k1y3).size : Int) - (List.getD k1y2 (k1y12).toNat (0 : Int))))), .s (.v (.int .i64) (0 : Int)), .s (.v (.int .i64) (8 : Int))] (.s (.v .bool true)) [],
      0 ≤ k1y12,
      k1y12 < (List.length k1y0 : Int),
      0 ≤ k1y12,
      k1y12 < (List.length k1y1 : Int),
      0 ≤ k1y12,
      k1y12 < (List.length k1y2 : Int),
      SC cfg.P i_spec_l1Most [.s (.v (.int .i64) (0 : Int)), .s (.v (.int .i64) (List.getD k1y2 (k1y12).toNat (0 : Int)))] (.s (.v (.int .i64) c4)) [],
      0 ≤ c4,
      0 ≤ k1y12,
      k1y12 < (List.length k1y2 : Int),
      SC cfg.P i_spec_l1Most [.s (.v (.int .i64) (0 : Int)), .s (.v (.int .i64) (IntKind.wrap .i64 (0 - (List.getD k1y2 (k1y12).toNat (0 : Int)))))] (.s (.v (.int .i64) c5)) [],
      0 ≤ c5,
      SC cfg.P i_spec_mpShort [.s (.v (.int .i64) (IntKind.wrap .i64 ((IntKind.wrap .i64 ((IntKind.wrap .i64 ((IntKind.wrap .i64 ((IntKind.wrap .i64 (k1yo11.1 * (List.getD k1y0 (k1y12).toNat ((0 : Int), (0 : Int))).2)) - (IntKind.wrap .i64 ((List.getD k1y0 (k1y12).toNat ((0 : Int), (0 : Int))).1 * k1yo11.2)))) * (IntKind.wrap .i64 ((1 : Int) * 2 ^ (min (c4).toNat (IntKind.bits .i64)))))) * (List.getD k1y1 (k1y12).toNat ((0 : Int), (0 : Int))).2)) + (IntKind.wrap .i64 ((IntKind.wrap .i64 ((List.getD k1y1 (k1y12).toNat ((0 : Int), (0 : Int))).1 * (IntKind.wrap .i64 (k1yo11.2 * (List.getD k1y0 (k1y12).toNat ((0 : Int), (0 : Int))).2)))) * (IntKind.wrap .i64 ((1 : Int) * 2 ^ (min (c5).toNat (IntKind.bits .i64))))))))), .s (.v (.int .i64) (IntKind.wrap .i64 ((IntKind.wrap .i64 ((IntKind.wrap .i64 (k1yo11.2 * (List.getD k1y0 (k1y12).toNat ((0 : Int), (0 : Int))).2)) * (IntKind.wrap .i64 ((1 : Int) * 2 ^ (min (c5).toNat (IntKind.bits .i64)))))) * (List.getD k1y1 (k1y12).toNat ((0 : Int), (0 : Int))).2)))] (.s (.v (.pr (.int .i64) (.int .i64)) c6)) [],
      0 ≤ (IntKind.wrap .i64 (((k1y3).size : Int) - (List.getD k1y2 (k1y12).toNat (0 : Int)))),
      decide (c6.2 ≤ (IntKind.wrap .i64 ((1 : Int) * 2 ^ (min ((IntKind.wrap .i64 (((k1y3).size : Int) - (List.getD k1y2 (k1y12).toNat (0 : Int))))).toNat (IntKind.bits .i64))))) = false,
      (k1y3).size + ((⟨#[48]⟩ : ByteArray)).size ≤ 2 ^ 62,
      SC cfg.P i_spec_mpSplit [.s (.v (.sl (.pr (.int .i64) (.int .i64))) k1y0), .s (.v (.sl (.pr (.int .i64) (.int .i64))) k1y1), .s (.v (.sl (.int .i64)) k1y2), .s (.v .str (k1y3 ++ (⟨#[48]⟩ : ByteArray)))] (.tup [.own t_string .str c7a, .own t_string .str c7b, .v .bool true]) [],
      (k1y3).size + ((⟨#[49]⟩ : ByteArray)).size ≤ 2 ^ 62,
      SC cfg.P i_spec_mpSplit [.s (.v (.sl (.pr (.int .i64) (.int .i64))) k1y0), .s (.v (.sl (.pr (.int .i64) (.int .i64))) k1y1), .s (.v (.sl (.int .i64)) k1y2), .s (.v .str (k1y3 ++ (⟨#[49]⟩ : ByteArray)))] (.tup [.own t_string .str c8a, .own t_string .str c8b, .v .bool true]) [],
      decide ((IntKind.wrap .i64 (((List.length c7a : Nat) : Int) + ((List.length c8a : Nat) : Int))) > (9 : Int)) = true]) (by kernel_rfl) ⟨(decide_eq_false h1), h2, h3, h4, h5, h6, h7, h8, h9, h10, h11, h4, h12, h4, h13, h4, h5, h14, h15, h4, h5, h16, h17, h18, h19, (decide_eq_false h20), h21, h22, h23, h24, (decide_eq_true h25), trivial⟩ get_spec_mpSplit (by decide)

theorem spec_mpSplit_p8 (a0 : (List (Int × Int))) (a1 : (List (Int × Int))) (a2 : (List Int)) (a3 : ByteArray) (c1 : (Int × Int)) (k1y0 : (List (Int × Int))) (k1y1 : (List (Int × Int))) (k1y2 : (List Int)) (k1y3 : ByteArray) (k1y12 : Int) (k1y50 : Bool) (k1yo11 : (Int × Int)) (c4 : Int) (c5 : Int) (c6 : (Int × Int)) (c7a : (List ByteArray)) (c7b : (List ByteArray)) (c8a : (List ByteArray)) (c8b : (List ByteArray))
    (h1 : ¬ (((a3).size : Int) > (8 : Int)))
    (h2 : SC cfg.P i_spec_mpOf [.s (.v .str a3)] (.s (.v (.pr (.int .i64) (.int .i64)) c1)) [])
    (h3 : LoopSC cfg.P 4 (lb P_spec_mpSplit 0) (spec_mpSplit_L0a a0 a1 a2 a3 (0 : Int) c1) (.exit 0) (spec_mpSplit_L0X1 k1y0 k1y1 k1y2 k1y3 k1y12 k1y50 k1yo11))
    (h4 : 0 ≤ k1y12)
    (h5 : k1y12 < (List.length k1y2 : Int))
    (h6 : 0 ≤ ((k1y3).size : Int))
    (h7 : k1yo11.2 ≠ 0)
    (h8 : 0 ≤ (IntKind.wrap .i64 (k1y12 + (1 : Int))))
    (h9 : (IntKind.wrap .i64 (k1y12 + (1 : Int))) < (List.length k1y0 : Int))
    (h10 : SC cfg.P i_spec_mpLess [.s (.v (.pr (.int .i64) (.int .i64)) (List.getD k1y0 ((IntKind.wrap .i64 (k1y12 + (1 : Int)))).toNat ((0 : Int), (0 : Int)))), .s (.v (.pr (.int .i64) (.int .i64)) ((IntKind.wrap .i64 ((IntKind.wrap .i64 (k1yo11.1 * (IntKind.wrap .i64 (Int.tdiv (IntKind.wrap .i64 ((1 : Int) * 2 ^ (min (((k1y3).size : Int)).toNat (IntKind.bits .i64)))) k1yo11.2)))) + (1 : Int))), (IntKind.wrap .i64 ((1 : Int) * 2 ^ (min (((k1y3).size : Int)).toNat (IntKind.bits .i64))))))] (.s (.v .bool false)) [])
    (h11 : SC cfg.P i_spec_l1In [.s (.v (.int .i64) (IntKind.wrap .i64 (((k1y3).size : Int) - (List.getD k1y2 (k1y12).toNat (0 : Int))))), .s (.v (.int .i64) (0 : Int)), .s (.v (.int .i64) (8 : Int))] (.s (.v .bool true)) [])
    (h12 : k1y12 < (List.length k1y0 : Int))
    (h13 : k1y12 < (List.length k1y1 : Int))
    (h14 : SC cfg.P i_spec_l1Most [.s (.v (.int .i64) (0 : Int)), .s (.v (.int .i64) (List.getD k1y2 (k1y12).toNat (0 : Int)))] (.s (.v (.int .i64) c4)) [])
    (h15 : 0 ≤ c4)
    (h16 : SC cfg.P i_spec_l1Most [.s (.v (.int .i64) (0 : Int)), .s (.v (.int .i64) (IntKind.wrap .i64 (0 - (List.getD k1y2 (k1y12).toNat (0 : Int)))))] (.s (.v (.int .i64) c5)) [])
    (h17 : 0 ≤ c5)
    (h18 : SC cfg.P i_spec_mpShort [.s (.v (.int .i64) (IntKind.wrap .i64 ((IntKind.wrap .i64 ((IntKind.wrap .i64 ((IntKind.wrap .i64 ((IntKind.wrap .i64 (k1yo11.1 * (List.getD k1y0 (k1y12).toNat ((0 : Int), (0 : Int))).2)) - (IntKind.wrap .i64 ((List.getD k1y0 (k1y12).toNat ((0 : Int), (0 : Int))).1 * k1yo11.2)))) * (IntKind.wrap .i64 ((1 : Int) * 2 ^ (min (c4).toNat (IntKind.bits .i64)))))) * (List.getD k1y1 (k1y12).toNat ((0 : Int), (0 : Int))).2)) + (IntKind.wrap .i64 ((IntKind.wrap .i64 ((List.getD k1y1 (k1y12).toNat ((0 : Int), (0 : Int))).1 * (IntKind.wrap .i64 (k1yo11.2 * (List.getD k1y0 (k1y12).toNat ((0 : Int), (0 : Int))).2)))) * (IntKind.wrap .i64 ((1 : Int) * 2 ^ (min (c5).toNat (IntKind.bits .i64))))))))), .s (.v (.int .i64) (IntKind.wrap .i64 ((IntKind.wrap .i64 ((IntKind.wrap .i64 (k1yo11.2 * (List.getD k1y0 (k1y12).toNat ((0 : Int), (0 : Int))).2)) * (IntKind.wrap .i64 ((1 : Int) * 2 ^ (min (c5).toNat (IntKind.bits .i64)))))) * (List.getD k1y1 (k1y12).toNat ((0 : Int), (0 : Int))).2)))] (.s (.v (.pr (.int .i64) (.int .i64)) c6)) [])
    (h19 : 0 ≤ (IntKind.wrap .i64 (((k1y3).size : Int) - (List.getD k1y2 (k1y12).toNat (0 : Int)))))
    (h20 : ¬ (c6.2 ≤ (IntKind.wrap .i64 ((1 : Int) * 2 ^ (min ((IntKind.wrap .i64 (((k1y3).size : Int) - (List.getD k1y2 (k1y12).toNat (0 : Int))))).toNat (IntKind.bits .i64))))))
    (h21 : (k1y3).size + ((⟨#[48]⟩ : ByteArray)).size ≤ 2 ^ 62)
    (h22 : SC cfg.P i_spec_mpSplit [.s (.v (.sl (.pr (.int .i64) (.int .i64))) k1y0), .s (.v (.sl (.pr (.int .i64) (.int .i64))) k1y1), .s (.v (.sl (.int .i64)) k1y2), .s (.v .str (k1y3 ++ (⟨#[48]⟩ : ByteArray)))] (.tup [.own t_string .str c7a, .own t_string .str c7b, .v .bool true]) [])
    (h23 : (k1y3).size + ((⟨#[49]⟩ : ByteArray)).size ≤ 2 ^ 62)
    (h24 : SC cfg.P i_spec_mpSplit [.s (.v (.sl (.pr (.int .i64) (.int .i64))) k1y0), .s (.v (.sl (.pr (.int .i64) (.int .i64))) k1y1), .s (.v (.sl (.int .i64)) k1y2), .s (.v .str (k1y3 ++ (⟨#[49]⟩ : ByteArray)))] (.tup [.own t_string .str c8a, .own t_string .str c8b, .v .bool true]) [])
    (h25 : ¬ ((IntKind.wrap .i64 (((List.length c7a : Nat) : Int) + ((List.length c8a : Nat) : Int))) > (9 : Int)))
    (h26 : sizeOK (List.length c7a + List.length c8a))
    (h27 : sizeOK (List.length c7b + List.length c8b)) :
    SC cfg.P i_spec_mpSplit [.s (.v (.sl (.pr (.int .i64) (.int .i64))) a0), .s (.v (.sl (.pr (.int .i64) (.int .i64))) a1), .s (.v (.sl (.int .i64)) a2), .s (.v .str a3)] (.tup [.own t_string .str (c7a ++ c8a), .own t_string .str (c7b ++ c8b), .v .bool true]) [] :=
  SC_of_run cfgOK (its := [.bool false, .res (.s (.v (.pr (.int .i64) (.int .i64)) c1)) [] [] [], .loop (fun _ => (.exit 0, spec_mpSplit_L0X1 k1y0 k1y1 k1y2 k1y3 k1y12 k1y50 k1yo11)), .res (.s (.v .bool false)) [] [] [], .res (.s (.v .bool true)) [] [] [], .res (.s (.v (.int .i64) c4)) [] [] [], .res (.s (.v (.int .i64) c5)) [] [] [], .res (.s (.v (.pr (.int .i64) (.int .i64)) c6)) [] [] [], .bool false, .res (.tup [.own t_string .str c7a, .own t_string .str c7b, .v .bool true]) [] [] [163, 193], .res (.tup [.own t_string .str c8a, .own t_string .str c8b, .v .bool true]) [] [] [175, 192], .bool false])
    (ps := [decide (((a3).size : Int) > (8 : Int)) = false,
      SC cfg.P i_spec_mpOf [.s (.v .str a3)] (.s (.v (.pr (.int .i64) (.int .i64)) c1)) [],
      LoopSC cfg.P 4 (lb P_spec_mpSplit 0) (spec_mpSplit_L0a a0 a1 a2 a3 (0 : Int) c1) (.exit 0) (spec_mpSplit_L0X1 k1y0 k1y1 k1y2 k1y3 k1y12 k1y50 k1yo11),
      0 ≤ k1y12,
      k1y12 < (List.length k1y2 : Int),
      0 ≤ ((k1y3).size : Int),
      k1yo11.2 ≠ 0,
      0 ≤ (IntKind.wrap .i64 (k1y12 + (1 : Int))),
      (IntKind.wrap .i64 (k1y12 + (1 : Int))) < (List.length k1y0 : Int),
      SC cfg.P i_spec_mpLess [.s (.v (.pr (.int .i64) (.int .i64)) (List.getD k1y0 ((IntKind.wrap .i64 (k1y12 + (1 : Int)))).toNat ((0 : Int), (0 : Int)))), .s (.v (.pr (.int .i64) (.int .i64)) ((IntKind.wrap .i64 ((IntKind.wrap .i64 (k1yo11.1 * (IntKind.wrap .i64 (Int.tdiv (IntKind.wrap .i64 ((1 : Int) * 2 ^ (min (((k1y3).size : Int)).toNat (IntKind.bits .i64)))) k1yo11.2)))) + (1 : Int))), (IntKind.wrap .i64 ((1 : Int) * 2 ^ (min (((k1y3).size : Int)).toNat (IntKind.bits .i64))))))] (.s (.v .bool false)) [],
      SC cfg.P i_spec_l1In [.s (.v (.int .i64) (IntKind.wrap .i64 (((k1y3).size : Int) - (List.getD k1y2 (k1y12).toNat (0 : Int))))), .s (.v (.int .i64) (0 : Int)), .s (.v (.int .i64) (8 : Int))] (.s (.v .bool true)) [],
      0 ≤ k1y12,
      k1y12 < (List.length k1y0 : Int),
      0 ≤ k1y12,
      k1y12 < (List.length k1y1 : Int),
      0 ≤ k1y12,
      k1y12 < (List.length k1y2 : Int),
      SC cfg.P i_spec_l1Most [.s (.v (.int .i64) (0 : Int)), .s (.v (.int .i64) (List.getD k1y2 (k1y12).toNat (0 : Int)))] (.s (.v (.int .i64) c4)) [],
      0 ≤ c4,
      0 ≤ k1y12,
      k1y12 < (List.length k1y2 : Int),
      SC cfg.P i_spec_l1Most [.s (.v (.int .i64) (0 : Int)), .s (.v (.int .i64) (IntKind.wrap .i64 (0 - (List.getD k1y2 (k1y12).toNat (0 : Int)))))] (.s (.v (.int .i64) c5)) [],
      0 ≤ c5,
      SC cfg.P i_spec_mpShort [.s (.v (.int .i64) (IntKind.wrap .i64 ((IntKind.wrap .i64 ((IntKind.wrap .i64 ((IntKind.wrap .i64 ((IntKind.wrap .i64 (k1yo11.1 * (List.getD k1y0 (k1y12).toNat ((0 : Int), (0 : Int))).2)) - (IntKind.wrap .i64 ((List.getD k1y0 (k1y12).toNat ((0 : Int), (0 : Int))).1 * k1yo11.2)))) * (IntKind.wrap .i64 ((1 : Int) * 2 ^ (min (c4).toNat (IntKind.bits .i64)))))) * (List.getD k1y1 (k1y12).toNat ((0 : Int), (0 : Int))).2)) + (IntKind.wrap .i64 ((IntKind.wrap .i64 ((List.getD k1y1 (k1y12).toNat ((0 : Int), (0 : Int))).1 * (IntKind.wrap .i64 (k1yo11.2 * (List.getD k1y0 (k1y12).toNat ((0 : Int), (0 : Int))).2)))) * (IntKind.wrap .i64 ((1 : Int) * 2 ^ (min (c5).toNat (IntKind.bits .i64))))))))), .s (.v (.int .i64) (IntKind.wrap .i64 ((IntKind.wrap .i64 ((IntKind.wrap .i64 (k1yo11.2 * (List.getD k1y0 (k1y12).toNat ((0 : Int), (0 : Int))).2)) * (IntKind.wrap .i64 ((1 : Int) * 2 ^ (min (c5).toNat (IntKind.bits .i64)))))) * (List.getD k1y1 (k1y12).toNat ((0 : Int), (0 : Int))).2)))] (.s (.v (.pr (.int .i64) (.int .i64)) c6)) [],
      0 ≤ (IntKind.wrap .i64 (((k1y3).size : Int) - (List.getD k1y2 (k1y12).toNat (0 : Int)))),
      decide (c6.2 ≤ (IntKind.wrap .i64 ((1 : Int) * 2 ^ (min ((IntKind.wrap .i64 (((k1y3).size : Int) - (List.getD k1y2 (k1y12).toNat (0 : Int))))).toNat (IntKind.bits .i64))))) = false,
      (k1y3).size + ((⟨#[48]⟩ : ByteArray)).size ≤ 2 ^ 62,
      SC cfg.P i_spec_mpSplit [.s (.v (.sl (.pr (.int .i64) (.int .i64))) k1y0), .s (.v (.sl (.pr (.int .i64) (.int .i64))) k1y1), .s (.v (.sl (.int .i64)) k1y2), .s (.v .str (k1y3 ++ (⟨#[48]⟩ : ByteArray)))] (.tup [.own t_string .str c7a, .own t_string .str c7b, .v .bool true]) [],
      (k1y3).size + ((⟨#[49]⟩ : ByteArray)).size ≤ 2 ^ 62,
      SC cfg.P i_spec_mpSplit [.s (.v (.sl (.pr (.int .i64) (.int .i64))) k1y0), .s (.v (.sl (.pr (.int .i64) (.int .i64))) k1y1), .s (.v (.sl (.int .i64)) k1y2), .s (.v .str (k1y3 ++ (⟨#[49]⟩ : ByteArray)))] (.tup [.own t_string .str c8a, .own t_string .str c8b, .v .bool true]) [],
      decide ((IntKind.wrap .i64 (((List.length c7a : Nat) : Int) + ((List.length c8a : Nat) : Int))) > (9 : Int)) = false,
      sizeOK (List.length c7a + List.length c8a),
      sizeOK (List.length c7b + List.length c8b)]) (by kernel_rfl) ⟨(decide_eq_false h1), h2, h3, h4, h5, h6, h7, h8, h9, h10, h11, h4, h12, h4, h13, h4, h5, h14, h15, h4, h5, h16, h17, h18, h19, (decide_eq_false h20), h21, h22, h23, h24, (decide_eq_false h25), h26, h27, trivial⟩ get_spec_mpSplit (by decide)

theorem spec_mpSplit_p9 (a0 : (List (Int × Int))) (a1 : (List (Int × Int))) (a2 : (List Int)) (a3 : ByteArray) (c1 : (Int × Int)) (k1y0 : (List (Int × Int))) (k1y1 : (List (Int × Int))) (k1y2 : (List Int)) (k1y3 : ByteArray) (k1y12 : Int) (k1y50 : Bool) (k1yo11 : (Int × Int)) (c4 : Int) (c5 : Int) (c6 : (Int × Int)) (c7a : (List ByteArray)) (c7b : (List ByteArray)) (c8a : (List ByteArray)) (c8b : (List ByteArray))
    (h1 : ¬ (((a3).size : Int) > (8 : Int)))
    (h2 : SC cfg.P i_spec_mpOf [.s (.v .str a3)] (.s (.v (.pr (.int .i64) (.int .i64)) c1)) [])
    (h3 : LoopSC cfg.P 4 (lb P_spec_mpSplit 0) (spec_mpSplit_L0a a0 a1 a2 a3 (0 : Int) c1) (.exit 0) (spec_mpSplit_L0X1 k1y0 k1y1 k1y2 k1y3 k1y12 k1y50 k1yo11))
    (h4 : 0 ≤ k1y12)
    (h5 : k1y12 < (List.length k1y2 : Int))
    (h6 : 0 ≤ ((k1y3).size : Int))
    (h7 : k1yo11.2 ≠ 0)
    (h8 : 0 ≤ (IntKind.wrap .i64 (k1y12 + (1 : Int))))
    (h9 : (IntKind.wrap .i64 (k1y12 + (1 : Int))) < (List.length k1y0 : Int))
    (h10 : SC cfg.P i_spec_mpLess [.s (.v (.pr (.int .i64) (.int .i64)) (List.getD k1y0 ((IntKind.wrap .i64 (k1y12 + (1 : Int)))).toNat ((0 : Int), (0 : Int)))), .s (.v (.pr (.int .i64) (.int .i64)) ((IntKind.wrap .i64 ((IntKind.wrap .i64 (k1yo11.1 * (IntKind.wrap .i64 (Int.tdiv (IntKind.wrap .i64 ((1 : Int) * 2 ^ (min (((k1y3).size : Int)).toNat (IntKind.bits .i64)))) k1yo11.2)))) + (1 : Int))), (IntKind.wrap .i64 ((1 : Int) * 2 ^ (min (((k1y3).size : Int)).toNat (IntKind.bits .i64))))))] (.s (.v .bool false)) [])
    (h11 : SC cfg.P i_spec_l1In [.s (.v (.int .i64) (IntKind.wrap .i64 (((k1y3).size : Int) - (List.getD k1y2 (k1y12).toNat (0 : Int))))), .s (.v (.int .i64) (0 : Int)), .s (.v (.int .i64) (8 : Int))] (.s (.v .bool true)) [])
    (h12 : k1y12 < (List.length k1y0 : Int))
    (h13 : k1y12 < (List.length k1y1 : Int))
    (h14 : SC cfg.P i_spec_l1Most [.s (.v (.int .i64) (0 : Int)), .s (.v (.int .i64) (List.getD k1y2 (k1y12).toNat (0 : Int)))] (.s (.v (.int .i64) c4)) [])
    (h15 : 0 ≤ c4)
    (h16 : SC cfg.P i_spec_l1Most [.s (.v (.int .i64) (0 : Int)), .s (.v (.int .i64) (IntKind.wrap .i64 (0 - (List.getD k1y2 (k1y12).toNat (0 : Int)))))] (.s (.v (.int .i64) c5)) [])
    (h17 : 0 ≤ c5)
    (h18 : SC cfg.P i_spec_mpShort [.s (.v (.int .i64) (IntKind.wrap .i64 ((IntKind.wrap .i64 ((IntKind.wrap .i64 ((IntKind.wrap .i64 ((IntKind.wrap .i64 (k1yo11.1 * (List.getD k1y0 (k1y12).toNat ((0 : Int), (0 : Int))).2)) - (IntKind.wrap .i64 ((List.getD k1y0 (k1y12).toNat ((0 : Int), (0 : Int))).1 * k1yo11.2)))) * (IntKind.wrap .i64 ((1 : Int) * 2 ^ (min (c4).toNat (IntKind.bits .i64)))))) * (List.getD k1y1 (k1y12).toNat ((0 : Int), (0 : Int))).2)) + (IntKind.wrap .i64 ((IntKind.wrap .i64 ((List.getD k1y1 (k1y12).toNat ((0 : Int), (0 : Int))).1 * (IntKind.wrap .i64 (k1yo11.2 * (List.getD k1y0 (k1y12).toNat ((0 : Int), (0 : Int))).2)))) * (IntKind.wrap .i64 ((1 : Int) * 2 ^ (min (c5).toNat (IntKind.bits .i64))))))))), .s (.v (.int .i64) (IntKind.wrap .i64 ((IntKind.wrap .i64 ((IntKind.wrap .i64 (k1yo11.2 * (List.getD k1y0 (k1y12).toNat ((0 : Int), (0 : Int))).2)) * (IntKind.wrap .i64 ((1 : Int) * 2 ^ (min (c5).toNat (IntKind.bits .i64)))))) * (List.getD k1y1 (k1y12).toNat ((0 : Int), (0 : Int))).2)))] (.s (.v (.pr (.int .i64) (.int .i64)) c6)) [])
    (h19 : 0 ≤ (IntKind.wrap .i64 (((k1y3).size : Int) - (List.getD k1y2 (k1y12).toNat (0 : Int)))))
    (h20 : ¬ (c6.2 ≤ (IntKind.wrap .i64 ((1 : Int) * 2 ^ (min ((IntKind.wrap .i64 (((k1y3).size : Int) - (List.getD k1y2 (k1y12).toNat (0 : Int))))).toNat (IntKind.bits .i64))))))
    (h21 : (k1y3).size + ((⟨#[48]⟩ : ByteArray)).size ≤ 2 ^ 62)
    (h22 : SC cfg.P i_spec_mpSplit [.s (.v (.sl (.pr (.int .i64) (.int .i64))) k1y0), .s (.v (.sl (.pr (.int .i64) (.int .i64))) k1y1), .s (.v (.sl (.int .i64)) k1y2), .s (.v .str (k1y3 ++ (⟨#[48]⟩ : ByteArray)))] (.tup [.own t_string .str c7a, .own t_string .str c7b, .v .bool true]) [])
    (h23 : (k1y3).size + ((⟨#[49]⟩ : ByteArray)).size ≤ 2 ^ 62)
    (h24 : SC cfg.P i_spec_mpSplit [.s (.v (.sl (.pr (.int .i64) (.int .i64))) k1y0), .s (.v (.sl (.pr (.int .i64) (.int .i64))) k1y1), .s (.v (.sl (.int .i64)) k1y2), .s (.v .str (k1y3 ++ (⟨#[49]⟩ : ByteArray)))] (.tup [.own t_string .str c8a, .own t_string .str c8b, .v .bool false]) []) :
    SC cfg.P i_spec_mpSplit [.s (.v (.sl (.pr (.int .i64) (.int .i64))) a0), .s (.v (.sl (.pr (.int .i64) (.int .i64))) a1), .s (.v (.sl (.int .i64)) a2), .s (.v .str a3)] (.tup [.own t_string .str ([] : List ByteArray), .own t_string .str ([] : List ByteArray), .v .bool false]) [] :=
  SC_of_run cfgOK (its := [.bool false, .res (.s (.v (.pr (.int .i64) (.int .i64)) c1)) [] [] [], .loop (fun _ => (.exit 0, spec_mpSplit_L0X1 k1y0 k1y1 k1y2 k1y3 k1y12 k1y50 k1yo11)), .res (.s (.v .bool false)) [] [] [], .res (.s (.v .bool true)) [] [] [], .res (.s (.v (.int .i64) c4)) [] [] [], .res (.s (.v (.int .i64) c5)) [] [] [], .res (.s (.v (.pr (.int .i64) (.int .i64)) c6)) [] [] [], .bool false, .res (.tup [.own t_string .str c7a, .own t_string .str c7b, .v .bool true]) [] [] [163, 193], .res (.tup [.own t_string .str c8a, .own t_string .str c8b, .v .bool false]) [] [] [175, 192]])
    (ps := [decide (((a3).size : Int) > (8 : Int)) = false,
      SC cfg.P i_spec_mpOf [.s (.v .str a3)] (.s (.v (.pr (.int .i64) (.int .i64)) c1)) [],
      LoopSC cfg.P 4 (lb P_spec_mpSplit 0) (spec_mpSplit_L0a a0 a1 a2 a3 (0 : Int) c1) (.exit 0) (spec_mpSplit_L0X1 k1y0 k1y1 k1y2 k1y3 k1y12 k1y50 k1yo11),
      0 ≤ k1y12,
      k1y12 < (List.length k1y2 : Int),
      0 ≤ ((k1y3).size : Int),
      k1yo11.2 ≠ 0,
      0 ≤ (IntKind.wrap .i64 (k1y12 + (1 : Int))),
      (IntKind.wrap .i64 (k1y12 + (1 : Int))) < (List.length k1y0 : Int),
      SC cfg.P i_spec_mpLess [.s (.v (.pr (.int .i64) (.int .i64)) (List.getD k1y0 ((IntKind.wrap .i64 (k1y12 + (1 : Int)))).toNat ((0 : Int), (0 : Int)))), .s (.v (.pr (.int .i64) (.int .i64)) ((IntKind.wrap .i64 ((IntKind.wrap .i64 (k1yo11.1 * (IntKind.wrap .i64 (Int.tdiv (IntKind.wrap .i64 ((1 : Int) * 2 ^ (min (((k1y3).size : Int)).toNat (IntKind.bits .i64)))) k1yo11.2)))) + (1 : Int))), (IntKind.wrap .i64 ((1 : Int) * 2 ^ (min (((k1y3).size : Int)).toNat (IntKind.bits .i64))))))] (.s (.v .bool false)) [],
      SC cfg.P i_spec_l1In [.s (.v (.int .i64) (IntKind.wrap .i64 (((k1y3).size : Int) - (List.getD k1y2 (k1y12).toNat (0 : Int))))), .s (.v (.int .i64) (0 : Int)), .s (.v (.int .i64) (8 : Int))] (.s (.v .bool true)) [],
      0 ≤ k1y12,
      k1y12 < (List.length k1y0 : Int),
      0 ≤ k1y12,
      k1y12 < (List.length k1y1 : Int),
      0 ≤ k1y12,
      k1y12 < (List.length k1y2 : Int),
      SC cfg.P i_spec_l1Most [.s (.v (.int .i64) (0 : Int)), .s (.v (.int .i64) (List.getD k1y2 (k1y12).toNat (0 : Int)))] (.s (.v (.int .i64) c4)) [],
      0 ≤ c4,
      0 ≤ k1y12,
      k1y12 < (List.length k1y2 : Int),
      SC cfg.P i_spec_l1Most [.s (.v (.int .i64) (0 : Int)), .s (.v (.int .i64) (IntKind.wrap .i64 (0 - (List.getD k1y2 (k1y12).toNat (0 : Int)))))] (.s (.v (.int .i64) c5)) [],
      0 ≤ c5,
      SC cfg.P i_spec_mpShort [.s (.v (.int .i64) (IntKind.wrap .i64 ((IntKind.wrap .i64 ((IntKind.wrap .i64 ((IntKind.wrap .i64 ((IntKind.wrap .i64 (k1yo11.1 * (List.getD k1y0 (k1y12).toNat ((0 : Int), (0 : Int))).2)) - (IntKind.wrap .i64 ((List.getD k1y0 (k1y12).toNat ((0 : Int), (0 : Int))).1 * k1yo11.2)))) * (IntKind.wrap .i64 ((1 : Int) * 2 ^ (min (c4).toNat (IntKind.bits .i64)))))) * (List.getD k1y1 (k1y12).toNat ((0 : Int), (0 : Int))).2)) + (IntKind.wrap .i64 ((IntKind.wrap .i64 ((List.getD k1y1 (k1y12).toNat ((0 : Int), (0 : Int))).1 * (IntKind.wrap .i64 (k1yo11.2 * (List.getD k1y0 (k1y12).toNat ((0 : Int), (0 : Int))).2)))) * (IntKind.wrap .i64 ((1 : Int) * 2 ^ (min (c5).toNat (IntKind.bits .i64))))))))), .s (.v (.int .i64) (IntKind.wrap .i64 ((IntKind.wrap .i64 ((IntKind.wrap .i64 (k1yo11.2 * (List.getD k1y0 (k1y12).toNat ((0 : Int), (0 : Int))).2)) * (IntKind.wrap .i64 ((1 : Int) * 2 ^ (min (c5).toNat (IntKind.bits .i64)))))) * (List.getD k1y1 (k1y12).toNat ((0 : Int), (0 : Int))).2)))] (.s (.v (.pr (.int .i64) (.int .i64)) c6)) [],
      0 ≤ (IntKind.wrap .i64 (((k1y3).size : Int) - (List.getD k1y2 (k1y12).toNat (0 : Int)))),
      decide (c6.2 ≤ (IntKind.wrap .i64 ((1 : Int) * 2 ^ (min ((IntKind.wrap .i64 (((k1y3).size : Int) - (List.getD k1y2 (k1y12).toNat (0 : Int))))).toNat (IntKind.bits .i64))))) = false,
      (k1y3).size + ((⟨#[48]⟩ : ByteArray)).size ≤ 2 ^ 62,
      SC cfg.P i_spec_mpSplit [.s (.v (.sl (.pr (.int .i64) (.int .i64))) k1y0), .s (.v (.sl (.pr (.int .i64) (.int .i64))) k1y1), .s (.v (.sl (.int .i64)) k1y2), .s (.v .str (k1y3 ++ (⟨#[48]⟩ : ByteArray)))] (.tup [.own t_string .str c7a, .own t_string .str c7b, .v .bool true]) [],
      (k1y3).size + ((⟨#[49]⟩ : ByteArray)).size ≤ 2 ^ 62,
      SC cfg.P i_spec_mpSplit [.s (.v (.sl (.pr (.int .i64) (.int .i64))) k1y0), .s (.v (.sl (.pr (.int .i64) (.int .i64))) k1y1), .s (.v (.sl (.int .i64)) k1y2), .s (.v .str (k1y3 ++ (⟨#[49]⟩ : ByteArray)))] (.tup [.own t_string .str c8a, .own t_string .str c8b, .v .bool false]) []]) (by kernel_rfl) ⟨(decide_eq_false h1), h2, h3, h4, h5, h6, h7, h8, h9, h10, h11, h4, h12, h4, h13, h4, h5, h14, h15, h4, h5, h16, h17, h18, h19, (decide_eq_false h20), h21, h22, h23, h24, trivial⟩ get_spec_mpSplit (by decide)

theorem spec_mpSplit_p10 (a0 : (List (Int × Int))) (a1 : (List (Int × Int))) (a2 : (List Int)) (a3 : ByteArray) (c1 : (Int × Int)) (k1y0 : (List (Int × Int))) (k1y1 : (List (Int × Int))) (k1y2 : (List Int)) (k1y3 : ByteArray) (k1y12 : Int) (k1y50 : Bool) (k1yo11 : (Int × Int)) (c4 : Int) (c5 : Int) (c6 : (Int × Int)) (c7a : (List ByteArray)) (c7b : (List ByteArray))
    (h1 : ¬ (((a3).size : Int) > (8 : Int)))
    (h2 : SC cfg.P i_spec_mpOf [.s (.v .str a3)] (.s (.v (.pr (.int .i64) (.int .i64)) c1)) [])
    (h3 : LoopSC cfg.P 4 (lb P_spec_mpSplit 0) (spec_mpSplit_L0a a0 a1 a2 a3 (0 : Int) c1) (.exit 0) (spec_mpSplit_L0X1 k1y0 k1y1 k1y2 k1y3 k1y12 k1y50 k1yo11))
    (h4 : 0 ≤ k1y12)
    (h5 : k1y12 < (List.length k1y2 : Int))
    (h6 : 0 ≤ ((k1y3).size : Int))
    (h7 : k1yo11.2 ≠ 0)
    (h8 : 0 ≤ (IntKind.wrap .i64 (k1y12 + (1 : Int))))
    (h9 : (IntKind.wrap .i64 (k1y12 + (1 : Int))) < (List.length k1y0 : Int))
    (h10 : SC cfg.P i_spec_mpLess [.s (.v (.pr (.int .i64) (.int .i64)) (List.getD k1y0 ((IntKind.wrap .i64 (k1y12 + (1 : Int)))).toNat ((0 : Int), (0 : Int)))), .s (.v (.pr (.int .i64) (.int .i64)) ((IntKind.wrap .i64 ((IntKind.wrap .i64 (k1yo11.1 * (IntKind.wrap .i64 (Int.tdiv (IntKind.wrap .i64 ((1 : Int) * 2 ^ (min (((k1y3).size : Int)).toNat (IntKind.bits .i64)))) k1yo11.2)))) + (1 : Int))), (IntKind.wrap .i64 ((1 : Int) * 2 ^ (min (((k1y3).size : Int)).toNat (IntKind.bits .i64))))))] (.s (.v .bool false)) [])
    (h11 : SC cfg.P i_spec_l1In [.s (.v (.int .i64) (IntKind.wrap .i64 (((k1y3).size : Int) - (List.getD k1y2 (k1y12).toNat (0 : Int))))), .s (.v (.int .i64) (0 : Int)), .s (.v (.int .i64) (8 : Int))] (.s (.v .bool true)) [])
    (h12 : k1y12 < (List.length k1y0 : Int))
    (h13 : k1y12 < (List.length k1y1 : Int))
    (h14 : SC cfg.P i_spec_l1Most [.s (.v (.int .i64) (0 : Int)), .s (.v (.int .i64) (List.getD k1y2 (k1y12).toNat (0 : Int)))] (.s (.v (.int .i64) c4)) [])
    (h15 : 0 ≤ c4)
    (h16 : SC cfg.P i_spec_l1Most [.s (.v (.int .i64) (0 : Int)), .s (.v (.int .i64) (IntKind.wrap .i64 (0 - (List.getD k1y2 (k1y12).toNat (0 : Int)))))] (.s (.v (.int .i64) c5)) [])
    (h17 : 0 ≤ c5)
    (h18 : SC cfg.P i_spec_mpShort [.s (.v (.int .i64) (IntKind.wrap .i64 ((IntKind.wrap .i64 ((IntKind.wrap .i64 ((IntKind.wrap .i64 ((IntKind.wrap .i64 (k1yo11.1 * (List.getD k1y0 (k1y12).toNat ((0 : Int), (0 : Int))).2)) - (IntKind.wrap .i64 ((List.getD k1y0 (k1y12).toNat ((0 : Int), (0 : Int))).1 * k1yo11.2)))) * (IntKind.wrap .i64 ((1 : Int) * 2 ^ (min (c4).toNat (IntKind.bits .i64)))))) * (List.getD k1y1 (k1y12).toNat ((0 : Int), (0 : Int))).2)) + (IntKind.wrap .i64 ((IntKind.wrap .i64 ((List.getD k1y1 (k1y12).toNat ((0 : Int), (0 : Int))).1 * (IntKind.wrap .i64 (k1yo11.2 * (List.getD k1y0 (k1y12).toNat ((0 : Int), (0 : Int))).2)))) * (IntKind.wrap .i64 ((1 : Int) * 2 ^ (min (c5).toNat (IntKind.bits .i64))))))))), .s (.v (.int .i64) (IntKind.wrap .i64 ((IntKind.wrap .i64 ((IntKind.wrap .i64 (k1yo11.2 * (List.getD k1y0 (k1y12).toNat ((0 : Int), (0 : Int))).2)) * (IntKind.wrap .i64 ((1 : Int) * 2 ^ (min (c5).toNat (IntKind.bits .i64)))))) * (List.getD k1y1 (k1y12).toNat ((0 : Int), (0 : Int))).2)))] (.s (.v (.pr (.int .i64) (.int .i64)) c6)) [])
    (h19 : 0 ≤ (IntKind.wrap .i64 (((k1y3).size : Int) - (List.getD k1y2 (k1y12).toNat (0 : Int)))))
    (h20 : ¬ (c6.2 ≤ (IntKind.wrap .i64 ((1 : Int) * 2 ^ (min ((IntKind.wrap .i64 (((k1y3).size : Int) - (List.getD k1y2 (k1y12).toNat (0 : Int))))).toNat (IntKind.bits .i64))))))
    (h21 : (k1y3).size + ((⟨#[48]⟩ : ByteArray)).size ≤ 2 ^ 62)
    (h22 : SC cfg.P i_spec_mpSplit [.s (.v (.sl (.pr (.int .i64) (.int .i64))) k1y0), .s (.v (.sl (.pr (.int .i64) (.int .i64))) k1y1), .s (.v (.sl (.int .i64)) k1y2), .s (.v .str (k1y3 ++ (⟨#[48]⟩ : ByteArray)))] (.tup [.own t_string .str c7a, .own t_string .str c7b, .v .bool false]) []) :
    SC cfg.P i_spec_mpSplit [.s (.v (.sl (.pr (.int .i64) (.int .i64))) a0), .s (.v (.sl (.pr (.int .i64) (.int .i64))) a1), .s (.v (.sl (.int .i64)) a2), .s (.v .str a3)] (.tup [.own t_string .str ([] : List ByteArray), .own t_string .str ([] : List ByteArray), .v .bool false]) [] :=
  SC_of_run cfgOK (its := [.bool false, .res (.s (.v (.pr (.int .i64) (.int .i64)) c1)) [] [] [], .loop (fun _ => (.exit 0, spec_mpSplit_L0X1 k1y0 k1y1 k1y2 k1y3 k1y12 k1y50 k1yo11)), .res (.s (.v .bool false)) [] [] [], .res (.s (.v .bool true)) [] [] [], .res (.s (.v (.int .i64) c4)) [] [] [], .res (.s (.v (.int .i64) c5)) [] [] [], .res (.s (.v (.pr (.int .i64) (.int .i64)) c6)) [] [] [], .bool false, .res (.tup [.own t_string .str c7a, .own t_string .str c7b, .v .bool false]) [] [] [163, 193]])
    (ps := [decide (((a3).size : Int) > (8 : Int)) = false,
      SC cfg.P i_spec_mpOf [.s (.v .str a3)] (.s (.v (.pr (.int .i64) (.int .i64)) c1)) [],
      LoopSC cfg.P 4 (lb P_spec_mpSplit 0) (spec_mpSplit_L0a a0 a1 a2 a3 (0 : Int) c1) (.exit 0) (spec_mpSplit_L0X1 k1y0 k1y1 k1y2 k1y3 k1y12 k1y50 k1yo11),
      0 ≤ k1y12,
      k1y12 < (List.length k1y2 : Int),
      0 ≤ ((k1y3).size : Int),
      k1yo11.2 ≠ 0,
      0 ≤ (IntKind.wrap .i64 (k1y12 + (1 : Int))),
      (IntKind.wrap .i64 (k1y12 + (1 : Int))) < (List.length k1y0 : Int),
      SC cfg.P i_spec_mpLess [.s (.v (.pr (.int .i64) (.int .i64)) (List.getD k1y0 ((IntKind.wrap .i64 (k1y12 + (1 : Int)))).toNat ((0 : Int), (0 : Int)))), .s (.v (.pr (.int .i64) (.int .i64)) ((IntKind.wrap .i64 ((IntKind.wrap .i64 (k1yo11.1 * (IntKind.wrap .i64 (Int.tdiv (IntKind.wrap .i64 ((1 : Int) * 2 ^ (min (((k1y3).size : Int)).toNat (IntKind.bits .i64)))) k1yo11.2)))) + (1 : Int))), (IntKind.wrap .i64 ((1 : Int) * 2 ^ (min (((k1y3).size : Int)).toNat (IntKind.bits .i64))))))] (.s (.v .bool false)) [],
      SC cfg.P i_spec_l1In [.s (.v (.int .i64) (IntKind.wrap .i64 (((k1y3).size : Int) - (List.getD k1y2 (k1y12).toNat (0 : Int))))), .s (.v (.int .i64) (0 : Int)), .s (.v (.int .i64) (8 : Int))] (.s (.v .bool true)) [],
      0 ≤ k1y12,
      k1y12 < (List.length k1y0 : Int),
      0 ≤ k1y12,
      k1y12 < (List.length k1y1 : Int),
      0 ≤ k1y12,
      k1y12 < (List.length k1y2 : Int),
      SC cfg.P i_spec_l1Most [.s (.v (.int .i64) (0 : Int)), .s (.v (.int .i64) (List.getD k1y2 (k1y12).toNat (0 : Int)))] (.s (.v (.int .i64) c4)) [],
      0 ≤ c4,
      0 ≤ k1y12,
      k1y12 < (List.length k1y2 : Int),
      SC cfg.P i_spec_l1Most [.s (.v (.int .i64) (0 : Int)), .s (.v (.int .i64) (IntKind.wrap .i64 (0 - (List.getD k1y2 (k1y12).toNat (0 : Int)))))] (.s (.v (.int .i64) c5)) [],
      0 ≤ c5,
      SC cfg.P i_spec_mpShort [.s (.v (.int .i64) (IntKind.wrap .i64 ((IntKind.wrap .i64 ((IntKind.wrap .i64 ((IntKind.wrap .i64 ((IntKind.wrap .i64 (k1yo11.1 * (List.getD k1y0 (k1y12).toNat ((0 : Int), (0 : Int))).2)) - (IntKind.wrap .i64 ((List.getD k1y0 (k1y12).toNat ((0 : Int), (0 : Int))).1 * k1yo11.2)))) * (IntKind.wrap .i64 ((1 : Int) * 2 ^ (min (c4).toNat (IntKind.bits .i64)))))) * (List.getD k1y1 (k1y12).toNat ((0 : Int), (0 : Int))).2)) + (IntKind.wrap .i64 ((IntKind.wrap .i64 ((List.getD k1y1 (k1y12).toNat ((0 : Int), (0 : Int))).1 * (IntKind.wrap .i64 (k1yo11.2 * (List.getD k1y0 (k1y12).toNat ((0 : Int), (0 : Int))).2)))) * (IntKind.wrap .i64 ((1 : Int) * 2 ^ (min (c5).toNat (IntKind.bits .i64))))))))), .s (.v (.int .i64) (IntKind.wrap .i64 ((IntKind.wrap .i64 ((IntKind.wrap .i64 (k1yo11.2 * (List.getD k1y0 (k1y12).toNat ((0 : Int), (0 : Int))).2)) * (IntKind.wrap .i64 ((1 : Int) * 2 ^ (min (c5).toNat (IntKind.bits .i64)))))) * (List.getD k1y1 (k1y12).toNat ((0 : Int), (0 : Int))).2)))] (.s (.v (.pr (.int .i64) (.int .i64)) c6)) [],
      0 ≤ (IntKind.wrap .i64 (((k1y3).size : Int) - (List.getD k1y2 (k1y12).toNat (0 : Int)))),
      decide (c6.2 ≤ (IntKind.wrap .i64 ((1 : Int) * 2 ^ (min ((IntKind.wrap .i64 (((k1y3).size : Int) - (List.getD k1y2 (k1y12).toNat (0 : Int))))).toNat (IntKind.bits .i64))))) = false,
      (k1y3).size + ((⟨#[48]⟩ : ByteArray)).size ≤ 2 ^ 62,
      SC cfg.P i_spec_mpSplit [.s (.v (.sl (.pr (.int .i64) (.int .i64))) k1y0), .s (.v (.sl (.pr (.int .i64) (.int .i64))) k1y1), .s (.v (.sl (.int .i64)) k1y2), .s (.v .str (k1y3 ++ (⟨#[48]⟩ : ByteArray)))] (.tup [.own t_string .str c7a, .own t_string .str c7b, .v .bool false]) []]) (by kernel_rfl) ⟨(decide_eq_false h1), h2, h3, h4, h5, h6, h7, h8, h9, h10, h11, h4, h12, h4, h13, h4, h5, h14, h15, h4, h5, h16, h17, h18, h19, (decide_eq_false h20), h21, h22, trivial⟩ get_spec_mpSplit (by decide)

theorem spec_mpSplit_p11 (a0 : (List (Int × Int))) (a1 : (List (Int × Int))) (a2 : (List Int)) (a3 : ByteArray) (c1 : (Int × Int)) (k1y0 : (List (Int × Int))) (k1y1 : (List (Int × Int))) (k1y2 : (List Int)) (k1y3 : ByteArray) (k1y12 : Int) (k1y50 : Bool) (k1yo11 : (Int × Int)) (c4a : (List ByteArray)) (c4b : (List ByteArray)) (c5a : (List ByteArray)) (c5b : (List ByteArray))
    (h1 : ¬ (((a3).size : Int) > (8 : Int)))
    (h2 : SC cfg.P i_spec_mpOf [.s (.v .str a3)] (.s (.v (.pr (.int .i64) (.int .i64)) c1)) [])
    (h3 : LoopSC cfg.P 4 (lb P_spec_mpSplit 0) (spec_mpSplit_L0a a0 a1 a2 a3 (0 : Int) c1) (.exit 0) (spec_mpSplit_L0X1 k1y0 k1y1 k1y2 k1y3 k1y12 k1y50 k1yo11))
    (h4 : 0 ≤ k1y12)
    (h5 : k1y12 < (List.length k1y2 : Int))
    (h6 : 0 ≤ ((k1y3).size : Int))
    (h7 : k1yo11.2 ≠ 0)
    (h8 : 0 ≤ (IntKind.wrap .i64 (k1y12 + (1 : Int))))
    (h9 : (IntKind.wrap .i64 (k1y12 + (1 : Int))) < (List.length k1y0 : Int))
    (h10 : SC cfg.P i_spec_mpLess [.s (.v (.pr (.int .i64) (.int .i64)) (List.getD k1y0 ((IntKind.wrap .i64 (k1y12 + (1 : Int)))).toNat ((0 : Int), (0 : Int)))), .s (.v (.pr (.int .i64) (.int .i64)) ((IntKind.wrap .i64 ((IntKind.wrap .i64 (k1yo11.1 * (IntKind.wrap .i64 (Int.tdiv (IntKind.wrap .i64 ((1 : Int) * 2 ^ (min (((k1y3).size : Int)).toNat (IntKind.bits .i64)))) k1yo11.2)))) + (1 : Int))), (IntKind.wrap .i64 ((1 : Int) * 2 ^ (min (((k1y3).size : Int)).toNat (IntKind.bits .i64))))))] (.s (.v .bool false)) [])
    (h11 : SC cfg.P i_spec_l1In [.s (.v (.int .i64) (IntKind.wrap .i64 (((k1y3).size : Int) - (List.getD k1y2 (k1y12).toNat (0 : Int))))), .s (.v (.int .i64) (0 : Int)), .s (.v (.int .i64) (8 : Int))] (.s (.v .bool false)) [])
    (h12 : (k1y3).size + ((⟨#[48]⟩ : ByteArray)).size ≤ 2 ^ 62)
    (h13 : SC cfg.P i_spec_mpSplit [.s (.v (.sl (.pr (.int .i64) (.int .i64))) k1y0), .s (.v (.sl (.pr (.int .i64) (.int .i64))) k1y1), .s (.v (.sl (.int .i64)) k1y2), .s (.v .str (k1y3 ++ (⟨#[48]⟩ : ByteArray)))] (.tup [.own t_string .str c4a, .own t_string .str c4b, .v .bool true]) [])
    (h14 : (k1y3).size + ((⟨#[49]⟩ : ByteArray)).size ≤ 2 ^ 62)
    (h15 : SC cfg.P i_spec_mpSplit [.s (.v (.sl (.pr (.int .i64) (.int .i64))) k1y0), .s (.v (.sl (.pr (.int .i64) (.int .i64))) k1y1), .s (.v (.sl (.int .i64)) k1y2), .s (.v .str (k1y3 ++ (⟨#[49]⟩ : ByteArray)))] (.tup [.own t_string .str c5a, .own t_string .str c5b, .v .bool true]) [])
    (h16 : (IntKind.wrap .i64 (((List.length c4a : Nat) : Int) + ((List.length c5a : Nat) : Int))) > (9 : Int)) :
    SC cfg.P i_spec_mpSplit [.s (.v (.sl (.pr (.int .i64) (.int .i64))) a0), .s (.v (.sl (.pr (.int .i64) (.int .i64))) a1), .s (.v (.sl (.int .i64)) a2), .s (.v .str a3)] (.tup [.own t_string .str ([] : List ByteArray), .own t_string .str ([] : List ByteArray), .v .bool false]) [] :=
  SC_of_run cfgOK (its := [.bool false, .res (.s (.v (.pr (.int .i64) (.int .i64)) c1)) [] [] [], .loop (fun _ => (.exit 0, spec_mpSplit_L0X1 k1y0 k1y1 k1y2 k1y3 k1y12 k1y50 k1yo11)), .res (.s (.v .bool false)) [] [] [], .res (.s (.v .bool false)) [] [] [], .res (.tup [.own t_string .str c4a, .own t_string .str c4b, .v .bool true]) [] [] [163, 193], .res (.tup [.own t_string .str c5a, .own t_string .str c5b, .v .bool true]) [] [] [175, 192], .bool true])
    (ps := [decide (((a3).size : Int) > (8 : Int)) = false,
      SC cfg.P i_spec_mpOf [.s (.v .str a3)] (.s (.v (.pr (.int .i64) (.int .i64)) c1)) [],
      LoopSC cfg.P 4 (lb P_spec_mpSplit 0) (spec_mpSplit_L0a a0 a1 a2 a3 (0 : Int) c1) (.exit 0) (spec_mpSplit_L0X1 k1y0 k1y1 k1y2 k1y3 k1y12 k1y50 k1yo11),
      0 ≤ k1y12,
      k1y12 < (List.length k1y2 : Int),
      0 ≤ ((k1y3).size : Int),
      k1yo11.2 ≠ 0,
      0 ≤ (IntKind.wrap .i64 (k1y12 + (1 : Int))),
      (IntKind.wrap .i64 (k1y12 + (1 : Int))) < (List.length k1y0 : Int),
      SC cfg.P i_spec_mpLess [.s (.v (.pr (.int .i64) (.int .i64)) (List.getD k1y0 ((IntKind.wrap .i64 (k1y12 + (1 : Int)))).toNat ((0 : Int), (0 : Int)))), .s (.v (.pr (.int .i64) (.int .i64)) ((IntKind.wrap .i64 ((IntKind.wrap .i64 (k1yo11.1 * (IntKind.wrap .i64 (Int.tdiv (IntKind.wrap .i64 ((1 : Int) * 2 ^ (min (((k1y3).size : Int)).toNat (IntKind.bits .i64)))) k1yo11.2)))) + (1 : Int))), (IntKind.wrap .i64 ((1 : Int) * 2 ^ (min (((k1y3).size : Int)).toNat (IntKind.bits .i64))))))] (.s (.v .bool false)) [],
      SC cfg.P i_spec_l1In [.s (.v (.int .i64) (IntKind.wrap .i64 (((k1y3).size : Int) - (List.getD k1y2 (k1y12).toNat (0 : Int))))), .s (.v (.int .i64) (0 : Int)), .s (.v (.int .i64) (8 : Int))] (.s (.v .bool false)) [],
      (k1y3).size + ((⟨#[48]⟩ : ByteArray)).size ≤ 2 ^ 62,
      SC cfg.P i_spec_mpSplit [.s (.v (.sl (.pr (.int .i64) (.int .i64))) k1y0), .s (.v (.sl (.pr (.int .i64) (.int .i64))) k1y1), .s (.v (.sl (.int .i64)) k1y2), .s (.v .str (k1y3 ++ (⟨#[48]⟩ : ByteArray)))] (.tup [.own t_string .str c4a, .own t_string .str c4b, .v .bool true]) [],
      (k1y3).size + ((⟨#[49]⟩ : ByteArray)).size ≤ 2 ^ 62,
      SC cfg.P i_spec_mpSplit [.s (.v (.sl (.pr (.int .i64) (.int .i64))) k1y0), .s (.v (.sl (.pr (.int .i64) (.int .i64))) k1y1), .s (.v (.sl (.int .i64)) k1y2), .s (.v .str (k1y3 ++ (⟨#[49]⟩ : ByteArray)))] (.tup [.own t_string .str c5a, .own t_string .str c5b, .v .bool true]) [],
      decide ((IntKind.wrap .i64 (((List.length c4a : Nat) : Int) + ((List.length c5a : Nat) : Int))) > (9 : Int)) = true]) (by kernel_rfl) ⟨(decide_eq_false h1), h2, h3, h4, h5, h6, h7, h8, h9, h10, h11, h12, h13, h14, h15, (decide_eq_true h16), trivial⟩ get_spec_mpSplit (by decide)

theorem spec_mpSplit_p12 (a0 : (List (Int × Int))) (a1 : (List (Int × Int))) (a2 : (List Int)) (a3 : ByteArray) (c1 : (Int × Int)) (k1y0 : (List (Int × Int))) (k1y1 : (List (Int × Int))) (k1y2 : (List Int)) (k1y3 : ByteArray) (k1y12 : Int) (k1y50 : Bool) (k1yo11 : (Int × Int)) (c4a : (List ByteArray)) (c4b : (List ByteArray)) (c5a : (List ByteArray)) (c5b : (List ByteArray))
    (h1 : ¬ (((a3).size : Int) > (8 : Int)))
    (h2 : SC cfg.P i_spec_mpOf [.s (.v .str a3)] (.s (.v (.pr (.int .i64) (.int .i64)) c1)) [])
    (h3 : LoopSC cfg.P 4 (lb P_spec_mpSplit 0) (spec_mpSplit_L0a a0 a1 a2 a3 (0 : Int) c1) (.exit 0) (spec_mpSplit_L0X1 k1y0 k1y1 k1y2 k1y3 k1y12 k1y50 k1yo11))
    (h4 : 0 ≤ k1y12)
    (h5 : k1y12 < (List.length k1y2 : Int))
    (h6 : 0 ≤ ((k1y3).size : Int))
    (h7 : k1yo11.2 ≠ 0)
    (h8 : 0 ≤ (IntKind.wrap .i64 (k1y12 + (1 : Int))))
    (h9 : (IntKind.wrap .i64 (k1y12 + (1 : Int))) < (List.length k1y0 : Int))
    (h10 : SC cfg.P i_spec_mpLess [.s (.v (.pr (.int .i64) (.int .i64)) (List.getD k1y0 ((IntKind.wrap .i64 (k1y12 + (1 : Int)))).toNat ((0 : Int), (0 : Int)))), .s (.v (.pr (.int .i64) (.int .i64)) ((IntKind.wrap .i64 ((IntKind.wrap .i64 (k1yo11.1 * (IntKind.wrap .i64 (Int.tdiv (IntKind.wrap .i64 ((1 : Int) * 2 ^ (min (((k1y3).size : Int)).toNat (IntKind.bits .i64)))) k1yo11.2)))) + (1 : Int))), (IntKind.wrap .i64 ((1 : Int) * 2 ^ (min (((k1y3).size : Int)).toNat (IntKind.bits .i64))))))] (.s (.v .bool false)) [])
    (h11 : SC cfg.P i_spec_l1In [.s (.v (.int .i64) (IntKind.wrap .i64 (((k1y3).size : Int) - (List.getD k1y2 (k1y12).toNat (0 : Int))))), .s (.v (.int .i64) (0 : Int)), .s (.v (.int .i64) (8 : Int))] (.s (.v .bool false)) [])
    (h12 : (k1y3).size + ((⟨#[48]⟩ : ByteArray)).size ≤ 2 ^ 62)
    (h13 : SC cfg.P i_spec_mpSplit [.s (.v (.sl (.pr (.int .i64) (.int .i64))) k1y0), .s (.v (.sl (.pr (.int .i64) (.int .i64))) k1y1), .s (.v (.sl (.int .i64)) k1y2), .s (.v .str (k1y3 ++ (⟨#[48]⟩ : ByteArray)))] (.tup [.own t_string .str c4a, .own t_string .str c4b, .v .bool true]) [])
    (h14 : (k1y3).size + ((⟨#[49]⟩ : ByteArray)).size ≤ 2 ^ 62)
    (h15 : SC cfg.P i_spec_mpSplit [.s (.v (.sl (.pr (.int .i64) (.int .i64))) k1y0), .s (.v (.sl (.pr (.int .i64) (.int .i64))) k1y1), .s (.v (.sl (.int .i64)) k1y2), .s (.v .str (k1y3 ++ (⟨#[49]⟩ : ByteArray)))] (.tup [.own t_string .str c5a, .own t_string .str c5b, .v .bool true]) [])
    (h16 : ¬ ((IntKind.wrap .i64 (((List.length c4a : Nat) : Int) + ((List.length c5a : Nat) : Int))) > (9 : Int)))
    (h17 : sizeOK (List.length c4a + List.length c5a))
    (h18 : sizeOK (List.length c4b + List.length c5b)) :
    SC cfg.P i_spec_mpSplit [.s (.v (.sl (.pr (.int .i64) (.int .i64))) a0), .s (.v (.sl (.pr (.int .i64) (.int .i64))) a1), .s (.v (.sl (.int .i64)) a2), .s (.v .str a3)] (.tup [.own t_string .str (c4a ++ c5a), .own t_string .str (c4b ++ c5b), .v .bool true]) [] :=
  SC_of_run cfgOK (its := [.bool false, .res (.s (.v (.pr (.int .i64) (.int .i64)) c1)) [] [] [], .loop (fun _ => (.exit 0, spec_mpSplit_L0X1 k1y0 k1y1 k1y2 k1y3 k1y12 k1y50 k1yo11)), .res (.s (.v .bool false)) [] [] [], .res (.s (.v .bool false)) [] [] [], .res (.tup [.own t_string .str c4a, .own t_string .str c4b, .v .bool true]) [] [] [163, 193], .res (.tup [.own t_string .str c5a, .own t_string .str c5b, .v .bool true]) [] [] [175, 192], .bool false])
    (ps := [decide (((a3).size : Int) > (8 : Int)) = false,
      SC cfg.P i_spec_mpOf [.s (.v .str a3)] (.s (.v (.pr (.int .i64) (.int .i64)) c1)) [],
      LoopSC cfg.P 4 (lb P_spec_mpSplit 0) (spec_mpSplit_L0a a0 a1 a2 a3 (0 : Int) c1) (.exit 0) (spec_mpSplit_L0X1 k1y0 k1y1 k1y2 k1y3 k1y12 k1y50 k1yo11),
      0 ≤ k1y12,
      k1y12 < (List.length k1y2 : Int),
      0 ≤ ((k1y3).size : Int),
      k1yo11.2 ≠ 0,
      0 ≤ (IntKind.wrap .i64 (k1y12 + (1 : Int))),
      (IntKind.wrap .i64 (k1y12 + (1 : Int))) < (List.length k1y0 : Int),
      SC cfg.P i_spec_mpLess [.s (.v (.pr (.int .i64) (.int .i64)) (List.getD k1y0 ((IntKind.wrap .i64 (k1y12 + (1 : Int)))).toNat ((0 : Int), (0 : Int)))), .s (.v (.pr (.int .i64) (.int .i64)) ((IntKind.wrap .i64 ((IntKind.wrap .i64 (k1yo11.1 * (IntKind.wrap .i64 (Int.tdiv (IntKind.wrap .i64 ((1 : Int) * 2 ^ (min (((k1y3).size : Int)).toNat (IntKind.bits .i64)))) k1yo11.2)))) + (1 : Int))), (IntKind.wrap .i64 ((1 : Int) * 2 ^ (min (((k1y3).size : Int)).toNat (IntKind.bits .i64))))))] (.s (.v .bool false)) [],
      SC cfg.P i_spec_l1In [.s (.v (.int .i64) (IntKind.wrap .i64 (((k1y3).size : Int) - (List.getD k1y2 (k1y12).toNat (0 : Int))))), .s (.v (.int .i64) (0 : Int)), .s (.v (.int .i64) (8 : Int))] (.s (.v .bool false)) [],
      (k1y3).size + ((⟨#[48]⟩ : ByteArray)).size ≤ 2 ^ 62,
      SC cfg.P i_spec_mpSplit [.s (.v (.sl (.pr (.int .i64) (.int .i64))) k1y0), .s (.v (.sl (.pr (.int .i64) (.int .i64))) k1y1), .s (.v (.sl (.int .i64)) k1y2), .s (.v .str (k1y3 ++ (⟨#[48]⟩ : ByteArray)))] (.tup [.own t_string .str c4a, .own t_string .str c4b, .v .bool true]) [],
      (k1y3).size + ((⟨#[49]⟩ : ByteArray)).size ≤ 2 ^ 62,
      SC cfg.P i_spec_mpSplit [.s (.v (.sl (.pr (.int .i64) (.int .i64))) k1y0), .s (.v (.sl (.pr (.int .i64) (.int .i64))) k1y1), .s (.v (.sl (.int .i64)) k1y2), .s (.v .str (k1y3 ++ (⟨#[49]⟩ : ByteArray)))] (.tup [.own t_string .str c5a, .own t_string .str c5b, .v .bool true]) [],
      decide ((IntKind.wrap .i64 (((List.length c4a : Nat) : Int) + ((List.length c5a : Nat) : Int))) > (9 : Int)) = false,
      sizeOK (List.length c4a + List.length c5a),
      sizeOK (List.length c4b + List.length c5b)]) (by kernel_rfl) ⟨(decide_eq_false h1), h2, h3, h4, h5, h6, h7, h8, h9, h10, h11, h12, h13, h14, h15, (decide_eq_false h16), h17, h18, trivial⟩ get_spec_mpSplit (by decide)

theorem spec_mpSplit_p13 (a0 : (List (Int × Int))) (a1 : (List (Int × Int))) (a2 : (List Int)) (a3 : ByteArray) (c1 : (Int × Int)) (k1y0 : (List (Int × Int))) (k1y1 : (List (Int × Int))) (k1y2 : (List Int)) (k1y3 : ByteArray) (k1y12 : Int) (k1y50 : Bool) (k1yo11 : (Int × Int)) (c4a : (List ByteArray)) (c4b : (List ByteArray)) (c5a : (List ByteArray)) (c5b : (List ByteArray))
    (h1 : ¬ (((a3).size : Int) > (8 : Int)))
    (h2 : SC cfg.P i_spec_mpOf [.s (.v .str a3)] (.s (.v (.pr (.int .i64) (.int .i64)) c1)) [])
    (h3 : LoopSC cfg.P 4 (lb P_spec_mpSplit 0) (spec_mpSplit_L0a a0 a1 a2 a3 (0 : Int) c1) (.exit 0) (spec_mpSplit_L0X1 k1y0 k1y1 k1y2 k1y3 k1y12 k1y50 k1yo11))
    (h4 : 0 ≤ k1y12)
    (h5 : k1y12 < (List.length k1y2 : Int))
    (h6 : 0 ≤ ((k1y3).size : Int))
    (h7 : k1yo11.2 ≠ 0)
    (h8 : 0 ≤ (IntKind.wrap .i64 (k1y12 + (1 : Int))))
    (h9 : (IntKind.wrap .i64 (k1y12 + (1 : Int))) < (List.length k1y0 : Int))
    (h10 : SC cfg.P i_spec_mpLess [.s (.v (.pr (.int .i64) (.int .i64)) (List.getD k1y0 ((IntKind.wrap .i64 (k1y12 + (1 : Int)))).toNat ((0 : Int), (0 : Int)))), .s (.v (.pr (.int .i64) (.int .i64)) ((IntKind.wrap .i64 ((IntKind.wrap .i64 (k1yo11.1 * (IntKind.wrap .i64 (Int.tdiv (IntKind.wrap .i64 ((1 : Int) * 2 ^ (min (((k1y3).size : Int)).toNat (IntKind.bits .i64)))) k1yo11.2)))) + (1 : Int))), (IntKind.wrap .i64 ((1 : Int) * 2 ^ (min (((k1y3).size : Int)).toNat (IntKind.bits .i64))))))] (.s (.v .bool false)) [])
    (h11 : SC cfg.P i_spec_l1In [.s (.v (.int .i64) (IntKind.wrap .i64 (((k1y3).size : Int) - (List.getD k1y2 (k1y12).toNat (0 : Int))))), .s (.v (.int .i64) (0 : Int)), .s (.v (.int .i64) (8 : Int))] (.s (.v .bool false)) [])
    (h12 : (k1y3).size + ((⟨#[48]⟩ : ByteArray)).size ≤ 2 ^ 62)
    (h13 : SC cfg.P i_spec_mpSplit [.s (.v (.sl (.pr (.int .i64) (.int .i64))) k1y0), .s (.v (.sl (.pr (.int .i64) (.int .i64))) k1y1), .s (.v (.sl (.int .i64)) k1y2), .s (.v .str (k1y3 ++ (⟨#[48]⟩ : ByteArray)))] (.tup [.own t_string .str c4a, .own t_string .str c4b, .v .bool true]) [])
    (h14 : (k1y3).size + ((⟨#[49]⟩ : ByteArray)).size ≤ 2 ^ 62)
    (h15 : SC cfg.P i_spec_mpSplit [.s (.v (.sl (.pr (.int .i64) (.int .i64))) k1y0), .s (.v (.sl (.pr (.int .i64) (.int .i64))) k1y1), .s (.v (.sl (.int .i64)) k1y2), .s (.v .str (k1y3 ++ (⟨#[49]⟩ : ByteArray)))] (.tup [.own t_string .str c5a, .own t_string .str c5b, .v .bool false]) []) :
    SC cfg.P i_spec_mpSplit [.s (.v (.sl (.pr (.int .i64) (.int .i64))) a0), .s (.v (.sl (.pr (.int .i64) (.int .i64))) a1), .s (.v (.sl (.int .i64)) a2), .s (.v .str a3)] (.tup [.own t_string .str ([] : List ByteArray), .own t_string .str ([] : List ByteArray), .v .bool false]) [] :=
  SC_of_run cfgOK (its := [.bool false, .res (.s (.v (.pr (.int .i64) (.int .i64)) c1)) [] [] [], .loop (fun _ => (.exit 0, spec_mpSplit_L0X1 k1y0 k1y1 k1y2 k1y3 k1y12 k1y50 k1yo11)), .res (.s (.v .bool false)) [] [] [], .res (.s (.v .bool false)) [] [] [], .res (.tup [.own t_string .str c4a, .own t_string .str c4b, .v .bool true]) [] [] [163, 193], .res (.tup [.own t_string .str c5a, .own t_string .str c5b, .v .bool false]) [] [] [175, 192]])
    (ps := [decide (((a3).size : Int) > (8 : Int)) = false,
      SC cfg.P i_spec_mpOf [.s (.v .str a3)] (.s (.v (.pr (.int .i64) (.int .i64)) c1)) [],
      LoopSC cfg.P 4 (lb P_spec_mpSplit 0) (spec_mpSplit_L0a a0 a1 a2 a3 (0 : Int) c1) (.exit 0) (spec_mpSplit_L0X1 k1y0 k1y1 k1y2 k1y3 k1y12 k1y50 k1yo11),
      0 ≤ k1y12,
      k1y12 < (List.length k1y2 : Int),
      0 ≤ ((k1y3).size : Int),
      k1yo11.2 ≠ 0,
      0 ≤ (IntKind.wrap .i64 (k1y12 + (1 : Int))),
      (IntKind.wrap .i64 (k1y12 + (1 : Int))) < (List.length k1y0 : Int),
      SC cfg.P i_spec_mpLess [.s (.v (.pr (.int .i64) (.int .i64)) (List.getD k1y0 ((IntKind.wrap .i64 (k1y12 + (1 : Int)))).toNat ((0 : Int), (0 : Int)))), .s (.v (.pr (.int .i64) (.int .i64)) ((IntKind.wrap .i64 ((IntKind.wrap .i64 (k1yo11.1 * (IntKind.wrap .i64 (Int.tdiv (IntKind.wrap .i64 ((1 : Int) * 2 ^ (min (((k1y3).size : Int)).toNat (IntKind.bits .i64)))) k1yo11.2)))) + (1 : Int))), (IntKind.wrap .i64 ((1 : Int) * 2 ^ (min (((k1y3).size : Int)).toNat (IntKind.bits .i64))))))] (.s (.v .bool false)) [],
      SC cfg.P i_spec_l1In [.s (.v (.int .i64) (IntKind.wrap .i64 (((k1y3).size : Int) - (List.getD k1y2 (k1y12).toNat (0 : Int))))), .s (.v (.int .i64) (0 : Int)), .s (.v (.int .i64) (8 : Int))] (.s (.v .bool false)) [],
      (k1y3).size + ((⟨#[48]⟩ : ByteArray)).size ≤ 2 ^ 62,
      SC cfg.P i_spec_mpSplit [.s (.v (.sl (.pr (.int .i64) (.int .i64))) k1y0), .s (.v (.sl (.pr (.int .i64) (.int .i64))) k1y1), .s (.v (.sl (.int .i64)) k1y2), .s (.v .str (k1y3 ++ (⟨#[48]⟩ : ByteArray)))] (.tup [.own t_string .str c4a, .own t_string .str c4b, .v .bool true]) [],
      (k1y3).size + ((⟨#[49]⟩ : ByteArray)).size ≤ 2 ^ 62,
      SC cfg.P i_spec_mpSplit [.s (.v (.sl (.pr (.int .i64) (.int .i64))) k1y0), .s (.v (.sl (.pr (.int .i64) (.int .i64))) k1y1), .s (.v (.sl (.int .i64)) k1y2), .s (.v .str (k1y3 ++ (⟨#[49]⟩ : ByteArray)))] (.tup [.own t_string .str c5a, .own t_string .str c5b, .v .bool false]) []]) (by kernel_rfl) ⟨(decide_eq_false h1), h2, h3, h4, h5, h6, h7, h8, h9, h10, h11, h12, h13, h14, h15, trivial⟩ get_spec_mpSplit (by decide)

theorem spec_mpSplit_p14 (a0 : (List (Int × Int))) (a1 : (List (Int × Int))) (a2 : (List Int)) (a3 : ByteArray) (c1 : (Int × Int)) (k1y0 : (List (Int × Int))) (k1y1 : (List (Int × Int))) (k1y2 : (List Int)) (k1y3 : ByteArray) (k1y12 : Int) (k1y50 : Bool) (k1yo11 : (Int × Int)) (c4a : (List ByteArray)) (c4b : (List ByteArray))
    (h1 : ¬ (((a3).size : Int) > (8 : Int)))
    (h2 : SC cfg.P i_spec_mpOf [.s (.v .str a3)] (.s (.v (.pr (.int .i64) (.int .i64)) c1)) [])
    (h3 : LoopSC cfg.P 4 (lb P_spec_mpSplit 0) (spec_mpSplit_L0a a0 a1 a2 a3 (0 : Int) c1) (.exit 0) (spec_mpSplit_L0X1 k1y0 k1y1 k1y2 k1y3 k1y12 k1y50 k1yo11))
    (h4 : 0 ≤ k1y12)
    (h5 : k1y12 < (List.length k1y2 : Int))
    (h6 : 0 ≤ ((k1y3).size : Int))
    (h7 : k1yo11.2 ≠ 0)
    (h8 : 0 ≤ (IntKind.wrap .i64 (k1y12 + (1 : Int))))
    (h9 : (IntKind.wrap .i64 (k1y12 + (1 : Int))) < (List.length k1y0 : Int))
    (h10 : SC cfg.P i_spec_mpLess [.s (.v (.pr (.int .i64) (.int .i64)) (List.getD k1y0 ((IntKind.wrap .i64 (k1y12 + (1 : Int)))).toNat ((0 : Int), (0 : Int)))), .s (.v (.pr (.int .i64) (.int .i64)) ((IntKind.wrap .i64 ((IntKind.wrap .i64 (k1yo11.1 * (IntKind.wrap .i64 (Int.tdiv (IntKind.wrap .i64 ((1 : Int) * 2 ^ (min (((k1y3).size : Int)).toNat (IntKind.bits .i64)))) k1yo11.2)))) + (1 : Int))), (IntKind.wrap .i64 ((1 : Int) * 2 ^ (min (((k1y3).size : Int)).toNat (IntKind.bits .i64))))))] (.s (.v .bool false)) [])
    (h11 : SC cfg.P i_spec_l1In [.s (.v (.int .i64) (IntKind.wrap .i64 (((k1y3).size : Int) - (List.getD k1y2 (k1y12).toNat (0 : Int))))), .s (.v (.int .i64) (0 : Int)), .s (.v (.int .i64) (8 : Int))] (.s (.v .bool false)) [])
    (h12 : (k1y3).size + ((⟨#[48]⟩ : ByteArray)).size ≤ 2 ^ 62)
    (h13 : SC cfg.P i_spec_mpSplit [.s (.v (.sl (.pr (.int .i64) (.int .i64))) k1y0), .s (.v (.sl (.pr (.int .i64) (.int .i64))) k1y1), .s (.v (.sl (.int .i64)) k1y2), .s (.v .str (k1y3 ++ (⟨#[48]⟩ : ByteArray)))] (.tup [.own t_string .str c4a, .own t_string .str c4b, .v .bool false]) []) :
    SC cfg.P i_spec_mpSplit [.s (.v (.sl (.pr (.int .i64) (.int .i64))) a0), .s (.v (.sl (.pr (.int .i64) (.int .i64))) a1), .s (.v (.sl (.int .i64)) a2), .s (.v .str a3)] (.tup [.own t_string .str ([] : List ByteArray), .own t_string .str ([] : List ByteArray), .v .bool false]) [] :=
  SC_of_run cfgOK (its := [.bool false, .res (.s (.v (.pr (.int .i64) (.int .i64)) c1)) [] [] [], .loop (fun _ => (.exit 0, spec_mpSplit_L0X1 k1y0 k1y1 k1y2 k1y3 k1y12 k1y50 k1yo11)), .res (.s (.v .bool false)) [] [] [], .res (.s (.v .bool false)) [] [] [], .res (.tup [.own t_string .str c4a, .own t_string .str c4b, .v .bool false]) [] [] [163, 193]])
    (ps := [decide (((a3).size : Int) > (8 : Int)) = false,
      SC cfg.P i_spec_mpOf [.s (.v .str a3)] (.s (.v (.pr (.int .i64) (.int .i64)) c1)) [],
      LoopSC cfg.P 4 (lb P_spec_mpSplit 0) (spec_mpSplit_L0a a0 a1 a2 a3 (0 : Int) c1) (.exit 0) (spec_mpSplit_L0X1 k1y0 k1y1 k1y2 k1y3 k1y12 k1y50 k1yo11),
      0 ≤ k1y12,
      k1y12 < (List.length k1y2 : Int),
      0 ≤ ((k1y3).size : Int),
      k1yo11.2 ≠ 0,
      0 ≤ (IntKind.wrap .i64 (k1y12 + (1 : Int))),
      (IntKind.wrap .i64 (k1y12 + (1 : Int))) < (List.length k1y0 : Int),
      SC cfg.P i_spec_mpLess [.s (.v (.pr (.int .i64) (.int .i64)) (List.getD k1y0 ((IntKind.wrap .i64 (k1y12 + (1 : Int)))).toNat ((0 : Int), (0 : Int)))), .s (.v (.pr (.int .i64) (.int .i64)) ((IntKind.wrap .i64 ((IntKind.wrap .i64 (k1yo11.1 * (IntKind.wrap .i64 (Int.tdiv (IntKind.wrap .i64 ((1 : Int) * 2 ^ (min (((k1y3).size : Int)).toNat (IntKind.bits .i64)))) k1yo11.2)))) + (1 : Int))), (IntKind.wrap .i64 ((1 : Int) * 2 ^ (min (((k1y3).size : Int)).toNat (IntKind.bits .i64))))))] (.s (.v .bool false)) [],
      SC cfg.P i_spec_l1In [.s (.v (.int .i64) (IntKind.wrap .i64 (((k1y3).size : Int) - (List.getD k1y2 (k1y12).toNat (0 : Int))))), .s (.v (.int .i64) (0 : Int)), .s (.v (.int .i64) (8 : Int))] (.s (.v .bool false)) [],
      (k1y3).size + ((⟨#[48]⟩ : ByteArray)).size ≤ 2 ^ 62,
      SC cfg.P i_spec_mpSplit [.s (.v (.sl (.pr (.int .i64) (.int .i64))) k1y0), .s (.v (.sl (.pr (.int .i64) (.int .i64))) k1y1), .s (.v (.sl (.int .i64)) k1y2), .s (.v .str (k1y3 ++ (⟨#[48]⟩ : ByteArray)))] (.tup [.own t_string .str c4a, .own t_string .str c4b, .v .bool false]) []]) (by kernel_rfl) ⟨(decide_eq_false h1), h2, h3, h4, h5, h6, h7, h8, h9, h10, h11, h12, h13, trivial⟩ get_spec_mpSplit (by decide)

/-! ### spec_l1Most -/


theorem spec_l1Most_p1 (a0 : Int) (a1 : Int)
    (h1 : a0 > a1) :
    SC cfg.P i_spec_l1Most [.s (.v (.int .i64) a0), .s (.v (.int .i64) a1)] (.s (.v (.int .i64) a0)) [] :=
  SC_of_run cfgOK (its := [.bool true])
    (ps := [decide (a0 > a1) = true]) (by kernel_rfl) ⟨(decide_eq_true h1), trivial⟩ get_spec_l1Most (by decide)

theorem spec_l1Most_p2 (a0 : Int) (a1 : Int)
    (h1 : ¬ (a0 > a1)) :
    SC cfg.P i_spec_l1Most [.s (.v (.int .i64) a0), .s (.v (.int .i64) a1)] (.s (.v (.int .i64) a1)) [] :=
  SC_of_run cfgOK (its := [.bool false])
    (ps := [decide (a0 > a1) = false]) (by kernel_rfl) ⟨(decide_eq_false h1), trivial⟩ get_spec_l1Most (by decide)

end Go.AI
