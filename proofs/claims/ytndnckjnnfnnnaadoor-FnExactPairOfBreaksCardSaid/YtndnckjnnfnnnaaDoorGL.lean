/- A part of the road: what it proves stands in its last texts. -/
import Derived.Test.YtndnckjnnfnnnaaDoorSIds
import Derived.Test.YtndnckjnnfnnnaaDoorProg
set_option autoImplicit false
set_option maxRecDepth 100000
set_option linter.unusedVariables false
namespace Go.AI
open Go.Proofs

/-! ### laws_FnExactPairOfBreaks -/


theorem laws_FnExactPairOfBreaks_p1 (a0 : (List (Int × Int))) (a1 : (List (Int × Int))) (c1 : Int)
    (h1 : SC cfg.P i_laws_szFractionS [.s (.v (.sl (.pr (.int .i64) (.int .i64))) a0), .s (.v (.int .i64) (1048576 : Int))] (.s (.v (.int .i64) c1)) [])
    (h2 : c1 < (0 : Int)) :
    SC cfg.P i_laws_FnExactPairOfBreaks [.s (.v (.sl (.pr (.int .i64) (.int .i64))) a0), .s (.v (.sl (.pr (.int .i64) (.int .i64))) a1)] (.s (.v .bool true)) [] :=
  SC_of_run cfgOK (its := [.res (.s (.v (.int .i64) c1)) [] [] [], .bool true])
    (ps := [SC cfg.P i_laws_szFractionS [.s (.v (.sl (.pr (.int .i64) (.int .i64))) a0), .s (.v (.int .i64) (1048576 : Int))] (.s (.v (.int .i64) c1)) [],
      decide (c1 < (0 : Int)) = true]) (by kernel_rfl) ⟨h1, (decide_eq_true h2), trivial⟩ get_laws_FnExactPairOfBreaks (by decide)

theorem laws_FnExactPairOfBreaks_p2 (a0 : (List (Int × Int))) (a1 : (List (Int × Int))) (c1 : Int) (c2 : Int)
    (h1 : SC cfg.P i_laws_szFractionS [.s (.v (.sl (.pr (.int .i64) (.int .i64))) a0), .s (.v (.int .i64) (1048576 : Int))] (.s (.v (.int .i64) c1)) [])
    (h2 : ¬ (c1 < (0 : Int)))
    (h3 : SC cfg.P i_laws_szFractionS [.s (.v (.sl (.pr (.int .i64) (.int .i64))) a1), .s (.v (.int .i64) c1)] (.s (.v (.int .i64) c2)) [])
    (h4 : c2 < (0 : Int)) :
    SC cfg.P i_laws_FnExactPairOfBreaks [.s (.v (.sl (.pr (.int .i64) (.int .i64))) a0), .s (.v (.sl (.pr (.int .i64) (.int .i64))) a1)] (.s (.v .bool true)) [] :=
  SC_of_run cfgOK (its := [.res (.s (.v (.int .i64) c1)) [] [] [], .bool false, .res (.s (.v (.int .i64) c2)) [] [] [], .bool true])
    (ps := [SC cfg.P i_laws_szFractionS [.s (.v (.sl (.pr (.int .i64) (.int .i64))) a0), .s (.v (.int .i64) (1048576 : Int))] (.s (.v (.int .i64) c1)) [],
      decide (c1 < (0 : Int)) = false,
      SC cfg.P i_laws_szFractionS [.s (.v (.sl (.pr (.int .i64) (.int .i64))) a1), .s (.v (.int .i64) c1)] (.s (.v (.int .i64) c2)) [],
      decide (c2 < (0 : Int)) = true]) (by kernel_rfl) ⟨h1, (decide_eq_false h2), h3, (decide_eq_true h4), trivial⟩ get_laws_FnExactPairOfBreaks (by decide)

theorem laws_FnExactPairOfBreaks_p3 (a0 : (List (Int × Int))) (a1 : (List (Int × Int))) (c1 : Int) (c2 : Int) (c3 : (List (Int × Int))) (c4 : (List (Int × Int))) (c5a : (ByteArray × ByteArray)) (c5b : Bool) (c6 : (List (Int × Int))) (c7 : (List (Int × Int))) (c8a : (ByteArray × ByteArray)) (c8b : Bool) (c10 : (List (Int × Int))) (c12 : (List (Int × Int)))
    (h1 : SC cfg.P i_laws_szFractionS [.s (.v (.sl (.pr (.int .i64) (.int .i64))) a0), .s (.v (.int .i64) (1048576 : Int))] (.s (.v (.int .i64) c1)) [])
    (h2 : ¬ (c1 < (0 : Int)))
    (h3 : SC cfg.P i_laws_szFractionS [.s (.v (.sl (.pr (.int .i64) (.int .i64))) a1), .s (.v (.int .i64) c1)] (.s (.v (.int .i64) c2)) [])
    (h4 : ¬ (c2 < (0 : Int)))
    (h5 : SC cfg.P i_laws_toFractionS [.s (.v (.sl (.pr (.int .i64) (.int .i64))) a0)] (.s (.own t_impl_Fraction (.pr (.int .i64) (.int .i64)) c3)) [])
    (h6 : SC cfg.P i_laws_toFractionS [.s (.v (.sl (.pr (.int .i64) (.int .i64))) a1)] (.s (.own t_impl_Fraction (.pr (.int .i64) (.int .i64)) c4)) [])
    (h7 : SC cfg.P i_spec_PairOfBreaks [.s (.v (.sl (.pr (.int .i64) (.int .i64))) c3), .s (.v (.sl (.pr (.int .i64) (.int .i64))) c4)] (.tup [.v (.pr .str .str) c5a, .v .bool c5b]) [])
    (h8 : SC cfg.P i_laws_toFractionS [.s (.v (.sl (.pr (.int .i64) (.int .i64))) a0)] (.s (.own t_impl_Fraction (.pr (.int .i64) (.int .i64)) c6)) [])
    (h9 : SC cfg.P i_laws_toFractionS [.s (.v (.sl (.pr (.int .i64) (.int .i64))) a1)] (.s (.own t_impl_Fraction (.pr (.int .i64) (.int .i64)) c7)) [])
    (h10 : SC cfg.P i_impl_PairOfBreaks [.s (.v (.sl (.pr (.int .i64) (.int .i64))) c6), .s (.v (.sl (.pr (.int .i64) (.int .i64))) c7)] (.tup [.v (.pr .str .str) c8a, .v .bool c8b]) [])
    (h11 : SC cfg.P i_laws_eqPair [.s (.v (.pr .str .str) c8a), .s (.v (.pr .str .str) c5a)] (.s (.v .bool true)) [])
    (h12 : (!(c8b == c5b)) = false)
    (h13 : SC cfg.P i_laws_toFractionS [.s (.v (.sl (.pr (.int .i64) (.int .i64))) a0)] (.s (.own t_impl_Fraction (.pr (.int .i64) (.int .i64)) c10)) [])
    (h14 : SC cfg.P i_laws_eqFractionS [.s (.v (.sl (.pr (.int .i64) (.int .i64))) c6), .s (.v (.sl (.pr (.int .i64) (.int .i64))) c10)] (.s (.v .bool true)) [])
    (h15 : SC cfg.P i_laws_toFractionS [.s (.v (.sl (.pr (.int .i64) (.int .i64))) a1)] (.s (.own t_impl_Fraction (.pr (.int .i64) (.int .i64)) c12)) [])
    (h16 : SC cfg.P i_laws_eqFractionS [.s (.v (.sl (.pr (.int .i64) (.int .i64))) c7), .s (.v (.sl (.pr (.int .i64) (.int .i64))) c12)] (.s (.v .bool true)) []) :
    SC cfg.P i_laws_FnExactPairOfBreaks [.s (.v (.sl (.pr (.int .i64) (.int .i64))) a0), .s (.v (.sl (.pr (.int .i64) (.int .i64))) a1)] (.s (.v .bool true)) [] :=
  SC_of_run cfgOK (its := [.res (.s (.v (.int .i64) c1)) [] [] [], .bool false, .res (.s (.v (.int .i64) c2)) [] [] [], .bool false, .res (.s (.own t_impl_Fraction (.pr (.int .i64) (.int .i64)) c3)) [] [] [24], .res (.s (.own t_impl_Fraction (.pr (.int .i64) (.int .i64)) c4)) [] [] [26], .res (.tup [.v (.pr .str .str) c5a, .v .bool c5b]) [] [] [], .res (.s (.own t_impl_Fraction (.pr (.int .i64) (.int .i64)) c6)) [] [] [31], .res (.s (.own t_impl_Fraction (.pr (.int .i64) (.int .i64)) c7)) [] [] [33], .res (.tup [.v (.pr .str .str) c8a, .v .bool c8b]) [] [] [], .res (.s (.v .bool true)) [] [] [], .bool false, .res (.s (.own t_impl_Fraction (.pr (.int .i64) (.int .i64)) c10)) [] [] [51], .res (.s (.v .bool true)) [] [] [], .res (.s (.own t_impl_Fraction (.pr (.int .i64) (.int .i64)) c12)) [] [] [56], .res (.s (.v .bool true)) [] [] []])
    (ps := [SC cfg.P i_laws_szFractionS [.s (.v (.sl (.pr (.int .i64) (.int .i64))) a0), .s (.v (.int .i64) (1048576 : Int))] (.s (.v (.int .i64) c1)) [],
      decide (c1 < (0 : Int)) = false,
      SC cfg.P i_laws_szFractionS [.s (.v (.sl (.pr (.int .i64) (.int .i64))) a1), .s (.v (.int .i64) c1)] (.s (.v (.int .i64) c2)) [],
      decide (c2 < (0 : Int)) = false,
      SC cfg.P i_laws_toFractionS [.s (.v (.sl (.pr (.int .i64) (.int .i64))) a0)] (.s (.own t_impl_Fraction (.pr (.int .i64) (.int .i64)) c3)) [],
      SC cfg.P i_laws_toFractionS [.s (.v (.sl (.pr (.int .i64) (.int .i64))) a1)] (.s (.own t_impl_Fraction (.pr (.int .i64) (.int .i64)) c4)) [],
      SC cfg.P i_spec_PairOfBreaks [.s (.v (.sl (.pr (.int .i64) (.int .i64))) c3), .s (.v (.sl (.pr (.int .i64) (.int .i64))) c4)] (.tup [.v (.pr .str .str) c5a, .v .bool c5b]) [],
      SC cfg.P i_laws_toFractionS [.s (.v (.sl (.pr (.int .i64) (.int .i64))) a0)] (.s (.own t_impl_Fraction (.pr (.int .i64) (.int .i64)) c6)) [],
      SC cfg.P i_laws_toFractionS [.s (.v (.sl (.pr (.int .i64) (.int .i64))) a1)] (.s (.own t_impl_Fraction (.pr (.int .i64) (.int .i64)) c7)) [],
      SC cfg.P i_impl_PairOfBreaks [.s (.v (.sl (.pr (.int .i64) (.int .i64))) c6), .s (.v (.sl (.pr (.int .i64) (.int .i64))) c7)] (.tup [.v (.pr .str .str) c8a, .v .bool c8b]) [],
      SC cfg.P i_laws_eqPair [.s (.v (.pr .str .str) c8a), .s (.v (.pr .str .str) c5a)] (.s (.v .bool true)) [],
      (!(c8b == c5b)) = false,
      SC cfg.P i_laws_toFractionS [.s (.v (.sl (.pr (.int .i64) (.int .i64))) a0)] (.s (.own t_impl_Fraction (.pr (.int .i64) (.int .i64)) c10)) [],
      SC cfg.P i_laws_eqFractionS [.s (.v (.sl (.pr (.int .i64) (.int .i64))) c6), .s (.v (.sl (.pr (.int .i64) (.int .i64))) c10)] (.s (.v .bool true)) [],
      SC cfg.P i_laws_toFractionS [.s (.v (.sl (.pr (.int .i64) (.int .i64))) a1)] (.s (.own t_impl_Fraction (.pr (.int .i64) (.int .i64)) c12)) [],
      SC cfg.P i_laws_eqFractionS [.s (.v (.sl (.pr (.int .i64) (.int .i64))) c7), .s (.v (.sl (.pr (.int .i64) (.int .i64))) c12)] (.s (.v .bool true)) []]) (by kernel_rfl) ⟨h1, (decide_eq_false h2), h3, (decide_eq_false h4), h5, h6, h7, h8, h9, h10, h11, h12, h13, h14, h15, h16, trivial⟩ get_laws_FnExactPairOfBreaks (by decide)

/-! ### laws_szFractionS -/


theorem laws_szFractionS_p1 (a0 : (List (Int × Int))) (a1 : Int)
    (h1 : (IntKind.wrap .i64 (a1 - ((List.length a0 : Nat) : Int))) < (0 : Int)) :
    SC cfg.P i_laws_szFractionS [.s (.v (.sl (.pr (.int .i64) (.int .i64))) a0), .s (.v (.int .i64) a1)] (.s (.v (.int .i64) (-1 : Int))) [] :=
  SC_of_run cfgOK (its := [.bool true])
    (ps := [decide ((IntKind.wrap .i64 (a1 - ((List.length a0 : Nat) : Int))) < (0 : Int)) = true]) (by kernel_rfl) ⟨(decide_eq_true h1), trivial⟩ get_laws_szFractionS (by decide)

theorem laws_szFractionS_p2 (a0 : (List (Int × Int))) (a1 : Int)
    (h1 : ¬ ((IntKind.wrap .i64 (a1 - ((List.length a0 : Nat) : Int))) < (0 : Int))) :
    SC cfg.P i_laws_szFractionS [.s (.v (.sl (.pr (.int .i64) (.int .i64))) a0), .s (.v (.int .i64) a1)] (.s (.v (.int .i64) (IntKind.wrap .i64 (a1 - ((List.length a0 : Nat) : Int))))) [] :=
  SC_of_run cfgOK (its := [.bool false])
    (ps := [decide ((IntKind.wrap .i64 (a1 - ((List.length a0 : Nat) : Int))) < (0 : Int)) = false]) (by kernel_rfl) ⟨(decide_eq_false h1), trivial⟩ get_laws_szFractionS (by decide)

/-! ### laws_toFractionS -/


def laws_toFractionS_L0a (x0 : (List (Int × Int))) (x4 : Int) (xo7 : (List (Int × Int))) : St := mkSt 23 [(0, .s (.v (.sl (.pr (.int .i64) (.int .i64))) x0)), (3, .s (.osl 7 0)), (4, .s (.v (.int .i64) x4))] [(7, .row t_impl_Fraction (.pr (.int .i64) (.int .i64)) xo7 0 false)]

def laws_toFractionS_L0X1 (y0 : (List (Int × Int))) (y4 : Int) (y11 : Bool) (yo7 : (List (Int × Int))) : St := mkSt 23 [(0, .s (.v (.sl (.pr (.int .i64) (.int .i64))) y0)), (3, .s (.osl 7 0)), (4, .s (.v (.int .i64) y4)), (11, .s (.v .bool y11))] [(7, .row t_impl_Fraction (.pr (.int .i64) (.int .i64)) yo7 0 false)]

theorem laws_toFractionS_L0a_i1 (x0 : (List (Int × Int))) (x4 : Int) (xo7 : (List (Int × Int))) (dc1 : (Int × Int))
    (h1 : x4 < ((List.length x0 : Nat) : Int))
    (h2 : 0 ≤ x4)
    (h3 : x4 < (List.length x0 : Int))
    (h4 : SC cfg.P i_laws_toFraction [.s (.v (.pr (.int .i64) (.int .i64)) (List.getD x0 (x4).toNat ((0 : Int), (0 : Int))))] (.s (.v (.pr (.int .i64) (.int .i64)) dc1)) [])
    (h5 : x4 < (List.length xo7 : Int))
    (h6 : (x4).toNat < List.length xo7)
    {e : AEx} {st : St} (next : LoopSC cfg.P 1 (lb P_laws_toFractionS 0) (laws_toFractionS_L0a x0 (IntKind.wrap .i64 (x4 + (1 : Int))) (List.set xo7 (x4).toNat dc1)) e st) :
    LoopSC cfg.P 1 (lb P_laws_toFractionS 0) (laws_toFractionS_L0a x0 x4 xo7) e st :=
  loop_iter cfgOK (f := i_laws_toFractionS) (its := [.bool true, .res (.s (.v (.pr (.int .i64) (.int .i64)) dc1)) [] [] []])
    (ps := [decide (x4 < ((List.length x0 : Nat) : Int)) = true,
      0 ≤ x4,
      x4 < (List.length x0 : Int),
      SC cfg.P i_laws_toFraction [.s (.v (.pr (.int .i64) (.int .i64)) (List.getD x0 (x4).toNat ((0 : Int), (0 : Int))))] (.s (.v (.pr (.int .i64) (.int .i64)) dc1)) [],
      0 ≤ x4,
      x4 < (List.length xo7 : Int),
      (x4).toNat < List.length xo7]) (st1 := laws_toFractionS_L0a x0 (IntKind.wrap .i64 (x4 + (1 : Int))) (List.set xo7 (x4).toNat dc1)) (by kernel_rfl) ⟨(decide_eq_true h1), h2, h3, h4, h2, h5, h6, trivial⟩ next

theorem laws_toFractionS_L0a_x2 (x0 : (List (Int × Int))) (x4 : Int) (xo7 : (List (Int × Int)))
    (h1 : ¬ (x4 < ((List.length x0 : Nat) : Int))) :
    LoopSC cfg.P 1 (lb P_laws_toFractionS 0) (laws_toFractionS_L0a x0 x4 xo7) (.exit 0) (laws_toFractionS_L0X1 x0 x4 false xo7) :=
  loop_out cfgOK (f := i_laws_toFractionS) (its := [.bool false])
    (ps := [decide (x4 < ((List.length x0 : Nat) : Int)) = false]) (by kernel_rfl) ⟨(decide_eq_false h1), trivial⟩ (fun h => by cases h)

theorem laws_toFractionS_p1 (a0 : (List (Int × Int))) (k1y0 : (List (Int × Int))) (k1y4 : Int) (k1y11 : Bool) (k1yo7 : (List (Int × Int)))
    (h1 : 0 ≤ ((List.length a0 : Nat) : Int))
    (h2 : ((List.length a0 : Nat) : Int) ≤ (lim : Int))
    (h3 : ((List.length a0 : Nat) : Int) = ((List.length a0 : Nat) : Int))
    (h4 : LoopSC cfg.P 1 (lb P_laws_toFractionS 0) (laws_toFractionS_L0a a0 (0 : Int) (List.replicate (((List.length a0 : Nat) : Int)).toNat ((0 : Int), (0 : Int)))) (.exit 0) (laws_toFractionS_L0X1 k1y0 k1y4 k1y11 k1yo7)) :
    SC cfg.P i_laws_toFractionS [.s (.v (.sl (.pr (.int .i64) (.int .i64))) a0)] (.s (.own t_impl_Fraction (.pr (.int .i64) (.int .i64)) k1yo7)) [] :=
  SC_of_run cfgOK (its := [.loop (fun _ => (.exit 0, laws_toFractionS_L0X1 k1y0 k1y4 k1y11 k1yo7))])
    (ps := [0 ≤ ((List.length a0 : Nat) : Int),
      ((List.length a0 : Nat) : Int) ≤ (lim : Int),
      ((List.length a0 : Nat) : Int) = ((List.length a0 : Nat) : Int),
      LoopSC cfg.P 1 (lb P_laws_toFractionS 0) (laws_toFractionS_L0a a0 (0 : Int) (List.replicate (((List.length a0 : Nat) : Int)).toNat ((0 : Int), (0 : Int)))) (.exit 0) (laws_toFractionS_L0X1 k1y0 k1y4 k1y11 k1yo7)]) (by kernel_rfl) ⟨h1, h2, h3, h4, trivial⟩ get_laws_toFractionS (by decide)

/-! ### laws_eqPair -/


theorem laws_eqPair_p1 (a0 : (ByteArray × ByteArray)) (a1 : (ByteArray × ByteArray))
    (h1 : a0.1 ≠ a1.1) :
    SC cfg.P i_laws_eqPair [.s (.v (.pr .str .str) a0), .s (.v (.pr .str .str) a1)] (.s (.v .bool false)) [] :=
  SC_of_run cfgOK (its := [.bool true])
    (ps := [(!((a0.1).toList == (a1.1).toList)) = true]) (by kernel_rfl) ⟨(nseq_t h1), trivial⟩ get_laws_eqPair (by decide)

theorem laws_eqPair_p2 (a0 : (ByteArray × ByteArray)) (a1 : (ByteArray × ByteArray))
    (h1 : a0.1 = a1.1)
    (h2 : a0.2 ≠ a1.2) :
    SC cfg.P i_laws_eqPair [.s (.v (.pr .str .str) a0), .s (.v (.pr .str .str) a1)] (.s (.v .bool false)) [] :=
  SC_of_run cfgOK (its := [.bool false, .bool true])
    (ps := [(!((a0.1).toList == (a1.1).toList)) = false,
      (!((a0.2).toList == (a1.2).toList)) = true]) (by kernel_rfl) ⟨(nseq_f h1), (nseq_t h2), trivial⟩ get_laws_eqPair (by decide)

theorem laws_eqPair_p3 (a0 : (ByteArray × ByteArray)) (a1 : (ByteArray × ByteArray))
    (h1 : a0.1 = a1.1)
    (h2 : a0.2 = a1.2) :
    SC cfg.P i_laws_eqPair [.s (.v (.pr .str .str) a0), .s (.v (.pr .str .str) a1)] (.s (.v .bool true)) [] :=
  SC_of_run cfgOK (its := [.bool false, .bool false])
    (ps := [(!((a0.1).toList == (a1.1).toList)) = false,
      (!((a0.2).toList == (a1.2).toList)) = false]) (by kernel_rfl) ⟨(nseq_f h1), (nseq_f h2), trivial⟩ get_laws_eqPair (by decide)

/-! ### laws_eqFractionS -/


def laws_eqFractionS_L0a (x0 : (List (Int × Int))) (x1 : (List (Int × Int))) (x5 : Int) : St := mkSt 27 [(0, .s (.v (.sl (.pr (.int .i64) (.int .i64))) x0)), (1, .s (.v (.sl (.pr (.int .i64) (.int .i64))) x1)), (5, .s (.v (.int .i64) x5))] []

def laws_eqFractionS_L0X1 (y4 : Bool) : St := mkSt 27 [(4, .s (.v .bool y4))] []

def laws_eqFractionS_L0X2 (y0 : (List (Int × Int))) (y1 : (List (Int × Int))) (y5 : Int) (y14 : Bool) : St := mkSt 27 [(0, .s (.v (.sl (.pr (.int .i64) (.int .i64))) y0)), (1, .s (.v (.sl (.pr (.int .i64) (.int .i64))) y1)), (5, .s (.v (.int .i64) y5)), (14, .s (.v .bool y14))] []

theorem laws_eqFractionS_L0a_i1 (x0 : (List (Int × Int))) (x1 : (List (Int × Int))) (x5 : Int)
    (h1 : x5 < ((List.length x0 : Nat) : Int))
    (h2 : 0 ≤ x5)
    (h3 : x5 < (List.length x0 : Int))
    (h4 : x5 < (List.length x1 : Int))
    (h5 : SC cfg.P i_laws_eqFraction [.s (.v (.pr (.int .i64) (.int .i64)) (List.getD x0 (x5).toNat ((0 : Int), (0 : Int)))), .s (.v (.pr (.int .i64) (.int .i64)) (List.getD x1 (x5).toNat ((0 : Int), (0 : Int))))] (.s (.v .bool true)) [])
    {e : AEx} {st : St} (next : LoopSC cfg.P 2 (lb P_laws_eqFractionS 0) (laws_eqFractionS_L0a x0 x1 (IntKind.wrap .i64 (x5 + (1 : Int)))) e st) :
    LoopSC cfg.P 2 (lb P_laws_eqFractionS 0) (laws_eqFractionS_L0a x0 x1 x5) e st :=
  loop_iter cfgOK (f := i_laws_eqFractionS) (its := [.bool true, .res (.s (.v .bool true)) [] [] []])
    (ps := [decide (x5 < ((List.length x0 : Nat) : Int)) = true,
      0 ≤ x5,
      x5 < (List.length x0 : Int),
      0 ≤ x5,
      x5 < (List.length x1 : Int),
      SC cfg.P i_laws_eqFraction [.s (.v (.pr (.int .i64) (.int .i64)) (List.getD x0 (x5).toNat ((0 : Int), (0 : Int)))), .s (.v (.pr (.int .i64) (.int .i64)) (List.getD x1 (x5).toNat ((0 : Int), (0 : Int))))] (.s (.v .bool true)) []]) (st1 := laws_eqFractionS_L0a x0 x1 (IntKind.wrap .i64 (x5 + (1 : Int)))) (by kernel_rfl) ⟨(decide_eq_true h1), h2, h3, h2, h4, h5, trivial⟩ next

theorem laws_eqFractionS_L0a_x2 (x0 : (List (Int × Int))) (x1 : (List (Int × Int))) (x5 : Int)
    (h1 : x5 < ((List.length x0 : Nat) : Int))
    (h2 : 0 ≤ x5)
    (h3 : x5 < (List.length x0 : Int))
    (h4 : x5 < (List.length x1 : Int))
    (h5 : SC cfg.P i_laws_eqFraction [.s (.v (.pr (.int .i64) (.int .i64)) (List.getD x0 (x5).toNat ((0 : Int), (0 : Int)))), .s (.v (.pr (.int .i64) (.int .i64)) (List.getD x1 (x5).toNat ((0 : Int), (0 : Int))))] (.s (.v .bool false)) []) :
    LoopSC cfg.P 2 (lb P_laws_eqFractionS 0) (laws_eqFractionS_L0a x0 x1 x5) (.ret) (laws_eqFractionS_L0X1 false) :=
  loop_out cfgOK (f := i_laws_eqFractionS) (its := [.bool true, .res (.s (.v .bool false)) [] [] []])
    (ps := [decide (x5 < ((List.length x0 : Nat) : Int)) = true,
      0 ≤ x5,
      x5 < (List.length x0 : Int),
      0 ≤ x5,
      x5 < (List.length x1 : Int),
      SC cfg.P i_laws_eqFraction [.s (.v (.pr (.int .i64) (.int .i64)) (List.getD x0 (x5).toNat ((0 : Int), (0 : Int)))), .s (.v (.pr (.int .i64) (.int .i64)) (List.getD x1 (x5).toNat ((0 : Int), (0 : Int))))] (.s (.v .bool false)) []]) (by kernel_rfl) ⟨(decide_eq_true h1), h2, h3, h2, h4, h5, trivial⟩ (fun h => by cases h)

theorem laws_eqFractionS_L0a_x3 (x0 : (List (Int × Int))) (x1 : (List (Int × Int))) (x5 : Int)
    (h1 : ¬ (x5 < ((List.length x0 : Nat) : Int))) :
    LoopSC cfg.P 2 (lb P_laws_eqFractionS 0) (laws_eqFractionS_L0a x0 x1 x5) (.exit 0) (laws_eqFractionS_L0X2 x0 x1 x5 false) :=
  loop_out cfgOK (f := i_laws_eqFractionS) (its := [.bool false])
    (ps := [decide (x5 < ((List.length x0 : Nat) : Int)) = false]) (by kernel_rfl) ⟨(decide_eq_false h1), trivial⟩ (fun h => by cases h)

theorem laws_eqFractionS_p1 (a0 : (List (Int × Int))) (a1 : (List (Int × Int)))
    (h1 : ((List.length a0 : Nat) : Int) ≠ ((List.length a1 : Nat) : Int)) :
    SC cfg.P i_laws_eqFractionS [.s (.v (.sl (.pr (.int .i64) (.int .i64))) a0), .s (.v (.sl (.pr (.int .i64) (.int .i64))) a1)] (.s (.v .bool false)) [] :=
  SC_of_run cfgOK (its := [.bool true])
    (ps := [(((List.length a0 : Nat) : Int) != ((List.length a1 : Nat) : Int)) = true]) (by kernel_rfl) ⟨(bne_iff_ne.mpr h1), trivial⟩ get_laws_eqFractionS (by decide)

theorem laws_eqFractionS_p2 (a0 : (List (Int × Int))) (a1 : (List (Int × Int))) (k1y4 : Bool)
    (h1 : ((List.length a0 : Nat) : Int) = ((List.length a1 : Nat) : Int))
    (h2 : LoopSC cfg.P 2 (lb P_laws_eqFractionS 0) (laws_eqFractionS_L0a a0 a1 (0 : Int)) (.ret) (laws_eqFractionS_L0X1 k1y4)) :
    SC cfg.P i_laws_eqFractionS [.s (.v (.sl (.pr (.int .i64) (.int .i64))) a0), .s (.v (.sl (.pr (.int .i64) (.int .i64))) a1)] (.s (.v .bool k1y4)) [] :=
  SC_of_run cfgOK (its := [.bool false, .loop (fun _ => (.ret, laws_eqFractionS_L0X1 k1y4))])
    (ps := [(((List.length a0 : Nat) : Int) != ((List.length a1 : Nat) : Int)) = false,
      LoopSC cfg.P 2 (lb P_laws_eqFractionS 0) (laws_eqFractionS_L0a a0 a1 (0 : Int)) (.ret) (laws_eqFractionS_L0X1 k1y4)]) (by kernel_rfl) ⟨(bne_eq_false_iff_eq.mpr h1), h2, trivial⟩ get_laws_eqFractionS (by decide)

theorem laws_eqFractionS_p3 (a0 : (List (Int × Int))) (a1 : (List (Int × Int))) (k1y0 : (List (Int × Int))) (k1y1 : (List (Int × Int))) (k1y5 : Int) (k1y14 : Bool)
    (h1 : ((List.length a0 : Nat) : Int) = ((List.length a1 : Nat) : Int))
    (h2 : LoopSC cfg.P 2 (lb P_laws_eqFractionS 0) (laws_eqFractionS_L0a a0 a1 (0 : Int)) (.exit 0) (laws_eqFractionS_L0X2 k1y0 k1y1 k1y5 k1y14)) :
    SC cfg.P i_laws_eqFractionS [.s (.v (.sl (.pr (.int .i64) (.int .i64))) a0), .s (.v (.sl (.pr (.int .i64) (.int .i64))) a1)] (.s (.v .bool true)) [] :=
  SC_of_run cfgOK (its := [.bool false, .loop (fun _ => (.exit 0, laws_eqFractionS_L0X2 k1y0 k1y1 k1y5 k1y14))])
    (ps := [(((List.length a0 : Nat) : Int) != ((List.length a1 : Nat) : Int)) = false,
      LoopSC cfg.P 2 (lb P_laws_eqFractionS 0) (laws_eqFractionS_L0a a0 a1 (0 : Int)) (.exit 0) (laws_eqFractionS_L0X2 k1y0 k1y1 k1y5 k1y14)]) (by kernel_rfl) ⟨(bne_eq_false_iff_eq.mpr h1), h2, trivial⟩ get_laws_eqFractionS (by decide)

/-! ### laws_toFraction -/


theorem laws_toFraction_p1 (a0 : (Int × Int))
     :
    SC cfg.P i_laws_toFraction [.s (.v (.pr (.int .i64) (.int .i64)) a0)] (.s (.v (.pr (.int .i64) (.int .i64)) (a0.1, a0.2))) [] :=
  SC_of_run cfgOK (its := [])
    (ps := []) (by kernel_rfl) trivial get_laws_toFraction (by decide)

/-! ### laws_eqFraction -/


theorem laws_eqFraction_p1 (a0 : (Int × Int)) (a1 : (Int × Int))
    (h1 : a0.1 ≠ a1.1) :
    SC cfg.P i_laws_eqFraction [.s (.v (.pr (.int .i64) (.int .i64)) a0), .s (.v (.pr (.int .i64) (.int .i64)) a1)] (.s (.v .bool false)) [] :=
  SC_of_run cfgOK (its := [.bool true])
    (ps := [(a0.1 != a1.1) = true]) (by kernel_rfl) ⟨(bne_iff_ne.mpr h1), trivial⟩ get_laws_eqFraction (by decide)

theorem laws_eqFraction_p2 (a0 : (Int × Int)) (a1 : (Int × Int))
    (h1 : a0.1 = a1.1)
    (h2 : a0.2 ≠ a1.2) :
    SC cfg.P i_laws_eqFraction [.s (.v (.pr (.int .i64) (.int .i64)) a0), .s (.v (.pr (.int .i64) (.int .i64)) a1)] (.s (.v .bool false)) [] :=
  SC_of_run cfgOK (its := [.bool false, .bool true])
    (ps := [(a0.1 != a1.1) = false,
      (a0.2 != a1.2) = true]) (by kernel_rfl) ⟨(bne_eq_false_iff_eq.mpr h1), (bne_iff_ne.mpr h2), trivial⟩ get_laws_eqFraction (by decide)

theorem laws_eqFraction_p3 (a0 : (Int × Int)) (a1 : (Int × Int))
    (h1 : a0.1 = a1.1)
    (h2 : a0.2 = a1.2) :
    SC cfg.P i_laws_eqFraction [.s (.v (.pr (.int .i64) (.int .i64)) a0), .s (.v (.pr (.int .i64) (.int .i64)) a1)] (.s (.v .bool true)) [] :=
  SC_of_run cfgOK (its := [.bool false, .bool false])
    (ps := [(a0.1 != a1.1) = false,
      (a0.2 != a1.2) = false]) (by kernel_rfl) ⟨(bne_eq_false_iff_eq.mpr h1), (bne_eq_false_iff_eq.mpr h2), trivial⟩ get_laws_eqFraction (by decide)

end Go.AI
