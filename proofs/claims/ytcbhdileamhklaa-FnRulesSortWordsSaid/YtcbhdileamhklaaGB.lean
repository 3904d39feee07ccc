/- A part of the road: what it proves stands in its last texts. -/
import Derived.Test.YtcbhdileamhklaaSIds
import Derived.Test.YtcbhdileamhklaaProg
set_option autoImplicit false
set_option maxRecDepth 100000
set_option linter.unusedVariables false
namespace Go.AI
open Go.Proofs

/-! ### laws_nSame -/


def laws_nSame_L0a (x0 : (List Int)) (x1 : (List Int)) (x12 : Int) (x13 : Int) : St := mkSt 26 [(0, .s (.v (.sl (.int .i64)) x0)), (1, .s (.v (.sl (.int .i64)) x1)), (12, .s (.v (.int .i64) x12)), (13, .s (.v (.int .i64) x13))] []

def laws_nSame_L0X1 (y4 : Bool) : St := mkSt 26 [(4, .s (.v .bool y4))] []

def laws_nSame_L0X2 (y0 : (List Int)) (y1 : (List Int)) (y12 : Int) (y13 : Int) (y14 : Bool) : St := mkSt 26 [(0, .s (.v (.sl (.int .i64)) y0)), (1, .s (.v (.sl (.int .i64)) y1)), (12, .s (.v (.int .i64) y12)), (13, .s (.v (.int .i64) y13)), (14, .s (.v .bool y14))] []

theorem laws_nSame_L0a_x1 (x0 : (List Int)) (x1 : (List Int)) (x12 : Int) (x13 : Int)
    (h1 : x13 < x12)
    (h2 : 0 ≤ x13)
    (h3 : x13 < (List.length x0 : Int))
    (h4 : x13 < (List.length x1 : Int))
    (h5 : (List.getD x0 (x13).toNat (0 : Int)) ≠ (List.getD x1 (x13).toNat (0 : Int))) :
    LoopSC cfg.P 2 (lb P_laws_nSame 0) (laws_nSame_L0a x0 x1 x12 x13) (.ret) (laws_nSame_L0X1 false) :=
  loop_out cfgOK (f := i_laws_nSame) (its := [.bool true, .bool true])
    (ps := [decide (x13 < x12) = true,
      0 ≤ x13,
      x13 < (List.length x0 : Int),
      0 ≤ x13,
      x13 < (List.length x1 : Int),
      ((List.getD x0 (x13).toNat (0 : Int)) != (List.getD x1 (x13).toNat (0 : Int))) = true]) (by kernel_rfl) ⟨(decide_eq_true h1), h2, h3, h2, h4, (bne_iff_ne.mpr h5), trivial⟩ (fun h => by cases h)

theorem laws_nSame_L0a_i2 (x0 : (List Int)) (x1 : (List Int)) (x12 : Int) (x13 : Int)
    (h1 : x13 < x12)
    (h2 : 0 ≤ x13)
    (h3 : x13 < (List.length x0 : Int))
    (h4 : x13 < (List.length x1 : Int))
    (h5 : (List.getD x0 (x13).toNat (0 : Int)) = (List.getD x1 (x13).toNat (0 : Int)))
    {e : AEx} {st : St} (next : LoopSC cfg.P 2 (lb P_laws_nSame 0) (laws_nSame_L0a x0 x1 x12 (IntKind.wrap .i64 (x13 + (1 : Int)))) e st) :
    LoopSC cfg.P 2 (lb P_laws_nSame 0) (laws_nSame_L0a x0 x1 x12 x13) e st :=
  loop_iter cfgOK (f := i_laws_nSame) (its := [.bool true, .bool false])
    (ps := [decide (x13 < x12) = true,
      0 ≤ x13,
      x13 < (List.length x0 : Int),
      0 ≤ x13,
      x13 < (List.length x1 : Int),
      ((List.getD x0 (x13).toNat (0 : Int)) != (List.getD x1 (x13).toNat (0 : Int))) = false]) (st1 := laws_nSame_L0a x0 x1 x12 (IntKind.wrap .i64 (x13 + (1 : Int)))) (by kernel_rfl) ⟨(decide_eq_true h1), h2, h3, h2, h4, (bne_eq_false_iff_eq.mpr h5), trivial⟩ next

theorem laws_nSame_L0a_x3 (x0 : (List Int)) (x1 : (List Int)) (x12 : Int) (x13 : Int)
    (h1 : ¬ (x13 < x12)) :
    LoopSC cfg.P 2 (lb P_laws_nSame 0) (laws_nSame_L0a x0 x1 x12 x13) (.exit 0) (laws_nSame_L0X2 x0 x1 x12 x13 false) :=
  loop_out cfgOK (f := i_laws_nSame) (its := [.bool false])
    (ps := [decide (x13 < x12) = false]) (by kernel_rfl) ⟨(decide_eq_false h1), trivial⟩ (fun h => by cases h)

theorem laws_nSame_p1 (a0 : (List Int)) (a1 : (List Int))
    (h1 : ((List.length a0 : Nat) : Int) ≠ ((List.length a1 : Nat) : Int)) :
    SC cfg.P i_laws_nSame [.s (.v (.sl (.int .i64)) a0), .s (.v (.sl (.int .i64)) a1)] (.s (.v .bool false)) [] :=
  SC_of_run cfgOK (its := [.bool true])
    (ps := [(((List.length a0 : Nat) : Int) != ((List.length a1 : Nat) : Int)) = true]) (by kernel_rfl) ⟨(bne_iff_ne.mpr h1), trivial⟩ get_laws_nSame (by decide)

theorem laws_nSame_p2 (a0 : (List Int)) (a1 : (List Int)) (k1y4 : Bool)
    (h1 : ((List.length a0 : Nat) : Int) = ((List.length a1 : Nat) : Int))
    (h2 : LoopSC cfg.P 2 (lb P_laws_nSame 0) (laws_nSame_L0a a0 a1 ((List.length a0 : Nat) : Int) (0 : Int)) (.ret) (laws_nSame_L0X1 k1y4)) :
    SC cfg.P i_laws_nSame [.s (.v (.sl (.int .i64)) a0), .s (.v (.sl (.int .i64)) a1)] (.s (.v .bool k1y4)) [] :=
  SC_of_run cfgOK (its := [.bool false, .loop (fun _ => (.ret, laws_nSame_L0X1 k1y4))])
    (ps := [(((List.length a0 : Nat) : Int) != ((List.length a1 : Nat) : Int)) = false,
      LoopSC cfg.P 2 (lb P_laws_nSame 0) (laws_nSame_L0a a0 a1 ((List.length a0 : Nat) : Int) (0 : Int)) (.ret) (laws_nSame_L0X1 k1y4)]) (by kernel_rfl) ⟨(bne_eq_false_iff_eq.mpr h1), h2, trivial⟩ get_laws_nSame (by decide)

theorem laws_nSame_p3 (a0 : (List Int)) (a1 : (List Int)) (k1y0 : (List Int)) (k1y1 : (List Int)) (k1y12 : Int) (k1y13 : Int) (k1y14 : Bool)
    (h1 : ((List.length a0 : Nat) : Int) = ((List.length a1 : Nat) : Int))
    (h2 : LoopSC cfg.P 2 (lb P_laws_nSame 0) (laws_nSame_L0a a0 a1 ((List.length a0 : Nat) : Int) (0 : Int)) (.exit 0) (laws_nSame_L0X2 k1y0 k1y1 k1y12 k1y13 k1y14)) :
    SC cfg.P i_laws_nSame [.s (.v (.sl (.int .i64)) a0), .s (.v (.sl (.int .i64)) a1)] (.s (.v .bool true)) [] :=
  SC_of_run cfgOK (its := [.bool false, .loop (fun _ => (.exit 0, laws_nSame_L0X2 k1y0 k1y1 k1y12 k1y13 k1y14))])
    (ps := [(((List.length a0 : Nat) : Int) != ((List.length a1 : Nat) : Int)) = false,
      LoopSC cfg.P 2 (lb P_laws_nSame 0) (laws_nSame_L0a a0 a1 ((List.length a0 : Nat) : Int) (0 : Int)) (.exit 0) (laws_nSame_L0X2 k1y0 k1y1 k1y12 k1y13 k1y14)]) (by kernel_rfl) ⟨(bne_eq_false_iff_eq.mpr h1), h2, trivial⟩ get_laws_nSame (by decide)

/-! ### spec_wdGood -/


theorem spec_wdGood_p1 (a0 : (List Int)) (c1 : Bool)
    (h1 : ((List.length a0 : Nat) : Int) ≤ (20 : Int))
    (h2 : SC cfg.P i_spec_wdIs [.s (.v (.sl (.int .i64)) a0), .s (.v (.int .i64) (20 : Int))] (.s (.v .bool c1)) []) :
    SC cfg.P i_spec_wdGood [.s (.v (.sl (.int .i64)) a0)] (.s (.v .bool c1)) [] :=
  SC_of_run cfgOK (its := [.bool true, .res (.s (.v .bool c1)) [] [] []])
    (ps := [decide (((List.length a0 : Nat) : Int) ≤ (20 : Int)) = true,
      SC cfg.P i_spec_wdIs [.s (.v (.sl (.int .i64)) a0), .s (.v (.int .i64) (20 : Int))] (.s (.v .bool c1)) []]) (by kernel_rfl) ⟨(decide_eq_true h1), h2, trivial⟩ get_spec_wdGood (by decide)

theorem spec_wdGood_p2 (a0 : (List Int))
    (h1 : ¬ (((List.length a0 : Nat) : Int) ≤ (20 : Int))) :
    SC cfg.P i_spec_wdGood [.s (.v (.sl (.int .i64)) a0)] (.s (.v .bool false)) [] :=
  SC_of_run cfgOK (its := [.bool false])
    (ps := [decide (((List.length a0 : Nat) : Int) ≤ (20 : Int)) = false]) (by kernel_rfl) ⟨(decide_eq_false h1), trivial⟩ get_spec_wdGood (by decide)

/-! ### spec_wdIf -/


theorem spec_wdIf_p1 (a0 : (List Int))
    (h1 : SC cfg.P i_spec_wdGood [.s (.v (.sl (.int .i64)) a0)] (.s (.v .bool true)) []) :
    SC cfg.P i_spec_wdIf [.s (.v (.sl (.int .i64)) a0)] (.tup [.v (.sl (.int .i64)) a0, .v .bool true]) [] :=
  SC_of_run cfgOK (its := [.res (.s (.v .bool true)) [] [] []])
    (ps := [SC cfg.P i_spec_wdGood [.s (.v (.sl (.int .i64)) a0)] (.s (.v .bool true)) []]) (by kernel_rfl) ⟨h1, trivial⟩ get_spec_wdIf (by decide)

theorem spec_wdIf_p2 (a0 : (List Int))
    (h1 : SC cfg.P i_spec_wdGood [.s (.v (.sl (.int .i64)) a0)] (.s (.v .bool false)) []) :
    SC cfg.P i_spec_wdIf [.s (.v (.sl (.int .i64)) a0)] (.tup [.own t_int (.int .i64) ([] : List Int), .v .bool false]) [] :=
  SC_of_run cfgOK (its := [.res (.s (.v .bool false)) [] [] []])
    (ps := [SC cfg.P i_spec_wdGood [.s (.v (.sl (.int .i64)) a0)] (.s (.v .bool false)) []]) (by kernel_rfl) ⟨h1, trivial⟩ get_spec_wdIf (by decide)

/-! ### impl_IsWord -/


def impl_IsWord_L0a (x0 : (List Int)) (x5 : (List Int)) (x6 : Int) (x7 : Int) : St := mkSt 18 [(0, .s (.v (.sl (.int .i64)) x0)), (5, .s (.v (.sl (.int .i64)) x5)), (6, .s (.v (.int .i64) x6)), (7, .s (.v (.int .i64) x7))] []

def impl_IsWord_L0X1 (y2 : Bool) : St := mkSt 18 [(2, .s (.v .bool y2))] []

def impl_IsWord_L0X2 (y0 : (List Int)) (y5 : (List Int)) (y6 : Int) (y7 : Int) (y8 : Bool) : St := mkSt 18 [(0, .s (.v (.sl (.int .i64)) y0)), (5, .s (.v (.sl (.int .i64)) y5)), (6, .s (.v (.int .i64) y6)), (7, .s (.v (.int .i64) y7)), (8, .s (.v .bool y8))] []

theorem impl_IsWord_L0a_i1 (x0 : (List Int)) (x5 : (List Int)) (x6 : Int) (x7 : Int)
    (h1 : x7 < x6)
    (h2 : 0 ≤ x7)
    (h3 : x7 < (List.length x5 : Int))
    (h4 : SC cfg.P i_impl_isLetter [.s (.v (.int .i64) (List.getD x5 (x7).toNat (0 : Int)))] (.s (.v .bool true)) [])
    {e : AEx} {st : St} (next : LoopSC cfg.P 1 (lb P_impl_IsWord 0) (impl_IsWord_L0a x0 x5 x6 (IntKind.wrap .i64 (x7 + (1 : Int)))) e st) :
    LoopSC cfg.P 1 (lb P_impl_IsWord 0) (impl_IsWord_L0a x0 x5 x6 x7) e st :=
  loop_iter cfgOK (f := i_impl_IsWord) (its := [.bool true, .res (.s (.v .bool true)) [] [] []])
    (ps := [decide (x7 < x6) = true,
      0 ≤ x7,
      x7 < (List.length x5 : Int),
      SC cfg.P i_impl_isLetter [.s (.v (.int .i64) (List.getD x5 (x7).toNat (0 : Int)))] (.s (.v .bool true)) []]) (st1 := impl_IsWord_L0a x0 x5 x6 (IntKind.wrap .i64 (x7 + (1 : Int)))) (by kernel_rfl) ⟨(decide_eq_true h1), h2, h3, h4, trivial⟩ next

theorem impl_IsWord_L0a_x2 (x0 : (List Int)) (x5 : (List Int)) (x6 : Int) (x7 : Int)
    (h1 : x7 < x6)
    (h2 : 0 ≤ x7)
    (h3 : x7 < (List.length x5 : Int))
    (h4 : SC cfg.P i_impl_isLetter [.s (.v (.int .i64) (List.getD x5 (x7).toNat (0 : Int)))] (.s (.v .bool false)) []) :
    LoopSC cfg.P 1 (lb P_impl_IsWord 0) (impl_IsWord_L0a x0 x5 x6 x7) (.ret) (impl_IsWord_L0X1 false) :=
  loop_out cfgOK (f := i_impl_IsWord) (its := [.bool true, .res (.s (.v .bool false)) [] [] []])
    (ps := [decide (x7 < x6) = true,
      0 ≤ x7,
      x7 < (List.length x5 : Int),
      SC cfg.P i_impl_isLetter [.s (.v (.int .i64) (List.getD x5 (x7).toNat (0 : Int)))] (.s (.v .bool false)) []]) (by kernel_rfl) ⟨(decide_eq_true h1), h2, h3, h4, trivial⟩ (fun h => by cases h)

theorem impl_IsWord_L0a_x3 (x0 : (List Int)) (x5 : (List Int)) (x6 : Int) (x7 : Int)
    (h1 : ¬ (x7 < x6)) :
    LoopSC cfg.P 1 (lb P_impl_IsWord 0) (impl_IsWord_L0a x0 x5 x6 x7) (.exit 0) (impl_IsWord_L0X2 x0 x5 x6 x7 false) :=
  loop_out cfgOK (f := i_impl_IsWord) (its := [.bool false])
    (ps := [decide (x7 < x6) = false]) (by kernel_rfl) ⟨(decide_eq_false h1), trivial⟩ (fun h => by cases h)

theorem impl_IsWord_p1 (a0 : (List Int)) (k1y2 : Bool)
    (h1 : LoopSC cfg.P 1 (lb P_impl_IsWord 0) (impl_IsWord_L0a a0 a0 ((List.length a0 : Nat) : Int) (0 : Int)) (.ret) (impl_IsWord_L0X1 k1y2)) :
    SC cfg.P i_impl_IsWord [.s (.v (.sl (.int .i64)) a0)] (.s (.v .bool k1y2)) [] :=
  SC_of_run cfgOK (its := [.loop (fun _ => (.ret, impl_IsWord_L0X1 k1y2))])
    (ps := [LoopSC cfg.P 1 (lb P_impl_IsWord 0) (impl_IsWord_L0a a0 a0 ((List.length a0 : Nat) : Int) (0 : Int)) (.ret) (impl_IsWord_L0X1 k1y2)]) (by kernel_rfl) ⟨h1, trivial⟩ get_impl_IsWord (by decide)

theorem impl_IsWord_p2 (a0 : (List Int)) (k1y0 : (List Int)) (k1y5 : (List Int)) (k1y6 : Int) (k1y7 : Int) (k1y8 : Bool)
    (h1 : LoopSC cfg.P 1 (lb P_impl_IsWord 0) (impl_IsWord_L0a a0 a0 ((List.length a0 : Nat) : Int) (0 : Int)) (.exit 0) (impl_IsWord_L0X2 k1y0 k1y5 k1y6 k1y7 k1y8))
    (h2 : ((List.length k1y0 : Nat) : Int) ≤ (20 : Int)) :
    SC cfg.P i_impl_IsWord [.s (.v (.sl (.int .i64)) a0)] (.s (.v .bool true)) [] :=
  SC_of_run cfgOK (its := [.loop (fun _ => (.exit 0, impl_IsWord_L0X2 k1y0 k1y5 k1y6 k1y7 k1y8)), .bool true])
    (ps := [LoopSC cfg.P 1 (lb P_impl_IsWord 0) (impl_IsWord_L0a a0 a0 ((List.length a0 : Nat) : Int) (0 : Int)) (.exit 0) (impl_IsWord_L0X2 k1y0 k1y5 k1y6 k1y7 k1y8),
      decide (((List.length k1y0 : Nat) : Int) ≤ (20 : Int)) = true]) (by kernel_rfl) ⟨h1, (decide_eq_true h2), trivial⟩ get_impl_IsWord (by decide)

theorem impl_IsWord_p3 (a0 : (List Int)) (k1y0 : (List Int)) (k1y5 : (List Int)) (k1y6 : Int) (k1y7 : Int) (k1y8 : Bool)
    (h1 : LoopSC cfg.P 1 (lb P_impl_IsWord 0) (impl_IsWord_L0a a0 a0 ((List.length a0 : Nat) : Int) (0 : Int)) (.exit 0) (impl_IsWord_L0X2 k1y0 k1y5 k1y6 k1y7 k1y8))
    (h2 : ¬ (((List.length k1y0 : Nat) : Int) ≤ (20 : Int))) :
    SC cfg.P i_impl_IsWord [.s (.v (.sl (.int .i64)) a0)] (.s (.v .bool false)) [] :=
  SC_of_run cfgOK (its := [.loop (fun _ => (.exit 0, impl_IsWord_L0X2 k1y0 k1y5 k1y6 k1y7 k1y8)), .bool false])
    (ps := [LoopSC cfg.P 1 (lb P_impl_IsWord 0) (impl_IsWord_L0a a0 a0 ((List.length a0 : Nat) : Int) (0 : Int)) (.exit 0) (impl_IsWord_L0X2 k1y0 k1y5 k1y6 k1y7 k1y8),
      decide (((List.length k1y0 : Nat) : Int) ≤ (20 : Int)) = false]) (by kernel_rfl) ⟨h1, (decide_eq_false h2), trivial⟩ get_impl_IsWord (by decide)

/-! ### impl_madeWord -/


theorem impl_madeWord_p1 (a0 : (List Int))
    (h1 : SC cfg.P i_impl_IsWord [.s (.v (.sl (.int .i64)) a0)] (.s (.v .bool true)) []) :
    SC cfg.P i_impl_madeWord [.s (.v (.sl (.int .i64)) a0)] (.tup [.v (.sl (.int .i64)) a0, .v .bool true]) [] :=
  SC_of_run cfgOK (its := [.res (.s (.v .bool true)) [] [] []])
    (ps := [SC cfg.P i_impl_IsWord [.s (.v (.sl (.int .i64)) a0)] (.s (.v .bool true)) []]) (by kernel_rfl) ⟨h1, trivial⟩ get_impl_madeWord (by decide)

theorem impl_madeWord_p2 (a0 : (List Int))
    (h1 : SC cfg.P i_impl_IsWord [.s (.v (.sl (.int .i64)) a0)] (.s (.v .bool false)) []) :
    SC cfg.P i_impl_madeWord [.s (.v (.sl (.int .i64)) a0)] (.tup [.own t_int (.int .i64) ([] : List Int), .v .bool false]) [] :=
  SC_of_run cfgOK (its := [.res (.s (.v .bool false)) [] [] []])
    (ps := [SC cfg.P i_impl_IsWord [.s (.v (.sl (.int .i64)) a0)] (.s (.v .bool false)) []]) (by kernel_rfl) ⟨h1, trivial⟩ get_impl_madeWord (by decide)

/-! ### spec_wdIs -/


def spec_wdIs_L0a (x1 : Int) (x7 : (List Int)) (x8 : Int) (x9 : Int) : St := mkSt 26 [(1, .s (.v (.int .i64) x1)), (7, .s (.v (.sl (.int .i64)) x7)), (8, .s (.v (.int .i64) x8)), (9, .s (.v (.int .i64) x9))] []

def spec_wdIs_L0X1 (y4 : Bool) : St := mkSt 26 [(4, .s (.v .bool y4))] []

def spec_wdIs_L0X2 (y1 : Int) (y7 : (List Int)) (y8 : Int) (y9 : Int) (y10 : Bool) : St := mkSt 26 [(1, .s (.v (.int .i64) y1)), (7, .s (.v (.sl (.int .i64)) y7)), (8, .s (.v (.int .i64) y8)), (9, .s (.v (.int .i64) y9)), (10, .s (.v .bool y10))] []

theorem spec_wdIs_L0a_x1 (x1 : Int) (x7 : (List Int)) (x8 : Int) (x9 : Int)
    (h1 : x9 < x8)
    (h2 : 0 ≤ x9)
    (h3 : x9 < (List.length x7 : Int))
    (h4 : (List.getD x7 (x9).toNat (0 : Int)) = (0 : Int)) :
    LoopSC cfg.P 2 (lb P_spec_wdIs 0) (spec_wdIs_L0a x1 x7 x8 x9) (.ret) (spec_wdIs_L0X1 false) :=
  loop_out cfgOK (f := i_spec_wdIs) (its := [.bool true, .bool true])
    (ps := [decide (x9 < x8) = true,
      0 ≤ x9,
      x9 < (List.length x7 : Int),
      ((List.getD x7 (x9).toNat (0 : Int)) == (0 : Int)) = true]) (by kernel_rfl) ⟨(decide_eq_true h1), h2, h3, (beq_iff_eq.mpr h4), trivial⟩ (fun h => by cases h)

theorem spec_wdIs_L0a_i2 (x1 : Int) (x7 : (List Int)) (x8 : Int) (x9 : Int)
    (h1 : x9 < x8)
    (h2 : 0 ≤ x9)
    (h3 : x9 < (List.length x7 : Int))
    (h4 : (List.getD x7 (x9).toNat (0 : Int)) ≠ (0 : Int))
    (h5 : SC cfg.P i_spec_l1In [.s (.v (.int .i64) (List.getD x7 (x9).toNat (0 : Int))), .s (.v (.int .i64) (IntKind.wrap .i64 ((IntKind.wrap .i64 (0 - x1)) - (1 : Int)))), .s (.v (.int .i64) (IntKind.wrap .i64 (x1 + (1 : Int))))] (.s (.v .bool true)) [])
    {e : AEx} {st : St} (next : LoopSC cfg.P 2 (lb P_spec_wdIs 0) (spec_wdIs_L0a x1 x7 x8 (IntKind.wrap .i64 (x9 + (1 : Int)))) e st) :
    LoopSC cfg.P 2 (lb P_spec_wdIs 0) (spec_wdIs_L0a x1 x7 x8 x9) e st :=
  loop_iter cfgOK (f := i_spec_wdIs) (its := [.bool true, .bool false, .res (.s (.v .bool true)) [] [] []])
    (ps := [decide (x9 < x8) = true,
      0 ≤ x9,
      x9 < (List.length x7 : Int),
      ((List.getD x7 (x9).toNat (0 : Int)) == (0 : Int)) = false,
      SC cfg.P i_spec_l1In [.s (.v (.int .i64) (List.getD x7 (x9).toNat (0 : Int))), .s (.v (.int .i64) (IntKind.wrap .i64 ((IntKind.wrap .i64 (0 - x1)) - (1 : Int)))), .s (.v (.int .i64) (IntKind.wrap .i64 (x1 + (1 : Int))))] (.s (.v .bool true)) []]) (st1 := spec_wdIs_L0a x1 x7 x8 (IntKind.wrap .i64 (x9 + (1 : Int)))) (by kernel_rfl) ⟨(decide_eq_true h1), h2, h3, (beq_eq_false_iff_ne.mpr h4), h5, trivial⟩ next

theorem spec_wdIs_L0a_x3 (x1 : Int) (x7 : (List Int)) (x8 : Int) (x9 : Int)
    (h1 : x9 < x8)
    (h2 : 0 ≤ x9)
    (h3 : x9 < (List.length x7 : Int))
    (h4 : (List.getD x7 (x9).toNat (0 : Int)) ≠ (0 : Int))
    (h5 : SC cfg.P i_spec_l1In [.s (.v (.int .i64) (List.getD x7 (x9).toNat (0 : Int))), .s (.v (.int .i64) (IntKind.wrap .i64 ((IntKind.wrap .i64 (0 - x1)) - (1 : Int)))), .s (.v (.int .i64) (IntKind.wrap .i64 (x1 + (1 : Int))))] (.s (.v .bool false)) []) :
    LoopSC cfg.P 2 (lb P_spec_wdIs 0) (spec_wdIs_L0a x1 x7 x8 x9) (.ret) (spec_wdIs_L0X1 false) :=
  loop_out cfgOK (f := i_spec_wdIs) (its := [.bool true, .bool false, .res (.s (.v .bool false)) [] [] []])
    (ps := [decide (x9 < x8) = true,
      0 ≤ x9,
      x9 < (List.length x7 : Int),
      ((List.getD x7 (x9).toNat (0 : Int)) == (0 : Int)) = false,
      SC cfg.P i_spec_l1In [.s (.v (.int .i64) (List.getD x7 (x9).toNat (0 : Int))), .s (.v (.int .i64) (IntKind.wrap .i64 ((IntKind.wrap .i64 (0 - x1)) - (1 : Int)))), .s (.v (.int .i64) (IntKind.wrap .i64 (x1 + (1 : Int))))] (.s (.v .bool false)) []]) (by kernel_rfl) ⟨(decide_eq_true h1), h2, h3, (beq_eq_false_iff_ne.mpr h4), h5, trivial⟩ (fun h => by cases h)

theorem spec_wdIs_L0a_x4 (x1 : Int) (x7 : (List Int)) (x8 : Int) (x9 : Int)
    (h1 : ¬ (x9 < x8)) :
    LoopSC cfg.P 2 (lb P_spec_wdIs 0) (spec_wdIs_L0a x1 x7 x8 x9) (.exit 0) (spec_wdIs_L0X2 x1 x7 x8 x9 false) :=
  loop_out cfgOK (f := i_spec_wdIs) (its := [.bool false])
    (ps := [decide (x9 < x8) = false]) (by kernel_rfl) ⟨(decide_eq_false h1), trivial⟩ (fun h => by cases h)

theorem spec_wdIs_p1 (a0 : (List Int)) (a1 : Int) (k1y4 : Bool)
    (h1 : LoopSC cfg.P 2 (lb P_spec_wdIs 0) (spec_wdIs_L0a a1 a0 ((List.length a0 : Nat) : Int) (0 : Int)) (.ret) (spec_wdIs_L0X1 k1y4)) :
    SC cfg.P i_spec_wdIs [.s (.v (.sl (.int .i64)) a0), .s (.v (.int .i64) a1)] (.s (.v .bool k1y4)) [] :=
  SC_of_run cfgOK (its := [.loop (fun _ => (.ret, spec_wdIs_L0X1 k1y4))])
    (ps := [LoopSC cfg.P 2 (lb P_spec_wdIs 0) (spec_wdIs_L0a a1 a0 ((List.length a0 : Nat) : Int) (0 : Int)) (.ret) (spec_wdIs_L0X1 k1y4)]) (by kernel_rfl) ⟨h1, trivial⟩ get_spec_wdIs (by decide)

theorem spec_wdIs_p2 (a0 : (List Int)) (a1 : Int) (k1y1 : Int) (k1y7 : (List Int)) (k1y8 : Int) (k1y9 : Int) (k1y10 : Bool)
    (h1 : LoopSC cfg.P 2 (lb P_spec_wdIs 0) (spec_wdIs_L0a a1 a0 ((List.length a0 : Nat) : Int) (0 : Int)) (.exit 0) (spec_wdIs_L0X2 k1y1 k1y7 k1y8 k1y9 k1y10)) :
    SC cfg.P i_spec_wdIs [.s (.v (.sl (.int .i64)) a0), .s (.v (.int .i64) a1)] (.s (.v .bool true)) [] :=
  SC_of_run cfgOK (its := [.loop (fun _ => (.exit 0, spec_wdIs_L0X2 k1y1 k1y7 k1y8 k1y9 k1y10))])
    (ps := [LoopSC cfg.P 2 (lb P_spec_wdIs 0) (spec_wdIs_L0a a1 a0 ((List.length a0 : Nat) : Int) (0 : Int)) (.exit 0) (spec_wdIs_L0X2 k1y1 k1y7 k1y8 k1y9 k1y10)]) (by kernel_rfl) ⟨h1, trivial⟩ get_spec_wdIs (by decide)

/-! ### spec_l1Own -/


theorem spec_l1Own_p1 (a0 : (List Int))
    (h1 : sizeOK (List.length ([] : List Int) + List.length a0)) :
    SC cfg.P i_spec_l1Own [.s (.v (.sl (.int .i64)) a0)] (.s (.own t_int (.int .i64) (([] : List Int) ++ a0))) [] :=
  SC_of_run cfgOK (its := [])
    (ps := [sizeOK (List.length ([] : List Int) + List.length a0)]) (by kernel_rfl) ⟨h1, trivial⟩ get_spec_l1Own (by decide)

/-! ### slices_Contains -/


theorem slices_Contains_p1 (a0 : (List Int)) (a1 : Int) (c1 : Int)
    (h1 : SC cfg.P i_slices_Index [.s (.v (.sl (.int .i64)) a0), .s (.v (.int .i64) a1)] (.s (.v (.int .i64) c1)) [])
    (h2 : c1 ≥ (0 : Int)) :
    SC cfg.P i_slices_Contains [.s (.v (.sl (.int .i64)) a0), .s (.v (.int .i64) a1)] (.s (.v .bool true)) [] :=
  SC_of_run cfgOK (its := [.res (.s (.v (.int .i64) c1)) [] [] [], .bool true])
    (ps := [SC cfg.P i_slices_Index [.s (.v (.sl (.int .i64)) a0), .s (.v (.int .i64) a1)] (.s (.v (.int .i64) c1)) [],
      decide (c1 ≥ (0 : Int)) = true]) (by kernel_rfl) ⟨h1, (decide_eq_true h2), trivial⟩ get_slices_Contains (by decide)

theorem slices_Contains_p2 (a0 : (List Int)) (a1 : Int) (c1 : Int)
    (h1 : SC cfg.P i_slices_Index [.s (.v (.sl (.int .i64)) a0), .s (.v (.int .i64) a1)] (.s (.v (.int .i64) c1)) [])
    (h2 : ¬ (c1 ≥ (0 : Int))) :
    SC cfg.P i_slices_Contains [.s (.v (.sl (.int .i64)) a0), .s (.v (.int .i64) a1)] (.s (.v .bool false)) [] :=
  SC_of_run cfgOK (its := [.res (.s (.v (.int .i64) c1)) [] [] [], .bool false])
    (ps := [SC cfg.P i_slices_Index [.s (.v (.sl (.int .i64)) a0), .s (.v (.int .i64) a1)] (.s (.v (.int .i64) c1)) [],
      decide (c1 ≥ (0 : Int)) = false]) (by kernel_rfl) ⟨h1, (decide_eq_false h2), trivial⟩ get_slices_Contains (by decide)

/-! ### slices_Index -/


def slices_Index_L0a (x0 : (List Int)) (x1 : Int) (x7 : Int) (x8 : Int) : St := mkSt 19 [(0, .s (.v (.sl (.int .i64)) x0)), (1, .s (.v (.int .i64) x1)), (7, .s (.v (.int .i64) x7)), (8, .s (.v (.int .i64) x8))] []

def slices_Index_L0X1 (y4 : Int) : St := mkSt 19 [(4, .s (.v (.int .i64) y4))] []

def slices_Index_L0X2 (y0 : (List Int)) (y1 : Int) (y7 : Int) (y8 : Int) (y9 : Bool) : St := mkSt 19 [(0, .s (.v (.sl (.int .i64)) y0)), (1, .s (.v (.int .i64) y1)), (7, .s (.v (.int .i64) y7)), (8, .s (.v (.int .i64) y8)), (9, .s (.v .bool y9))] []

theorem slices_Index_L0a_x1 (x0 : (List Int)) (x1 : Int) (x7 : Int) (x8 : Int)
    (h1 : x8 < x7)
    (h2 : 0 ≤ x8)
    (h3 : x8 < (List.length x0 : Int))
    (h4 : x1 = (List.getD x0 (x8).toNat (0 : Int))) :
    LoopSC cfg.P 2 (lb P_slices_Index 0) (slices_Index_L0a x0 x1 x7 x8) (.ret) (slices_Index_L0X1 x8) :=
  loop_out cfgOK (f := i_slices_Index) (its := [.bool true, .bool true])
    (ps := [decide (x8 < x7) = true,
      0 ≤ x8,
      x8 < (List.length x0 : Int),
      (x1 == (List.getD x0 (x8).toNat (0 : Int))) = true]) (by kernel_rfl) ⟨(decide_eq_true h1), h2, h3, (beq_iff_eq.mpr h4), trivial⟩ (fun h => by cases h)

theorem slices_Index_L0a_i2 (x0 : (List Int)) (x1 : Int) (x7 : Int) (x8 : Int)
    (h1 : x8 < x7)
    (h2 : 0 ≤ x8)
    (h3 : x8 < (List.length x0 : Int))
    (h4 : x1 ≠ (List.getD x0 (x8).toNat (0 : Int)))
    {e : AEx} {st : St} (next : LoopSC cfg.P 2 (lb P_slices_Index 0) (slices_Index_L0a x0 x1 x7 (IntKind.wrap .i64 (x8 + (1 : Int)))) e st) :
    LoopSC cfg.P 2 (lb P_slices_Index 0) (slices_Index_L0a x0 x1 x7 x8) e st :=
  loop_iter cfgOK (f := i_slices_Index) (its := [.bool true, .bool false])
    (ps := [decide (x8 < x7) = true,
      0 ≤ x8,
      x8 < (List.length x0 : Int),
      (x1 == (List.getD x0 (x8).toNat (0 : Int))) = false]) (st1 := slices_Index_L0a x0 x1 x7 (IntKind.wrap .i64 (x8 + (1 : Int)))) (by kernel_rfl) ⟨(decide_eq_true h1), h2, h3, (beq_eq_false_iff_ne.mpr h4), trivial⟩ next

theorem slices_Index_L0a_x3 (x0 : (List Int)) (x1 : Int) (x7 : Int) (x8 : Int)
    (h1 : ¬ (x8 < x7)) :
    LoopSC cfg.P 2 (lb P_slices_Index 0) (slices_Index_L0a x0 x1 x7 x8) (.exit 0) (slices_Index_L0X2 x0 x1 x7 x8 false) :=
  loop_out cfgOK (f := i_slices_Index) (its := [.bool false])
    (ps := [decide (x8 < x7) = false]) (by kernel_rfl) ⟨(decide_eq_false h1), trivial⟩ (fun h => by cases h)

theorem slices_Index_p1 (a0 : (List Int)) (a1 : Int) (k1y4 : Int)
    (h1 : LoopSC cfg.P 2 (lb P_slices_Index 0) (slices_Index_L0a a0 a1 ((List.length a0 : Nat) : Int) (0 : Int)) (.ret) (slices_Index_L0X1 k1y4)) :
    SC cfg.P i_slices_Index [.s (.v (.sl (.int .i64)) a0), .s (.v (.int .i64) a1)] (.s (.v (.int .i64) k1y4)) [] :=
  SC_of_run cfgOK (its := [.loop (fun _ => (.ret, slices_Index_L0X1 k1y4))])
    (ps := [LoopSC cfg.P 2 (lb P_slices_Index 0) (slices_Index_L0a a0 a1 ((List.length a0 : Nat) : Int) (0 : Int)) (.ret) (slices_Index_L0X1 k1y4)]) (by kernel_rfl) ⟨h1, trivial⟩ get_slices_Index (by decide)

theorem slices_Index_p2 (a0 : (List Int)) (a1 : Int) (k1y0 : (List Int)) (k1y1 : Int) (k1y7 : Int) (k1y8 : Int) (k1y9 : Bool)
    (h1 : LoopSC cfg.P 2 (lb P_slices_Index 0) (slices_Index_L0a a0 a1 ((List.length a0 : Nat) : Int) (0 : Int)) (.exit 0) (slices_Index_L0X2 k1y0 k1y1 k1y7 k1y8 k1y9)) :
    SC cfg.P i_slices_Index [.s (.v (.sl (.int .i64)) a0), .s (.v (.int .i64) a1)] (.s (.v (.int .i64) (-1 : Int))) [] :=
  SC_of_run cfgOK (its := [.loop (fun _ => (.exit 0, slices_Index_L0X2 k1y0 k1y1 k1y7 k1y8 k1y9))])
    (ps := [LoopSC cfg.P 2 (lb P_slices_Index 0) (slices_Index_L0a a0 a1 ((List.length a0 : Nat) : Int) (0 : Int)) (.exit 0) (slices_Index_L0X2 k1y0 k1y1 k1y7 k1y8 k1y9)]) (by kernel_rfl) ⟨h1, trivial⟩ get_slices_Index (by decide)

/-! ### impl_isLetter -/


theorem impl_isLetter_p1 (a0 : Int)
    (h1 : a0 ≠ (0 : Int))
    (h2 : a0 ≥ (-21 : Int))
    (h3 : a0 ≤ (21 : Int)) :
    SC cfg.P i_impl_isLetter [.s (.v (.int .i64) a0)] (.s (.v .bool true)) [] :=
  SC_of_run cfgOK (its := [.bool true, .bool true, .bool true])
    (ps := [(a0 != (0 : Int)) = true,
      decide (a0 ≥ (-21 : Int)) = true,
      decide (a0 ≤ (21 : Int)) = true]) (by kernel_rfl) ⟨(bne_iff_ne.mpr h1), (decide_eq_true h2), (decide_eq_true h3), trivial⟩ get_impl_isLetter (by decide)

theorem impl_isLetter_p2 (a0 : Int)
    (h1 : a0 ≠ (0 : Int))
    (h2 : a0 ≥ (-21 : Int))
    (h3 : ¬ (a0 ≤ (21 : Int))) :
    SC cfg.P i_impl_isLetter [.s (.v (.int .i64) a0)] (.s (.v .bool false)) [] :=
  SC_of_run cfgOK (its := [.bool true, .bool true, .bool false])
    (ps := [(a0 != (0 : Int)) = true,
      decide (a0 ≥ (-21 : Int)) = true,
      decide (a0 ≤ (21 : Int)) = false]) (by kernel_rfl) ⟨(bne_iff_ne.mpr h1), (decide_eq_true h2), (decide_eq_false h3), trivial⟩ get_impl_isLetter (by decide)

theorem impl_isLetter_p3 (a0 : Int)
    (h1 : a0 ≠ (0 : Int))
    (h2 : ¬ (a0 ≥ (-21 : Int))) :
    SC cfg.P i_impl_isLetter [.s (.v (.int .i64) a0)] (.s (.v .bool false)) [] :=
  SC_of_run cfgOK (its := [.bool true, .bool false])
    (ps := [(a0 != (0 : Int)) = true,
      decide (a0 ≥ (-21 : Int)) = false]) (by kernel_rfl) ⟨(bne_iff_ne.mpr h1), (decide_eq_false h2), trivial⟩ get_impl_isLetter (by decide)

theorem impl_isLetter_p4 (a0 : Int)
    (h1 : a0 = (0 : Int)) :
    SC cfg.P i_impl_isLetter [.s (.v (.int .i64) a0)] (.s (.v .bool false)) [] :=
  SC_of_run cfgOK (its := [.bool false])
    (ps := [(a0 != (0 : Int)) = false]) (by kernel_rfl) ⟨(bne_eq_false_iff_eq.mpr h1), trivial⟩ get_impl_isLetter (by decide)

/-! ### spec_l1Has -/


def spec_l1Has_L0a (x1 : Int) (x7 : (List Int)) (x8 : Int) (x9 : Int) : St := mkSt 17 [(1, .s (.v (.int .i64) x1)), (7, .s (.v (.sl (.int .i64)) x7)), (8, .s (.v (.int .i64) x8)), (9, .s (.v (.int .i64) x9))] []

def spec_l1Has_L0X1 (y4 : Bool) : St := mkSt 17 [(4, .s (.v .bool y4))] []

def spec_l1Has_L0X2 (y1 : Int) (y7 : (List Int)) (y8 : Int) (y9 : Int) (y10 : Bool) : St := mkSt 17 [(1, .s (.v (.int .i64) y1)), (7, .s (.v (.sl (.int .i64)) y7)), (8, .s (.v (.int .i64) y8)), (9, .s (.v (.int .i64) y9)), (10, .s (.v .bool y10))] []

theorem spec_l1Has_L0a_x1 (x1 : Int) (x7 : (List Int)) (x8 : Int) (x9 : Int)
    (h1 : x9 < x8)
    (h2 : 0 ≤ x9)
    (h3 : x9 < (List.length x7 : Int))
    (h4 : (List.getD x7 (x9).toNat (0 : Int)) = x1) :
    LoopSC cfg.P 2 (lb P_spec_l1Has 0) (spec_l1Has_L0a x1 x7 x8 x9) (.ret) (spec_l1Has_L0X1 true) :=
  loop_out cfgOK (f := i_spec_l1Has) (its := [.bool true, .bool true])
    (ps := [decide (x9 < x8) = true,
      0 ≤ x9,
      x9 < (List.length x7 : Int),
      ((List.getD x7 (x9).toNat (0 : Int)) == x1) = true]) (by kernel_rfl) ⟨(decide_eq_true h1), h2, h3, (beq_iff_eq.mpr h4), trivial⟩ (fun h => by cases h)

theorem spec_l1Has_L0a_i2 (x1 : Int) (x7 : (List Int)) (x8 : Int) (x9 : Int)
    (h1 : x9 < x8)
    (h2 : 0 ≤ x9)
    (h3 : x9 < (List.length x7 : Int))
    (h4 : (List.getD x7 (x9).toNat (0 : Int)) ≠ x1)
    {e : AEx} {st : St} (next : LoopSC cfg.P 2 (lb P_spec_l1Has 0) (spec_l1Has_L0a x1 x7 x8 (IntKind.wrap .i64 (x9 + (1 : Int)))) e st) :
    LoopSC cfg.P 2 (lb P_spec_l1Has 0) (spec_l1Has_L0a x1 x7 x8 x9) e st :=
  loop_iter cfgOK (f := i_spec_l1Has) (its := [.bool true, .bool false])
    (ps := [decide (x9 < x8) = true,
      0 ≤ x9,
      x9 < (List.length x7 : Int),
      ((List.getD x7 (x9).toNat (0 : Int)) == x1) = false]) (st1 := spec_l1Has_L0a x1 x7 x8 (IntKind.wrap .i64 (x9 + (1 : Int)))) (by kernel_rfl) ⟨(decide_eq_true h1), h2, h3, (beq_eq_false_iff_ne.mpr h4), trivial⟩ next

theorem spec_l1Has_L0a_x3 (x1 : Int) (x7 : (List Int)) (x8 : Int) (x9 : Int)
    (h1 : ¬ (x9 < x8)) :
    LoopSC cfg.P 2 (lb P_spec_l1Has 0) (spec_l1Has_L0a x1 x7 x8 x9) (.exit 0) (spec_l1Has_L0X2 x1 x7 x8 x9 false) :=
  loop_out cfgOK (f := i_spec_l1Has) (its := [.bool false])
    (ps := [decide (x9 < x8) = false]) (by kernel_rfl) ⟨(decide_eq_false h1), trivial⟩ (fun h => by cases h)

theorem spec_l1Has_p1 (a0 : (List Int)) (a1 : Int) (k1y4 : Bool)
    (h1 : LoopSC cfg.P 2 (lb P_spec_l1Has 0) (spec_l1Has_L0a a1 a0 ((List.length a0 : Nat) : Int) (0 : Int)) (.ret) (spec_l1Has_L0X1 k1y4)) :
    SC cfg.P i_spec_l1Has [.s (.v (.sl (.int .i64)) a0), .s (.v (.int .i64) a1)] (.s (.v .bool k1y4)) [] :=
  SC_of_run cfgOK (its := [.loop (fun _ => (.ret, spec_l1Has_L0X1 k1y4))])
    (ps := [LoopSC cfg.P 2 (lb P_spec_l1Has 0) (spec_l1Has_L0a a1 a0 ((List.length a0 : Nat) : Int) (0 : Int)) (.ret) (spec_l1Has_L0X1 k1y4)]) (by kernel_rfl) ⟨h1, trivial⟩ get_spec_l1Has (by decide)

theorem spec_l1Has_p2 (a0 : (List Int)) (a1 : Int) (k1y1 : Int) (k1y7 : (List Int)) (k1y8 : Int) (k1y9 : Int) (k1y10 : Bool)
    (h1 : LoopSC cfg.P 2 (lb P_spec_l1Has 0) (spec_l1Has_L0a a1 a0 ((List.length a0 : Nat) : Int) (0 : Int)) (.exit 0) (spec_l1Has_L0X2 k1y1 k1y7 k1y8 k1y9 k1y10)) :
    SC cfg.P i_spec_l1Has [.s (.v (.sl (.int .i64)) a0), .s (.v (.int .i64) a1)] (.s (.v .bool false)) [] :=
  SC_of_run cfgOK (its := [.loop (fun _ => (.exit 0, spec_l1Has_L0X2 k1y1 k1y7 k1y8 k1y9 k1y10))])
    (ps := [LoopSC cfg.P 2 (lb P_spec_l1Has 0) (spec_l1Has_L0a a1 a0 ((List.length a0 : Nat) : Int) (0 : Int)) (.exit 0) (spec_l1Has_L0X2 k1y1 k1y7 k1y8 k1y9 k1y10)]) (by kernel_rfl) ⟨h1, trivial⟩ get_spec_l1Has (by decide)

/-! ### spec_l1In -/


theorem spec_l1In_p1 (a0 : Int) (a1 : Int) (a2 : Int)
    (h1 : a0 ≥ a1)
    (h2 : a0 ≤ a2) :
    SC cfg.P i_spec_l1In [.s (.v (.int .i64) a0), .s (.v (.int .i64) a1), .s (.v (.int .i64) a2)] (.s (.v .bool true)) [] :=
  SC_of_run cfgOK (its := [.bool true, .bool true])
    (ps := [decide (a0 ≥ a1) = true,
      decide (a0 ≤ a2) = true]) (by kernel_rfl) ⟨(decide_eq_true h1), (decide_eq_true h2), trivial⟩ get_spec_l1In (by decide)

theorem spec_l1In_p2 (a0 : Int) (a1 : Int) (a2 : Int)
    (h1 : a0 ≥ a1)
    (h2 : ¬ (a0 ≤ a2)) :
    SC cfg.P i_spec_l1In [.s (.v (.int .i64) a0), .s (.v (.int .i64) a1), .s (.v (.int .i64) a2)] (.s (.v .bool false)) [] :=
  SC_of_run cfgOK (its := [.bool true, .bool false])
    (ps := [decide (a0 ≥ a1) = true,
      decide (a0 ≤ a2) = false]) (by kernel_rfl) ⟨(decide_eq_true h1), (decide_eq_false h2), trivial⟩ get_spec_l1In (by decide)

theorem spec_l1In_p3 (a0 : Int) (a1 : Int) (a2 : Int)
    (h1 : ¬ (a0 ≥ a1)) :
    SC cfg.P i_spec_l1In [.s (.v (.int .i64) a0), .s (.v (.int .i64) a1), .s (.v (.int .i64) a2)] (.s (.v .bool false)) [] :=
  SC_of_run cfgOK (its := [.bool false])
    (ps := [decide (a0 ≥ a1) = false]) (by kernel_rfl) ⟨(decide_eq_false h1), trivial⟩ get_spec_l1In (by decide)

end Go.AI
