/- A part of the road: what it proves stands in its last texts. -/
import Derived.Test.YtnnbjnmkkfakdaaSIds
import Derived.Test.YtnnbjnmkkfakdaaProg
set_option autoImplicit false
set_option maxRecDepth 100000
set_option linter.unusedVariables false
namespace Go.AI
open Go.Proofs

/-! ### spec_wdGood -/


theorem spec_wdGood_p1 (a0 : (List Int)) (c1 : Bool)
    (h1 : ((List.length a0 : Nat) : Int) ≤ (20 : Int))
    (h2 : SC cfg.P i_spec_wdIs [.s (.v (.sl (.int .i64)) a0), .s (.v (.int .i64) (20 : Int))] (.s (.v .bool c1)) []) :
    SC cfg.P i_spec_wdGood [.s (.v (.sl (.int .i64)) a0)] (.s (.v .bool c1)) [] :=
  SC_of_run cfgOK (its := [.bool true, .res (.s (.v .bool c1)) [] [] []])
    (ps := [decide (((List.length a0 : Nat) : Int) ≤ (20 : Int)) = true,
      SC cfg.P i_spec_wdIs [.s (.v (.sl (.int .i64)) a0), .s (.v (.int .i64) (20 : Int))] (.s (.v .bool c1)) []]) (by kernel_rfl) ⟨(decide_eq_true h1), h2, trivial⟩ get_spec_wdGood (by decide)

theorem spec_wdGood_p2 (a0 : (List Int))
    (h1 : ¬ (((List.length a0 : Nat) : Int) ≤ (20 : Int))) :
    SC cfg.P i_spec_wdGood [.s (.v (.sl (.int .i64)) a0)] (.s (.v .bool false)) [] :=
  SC_of_run cfgOK (its := [.bool false])
    (ps := [decide (((List.length a0 : Nat) : Int) ≤ (20 : Int)) = false]) (by kernel_rfl) ⟨(decide_eq_false h1), trivial⟩ get_spec_wdGood (by decide)

/-! ### spec_wdIs -/


def spec_wdIs_L0a (x1 : Int) (x7 : (List Int)) (x8 : Int) (x9 : Int) : St := mkSt 26 [(1, .s (.v (.int .i64) x1)), (7, .s (.v (.sl (.int .i64)) x7)), (8, .s (.v (.int .i64) x8)), (9, .s (.v (.int .i64) x9))] []

def spec_wdIs_L0X1 (y4 : Bool) : St := mkSt 26 [(4, .s (.v .bool y4))] []

def spec_wdIs_L0X2 (y1 : Int) (y7 : (List Int)) (y8 : Int) (y9 : Int) (y10 : Bool) : St := mkSt 26 [(1, .s (.v (.int .i64) y1)), (7, .s (.v (.sl (.int .i64)) y7)), (8, .s (.v (.int .i64) y8)), (9, .s (.v (.int .i64) y9)), (10, .s (.v .bool y10))] []

theorem spec_wdIs_L0a_x1 (x1 : Int) (x7 : (List Int)) (x8 : Int) (x9 : Int)
    (h1 : x9 < x8)
    (h2 : 0 ≤ x9)
    (h3 : x9 < (List.length x7 : Int))
    (h4 : (List.getD x7 (x9).toNat (0 : Int)) = (0 : Int)) :
    LoopSC cfg.P 2 (lb P_spec_wdIs 0) (spec_wdIs_L0a x1 x7 x8 x9) (.ret) (spec_wdIs_L0X1 false) :=
  loop_out cfgOK (f := i_spec_wdIs) (its := [.bool true, .bool true])
    (ps := [decide (x9 < x8) = true,
      0 ≤ x9,
      x9 < (List.length x7 : Int),
      ((List.getD x7 (x9).toNat (0 : Int)) == (0 : Int)) = true]) (by kernel_rfl) ⟨(decide_eq_true h1), h2, h3, (beq_t h4), trivial⟩ (fun h => by cases h)

theorem spec_wdIs_L0a_i2 (x1 : Int) (x7 : (List Int)) (x8 : Int) (x9 : Int)
    (h1 : x9 < x8)
    (h2 : 0 ≤ x9)
    (h3 : x9 < (List.length x7 : Int))
    (h4 : (List.getD x7 (x9).toNat (0 : Int)) ≠ (0 : Int))
    (h5 : SC cfg.P i_spec_l1In [.s (.v (.int .i64) (List.getD x7 (x9).toNat (0 : Int))), .s (.v (.int .i64) (IntKind.wrap .i64 ((IntKind.wrap .i64 (0 - x1)) - (1 : Int)))), .s (.v (.int .i64) (IntKind.wrap .i64 (x1 + (1 : Int))))] (.s (.v .bool true)) [])
    {e : AEx} {st : St} (next : LoopSC cfg.P 2 (lb P_spec_wdIs 0) (spec_wdIs_L0a x1 x7 x8 (IntKind.wrap .i64 (x9 + (1 : Int)))) e st) :
    LoopSC cfg.P 2 (lb P_spec_wdIs 0) (spec_wdIs_L0a x1 x7 x8 x9) e st :=
  loop_iter cfgOK (f := i_spec_wdIs) (its := [.bool true, .bool false, .res (.s (.v .bool true)) [] [] []])
    (ps := [decide (x9 < x8) = true,
      0 ≤ x9,
      x9 < (List.length x7 : Int),
      ((List.getD x7 (x9).toNat (0 : Int)) == (0 : Int)) = false,
      SC cfg.P i_spec_l1In [.s (.v (.int .i64) (List.getD x7 (x9).toNat (0 : Int))), .s (.v (.int .i64) (IntKind.wrap .i64 ((IntKind.wrap .i64 (0 - x1)) - (1 : Int)))), .s (.v (.int .i64) (IntKind.wrap .i64 (x1 + (1 : Int))))] (.s (.v .bool true)) []]) (st1 := spec_wdIs_L0a x1 x7 x8 (IntKind.wrap .i64 (x9 + (1 : Int)))) (by kernel_rfl) ⟨(decide_eq_true h1), h2, h3, (beq_f h4), h5, trivial⟩ next

theorem spec_wdIs_L0a_x3 (x1 : Int) (x7 : (List Int)) (x8 : Int) (x9 : Int)
    (h1 : x9 < x8)
    (h2 : 0 ≤ x9)
    (h3 : x9 < (List.length x7 : Int))
    (h4 : (List.getD x7 (x9).toNat (0 : Int)) ≠ (0 : Int))
    (h5 : SC cfg.P i_spec_l1In [.s (.v (.int .i64) (List.getD x7 (x9).toNat (0 : Int))), .s (.v (.int .i64) (IntKind.wrap .i64 ((IntKind.wrap .i64 (0 - x1)) - (1 : Int)))), .s (.v (.int .i64) (IntKind.wrap .i64 (x1 + (1 : Int))))] (.s (.v .bool false)) []) :
    LoopSC cfg.P 2 (lb P_spec_wdIs 0) (spec_wdIs_L0a x1 x7 x8 x9) (.ret) (spec_wdIs_L0X1 false) :=
  loop_out cfgOK (f := i_spec_wdIs) (its := [.bool true, .bool false, .res (.s (.v .bool false)) [] [] []])
    (ps := [decide (x9 < x8) = true,
      0 ≤ x9,
      x9 < (List.length x7 : Int),
      ((List.getD x7 (x9).toNat (0 : Int)) == (0 : Int)) = false,
      SC cfg.P i_spec_l1In [.s (.v (.int .i64) (List.getD x7 (x9).toNat (0 : Int))), .s (.v (.int .i64) (IntKind.wrap .i64 ((IntKind.wrap .i64 (0 - x1)) - (1 : Int)))), .s (.v (.int .i64) (IntKind.wrap .i64 (x1 + (1 : Int))))] (.s (.v .bool false)) []]) (by kernel_rfl) ⟨(decide_eq_true h1), h2, h3, (beq_f h4), h5, trivial⟩ (fun h => by cases h)

theorem spec_wdIs_L0a_x4 (x1 : Int) (x7 : (List Int)) (x8 : Int) (x9 : Int)
    (h1 : ¬ (x9 < x8)) :
    LoopSC cfg.P 2 (lb P_spec_wdIs 0) (spec_wdIs_L0a x1 x7 x8 x9) (.exit 0) (spec_wdIs_L0X2 x1 x7 x8 x9 false) :=
  loop_out cfgOK (f := i_spec_wdIs) (its := [.bool false])
    (ps := [decide (x9 < x8) = false]) (by kernel_rfl) ⟨(decide_eq_false h1), trivial⟩ (fun h => by cases h)

theorem spec_wdIs_p1 (a0 : (List Int)) (a1 : Int) (k1y4 : Bool)
    (h1 : LoopSC cfg.P 2 (lb P_spec_wdIs 0) (spec_wdIs_L0a a1 a0 ((List.length a0 : Nat) : Int) (0 : Int)) (.ret) (spec_wdIs_L0X1 k1y4)) :
    SC cfg.P i_spec_wdIs [.s (.v (.sl (.int .i64)) a0), .s (.v (.int .i64) a1)] (.s (.v .bool k1y4)) [] :=
  SC_of_run cfgOK (its := [.loop (fun _ => (.ret, spec_wdIs_L0X1 k1y4))])
    (ps := [LoopSC cfg.P 2 (lb P_spec_wdIs 0) (spec_wdIs_L0a a1 a0 ((List.length a0 : Nat) : Int) (0 : Int)) (.ret) (spec_wdIs_L0X1 k1y4)]) (by kernel_rfl) ⟨h1, trivial⟩ get_spec_wdIs (by decide)

theorem spec_wdIs_p2 (a0 : (List Int)) (a1 : Int) (k1y1 : Int) (k1y7 : (List Int)) (k1y8 : Int) (k1y9 : Int) (k1y10 : Bool)
    (h1 : LoopSC cfg.P 2 (lb P_spec_wdIs 0) (spec_wdIs_L0a a1 a0 ((List.length a0 : Nat) : Int) (0 : Int)) (.exit 0) (spec_wdIs_L0X2 k1y1 k1y7 k1y8 k1y9 k1y10)) :
    SC cfg.P i_spec_wdIs [.s (.v (.sl (.int .i64)) a0), .s (.v (.int .i64) a1)] (.s (.v .bool true)) [] :=
  SC_of_run cfgOK (its := [.loop (fun _ => (.exit 0, spec_wdIs_L0X2 k1y1 k1y7 k1y8 k1y9 k1y10))])
    (ps := [LoopSC cfg.P 2 (lb P_spec_wdIs 0) (spec_wdIs_L0a a1 a0 ((List.length a0 : Nat) : Int) (0 : Int)) (.exit 0) (spec_wdIs_L0X2 k1y1 k1y7 k1y8 k1y9 k1y10)]) (by kernel_rfl) ⟨h1, trivial⟩ get_spec_wdIs (by decide)

/-! ### impl_IsWord -/


def impl_IsWord_L0a (x0 : (List Int)) (x5 : (List Int)) (x6 : Int) (x7 : Int) : St := mkSt 18 [(0, .s (.v (.sl (.int .i64)) x0)), (5, .s (.v (.sl (.int .i64)) x5)), (6, .s (.v (.int .i64) x6)), (7, .s (.v (.int .i64) x7))] []

def impl_IsWord_L0X1 (y2 : Bool) : St := mkSt 18 [(2, .s (.v .bool y2))] []

def impl_IsWord_L0X2 (y0 : (List Int)) (y5 : (List Int)) (y6 : Int) (y7 : Int) (y8 : Bool) : St := mkSt 18 [(0, .s (.v (.sl (.int .i64)) y0)), (5, .s (.v (.sl (.int .i64)) y5)), (6, .s (.v (.int .i64) y6)), (7, .s (.v (.int .i64) y7)), (8, .s (.v .bool y8))] []

theorem impl_IsWord_L0a_i1 (x0 : (List Int)) (x5 : (List Int)) (x6 : Int) (x7 : Int)
    (h1 : x7 < x6)
    (h2 : 0 ≤ x7)
    (h3 : x7 < (List.length x5 : Int))
    (h4 : SC cfg.P i_impl_isLetter [.s (.v (.int .i64) (List.getD x5 (x7).toNat (0 : Int)))] (.s (.v .bool true)) [])
    {e : AEx} {st : St} (next : LoopSC cfg.P 1 (lb P_impl_IsWord 0) (impl_IsWord_L0a x0 x5 x6 (IntKind.wrap .i64 (x7 + (1 : Int)))) e st) :
    LoopSC cfg.P 1 (lb P_impl_IsWord 0) (impl_IsWord_L0a x0 x5 x6 x7) e st :=
  loop_iter cfgOK (f := i_impl_IsWord) (its := [.bool true, .res (.s (.v .bool true)) [] [] []])
    (ps := [decide (x7 < x6) = true,
      0 ≤ x7,
      x7 < (List.length x5 : Int),
      SC cfg.P i_impl_isLetter [.s (.v (.int .i64) (List.getD x5 (x7).toNat (0 : Int)))] (.s (.v .bool true)) []]) (st1 := impl_IsWord_L0a x0 x5 x6 (IntKind.wrap .i64 (x7 + (1 : Int)))) (by kernel_rfl) ⟨(decide_eq_true h1), h2, h3, h4, trivial⟩ next

theorem impl_IsWord_L0a_x2 (x0 : (List Int)) (x5 : (List Int)) (x6 : Int) (x7 : Int)
    (h1 : x7 < x6)
    (h2 : 0 ≤ x7)
    (h3 : x7 < (List.length x5 : Int))
    (h4 : SC cfg.P i_impl_isLetter [.s (.v (.int .i64) (List.getD x5 (x7).toNat (0 : Int)))] (.s (.v .bool false)) []) :
    LoopSC cfg.P 1 (lb P_impl_IsWord 0) (impl_IsWord_L0a x0 x5 x6 x7) (.ret) (impl_IsWord_L0X1 false) :=
  loop_out cfgOK (f := i_impl_IsWord) (its := [.bool true, .res (.s (.v .bool false)) [] [] []])
    (ps := [decide (x7 < x6) = true,
      0 ≤ x7,
      x7 < (List.length x5 : Int),
      SC cfg.P i_impl_isLetter [.s (.v (.int .i64) (List.getD x5 (x7).toNat (0 : Int)))] (.s (.v .bool false)) []]) (by kernel_rfl) ⟨(decide_eq_true h1), h2, h3, h4, trivial⟩ (fun h => by cases h)

theorem impl_IsWord_L0a_x3 (x0 : (List Int)) (x5 : (List Int)) (x6 : Int) (x7 : Int)
    (h1 : ¬ (x7 < x6)) :
    LoopSC cfg.P 1 (lb P_impl_IsWord 0) (impl_IsWord_L0a x0 x5 x6 x7) (.exit 0) (impl_IsWord_L0X2 x0 x5 x6 x7 false) :=
  loop_out cfgOK (f := i_impl_IsWord) (its := [.bool false])
    (ps := [decide (x7 < x6) = false]) (by kernel_rfl) ⟨(decide_eq_false h1), trivial⟩ (fun h => by cases h)

theorem impl_IsWord_p1 (a0 : (List Int)) (k1y2 : Bool)
    (h1 : LoopSC cfg.P 1 (lb P_impl_IsWord 0) (impl_IsWord_L0a a0 a0 ((List.length a0 : Nat) : Int) (0 : Int)) (.ret) (impl_IsWord_L0X1 k1y2)) :
    SC cfg.P i_impl_IsWord [.s (.v (.sl (.int .i64)) a0)] (.s (.v .bool k1y2)) [] :=
  SC_of_run cfgOK (its := [.loop (fun _ => (.ret, impl_IsWord_L0X1 k1y2))])
    (ps := [LoopSC cfg.P 1 (lb P_impl_IsWord 0) (impl_IsWord_L0a a0 a0 ((List.length a0 : Nat) : Int) (0 : Int)) (.ret) (impl_IsWord_L0X1 k1y2)]) (by kernel_rfl) ⟨h1, trivial⟩ get_impl_IsWord (by decide)

theorem impl_IsWord_p2 (a0 : (List Int)) (k1y0 : (List Int)) (k1y5 : (List Int)) (k1y6 : Int) (k1y7 : Int) (k1y8 : Bool)
    (h1 : LoopSC cfg.P 1 (lb P_impl_IsWord 0) (impl_IsWord_L0a a0 a0 ((List.length a0 : Nat) : Int) (0 : Int)) (.exit 0) (impl_IsWord_L0X2 k1y0 k1y5 k1y6 k1y7 k1y8))
    (h2 : ((List.length k1y0 : Nat) : Int) ≤ (20 : Int)) :
    SC cfg.P i_impl_IsWord [.s (.v (.sl (.int .i64)) a0)] (.s (.v .bool true)) [] :=
  SC_of_run cfgOK (its := [.loop (fun _ => (.exit 0, impl_IsWord_L0X2 k1y0 k1y5 k1y6 k1y7 k1y8)), .bool true])
    (ps := [LoopSC cfg.P 1 (lb P_impl_IsWord 0) (impl_IsWord_L0a a0 a0 ((List.length a0 : Nat) : Int) (0 : Int)) (.exit 0) (impl_IsWord_L0X2 k1y0 k1y5 k1y6 k1y7 k1y8),
      decide (((List.length k1y0 : Nat) : Int) ≤ (20 : Int)) = true]) (by kernel_rfl) ⟨h1, (decide_eq_true h2), trivial⟩ get_impl_IsWord (by decide)

theorem impl_IsWord_p3 (a0 : (List Int)) (k1y0 : (List Int)) (k1y5 : (List Int)) (k1y6 : Int) (k1y7 : Int) (k1y8 : Bool)
    (h1 : LoopSC cfg.P 1 (lb P_impl_IsWord 0) (impl_IsWord_L0a a0 a0 ((List.length a0 : Nat) : Int) (0 : Int)) (.exit 0) (impl_IsWord_L0X2 k1y0 k1y5 k1y6 k1y7 k1y8))
    (h2 : ¬ (((List.length k1y0 : Nat) : Int) ≤ (20 : Int))) :
    SC cfg.P i_impl_IsWord [.s (.v (.sl (.int .i64)) a0)] (.s (.v .bool false)) [] :=
  SC_of_run cfgOK (its := [.loop (fun _ => (.exit 0, impl_IsWord_L0X2 k1y0 k1y5 k1y6 k1y7 k1y8)), .bool false])
    (ps := [LoopSC cfg.P 1 (lb P_impl_IsWord 0) (impl_IsWord_L0a a0 a0 ((List.length a0 : Nat) : Int) (0 : Int)) (.exit 0) (impl_IsWord_L0X2 k1y0 k1y5 k1y6 k1y7 k1y8),
      decide (((List.length k1y0 : Nat) : Int) ≤ (20 : Int)) = false]) (by kernel_rfl) ⟨h1, (decide_eq_false h2), trivial⟩ get_impl_IsWord (by decide)

/-! ### impl_isLetter -/


theorem impl_isLetter_p1 (a0 : Int)
    (h1 : a0 ≠ (0 : Int))
    (h2 : a0 ≥ (-21 : Int))
    (h3 : a0 ≤ (21 : Int)) :
    SC cfg.P i_impl_isLetter [.s (.v (.int .i64) a0)] (.s (.v .bool true)) [] :=
  SC_of_run cfgOK (its := [.bool true, .bool true, .bool true])
    (ps := [(a0 != (0 : Int)) = true,
      decide (a0 ≥ (-21 : Int)) = true,
      decide (a0 ≤ (21 : Int)) = true]) (by kernel_rfl) ⟨(bne_t h1), (decide_eq_true h2), (decide_eq_true h3), trivial⟩ get_impl_isLetter (by decide)

theorem impl_isLetter_p2 (a0 : Int)
    (h1 : a0 ≠ (0 : Int))
    (h2 : a0 ≥ (-21 : Int))
    (h3 : ¬ (a0 ≤ (21 : Int))) :
    SC cfg.P i_impl_isLetter [.s (.v (.int .i64) a0)] (.s (.v .bool false)) [] :=
  SC_of_run cfgOK (its := [.bool true, .bool true, .bool false])
    (ps := [(a0 != (0 : Int)) = true,
      decide (a0 ≥ (-21 : Int)) = true,
      decide (a0 ≤ (21 : Int)) = false]) (by kernel_rfl) ⟨(bne_t h1), (decide_eq_true h2), (decide_eq_false h3), trivial⟩ get_impl_isLetter (by decide)

theorem impl_isLetter_p3 (a0 : Int)
    (h1 : a0 ≠ (0 : Int))
    (h2 : ¬ (a0 ≥ (-21 : Int))) :
    SC cfg.P i_impl_isLetter [.s (.v (.int .i64) a0)] (.s (.v .bool false)) [] :=
  SC_of_run cfgOK (its := [.bool true, .bool false])
    (ps := [(a0 != (0 : Int)) = true,
      decide (a0 ≥ (-21 : Int)) = false]) (by kernel_rfl) ⟨(bne_t h1), (decide_eq_false h2), trivial⟩ get_impl_isLetter (by decide)

theorem impl_isLetter_p4 (a0 : Int)
    (h1 : a0 = (0 : Int)) :
    SC cfg.P i_impl_isLetter [.s (.v (.int .i64) a0)] (.s (.v .bool false)) [] :=
  SC_of_run cfgOK (its := [.bool false])
    (ps := [(a0 != (0 : Int)) = false]) (by kernel_rfl) ⟨(bne_f h1), trivial⟩ get_impl_isLetter (by decide)

end Go.AI
