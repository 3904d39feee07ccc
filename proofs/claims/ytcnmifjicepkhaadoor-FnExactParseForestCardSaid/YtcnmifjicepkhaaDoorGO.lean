/- A part of the road: what it proves stands in its last texts. -/
import Derived.Test.YtcnmifjicepkhaaDoorSIds
import Derived.Test.YtcnmifjicepkhaaDoorProg
set_option autoImplicit false
set_option maxRecDepth 100000
set_option linter.unusedVariables false
namespace Go.AI
open Go.Proofs

/-! ### spec_l1Split -/


def spec_l1Split_L0a (x0 : ByteArray) (x1 : Int) (x6 : Int) (x7 : Int) (xo5 : (List ByteArray)) : St := mkSt 34 [(0, .s (.v .str x0)), (1, .s (.v (.int .u8) x1)), (5, .s (.osl 5 0)), (6, .s (.v (.int .i64) x6)), (7, .s (.v (.int .i64) x7))] [(5, .row t_string .str xo5 0 false)]

def spec_l1Split_L0X1 (y0 : ByteArray) (y1 : Int) (y6 : Int) (y7 : Int) (y11 : Bool) (yo5 : (List ByteArray)) : St := mkSt 34 [(0, .s (.v .str y0)), (1, .s (.v (.int .u8) y1)), (5, .s (.osl 5 0)), (6, .s (.v (.int .i64) y6)), (7, .s (.v (.int .i64) y7)), (11, .s (.v .bool y11))] [(5, .row t_string .str yo5 0 false)]

theorem spec_l1Split_L0a_i1 (x0 : ByteArray) (x1 : Int) (x6 : Int) (x7 : Int) (xo5 : (List ByteArray))
    (h1 : x7 < ((x0).size : Int))
    (h2 : 0 ≤ x7)
    (h3 : (bt x0 x7) = x1)
    (h4 : 0 ≤ x6)
    (h5 : x6 ≤ x7)
    (h6 : x7 ≤ ((x0).size : Int))
    (h7 : sizeOK (List.length xo5 + List.length ([(ByteArray.extract x0 (x6).toNat (x7).toNat)] : List ByteArray)))
    {e : AEx} {st : St} (next : LoopSC cfg.P 2 (lb P_spec_l1Split 0) (spec_l1Split_L0a x0 x1 (IntKind.wrap .i64 (x7 + (1 : Int))) (IntKind.wrap .i64 (x7 + (1 : Int))) (xo5 ++ ([(ByteArray.extract x0 (x6).toNat (x7).toNat)] : List ByteArray))) e st) :
    LoopSC cfg.P 2 (lb P_spec_l1Split 0) (spec_l1Split_L0a x0 x1 x6 x7 xo5) e st :=
  loop_iter cfgOK (f := i_spec_l1Split) (its := [.bool true, .bool true])
    (ps := [decide (x7 < ((x0).size : Int)) = true,
      0 ≤ x7,
      x7 < ((x0).size : Int),
      ((bt x0 x7) == x1) = true,
      0 ≤ x6,
      x6 ≤ x7,
      x7 ≤ ((x0).size : Int),
      sizeOK (List.length xo5 + List.length ([(ByteArray.extract x0 (x6).toNat (x7).toNat)] : List ByteArray))]) (st1 := spec_l1Split_L0a x0 x1 (IntKind.wrap .i64 (x7 + (1 : Int))) (IntKind.wrap .i64 (x7 + (1 : Int))) (xo5 ++ ([(ByteArray.extract x0 (x6).toNat (x7).toNat)] : List ByteArray))) (by kernel_rfl) ⟨(decide_eq_true h1), h2, h1, (beq_t h3), h4, h5, h6, h7, trivial⟩ next

theorem spec_l1Split_L0a_i2 (x0 : ByteArray) (x1 : Int) (x6 : Int) (x7 : Int) (xo5 : (List ByteArray))
    (h1 : x7 < ((x0).size : Int))
    (h2 : 0 ≤ x7)
    (h3 : (bt x0 x7) ≠ x1)
    {e : AEx} {st : St} (next : LoopSC cfg.P 2 (lb P_spec_l1Split 0) (spec_l1Split_L0a x0 x1 x6 (IntKind.wrap .i64 (x7 + (1 : Int))) xo5) e st) :
    LoopSC cfg.P 2 (lb P_spec_l1Split 0) (spec_l1Split_L0a x0 x1 x6 x7 xo5) e st :=
  loop_iter cfgOK (f := i_spec_l1Split) (its := [.bool true, .bool false])
    (ps := [decide (x7 < ((x0).size : Int)) = true,
      0 ≤ x7,
      x7 < ((x0).size : Int),
      ((bt x0 x7) == x1) = false]) (st1 := spec_l1Split_L0a x0 x1 x6 (IntKind.wrap .i64 (x7 + (1 : Int))) xo5) (by kernel_rfl) ⟨(decide_eq_true h1), h2, h1, (beq_f h3), trivial⟩ next

theorem spec_l1Split_L0a_x3 (x0 : ByteArray) (x1 : Int) (x6 : Int) (x7 : Int) (xo5 : (List ByteArray))
    (h1 : ¬ (x7 < ((x0).size : Int))) :
    LoopSC cfg.P 2 (lb P_spec_l1Split 0) (spec_l1Split_L0a x0 x1 x6 x7 xo5) (.exit 0) (spec_l1Split_L0X1 x0 x1 x6 x7 false xo5) :=
  loop_out cfgOK (f := i_spec_l1Split) (its := [.bool false])
    (ps := [decide (x7 < ((x0).size : Int)) = false]) (by kernel_rfl) ⟨(decide_eq_false h1), trivial⟩ (fun h => by cases h)

theorem spec_l1Split_p1 (a0 : ByteArray) (a1 : Int) (k1y0 : ByteArray) (k1y1 : Int) (k1y6 : Int) (k1y7 : Int) (k1y11 : Bool) (k1yo5 : (List ByteArray))
    (h1 : LoopSC cfg.P 2 (lb P_spec_l1Split 0) (spec_l1Split_L0a a0 a1 (0 : Int) (0 : Int) ([] : List ByteArray)) (.exit 0) (spec_l1Split_L0X1 k1y0 k1y1 k1y6 k1y7 k1y11 k1yo5))
    (h2 : 0 ≤ k1y6)
    (h3 : k1y6 ≤ ((k1y0).size : Int))
    (h4 : sizeOK (List.length k1yo5 + List.length ([(ByteArray.extract k1y0 (k1y6).toNat (((k1y0).size : Int)).toNat)] : List ByteArray))) :
    SC cfg.P i_spec_l1Split [.s (.v .str a0), .s (.v (.int .u8) a1)] (.s (.own t_string .str (k1yo5 ++ ([(ByteArray.extract k1y0 (k1y6).toNat (((k1y0).size : Int)).toNat)] : List ByteArray)))) [] :=
  SC_of_run cfgOK (its := [.loop (fun _ => (.exit 0, spec_l1Split_L0X1 k1y0 k1y1 k1y6 k1y7 k1y11 k1yo5))])
    (ps := [LoopSC cfg.P 2 (lb P_spec_l1Split 0) (spec_l1Split_L0a a0 a1 (0 : Int) (0 : Int) ([] : List ByteArray)) (.exit 0) (spec_l1Split_L0X1 k1y0 k1y1 k1y6 k1y7 k1y11 k1yo5),
      0 ≤ k1y6,
      k1y6 ≤ ((k1y0).size : Int),
      sizeOK (List.length k1yo5 + List.length ([(ByteArray.extract k1y0 (k1y6).toNat (((k1y0).size : Int)).toNat)] : List ByteArray))]) (by kernel_rfl) ⟨h1, h2, h3, h4, trivial⟩ get_spec_l1Split (by decide)

/-! ### spec_foGood -/


def spec_foGood_L0a (x3 : Int) (x23 : (List ByteArray)) (x24 : Int) (x25 : Int) : St := mkSt 39 [(3, .s (.v (.int .i64) x3)), (23, .s (.v (.sl .str) x23)), (24, .s (.v (.int .i64) x24)), (25, .s (.v (.int .i64) x25))] []

def spec_foGood_L0X1 (y2 : Bool) : St := mkSt 39 [(2, .s (.v .bool y2))] []

def spec_foGood_L0X2 (y3 : Int) (y23 : (List ByteArray)) (y24 : Int) (y25 : Int) (y26 : Bool) : St := mkSt 39 [(3, .s (.v (.int .i64) y3)), (23, .s (.v (.sl .str) y23)), (24, .s (.v (.int .i64) y24)), (25, .s (.v (.int .i64) y25)), (26, .s (.v .bool y26))] []

theorem spec_foGood_L0a_i1 (x3 : Int) (x23 : (List ByteArray)) (x24 : Int) (x25 : Int) (dc2 : Int)
    (h1 : x25 < x24)
    (h2 : 0 ≤ x25)
    (h3 : x25 < (List.length x23 : Int))
    (h4 : SC cfg.P i_spec_trIs [.s (.v .str (List.getD x23 (x25).toNat (⟨#[]⟩ : ByteArray)))] (.s (.v .bool true)) [])
    (h5 : SC cfg.P i_spec_trCarets [.s (.v .str (List.getD x23 (x25).toNat (⟨#[]⟩ : ByteArray)))] (.s (.v (.int .i64) dc2)) [])
    {e : AEx} {st : St} (next : LoopSC cfg.P 1 (lb P_spec_foGood 0) (spec_foGood_L0a (IntKind.wrap .i64 (x3 + dc2)) x23 x24 (IntKind.wrap .i64 (x25 + (1 : Int)))) e st) :
    LoopSC cfg.P 1 (lb P_spec_foGood 0) (spec_foGood_L0a x3 x23 x24 x25) e st :=
  loop_iter cfgOK (f := i_spec_foGood) (its := [.bool true, .res (.s (.v .bool true)) [] [] [], .res (.s (.v (.int .i64) dc2)) [] [] []])
    (ps := [decide (x25 < x24) = true,
      0 ≤ x25,
      x25 < (List.length x23 : Int),
      SC cfg.P i_spec_trIs [.s (.v .str (List.getD x23 (x25).toNat (⟨#[]⟩ : ByteArray)))] (.s (.v .bool true)) [],
      SC cfg.P i_spec_trCarets [.s (.v .str (List.getD x23 (x25).toNat (⟨#[]⟩ : ByteArray)))] (.s (.v (.int .i64) dc2)) []]) (st1 := spec_foGood_L0a (IntKind.wrap .i64 (x3 + dc2)) x23 x24 (IntKind.wrap .i64 (x25 + (1 : Int)))) (by kernel_rfl) ⟨(decide_eq_true h1), h2, h3, h4, h5, trivial⟩ next

theorem spec_foGood_L0a_x2 (x3 : Int) (x23 : (List ByteArray)) (x24 : Int) (x25 : Int)
    (h1 : x25 < x24)
    (h2 : 0 ≤ x25)
    (h3 : x25 < (List.length x23 : Int))
    (h4 : SC cfg.P i_spec_trIs [.s (.v .str (List.getD x23 (x25).toNat (⟨#[]⟩ : ByteArray)))] (.s (.v .bool false)) []) :
    LoopSC cfg.P 1 (lb P_spec_foGood 0) (spec_foGood_L0a x3 x23 x24 x25) (.ret) (spec_foGood_L0X1 false) :=
  loop_out cfgOK (f := i_spec_foGood) (its := [.bool true, .res (.s (.v .bool false)) [] [] []])
    (ps := [decide (x25 < x24) = true,
      0 ≤ x25,
      x25 < (List.length x23 : Int),
      SC cfg.P i_spec_trIs [.s (.v .str (List.getD x23 (x25).toNat (⟨#[]⟩ : ByteArray)))] (.s (.v .bool false)) []]) (by kernel_rfl) ⟨(decide_eq_true h1), h2, h3, h4, trivial⟩ (fun h => by cases h)

theorem spec_foGood_L0a_x3 (x3 : Int) (x23 : (List ByteArray)) (x24 : Int) (x25 : Int)
    (h1 : ¬ (x25 < x24)) :
    LoopSC cfg.P 1 (lb P_spec_foGood 0) (spec_foGood_L0a x3 x23 x24 x25) (.exit 0) (spec_foGood_L0X2 x3 x23 x24 x25 false) :=
  loop_out cfgOK (f := i_spec_foGood) (its := [.bool false])
    (ps := [decide (x25 < x24) = false]) (by kernel_rfl) ⟨(decide_eq_false h1), trivial⟩ (fun h => by cases h)

theorem spec_foGood_p1 (a0 : (List ByteArray))
    (h1 : ((List.length a0 : Nat) : Int) > (8 : Int)) :
    SC cfg.P i_spec_foGood [.s (.v (.sl .str) a0)] (.s (.v .bool false)) [] :=
  SC_of_run cfgOK (its := [.bool true])
    (ps := [decide (((List.length a0 : Nat) : Int) > (8 : Int)) = true]) (by kernel_rfl) ⟨(decide_eq_true h1), trivial⟩ get_spec_foGood (by decide)

theorem spec_foGood_p2 (a0 : (List ByteArray))
    (h1 : ¬ (((List.length a0 : Nat) : Int) > (8 : Int)))
    (h2 : ((List.length a0 : Nat) : Int) > (0 : Int))
    (h3 : 0 ≤ (IntKind.wrap .i64 (((List.length a0 : Nat) : Int) - (1 : Int))))
    (h4 : (IntKind.wrap .i64 (((List.length a0 : Nat) : Int) - (1 : Int))) < (List.length a0 : Int))
    (h5 : SC cfg.P i_spec_trLeaf [.s (.v .str (List.getD a0 ((IntKind.wrap .i64 (((List.length a0 : Nat) : Int) - (1 : Int)))).toNat (⟨#[]⟩ : ByteArray)))] (.s (.v .bool true)) []) :
    SC cfg.P i_spec_foGood [.s (.v (.sl .str) a0)] (.s (.v .bool false)) [] :=
  SC_of_run cfgOK (its := [.bool false, .bool true, .res (.s (.v .bool true)) [] [] []])
    (ps := [decide (((List.length a0 : Nat) : Int) > (8 : Int)) = false,
      decide (((List.length a0 : Nat) : Int) > (0 : Int)) = true,
      0 ≤ (IntKind.wrap .i64 (((List.length a0 : Nat) : Int) - (1 : Int))),
      (IntKind.wrap .i64 (((List.length a0 : Nat) : Int) - (1 : Int))) < (List.length a0 : Int),
      SC cfg.P i_spec_trLeaf [.s (.v .str (List.getD a0 ((IntKind.wrap .i64 (((List.length a0 : Nat) : Int) - (1 : Int)))).toNat (⟨#[]⟩ : ByteArray)))] (.s (.v .bool true)) []]) (by kernel_rfl) ⟨(decide_eq_false h1), (decide_eq_true h2), h3, h4, h5, trivial⟩ get_spec_foGood (by decide)

theorem spec_foGood_p3 (a0 : (List ByteArray)) (k1y2 : Bool)
    (h1 : ¬ (((List.length a0 : Nat) : Int) > (8 : Int)))
    (h2 : ((List.length a0 : Nat) : Int) > (0 : Int))
    (h3 : 0 ≤ (IntKind.wrap .i64 (((List.length a0 : Nat) : Int) - (1 : Int))))
    (h4 : (IntKind.wrap .i64 (((List.length a0 : Nat) : Int) - (1 : Int))) < (List.length a0 : Int))
    (h5 : SC cfg.P i_spec_trLeaf [.s (.v .str (List.getD a0 ((IntKind.wrap .i64 (((List.length a0 : Nat) : Int) - (1 : Int)))).toNat (⟨#[]⟩ : ByteArray)))] (.s (.v .bool false)) [])
    (h6 : LoopSC cfg.P 1 (lb P_spec_foGood 0) (spec_foGood_L0a (0 : Int) a0 ((List.length a0 : Nat) : Int) (0 : Int)) (.ret) (spec_foGood_L0X1 k1y2)) :
    SC cfg.P i_spec_foGood [.s (.v (.sl .str) a0)] (.s (.v .bool k1y2)) [] :=
  SC_of_run cfgOK (its := [.bool false, .bool true, .res (.s (.v .bool false)) [] [] [], .loop (fun _ => (.ret, spec_foGood_L0X1 k1y2))])
    (ps := [decide (((List.length a0 : Nat) : Int) > (8 : Int)) = false,
      decide (((List.length a0 : Nat) : Int) > (0 : Int)) = true,
      0 ≤ (IntKind.wrap .i64 (((List.length a0 : Nat) : Int) - (1 : Int))),
      (IntKind.wrap .i64 (((List.length a0 : Nat) : Int) - (1 : Int))) < (List.length a0 : Int),
      SC cfg.P i_spec_trLeaf [.s (.v .str (List.getD a0 ((IntKind.wrap .i64 (((List.length a0 : Nat) : Int) - (1 : Int)))).toNat (⟨#[]⟩ : ByteArray)))] (.s (.v .bool false)) [],
      LoopSC cfg.P 1 (lb P_spec_foGood 0) (spec_foGood_L0a (0 : Int) a0 ((List.length a0 : Nat) : Int) (0 : Int)) (.ret) (spec_foGood_L0X1 k1y2)]) (by kernel_rfl) ⟨(decide_eq_false h1), (decide_eq_true h2), h3, h4, h5, h6, trivial⟩ get_spec_foGood (by decide)

theorem spec_foGood_p4 (a0 : (List ByteArray)) (k1y3 : Int) (k1y23 : (List ByteArray)) (k1y24 : Int) (k1y25 : Int) (k1y26 : Bool)
    (h1 : ¬ (((List.length a0 : Nat) : Int) > (8 : Int)))
    (h2 : ((List.length a0 : Nat) : Int) > (0 : Int))
    (h3 : 0 ≤ (IntKind.wrap .i64 (((List.length a0 : Nat) : Int) - (1 : Int))))
    (h4 : (IntKind.wrap .i64 (((List.length a0 : Nat) : Int) - (1 : Int))) < (List.length a0 : Int))
    (h5 : SC cfg.P i_spec_trLeaf [.s (.v .str (List.getD a0 ((IntKind.wrap .i64 (((List.length a0 : Nat) : Int) - (1 : Int)))).toNat (⟨#[]⟩ : ByteArray)))] (.s (.v .bool false)) [])
    (h6 : LoopSC cfg.P 1 (lb P_spec_foGood 0) (spec_foGood_L0a (0 : Int) a0 ((List.length a0 : Nat) : Int) (0 : Int)) (.exit 0) (spec_foGood_L0X2 k1y3 k1y23 k1y24 k1y25 k1y26))
    (h7 : k1y3 ≤ (8 : Int)) :
    SC cfg.P i_spec_foGood [.s (.v (.sl .str) a0)] (.s (.v .bool true)) [] :=
  SC_of_run cfgOK (its := [.bool false, .bool true, .res (.s (.v .bool false)) [] [] [], .loop (fun _ => (.exit 0, spec_foGood_L0X2 k1y3 k1y23 k1y24 k1y25 k1y26)), .bool true])
    (ps := [decide (((List.length a0 : Nat) : Int) > (8 : Int)) = false,
      decide (((List.length a0 : Nat) : Int) > (0 : Int)) = true,
      0 ≤ (IntKind.wrap .i64 (((List.length a0 : Nat) : Int) - (1 : Int))),
      (IntKind.wrap .i64 (((List.length a0 : Nat) : Int) - (1 : Int))) < (List.length a0 : Int),
      SC cfg.P i_spec_trLeaf [.s (.v .str (List.getD a0 ((IntKind.wrap .i64 (((List.length a0 : Nat) : Int) - (1 : Int)))).toNat (⟨#[]⟩ : ByteArray)))] (.s (.v .bool false)) [],
      LoopSC cfg.P 1 (lb P_spec_foGood 0) (spec_foGood_L0a (0 : Int) a0 ((List.length a0 : Nat) : Int) (0 : Int)) (.exit 0) (spec_foGood_L0X2 k1y3 k1y23 k1y24 k1y25 k1y26),
      decide (k1y3 ≤ (8 : Int)) = true]) (by kernel_rfl) ⟨(decide_eq_false h1), (decide_eq_true h2), h3, h4, h5, h6, (decide_eq_true h7), trivial⟩ get_spec_foGood (by decide)

theorem spec_foGood_p5 (a0 : (List ByteArray)) (k1y3 : Int) (k1y23 : (List ByteArray)) (k1y24 : Int) (k1y25 : Int) (k1y26 : Bool)
    (h1 : ¬ (((List.length a0 : Nat) : Int) > (8 : Int)))
    (h2 : ((List.length a0 : Nat) : Int) > (0 : Int))
    (h3 : 0 ≤ (IntKind.wrap .i64 (((List.length a0 : Nat) : Int) - (1 : Int))))
    (h4 : (IntKind.wrap .i64 (((List.length a0 : Nat) : Int) - (1 : Int))) < (List.length a0 : Int))
    (h5 : SC cfg.P i_spec_trLeaf [.s (.v .str (List.getD a0 ((IntKind.wrap .i64 (((List.length a0 : Nat) : Int) - (1 : Int)))).toNat (⟨#[]⟩ : ByteArray)))] (.s (.v .bool false)) [])
    (h6 : LoopSC cfg.P 1 (lb P_spec_foGood 0) (spec_foGood_L0a (0 : Int) a0 ((List.length a0 : Nat) : Int) (0 : Int)) (.exit 0) (spec_foGood_L0X2 k1y3 k1y23 k1y24 k1y25 k1y26))
    (h7 : ¬ (k1y3 ≤ (8 : Int))) :
    SC cfg.P i_spec_foGood [.s (.v (.sl .str) a0)] (.s (.v .bool false)) [] :=
  SC_of_run cfgOK (its := [.bool false, .bool true, .res (.s (.v .bool false)) [] [] [], .loop (fun _ => (.exit 0, spec_foGood_L0X2 k1y3 k1y23 k1y24 k1y25 k1y26)), .bool false])
    (ps := [decide (((List.length a0 : Nat) : Int) > (8 : Int)) = false,
      decide (((List.length a0 : Nat) : Int) > (0 : Int)) = true,
      0 ≤ (IntKind.wrap .i64 (((List.length a0 : Nat) : Int) - (1 : Int))),
      (IntKind.wrap .i64 (((List.length a0 : Nat) : Int) - (1 : Int))) < (List.length a0 : Int),
      SC cfg.P i_spec_trLeaf [.s (.v .str (List.getD a0 ((IntKind.wrap .i64 (((List.length a0 : Nat) : Int) - (1 : Int)))).toNat (⟨#[]⟩ : ByteArray)))] (.s (.v .bool false)) [],
      LoopSC cfg.P 1 (lb P_spec_foGood 0) (spec_foGood_L0a (0 : Int) a0 ((List.length a0 : Nat) : Int) (0 : Int)) (.exit 0) (spec_foGood_L0X2 k1y3 k1y23 k1y24 k1y25 k1y26),
      decide (k1y3 ≤ (8 : Int)) = false]) (by kernel_rfl) ⟨(decide_eq_false h1), (decide_eq_true h2), h3, h4, h5, h6, (decide_eq_false h7), trivial⟩ get_spec_foGood (by decide)

theorem spec_foGood_p6 (a0 : (List ByteArray)) (k1y2 : Bool)
    (h1 : ¬ (((List.length a0 : Nat) : Int) > (8 : Int)))
    (h2 : ¬ (((List.length a0 : Nat) : Int) > (0 : Int)))
    (h3 : LoopSC cfg.P 1 (lb P_spec_foGood 0) (spec_foGood_L0a (0 : Int) a0 ((List.length a0 : Nat) : Int) (0 : Int)) (.ret) (spec_foGood_L0X1 k1y2)) :
    SC cfg.P i_spec_foGood [.s (.v (.sl .str) a0)] (.s (.v .bool k1y2)) [] :=
  SC_of_run cfgOK (its := [.bool false, .bool false, .loop (fun _ => (.ret, spec_foGood_L0X1 k1y2))])
    (ps := [decide (((List.length a0 : Nat) : Int) > (8 : Int)) = false,
      decide (((List.length a0 : Nat) : Int) > (0 : Int)) = false,
      LoopSC cfg.P 1 (lb P_spec_foGood 0) (spec_foGood_L0a (0 : Int) a0 ((List.length a0 : Nat) : Int) (0 : Int)) (.ret) (spec_foGood_L0X1 k1y2)]) (by kernel_rfl) ⟨(decide_eq_false h1), (decide_eq_false h2), h3, trivial⟩ get_spec_foGood (by decide)

theorem spec_foGood_p7 (a0 : (List ByteArray)) (k1y3 : Int) (k1y23 : (List ByteArray)) (k1y24 : Int) (k1y25 : Int) (k1y26 : Bool)
    (h1 : ¬ (((List.length a0 : Nat) : Int) > (8 : Int)))
    (h2 : ¬ (((List.length a0 : Nat) : Int) > (0 : Int)))
    (h3 : LoopSC cfg.P 1 (lb P_spec_foGood 0) (spec_foGood_L0a (0 : Int) a0 ((List.length a0 : Nat) : Int) (0 : Int)) (.exit 0) (spec_foGood_L0X2 k1y3 k1y23 k1y24 k1y25 k1y26))
    (h4 : k1y3 ≤ (8 : Int)) :
    SC cfg.P i_spec_foGood [.s (.v (.sl .str) a0)] (.s (.v .bool true)) [] :=
  SC_of_run cfgOK (its := [.bool false, .bool false, .loop (fun _ => (.exit 0, spec_foGood_L0X2 k1y3 k1y23 k1y24 k1y25 k1y26)), .bool true])
    (ps := [decide (((List.length a0 : Nat) : Int) > (8 : Int)) = false,
      decide (((List.length a0 : Nat) : Int) > (0 : Int)) = false,
      LoopSC cfg.P 1 (lb P_spec_foGood 0) (spec_foGood_L0a (0 : Int) a0 ((List.length a0 : Nat) : Int) (0 : Int)) (.exit 0) (spec_foGood_L0X2 k1y3 k1y23 k1y24 k1y25 k1y26),
      decide (k1y3 ≤ (8 : Int)) = true]) (by kernel_rfl) ⟨(decide_eq_false h1), (decide_eq_false h2), h3, (decide_eq_true h4), trivial⟩ get_spec_foGood (by decide)

theorem spec_foGood_p8 (a0 : (List ByteArray)) (k1y3 : Int) (k1y23 : (List ByteArray)) (k1y24 : Int) (k1y25 : Int) (k1y26 : Bool)
    (h1 : ¬ (((List.length a0 : Nat) : Int) > (8 : Int)))
    (h2 : ¬ (((List.length a0 : Nat) : Int) > (0 : Int)))
    (h3 : LoopSC cfg.P 1 (lb P_spec_foGood 0) (spec_foGood_L0a (0 : Int) a0 ((List.length a0 : Nat) : Int) (0 : Int)) (.exit 0) (spec_foGood_L0X2 k1y3 k1y23 k1y24 k1y25 k1y26))
    (h4 : ¬ (k1y3 ≤ (8 : Int))) :
    SC cfg.P i_spec_foGood [.s (.v (.sl .str) a0)] (.s (.v .bool false)) [] :=
  SC_of_run cfgOK (its := [.bool false, .bool false, .loop (fun _ => (.exit 0, spec_foGood_L0X2 k1y3 k1y23 k1y24 k1y25 k1y26)), .bool false])
    (ps := [decide (((List.length a0 : Nat) : Int) > (8 : Int)) = false,
      decide (((List.length a0 : Nat) : Int) > (0 : Int)) = false,
      LoopSC cfg.P 1 (lb P_spec_foGood 0) (spec_foGood_L0a (0 : Int) a0 ((List.length a0 : Nat) : Int) (0 : Int)) (.exit 0) (spec_foGood_L0X2 k1y3 k1y23 k1y24 k1y25 k1y26),
      decide (k1y3 ≤ (8 : Int)) = false]) (by kernel_rfl) ⟨(decide_eq_false h1), (decide_eq_false h2), h3, (decide_eq_false h4), trivial⟩ get_spec_foGood (by decide)

/-! ### impl_IsForest -/


theorem impl_IsForest_p1 (a0 : (List ByteArray)) (c1a : (List Tr)) (c1b : Bool)
    (h1 : SC cfg.P i_impl_forestOf [.s (.v (.sl .str) a0)] (.tup [.v (.sl .tree) c1a, .v .bool c1b]) []) :
    SC cfg.P i_impl_IsForest [.s (.v (.sl .str) a0)] (.s (.v .bool c1b)) [] :=
  SC_of_run cfgOK (its := [.res (.tup [.v (.sl .tree) c1a, .v .bool c1b]) [] [] []])
    (ps := [SC cfg.P i_impl_forestOf [.s (.v (.sl .str) a0)] (.tup [.v (.sl .tree) c1a, .v .bool c1b]) []]) (by kernel_rfl) ⟨h1, trivial⟩ get_impl_IsForest (by decide)

/-! ### impl_forestOf -/


def impl_forestOf_L0a (x12 : (List ByteArray)) (x13 : Int) (x14 : Int) (xo4 : (List Tr)) : St := mkSt 42 [(4, .s (.osl 4 0)), (12, .s (.v (.sl .str) x12)), (13, .s (.v (.int .i64) x13)), (14, .s (.v (.int .i64) x14))] [(4, .row t_pimpl_node .tree xo4 0 false)]

def impl_forestOf_L0X1 (y3 : Bool) (yo2 : (List Tr)) : St := mkSt 42 [(2, .s (.osl 2 0)), (3, .s (.v .bool y3))] [(2, .row t_pimpl_node .tree yo2 0 false)]

def impl_forestOf_L0X2 (y12 : (List ByteArray)) (y13 : Int) (y14 : Int) (y15 : Bool) (yo4 : (List Tr)) : St := mkSt 42 [(4, .s (.osl 4 0)), (12, .s (.v (.sl .str) y12)), (13, .s (.v (.int .i64) y13)), (14, .s (.v (.int .i64) y14)), (15, .s (.v .bool y15))] [(4, .row t_pimpl_node .tree yo4 0 false)]

theorem impl_forestOf_L0a_i1 (x12 : (List ByteArray)) (x13 : Int) (x14 : Int) (xo4 : (List Tr)) (dc1a : Tr)
    (h1 : x14 < x13)
    (h2 : 0 ≤ x14)
    (h3 : x14 < (List.length x12 : Int))
    (h4 : SC cfg.P i_impl_parse [.s (.v .str (List.getD x12 (x14).toNat (⟨#[]⟩ : ByteArray)))] (.tup [.v .tree dc1a, .v .bool true]) [])
    (h5 : sizeOK (List.length xo4 + List.length ([dc1a] : List Tr)))
    {e : AEx} {st : St} (next : LoopSC cfg.P 1 (lb P_impl_forestOf 0) (impl_forestOf_L0a x12 x13 (IntKind.wrap .i64 (x14 + (1 : Int))) (xo4 ++ ([dc1a] : List Tr))) e st) :
    LoopSC cfg.P 1 (lb P_impl_forestOf 0) (impl_forestOf_L0a x12 x13 x14 xo4) e st :=
  loop_iter cfgOK (f := i_impl_forestOf) (its := [.bool true, .res (.tup [.v .tree dc1a, .v .bool true]) [] [] []])
    (ps := [decide (x14 < x13) = true,
      0 ≤ x14,
      x14 < (List.length x12 : Int),
      SC cfg.P i_impl_parse [.s (.v .str (List.getD x12 (x14).toNat (⟨#[]⟩ : ByteArray)))] (.tup [.v .tree dc1a, .v .bool true]) [],
      sizeOK (List.length xo4 + List.length ([dc1a] : List Tr))]) (st1 := impl_forestOf_L0a x12 x13 (IntKind.wrap .i64 (x14 + (1 : Int))) (xo4 ++ ([dc1a] : List Tr))) (by kernel_rfl) ⟨(decide_eq_true h1), h2, h3, h4, h5, trivial⟩ next

theorem impl_forestOf_L0a_x2 (x12 : (List ByteArray)) (x13 : Int) (x14 : Int) (xo4 : (List Tr)) (dc1a : Tr)
    (h1 : x14 < x13)
    (h2 : 0 ≤ x14)
    (h3 : x14 < (List.length x12 : Int))
    (h4 : SC cfg.P i_impl_parse [.s (.v .str (List.getD x12 (x14).toNat (⟨#[]⟩ : ByteArray)))] (.tup [.v .tree dc1a, .v .bool false]) []) :
    LoopSC cfg.P 1 (lb P_impl_forestOf 0) (impl_forestOf_L0a x12 x13 x14 xo4) (.ret) (impl_forestOf_L0X1 false ([] : List Tr)) :=
  loop_out cfgOK (f := i_impl_forestOf) (its := [.bool true, .res (.tup [.v .tree dc1a, .v .bool false]) [] [] []])
    (ps := [decide (x14 < x13) = true,
      0 ≤ x14,
      x14 < (List.length x12 : Int),
      SC cfg.P i_impl_parse [.s (.v .str (List.getD x12 (x14).toNat (⟨#[]⟩ : ByteArray)))] (.tup [.v .tree dc1a, .v .bool false]) []]) (by kernel_rfl) ⟨(decide_eq_true h1), h2, h3, h4, trivial⟩ (fun h => by cases h)

theorem impl_forestOf_L0a_x3 (x12 : (List ByteArray)) (x13 : Int) (x14 : Int) (xo4 : (List Tr))
    (h1 : ¬ (x14 < x13)) :
    LoopSC cfg.P 1 (lb P_impl_forestOf 0) (impl_forestOf_L0a x12 x13 x14 xo4) (.exit 0) (impl_forestOf_L0X2 x12 x13 x14 false xo4) :=
  loop_out cfgOK (f := i_impl_forestOf) (its := [.bool false])
    (ps := [decide (x14 < x13) = false]) (by kernel_rfl) ⟨(decide_eq_false h1), trivial⟩ (fun h => by cases h)

theorem impl_forestOf_p1 (a0 : (List ByteArray))
    (h1 : ((List.length a0 : Nat) : Int) > (8 : Int)) :
    SC cfg.P i_impl_forestOf [.s (.v (.sl .str) a0)] (.tup [.own t_pimpl_node .tree ([] : List Tr), .v .bool false]) [] :=
  SC_of_run cfgOK (its := [.bool true])
    (ps := [decide (((List.length a0 : Nat) : Int) > (8 : Int)) = true]) (by kernel_rfl) ⟨(decide_eq_true h1), trivial⟩ get_impl_forestOf (by decide)

theorem impl_forestOf_p2 (a0 : (List ByteArray)) (k1y3 : Bool) (k1yo2 : (List Tr))
    (h1 : ¬ (((List.length a0 : Nat) : Int) > (8 : Int)))
    (h2 : LoopSC cfg.P 1 (lb P_impl_forestOf 0) (impl_forestOf_L0a a0 ((List.length a0 : Nat) : Int) (0 : Int) ([] : List Tr)) (.ret) (impl_forestOf_L0X1 k1y3 k1yo2)) :
    SC cfg.P i_impl_forestOf [.s (.v (.sl .str) a0)] (.tup [.own t_pimpl_node .tree k1yo2, .v .bool k1y3]) [] :=
  SC_of_run cfgOK (its := [.bool false, .loop (fun _ => (.ret, impl_forestOf_L0X1 k1y3 k1yo2))])
    (ps := [decide (((List.length a0 : Nat) : Int) > (8 : Int)) = false,
      LoopSC cfg.P 1 (lb P_impl_forestOf 0) (impl_forestOf_L0a a0 ((List.length a0 : Nat) : Int) (0 : Int) ([] : List Tr)) (.ret) (impl_forestOf_L0X1 k1y3 k1yo2)]) (by kernel_rfl) ⟨(decide_eq_false h1), h2, trivial⟩ get_impl_forestOf (by decide)

theorem impl_forestOf_p3 (a0 : (List ByteArray)) (k1y12 : (List ByteArray)) (k1y13 : Int) (k1y14 : Int) (k1y15 : Bool) (k1yo4 : (List Tr)) (c1 : Int) (c2 : (List Tr))
    (h1 : ¬ (((List.length a0 : Nat) : Int) > (8 : Int)))
    (h2 : LoopSC cfg.P 1 (lb P_impl_forestOf 0) (impl_forestOf_L0a a0 ((List.length a0 : Nat) : Int) (0 : Int) ([] : List Tr)) (.exit 0) (impl_forestOf_L0X2 k1y12 k1y13 k1y14 k1y15 k1yo4))
    (h3 : SC cfg.P i_impl_forest_carets [.s (.v (.sl .tree) k1yo4)] (.s (.v (.int .i64) c1)) [])
    (h4 : c1 ≤ (8 : Int))
    (h5 : SC cfg.P i_impl_forest_trimmed [.s (.v (.sl .tree) k1yo4)] (.s (.v (.sl .tree) c2)) [])
    (h6 : ((List.length c2 : Nat) : Int) = ((List.length k1yo4 : Nat) : Int)) :
    SC cfg.P i_impl_forestOf [.s (.v (.sl .str) a0)] (.tup [.v (.sl .tree) k1yo4, .v .bool true]) [] :=
  SC_of_run cfgOK (its := [.bool false, .loop (fun _ => (.exit 0, impl_forestOf_L0X2 k1y12 k1y13 k1y14 k1y15 k1yo4)), .res (.s (.v (.int .i64) c1)) [] [] [], .bool true, .res (.s (.v (.sl .tree) c2)) [] [] [], .bool true])
    (ps := [decide (((List.length a0 : Nat) : Int) > (8 : Int)) = false,
      LoopSC cfg.P 1 (lb P_impl_forestOf 0) (impl_forestOf_L0a a0 ((List.length a0 : Nat) : Int) (0 : Int) ([] : List Tr)) (.exit 0) (impl_forestOf_L0X2 k1y12 k1y13 k1y14 k1y15 k1yo4),
      SC cfg.P i_impl_forest_carets [.s (.v (.sl .tree) k1yo4)] (.s (.v (.int .i64) c1)) [],
      decide (c1 ≤ (8 : Int)) = true,
      SC cfg.P i_impl_forest_trimmed [.s (.v (.sl .tree) k1yo4)] (.s (.v (.sl .tree) c2)) [],
      (((List.length c2 : Nat) : Int) == ((List.length k1yo4 : Nat) : Int)) = true]) (by kernel_rfl) ⟨(decide_eq_false h1), h2, h3, (decide_eq_true h4), h5, (beq_t h6), trivial⟩ get_impl_forestOf (by decide)

theorem impl_forestOf_p4 (a0 : (List ByteArray)) (k1y12 : (List ByteArray)) (k1y13 : Int) (k1y14 : Int) (k1y15 : Bool) (k1yo4 : (List Tr)) (c1 : Int) (c2 : (List Tr))
    (h1 : ¬ (((List.length a0 : Nat) : Int) > (8 : Int)))
    (h2 : LoopSC cfg.P 1 (lb P_impl_forestOf 0) (impl_forestOf_L0a a0 ((List.length a0 : Nat) : Int) (0 : Int) ([] : List Tr)) (.exit 0) (impl_forestOf_L0X2 k1y12 k1y13 k1y14 k1y15 k1yo4))
    (h3 : SC cfg.P i_impl_forest_carets [.s (.v (.sl .tree) k1yo4)] (.s (.v (.int .i64) c1)) [])
    (h4 : c1 ≤ (8 : Int))
    (h5 : SC cfg.P i_impl_forest_trimmed [.s (.v (.sl .tree) k1yo4)] (.s (.v (.sl .tree) c2)) [])
    (h6 : ((List.length c2 : Nat) : Int) ≠ ((List.length k1yo4 : Nat) : Int)) :
    SC cfg.P i_impl_forestOf [.s (.v (.sl .str) a0)] (.tup [.v (.sl .tree) k1yo4, .v .bool false]) [] :=
  SC_of_run cfgOK (its := [.bool false, .loop (fun _ => (.exit 0, impl_forestOf_L0X2 k1y12 k1y13 k1y14 k1y15 k1yo4)), .res (.s (.v (.int .i64) c1)) [] [] [], .bool true, .res (.s (.v (.sl .tree) c2)) [] [] [], .bool false])
    (ps := [decide (((List.length a0 : Nat) : Int) > (8 : Int)) = false,
      LoopSC cfg.P 1 (lb P_impl_forestOf 0) (impl_forestOf_L0a a0 ((List.length a0 : Nat) : Int) (0 : Int) ([] : List Tr)) (.exit 0) (impl_forestOf_L0X2 k1y12 k1y13 k1y14 k1y15 k1yo4),
      SC cfg.P i_impl_forest_carets [.s (.v (.sl .tree) k1yo4)] (.s (.v (.int .i64) c1)) [],
      decide (c1 ≤ (8 : Int)) = true,
      SC cfg.P i_impl_forest_trimmed [.s (.v (.sl .tree) k1yo4)] (.s (.v (.sl .tree) c2)) [],
      (((List.length c2 : Nat) : Int) == ((List.length k1yo4 : Nat) : Int)) = false]) (by kernel_rfl) ⟨(decide_eq_false h1), h2, h3, (decide_eq_true h4), h5, (beq_f h6), trivial⟩ get_impl_forestOf (by decide)

theorem impl_forestOf_p5 (a0 : (List ByteArray)) (k1y12 : (List ByteArray)) (k1y13 : Int) (k1y14 : Int) (k1y15 : Bool) (k1yo4 : (List Tr)) (c1 : Int)
    (h1 : ¬ (((List.length a0 : Nat) : Int) > (8 : Int)))
    (h2 : LoopSC cfg.P 1 (lb P_impl_forestOf 0) (impl_forestOf_L0a a0 ((List.length a0 : Nat) : Int) (0 : Int) ([] : List Tr)) (.exit 0) (impl_forestOf_L0X2 k1y12 k1y13 k1y14 k1y15 k1yo4))
    (h3 : SC cfg.P i_impl_forest_carets [.s (.v (.sl .tree) k1yo4)] (.s (.v (.int .i64) c1)) [])
    (h4 : ¬ (c1 ≤ (8 : Int))) :
    SC cfg.P i_impl_forestOf [.s (.v (.sl .str) a0)] (.tup [.own t_pimpl_node .tree k1yo4, .v .bool false]) [] :=
  SC_of_run cfgOK (its := [.bool false, .loop (fun _ => (.exit 0, impl_forestOf_L0X2 k1y12 k1y13 k1y14 k1y15 k1yo4)), .res (.s (.v (.int .i64) c1)) [] [] [], .bool false])
    (ps := [decide (((List.length a0 : Nat) : Int) > (8 : Int)) = false,
      LoopSC cfg.P 1 (lb P_impl_forestOf 0) (impl_forestOf_L0a a0 ((List.length a0 : Nat) : Int) (0 : Int) ([] : List Tr)) (.exit 0) (impl_forestOf_L0X2 k1y12 k1y13 k1y14 k1y15 k1yo4),
      SC cfg.P i_impl_forest_carets [.s (.v (.sl .tree) k1yo4)] (.s (.v (.int .i64) c1)) [],
      decide (c1 ≤ (8 : Int)) = false]) (by kernel_rfl) ⟨(decide_eq_false h1), h2, h3, (decide_eq_false h4), trivial⟩ get_impl_forestOf (by decide)

/-! ### impl_forest_carets -/


def impl_forest_carets_L0a (x3 : Int) (x6 : (List Tr)) (x7 : Int) (x8 : Int) : St := mkSt 18 [(3, .s (.v (.int .i64) x3)), (6, .s (.v (.sl .tree) x6)), (7, .s (.v (.int .i64) x7)), (8, .s (.v (.int .i64) x8))] []

def impl_forest_carets_L0X1 (y3 : Int) (y6 : (List Tr)) (y7 : Int) (y8 : Int) (y9 : Bool) : St := mkSt 18 [(3, .s (.v (.int .i64) y3)), (6, .s (.v (.sl .tree) y6)), (7, .s (.v (.int .i64) y7)), (8, .s (.v (.int .i64) y8)), (9, .s (.v .bool y9))] []

theorem impl_forest_carets_L0a_i1 (x3 : Int) (x6 : (List Tr)) (x7 : Int) (x8 : Int) (dc1 : Int)
    (h1 : x8 < x7)
    (h2 : 0 ≤ x8)
    (h3 : x8 < (List.length x6 : Int))
    (h4 : SC cfg.P i_impl_node_carets [.s (.v .tree (List.getD x6 (x8).toNat Tr.leaf))] (.s (.v (.int .i64) dc1)) [])
    {e : AEx} {st : St} (next : LoopSC cfg.P 1 (lb P_impl_forest_carets 0) (impl_forest_carets_L0a (IntKind.wrap .i64 (x3 + dc1)) x6 x7 (IntKind.wrap .i64 (x8 + (1 : Int)))) e st) :
    LoopSC cfg.P 1 (lb P_impl_forest_carets 0) (impl_forest_carets_L0a x3 x6 x7 x8) e st :=
  loop_iter cfgOK (f := i_impl_forest_carets) (its := [.bool true, .res (.s (.v (.int .i64) dc1)) [] [] []])
    (ps := [decide (x8 < x7) = true,
      0 ≤ x8,
      x8 < (List.length x6 : Int),
      SC cfg.P i_impl_node_carets [.s (.v .tree (List.getD x6 (x8).toNat Tr.leaf))] (.s (.v (.int .i64) dc1)) []]) (st1 := impl_forest_carets_L0a (IntKind.wrap .i64 (x3 + dc1)) x6 x7 (IntKind.wrap .i64 (x8 + (1 : Int)))) (by kernel_rfl) ⟨(decide_eq_true h1), h2, h3, h4, trivial⟩ next

theorem impl_forest_carets_L0a_x2 (x3 : Int) (x6 : (List Tr)) (x7 : Int) (x8 : Int)
    (h1 : ¬ (x8 < x7)) :
    LoopSC cfg.P 1 (lb P_impl_forest_carets 0) (impl_forest_carets_L0a x3 x6 x7 x8) (.exit 0) (impl_forest_carets_L0X1 x3 x6 x7 x8 false) :=
  loop_out cfgOK (f := i_impl_forest_carets) (its := [.bool false])
    (ps := [decide (x8 < x7) = false]) (by kernel_rfl) ⟨(decide_eq_false h1), trivial⟩ (fun h => by cases h)

theorem impl_forest_carets_p1 (a0 : (List Tr)) (k1y3 : Int) (k1y6 : (List Tr)) (k1y7 : Int) (k1y8 : Int) (k1y9 : Bool)
    (h1 : LoopSC cfg.P 1 (lb P_impl_forest_carets 0) (impl_forest_carets_L0a (0 : Int) a0 ((List.length a0 : Nat) : Int) (0 : Int)) (.exit 0) (impl_forest_carets_L0X1 k1y3 k1y6 k1y7 k1y8 k1y9)) :
    SC cfg.P i_impl_forest_carets [.s (.v (.sl .tree) a0)] (.s (.v (.int .i64) k1y3)) [] :=
  SC_of_run cfgOK (its := [.loop (fun _ => (.exit 0, impl_forest_carets_L0X1 k1y3 k1y6 k1y7 k1y8 k1y9))])
    (ps := [LoopSC cfg.P 1 (lb P_impl_forest_carets 0) (impl_forest_carets_L0a (0 : Int) a0 ((List.length a0 : Nat) : Int) (0 : Int)) (.exit 0) (impl_forest_carets_L0X1 k1y3 k1y6 k1y7 k1y8 k1y9)]) (by kernel_rfl) ⟨h1, trivial⟩ get_impl_forest_carets (by decide)

/-! ### impl_forest_trimmed -/


def impl_forest_trimmed_L0a (x0 : (List Tr)) : St := mkSt 21 [(0, .s (.v (.sl .tree) x0))] []

def impl_forest_trimmed_L0X1 (y0 : (List Tr)) (y14 : Bool) : St := mkSt 21 [(0, .s (.v (.sl .tree) y0)), (14, .s (.v .bool y14))] []

theorem impl_forest_trimmed_L0a_i1 (x0 : (List Tr))
    (h1 : ((List.length x0 : Nat) : Int) > (0 : Int))
    (h2 : 0 ≤ (IntKind.wrap .i64 (((List.length x0 : Nat) : Int) - (1 : Int))))
    (h3 : (IntKind.wrap .i64 (((List.length x0 : Nat) : Int) - (1 : Int))) < (List.length x0 : Int))
    (h4 : ((List.getD x0 ((IntKind.wrap .i64 (((List.length x0 : Nat) : Int) - (1 : Int)))).toNat Tr.leaf)).isLeaf = true)
    (h5 : (IntKind.wrap .i64 (((List.length x0 : Nat) : Int) - (1 : Int))) ≤ (List.length x0 : Int))
    {e : AEx} {st : St} (next : LoopSC cfg.P 1 (lb P_impl_forest_trimmed 0) (impl_forest_trimmed_L0a (cutL x0 (0 : Int) (IntKind.wrap .i64 (((List.length x0 : Nat) : Int) - (1 : Int))))) e st) :
    LoopSC cfg.P 1 (lb P_impl_forest_trimmed 0) (impl_forest_trimmed_L0a x0) e st :=
  loop_iter cfgOK (f := i_impl_forest_trimmed) (its := [.bool true, .bool true])
    (ps := [decide (((List.length x0 : Nat) : Int) > (0 : Int)) = true,
      0 ≤ (IntKind.wrap .i64 (((List.length x0 : Nat) : Int) - (1 : Int))),
      (IntKind.wrap .i64 (((List.length x0 : Nat) : Int) - (1 : Int))) < (List.length x0 : Int),
      ((List.getD x0 ((IntKind.wrap .i64 (((List.length x0 : Nat) : Int) - (1 : Int)))).toNat Tr.leaf)).isLeaf = true,
      0 ≤ (IntKind.wrap .i64 (((List.length x0 : Nat) : Int) - (1 : Int))),
      (IntKind.wrap .i64 (((List.length x0 : Nat) : Int) - (1 : Int))) ≤ (List.length x0 : Int)]) (st1 := impl_forest_trimmed_L0a (cutL x0 (0 : Int) (IntKind.wrap .i64 (((List.length x0 : Nat) : Int) - (1 : Int))))) (by kernel_rfl) ⟨(decide_eq_true h1), h2, h3, h4, h2, h5, trivial⟩ next

theorem impl_forest_trimmed_L0a_x2 (x0 : (List Tr))
    (h1 : ((List.length x0 : Nat) : Int) > (0 : Int))
    (h2 : 0 ≤ (IntKind.wrap .i64 (((List.length x0 : Nat) : Int) - (1 : Int))))
    (h3 : (IntKind.wrap .i64 (((List.length x0 : Nat) : Int) - (1 : Int))) < (List.length x0 : Int))
    (h4 : ((List.getD x0 ((IntKind.wrap .i64 (((List.length x0 : Nat) : Int) - (1 : Int)))).toNat Tr.leaf)).isLeaf = false) :
    LoopSC cfg.P 1 (lb P_impl_forest_trimmed 0) (impl_forest_trimmed_L0a x0) (.exit 0) (impl_forest_trimmed_L0X1 x0 false) :=
  loop_out cfgOK (f := i_impl_forest_trimmed) (its := [.bool true, .bool false])
    (ps := [decide (((List.length x0 : Nat) : Int) > (0 : Int)) = true,
      0 ≤ (IntKind.wrap .i64 (((List.length x0 : Nat) : Int) - (1 : Int))),
      (IntKind.wrap .i64 (((List.length x0 : Nat) : Int) - (1 : Int))) < (List.length x0 : Int),
      ((List.getD x0 ((IntKind.wrap .i64 (((List.length x0 : Nat) : Int) - (1 : Int)))).toNat Tr.leaf)).isLeaf = false]) (by kernel_rfl) ⟨(decide_eq_true h1), h2, h3, h4, trivial⟩ (fun h => by cases h)

theorem impl_forest_trimmed_L0a_x3 (x0 : (List Tr))
    (h1 : ¬ (((List.length x0 : Nat) : Int) > (0 : Int))) :
    LoopSC cfg.P 1 (lb P_impl_forest_trimmed 0) (impl_forest_trimmed_L0a x0) (.exit 0) (impl_forest_trimmed_L0X1 x0 false) :=
  loop_out cfgOK (f := i_impl_forest_trimmed) (its := [.bool false])
    (ps := [decide (((List.length x0 : Nat) : Int) > (0 : Int)) = false]) (by kernel_rfl) ⟨(decide_eq_false h1), trivial⟩ (fun h => by cases h)

theorem impl_forest_trimmed_p1 (a0 : (List Tr)) (k1y0 : (List Tr)) (k1y14 : Bool)
    (h1 : LoopSC cfg.P 1 (lb P_impl_forest_trimmed 0) (impl_forest_trimmed_L0a a0) (.exit 0) (impl_forest_trimmed_L0X1 k1y0 k1y14)) :
    SC cfg.P i_impl_forest_trimmed [.s (.v (.sl .tree) a0)] (.s (.v (.sl .tree) k1y0)) [] :=
  SC_of_run cfgOK (its := [.loop (fun _ => (.exit 0, impl_forest_trimmed_L0X1 k1y0 k1y14))])
    (ps := [LoopSC cfg.P 1 (lb P_impl_forest_trimmed 0) (impl_forest_trimmed_L0a a0) (.exit 0) (impl_forest_trimmed_L0X1 k1y0 k1y14)]) (by kernel_rfl) ⟨h1, trivial⟩ get_impl_forest_trimmed (by decide)

end Go.AI
