/- A part of the road: what it proves stands in its last texts. -/
import Derived.Test.YtnnbjnmkkfakdaaSIds
import Derived.Test.YtnnbjnmkkfakdaaProg
set_option autoImplicit false
set_option maxRecDepth 100000
set_option linter.unusedVariables false
namespace Go.AI
open Go.Proofs

/-! ### laws_szStringS -/


def laws_szStringS_L0a (x0 : (List ByteArray)) (x1 : Int) (x5 : Int) : St := mkSt 28 [(0, .s (.v (.sl .str) x0)), (1, .s (.v (.int .i64) x1)), (5, .s (.v (.int .i64) x5))] []

def laws_szStringS_L0X1 (y4 : Int) : St := mkSt 28 [(4, .s (.v (.int .i64) y4))] []

def laws_szStringS_L0X2 (y0 : (List ByteArray)) (y1 : Int) (y5 : Int) (y15 : Bool) : St := mkSt 28 [(0, .s (.v (.sl .str) y0)), (1, .s (.v (.int .i64) y1)), (5, .s (.v (.int .i64) y5)), (15, .s (.v .bool y15))] []

theorem laws_szStringS_L0a_x1 (x0 : (List ByteArray)) (x1 : Int) (x5 : Int)
    (h1 : x5 < ((List.length x0 : Nat) : Int))
    (h2 : 0 ≤ x5)
    (h3 : x5 < (List.length x0 : Int))
    (h4 : (IntKind.wrap .i64 (x1 - (((List.getD x0 (x5).toNat (⟨#[]⟩ : ByteArray))).size : Int))) < (0 : Int)) :
    LoopSC cfg.P 2 (lb P_laws_szStringS 0) (laws_szStringS_L0a x0 x1 x5) (.ret) (laws_szStringS_L0X1 (-1 : Int)) :=
  loop_out cfgOK (f := i_laws_szStringS) (its := [.bool true, .bool true])
    (ps := [decide (x5 < ((List.length x0 : Nat) : Int)) = true,
      0 ≤ x5,
      x5 < (List.length x0 : Int),
      decide ((IntKind.wrap .i64 (x1 - (((List.getD x0 (x5).toNat (⟨#[]⟩ : ByteArray))).size : Int))) < (0 : Int)) = true]) (by kernel_rfl) ⟨(decide_eq_true h1), h2, h3, (decide_eq_true h4), trivial⟩ (fun h => by cases h)

theorem laws_szStringS_L0a_i2 (x0 : (List ByteArray)) (x1 : Int) (x5 : Int)
    (h1 : x5 < ((List.length x0 : Nat) : Int))
    (h2 : 0 ≤ x5)
    (h3 : x5 < (List.length x0 : Int))
    (h4 : ¬ ((IntKind.wrap .i64 (x1 - (((List.getD x0 (x5).toNat (⟨#[]⟩ : ByteArray))).size : Int))) < (0 : Int)))
    {e : AEx} {st : St} (next : LoopSC cfg.P 2 (lb P_laws_szStringS 0) (laws_szStringS_L0a x0 (IntKind.wrap .i64 (x1 - (((List.getD x0 (x5).toNat (⟨#[]⟩ : ByteArray))).size : Int))) (IntKind.wrap .i64 (x5 + (1 : Int)))) e st) :
    LoopSC cfg.P 2 (lb P_laws_szStringS 0) (laws_szStringS_L0a x0 x1 x5) e st :=
  loop_iter cfgOK (f := i_laws_szStringS) (its := [.bool true, .bool false])
    (ps := [decide (x5 < ((List.length x0 : Nat) : Int)) = true,
      0 ≤ x5,
      x5 < (List.length x0 : Int),
      decide ((IntKind.wrap .i64 (x1 - (((List.getD x0 (x5).toNat (⟨#[]⟩ : ByteArray))).size : Int))) < (0 : Int)) = false]) (st1 := laws_szStringS_L0a x0 (IntKind.wrap .i64 (x1 - (((List.getD x0 (x5).toNat (⟨#[]⟩ : ByteArray))).size : Int))) (IntKind.wrap .i64 (x5 + (1 : Int)))) (by kernel_rfl) ⟨(decide_eq_true h1), h2, h3, (decide_eq_false h4), trivial⟩ next

theorem laws_szStringS_L0a_x3 (x0 : (List ByteArray)) (x1 : Int) (x5 : Int)
    (h1 : ¬ (x5 < ((List.length x0 : Nat) : Int))) :
    LoopSC cfg.P 2 (lb P_laws_szStringS 0) (laws_szStringS_L0a x0 x1 x5) (.exit 0) (laws_szStringS_L0X2 x0 x1 x5 false) :=
  loop_out cfgOK (f := i_laws_szStringS) (its := [.bool false])
    (ps := [decide (x5 < ((List.length x0 : Nat) : Int)) = false]) (by kernel_rfl) ⟨(decide_eq_false h1), trivial⟩ (fun h => by cases h)

theorem laws_szStringS_p1 (a0 : (List ByteArray)) (a1 : Int)
    (h1 : (IntKind.wrap .i64 (a1 - ((List.length a0 : Nat) : Int))) < (0 : Int)) :
    SC cfg.P i_laws_szStringS [.s (.v (.sl .str) a0), .s (.v (.int .i64) a1)] (.s (.v (.int .i64) (-1 : Int))) [] :=
  SC_of_run cfgOK (its := [.bool true])
    (ps := [decide ((IntKind.wrap .i64 (a1 - ((List.length a0 : Nat) : Int))) < (0 : Int)) = true]) (by kernel_rfl) ⟨(decide_eq_true h1), trivial⟩ get_laws_szStringS (by decide)

theorem laws_szStringS_p2 (a0 : (List ByteArray)) (a1 : Int) (k1y4 : Int)
    (h1 : ¬ ((IntKind.wrap .i64 (a1 - ((List.length a0 : Nat) : Int))) < (0 : Int)))
    (h2 : LoopSC cfg.P 2 (lb P_laws_szStringS 0) (laws_szStringS_L0a a0 (IntKind.wrap .i64 (a1 - ((List.length a0 : Nat) : Int))) (0 : Int)) (.ret) (laws_szStringS_L0X1 k1y4)) :
    SC cfg.P i_laws_szStringS [.s (.v (.sl .str) a0), .s (.v (.int .i64) a1)] (.s (.v (.int .i64) k1y4)) [] :=
  SC_of_run cfgOK (its := [.bool false, .loop (fun _ => (.ret, laws_szStringS_L0X1 k1y4))])
    (ps := [decide ((IntKind.wrap .i64 (a1 - ((List.length a0 : Nat) : Int))) < (0 : Int)) = false,
      LoopSC cfg.P 2 (lb P_laws_szStringS 0) (laws_szStringS_L0a a0 (IntKind.wrap .i64 (a1 - ((List.length a0 : Nat) : Int))) (0 : Int)) (.ret) (laws_szStringS_L0X1 k1y4)]) (by kernel_rfl) ⟨(decide_eq_false h1), h2, trivial⟩ get_laws_szStringS (by decide)

theorem laws_szStringS_p3 (a0 : (List ByteArray)) (a1 : Int) (k1y0 : (List ByteArray)) (k1y1 : Int) (k1y5 : Int) (k1y15 : Bool)
    (h1 : ¬ ((IntKind.wrap .i64 (a1 - ((List.length a0 : Nat) : Int))) < (0 : Int)))
    (h2 : LoopSC cfg.P 2 (lb P_laws_szStringS 0) (laws_szStringS_L0a a0 (IntKind.wrap .i64 (a1 - ((List.length a0 : Nat) : Int))) (0 : Int)) (.exit 0) (laws_szStringS_L0X2 k1y0 k1y1 k1y5 k1y15)) :
    SC cfg.P i_laws_szStringS [.s (.v (.sl .str) a0), .s (.v (.int .i64) a1)] (.s (.v (.int .i64) k1y1)) [] :=
  SC_of_run cfgOK (its := [.bool false, .loop (fun _ => (.exit 0, laws_szStringS_L0X2 k1y0 k1y1 k1y5 k1y15))])
    (ps := [decide ((IntKind.wrap .i64 (a1 - ((List.length a0 : Nat) : Int))) < (0 : Int)) = false,
      LoopSC cfg.P 2 (lb P_laws_szStringS 0) (laws_szStringS_L0a a0 (IntKind.wrap .i64 (a1 - ((List.length a0 : Nat) : Int))) (0 : Int)) (.exit 0) (laws_szStringS_L0X2 k1y0 k1y1 k1y5 k1y15)]) (by kernel_rfl) ⟨(decide_eq_false h1), h2, trivial⟩ get_laws_szStringS (by decide)

/-! ### laws_toStringS -/


def laws_toStringS_L0a (x0 : (List ByteArray)) (x4 : Int) (xo7 : (List ByteArray)) : St := mkSt 22 [(0, .s (.v (.sl .str) x0)), (3, .s (.osl 7 0)), (4, .s (.v (.int .i64) x4))] [(7, .row t_string .str xo7 0 false)]

def laws_toStringS_L0X1 (y0 : (List ByteArray)) (y4 : Int) (y11 : Bool) (yo7 : (List ByteArray)) : St := mkSt 22 [(0, .s (.v (.sl .str) y0)), (3, .s (.osl 7 0)), (4, .s (.v (.int .i64) y4)), (11, .s (.v .bool y11))] [(7, .row t_string .str yo7 0 false)]

theorem laws_toStringS_L0a_i1 (x0 : (List ByteArray)) (x4 : Int) (xo7 : (List ByteArray))
    (h1 : x4 < ((List.length x0 : Nat) : Int))
    (h2 : 0 ≤ x4)
    (h3 : x4 < (List.length x0 : Int))
    (h4 : x4 < (List.length xo7 : Int))
    (h5 : (x4).toNat < List.length xo7)
    {e : AEx} {st : St} (next : LoopSC cfg.P 1 (lb P_laws_toStringS 0) (laws_toStringS_L0a x0 (IntKind.wrap .i64 (x4 + (1 : Int))) (List.set xo7 (x4).toNat (List.getD x0 (x4).toNat (⟨#[]⟩ : ByteArray)))) e st) :
    LoopSC cfg.P 1 (lb P_laws_toStringS 0) (laws_toStringS_L0a x0 x4 xo7) e st :=
  loop_iter cfgOK (f := i_laws_toStringS) (its := [.bool true])
    (ps := [decide (x4 < ((List.length x0 : Nat) : Int)) = true,
      0 ≤ x4,
      x4 < (List.length x0 : Int),
      0 ≤ x4,
      x4 < (List.length xo7 : Int),
      (x4).toNat < List.length xo7]) (st1 := laws_toStringS_L0a x0 (IntKind.wrap .i64 (x4 + (1 : Int))) (List.set xo7 (x4).toNat (List.getD x0 (x4).toNat (⟨#[]⟩ : ByteArray)))) (by kernel_rfl) ⟨(decide_eq_true h1), h2, h3, h2, h4, h5, trivial⟩ next

theorem laws_toStringS_L0a_x2 (x0 : (List ByteArray)) (x4 : Int) (xo7 : (List ByteArray))
    (h1 : ¬ (x4 < ((List.length x0 : Nat) : Int))) :
    LoopSC cfg.P 1 (lb P_laws_toStringS 0) (laws_toStringS_L0a x0 x4 xo7) (.exit 0) (laws_toStringS_L0X1 x0 x4 false xo7) :=
  loop_out cfgOK (f := i_laws_toStringS) (its := [.bool false])
    (ps := [decide (x4 < ((List.length x0 : Nat) : Int)) = false]) (by kernel_rfl) ⟨(decide_eq_false h1), trivial⟩ (fun h => by cases h)

theorem laws_toStringS_p1 (a0 : (List ByteArray)) (k1y0 : (List ByteArray)) (k1y4 : Int) (k1y11 : Bool) (k1yo7 : (List ByteArray))
    (h1 : 0 ≤ ((List.length a0 : Nat) : Int))
    (h2 : ((List.length a0 : Nat) : Int) ≤ (lim : Int))
    (h3 : ((List.length a0 : Nat) : Int) = ((List.length a0 : Nat) : Int))
    (h4 : LoopSC cfg.P 1 (lb P_laws_toStringS 0) (laws_toStringS_L0a a0 (0 : Int) (List.replicate (((List.length a0 : Nat) : Int)).toNat (⟨#[]⟩ : ByteArray))) (.exit 0) (laws_toStringS_L0X1 k1y0 k1y4 k1y11 k1yo7)) :
    SC cfg.P i_laws_toStringS [.s (.v (.sl .str) a0)] (.s (.own t_string .str k1yo7)) [] :=
  SC_of_run cfgOK (its := [.loop (fun _ => (.exit 0, laws_toStringS_L0X1 k1y0 k1y4 k1y11 k1yo7))])
    (ps := [0 ≤ ((List.length a0 : Nat) : Int),
      ((List.length a0 : Nat) : Int) ≤ (lim : Int),
      ((List.length a0 : Nat) : Int) = ((List.length a0 : Nat) : Int),
      LoopSC cfg.P 1 (lb P_laws_toStringS 0) (laws_toStringS_L0a a0 (0 : Int) (List.replicate (((List.length a0 : Nat) : Int)).toNat (⟨#[]⟩ : ByteArray))) (.exit 0) (laws_toStringS_L0X1 k1y0 k1y4 k1y11 k1yo7)]) (by kernel_rfl) ⟨h1, h2, h3, h4, trivial⟩ get_laws_toStringS (by decide)

/-! ### spec_foGood -/


def spec_foGood_L0a (x3 : Int) (x23 : (List ByteArray)) (x24 : Int) (x25 : Int) : St := mkSt 39 [(3, .s (.v (.int .i64) x3)), (23, .s (.v (.sl .str) x23)), (24, .s (.v (.int .i64) x24)), (25, .s (.v (.int .i64) x25))] []

def spec_foGood_L0X1 (y2 : Bool) : St := mkSt 39 [(2, .s (.v .bool y2))] []

def spec_foGood_L0X2 (y3 : Int) (y23 : (List ByteArray)) (y24 : Int) (y25 : Int) (y26 : Bool) : St := mkSt 39 [(3, .s (.v (.int .i64) y3)), (23, .s (.v (.sl .str) y23)), (24, .s (.v (.int .i64) y24)), (25, .s (.v (.int .i64) y25)), (26, .s (.v .bool y26))] []

theorem spec_foGood_L0a_i1 (x3 : Int) (x23 : (List ByteArray)) (x24 : Int) (x25 : Int) (dc2 : Int)
    (h1 : x25 < x24)
    (h2 : 0 ≤ x25)
    (h3 : x25 < (List.length x23 : Int))
    (h4 : SC cfg.P i_spec_trIs [.s (.v .str (List.getD x23 (x25).toNat (⟨#[]⟩ : ByteArray)))] (.s (.v .bool true)) [])
    (h5 : SC cfg.P i_spec_trCarets [.s (.v .str (List.getD x23 (x25).toNat (⟨#[]⟩ : ByteArray)))] (.s (.v (.int .i64) dc2)) [])
    {e : AEx} {st : St} (next : LoopSC cfg.P 1 (lb P_spec_foGood 0) (spec_foGood_L0a (IntKind.wrap .i64 (x3 + dc2)) x23 x24 (IntKind.wrap .i64 (x25 + (1 : Int)))) e st) :
    LoopSC cfg.P 1 (lb P_spec_foGood 0) (spec_foGood_L0a x3 x23 x24 x25) e st :=
  loop_iter cfgOK (f := i_spec_foGood) (its := [.bool true, .res (.s (.v .bool true)) [] [] [], .res (.s (.v (.int .i64) dc2)) [] [] []])
    (ps := [decide (x25 < x24) = true,
      0 ≤ x25,
      x25 < (List.length x23 : Int),
      SC cfg.P i_spec_trIs [.s (.v .str (List.getD x23 (x25).toNat (⟨#[]⟩ : ByteArray)))] (.s (.v .bool true)) [],
      SC cfg.P i_spec_trCarets [.s (.v .str (List.getD x23 (x25).toNat (⟨#[]⟩ : ByteArray)))] (.s (.v (.int .i64) dc2)) []]) (st1 := spec_foGood_L0a (IntKind.wrap .i64 (x3 + dc2)) x23 x24 (IntKind.wrap .i64 (x25 + (1 : Int)))) (by kernel_rfl) ⟨(decide_eq_true h1), h2, h3, h4, h5, trivial⟩ next

theorem spec_foGood_L0a_x2 (x3 : Int) (x23 : (List ByteArray)) (x24 : Int) (x25 : Int)
    (h1 : x25 < x24)
    (h2 : 0 ≤ x25)
    (h3 : x25 < (List.length x23 : Int))
    (h4 : SC cfg.P i_spec_trIs [.s (.v .str (List.getD x23 (x25).toNat (⟨#[]⟩ : ByteArray)))] (.s (.v .bool false)) []) :
    LoopSC cfg.P 1 (lb P_spec_foGood 0) (spec_foGood_L0a x3 x23 x24 x25) (.ret) (spec_foGood_L0X1 false) :=
  loop_out cfgOK (f := i_spec_foGood) (its := [.bool true, .res (.s (.v .bool false)) [] [] []])
    (ps := [decide (x25 < x24) = true,
      0 ≤ x25,
      x25 < (List.length x23 : Int),
      SC cfg.P i_spec_trIs [.s (.v .str (List.getD x23 (x25).toNat (⟨#[]⟩ : ByteArray)))] (.s (.v .bool false)) []]) (by kernel_rfl) ⟨(decide_eq_true h1), h2, h3, h4, trivial⟩ (fun h => by cases h)

theorem spec_foGood_L0a_x3 (x3 : Int) (x23 : (List ByteArray)) (x24 : Int) (x25 : Int)
    (h1 : ¬ (x25 < x24)) :
    LoopSC cfg.P 1 (lb P_spec_foGood 0) (spec_foGood_L0a x3 x23 x24 x25) (.exit 0) (spec_foGood_L0X2 x3 x23 x24 x25 false) :=
  loop_out cfgOK (f := i_spec_foGood) (its := [.bool false])
    (ps := [decide (x25 < x24) = false]) (by kernel_rfl) ⟨(decide_eq_false h1), trivial⟩ (fun h => by cases h)

theorem spec_foGood_p1 (a0 : (List ByteArray))
    (h1 : ((List.length a0 : Nat) : Int) > (8 : Int)) :
    SC cfg.P i_spec_foGood [.s (.v (.sl .str) a0)] (.s (.v .bool false)) [] :=
  SC_of_run cfgOK (its := [.bool true])
    (ps := [decide (((List.length a0 : Nat) : Int) > (8 : Int)) = true]) (by kernel_rfl) ⟨(decide_eq_true h1), trivial⟩ get_spec_foGood (by decide)

theorem spec_foGood_p2 (a0 : (List ByteArray))
    (h1 : ¬ (((List.length a0 : Nat) : Int) > (8 : Int)))
    (h2 : ((List.length a0 : Nat) : Int) > (0 : Int))
    (h3 : 0 ≤ (IntKind.wrap .i64 (((List.length a0 : Nat) : Int) - (1 : Int))))
    (h4 : (IntKind.wrap .i64 (((List.length a0 : Nat) : Int) - (1 : Int))) < (List.length a0 : Int))
    (h5 : SC cfg.P i_spec_trLeaf [.s (.v .str (List.getD a0 ((IntKind.wrap .i64 (((List.length a0 : Nat) : Int) - (1 : Int)))).toNat (⟨#[]⟩ : ByteArray)))] (.s (.v .bool true)) []) :
    SC cfg.P i_spec_foGood [.s (.v (.sl .str) a0)] (.s (.v .bool false)) [] :=
  SC_of_run cfgOK (its := [.bool false, .bool true, .res (.s (.v .bool true)) [] [] []])
    (ps := [decide (((List.length a0 : Nat) : Int) > (8 : Int)) = false,
      decide (((List.length a0 : Nat) : Int) > (0 : Int)) = true,
      0 ≤ (IntKind.wrap .i64 (((List.length a0 : Nat) : Int) - (1 : Int))),
      (IntKind.wrap .i64 (((List.length a0 : Nat) : Int) - (1 : Int))) < (List.length a0 : Int),
      SC cfg.P i_spec_trLeaf [.s (.v .str (List.getD a0 ((IntKind.wrap .i64 (((List.length a0 : Nat) : Int) - (1 : Int)))).toNat (⟨#[]⟩ : ByteArray)))] (.s (.v .bool true)) []]) (by kernel_rfl) ⟨(decide_eq_false h1), (decide_eq_true h2), h3, h4, h5, trivial⟩ get_spec_foGood (by decide)

theorem spec_foGood_p3 (a0 : (List ByteArray)) (k1y2 : Bool)
    (h1 : ¬ (((List.length a0 : Nat) : Int) > (8 : Int)))
    (h2 : ((List.length a0 : Nat) : Int) > (0 : Int))
    (h3 : 0 ≤ (IntKind.wrap .i64 (((List.length a0 : Nat) : Int) - (1 : Int))))
    (h4 : (IntKind.wrap .i64 (((List.length a0 : Nat) : Int) - (1 : Int))) < (List.length a0 : Int))
    (h5 : SC cfg.P i_spec_trLeaf [.s (.v .str (List.getD a0 ((IntKind.wrap .i64 (((List.length a0 : Nat) : Int) - (1 : Int)))).toNat (⟨#[]⟩ : ByteArray)))] (.s (.v .bool false)) [])
    (h6 : LoopSC cfg.P 1 (lb P_spec_foGood 0) (spec_foGood_L0a (0 : Int) a0 ((List.length a0 : Nat) : Int) (0 : Int)) (.ret) (spec_foGood_L0X1 k1y2)) :
    SC cfg.P i_spec_foGood [.s (.v (.sl .str) a0)] (.s (.v .bool k1y2)) [] :=
  SC_of_run cfgOK (its := [.bool false, .bool true, .res (.s (.v .bool false)) [] [] [], .loop (fun _ => (.ret, spec_foGood_L0X1 k1y2))])
    (ps := [decide (((List.length a0 : Nat) : Int) > (8 : Int)) = false,
      decide (((List.length a0 : Nat) : Int) > (0 : Int)) = true,
      0 ≤ (IntKind.wrap .i64 (((List.length a0 : Nat) : Int) - (1 : Int))),
      (IntKind.wrap .i64 (((List.length a0 : Nat) : Int) - (1 : Int))) < (List.length a0 : Int),
      SC cfg.P i_spec_trLeaf [.s (.v .str (List.getD a0 ((IntKind.wrap .i64 (((List.length a0 : Nat) : Int) - (1 : Int)))).toNat (⟨#[]⟩ : ByteArray)))] (.s (.v .bool false)) [],
      LoopSC cfg.P 1 (lb P_spec_foGood 0) (spec_foGood_L0a (0 : Int) a0 ((List.length a0 : Nat) : Int) (0 : Int)) (.ret) (spec_foGood_L0X1 k1y2)]) (by kernel_rfl) ⟨(decide_eq_false h1), (decide_eq_true h2), h3, h4, h5, h6, trivial⟩ get_spec_foGood (by decide)

theorem spec_foGood_p4 (a0 : (List ByteArray)) (k1y3 : Int) (k1y23 : (List ByteArray)) (k1y24 : Int) (k1y25 : Int) (k1y26 : Bool)
    (h1 : ¬ (((List.length a0 : Nat) : Int) > (8 : Int)))
    (h2 : ((List.length a0 : Nat) : Int) > (0 : Int))
    (h3 : 0 ≤ (IntKind.wrap .i64 (((List.length a0 : Nat) : Int) - (1 : Int))))
    (h4 : (IntKind.wrap .i64 (((List.length a0 : Nat) : Int) - (1 : Int))) < (List.length a0 : Int))
    (h5 : SC cfg.P i_spec_trLeaf [.s (.v .str (List.getD a0 ((IntKind.wrap .i64 (((List.length a0 : Nat) : Int) - (1 : Int)))).toNat (⟨#[]⟩ : ByteArray)))] (.s (.v .bool false)) [])
    (h6 : LoopSC cfg.P 1 (lb P_spec_foGood 0) (spec_foGood_L0a (0 : Int) a0 ((List.length a0 : Nat) : Int) (0 : Int)) (.exit 0) (spec_foGood_L0X2 k1y3 k1y23 k1y24 k1y25 k1y26))
    (h7 : k1y3 ≤ (8 : Int)) :
    SC cfg.P i_spec_foGood [.s (.v (.sl .str) a0)] (.s (.v .bool true)) [] :=
  SC_of_run cfgOK (its := [.bool false, .bool true, .res (.s (.v .bool false)) [] [] [], .loop (fun _ => (.exit 0, spec_foGood_L0X2 k1y3 k1y23 k1y24 k1y25 k1y26)), .bool true])
    (ps := [decide (((List.length a0 : Nat) : Int) > (8 : Int)) = false,
      decide (((List.length a0 : Nat) : Int) > (0 : Int)) = true,
      0 ≤ (IntKind.wrap .i64 (((List.length a0 : Nat) : Int) - (1 : Int))),
      (IntKind.wrap .i64 (((List.length a0 : Nat) : Int) - (1 : Int))) < (List.length a0 : Int),
      SC cfg.P i_spec_trLeaf [.s (.v .str (List.getD a0 ((IntKind.wrap .i64 (((List.length a0 : Nat) : Int) - (1 : Int)))).toNat (⟨#[]⟩ : ByteArray)))] (.s (.v .bool false)) [],
      LoopSC cfg.P 1 (lb P_spec_foGood 0) (spec_foGood_L0a (0 : Int) a0 ((List.length a0 : Nat) : Int) (0 : Int)) (.exit 0) (spec_foGood_L0X2 k1y3 k1y23 k1y24 k1y25 k1y26),
      decide (k1y3 ≤ (8 : Int)) = true]) (by kernel_rfl) ⟨(decide_eq_false h1), (decide_eq_true h2), h3, h4, h5, h6, (decide_eq_true h7), trivial⟩ get_spec_foGood (by decide)

theorem spec_foGood_p5 (a0 : (List ByteArray)) (k1y3 : Int) (k1y23 : (List ByteArray)) (k1y24 : Int) (k1y25 : Int) (k1y26 : Bool)
    (h1 : ¬ (((List.length a0 : Nat) : Int) > (8 : Int)))
    (h2 : ((List.length a0 : Nat) : Int) > (0 : Int))
    (h3 : 0 ≤ (IntKind.wrap .i64 (((List.length a0 : Nat) : Int) - (1 : Int))))
    (h4 : (IntKind.wrap .i64 (((List.length a0 : Nat) : Int) - (1 : Int))) < (List.length a0 : Int))
    (h5 : SC cfg.P i_spec_trLeaf [.s (.v .str (List.getD a0 ((IntKind.wrap .i64 (((List.length a0 : Nat) : Int) - (1 : Int)))).toNat (⟨#[]⟩ : ByteArray)))] (.s (.v .bool false)) [])
    (h6 : LoopSC cfg.P 1 (lb P_spec_foGood 0) (spec_foGood_L0a (0 : Int) a0 ((List.length a0 : Nat) : Int) (0 : Int)) (.exit 0) (spec_foGood_L0X2 k1y3 k1y23 k1y24 k1y25 k1y26))
    (h7 : ¬ (k1y3 ≤ (8 : Int))) :
    SC cfg.P i_spec_foGood [.s (.v (.sl .str) a0)] (.s (.v .bool false)) [] :=
  SC_of_run cfgOK (its := [.bool false, .bool true, .res (.s (.v .bool false)) [] [] [], .loop (fun _ => (.exit 0, spec_foGood_L0X2 k1y3 k1y23 k1y24 k1y25 k1y26)), .bool false])
    (ps := [decide (((List.length a0 : Nat) : Int) > (8 : Int)) = false,
      decide (((List.length a0 : Nat) : Int) > (0 : Int)) = true,
      0 ≤ (IntKind.wrap .i64 (((List.length a0 : Nat) : Int) - (1 : Int))),
      (IntKind.wrap .i64 (((List.length a0 : Nat) : Int) - (1 : Int))) < (List.length a0 : Int),
      SC cfg.P i_spec_trLeaf [.s (.v .str (List.getD a0 ((IntKind.wrap .i64 (((List.length a0 : Nat) : Int) - (1 : Int)))).toNat (⟨#[]⟩ : ByteArray)))] (.s (.v .bool false)) [],
      LoopSC cfg.P 1 (lb P_spec_foGood 0) (spec_foGood_L0a (0 : Int) a0 ((List.length a0 : Nat) : Int) (0 : Int)) (.exit 0) (spec_foGood_L0X2 k1y3 k1y23 k1y24 k1y25 k1y26),
      decide (k1y3 ≤ (8 : Int)) = false]) (by kernel_rfl) ⟨(decide_eq_false h1), (decide_eq_true h2), h3, h4, h5, h6, (decide_eq_false h7), trivial⟩ get_spec_foGood (by decide)

theorem spec_foGood_p6 (a0 : (List ByteArray)) (k1y2 : Bool)
    (h1 : ¬ (((List.length a0 : Nat) : Int) > (8 : Int)))
    (h2 : ¬ (((List.length a0 : Nat) : Int) > (0 : Int)))
    (h3 : LoopSC cfg.P 1 (lb P_spec_foGood 0) (spec_foGood_L0a (0 : Int) a0 ((List.length a0 : Nat) : Int) (0 : Int)) (.ret) (spec_foGood_L0X1 k1y2)) :
    SC cfg.P i_spec_foGood [.s (.v (.sl .str) a0)] (.s (.v .bool k1y2)) [] :=
  SC_of_run cfgOK (its := [.bool false, .bool false, .loop (fun _ => (.ret, spec_foGood_L0X1 k1y2))])
    (ps := [decide (((List.length a0 : Nat) : Int) > (8 : Int)) = false,
      decide (((List.length a0 : Nat) : Int) > (0 : Int)) = false,
      LoopSC cfg.P 1 (lb P_spec_foGood 0) (spec_foGood_L0a (0 : Int) a0 ((List.length a0 : Nat) : Int) (0 : Int)) (.ret) (spec_foGood_L0X1 k1y2)]) (by kernel_rfl) ⟨(decide_eq_false h1), (decide_eq_false h2), h3, trivial⟩ get_spec_foGood (by decide)

theorem spec_foGood_p7 (a0 : (List ByteArray)) (k1y3 : Int) (k1y23 : (List ByteArray)) (k1y24 : Int) (k1y25 : Int) (k1y26 : Bool)
    (h1 : ¬ (((List.length a0 : Nat) : Int) > (8 : Int)))
    (h2 : ¬ (((List.length a0 : Nat) : Int) > (0 : Int)))
    (h3 : LoopSC cfg.P 1 (lb P_spec_foGood 0) (spec_foGood_L0a (0 : Int) a0 ((List.length a0 : Nat) : Int) (0 : Int)) (.exit 0) (spec_foGood_L0X2 k1y3 k1y23 k1y24 k1y25 k1y26))
    (h4 : k1y3 ≤ (8 : Int)) :
    SC cfg.P i_spec_foGood [.s (.v (.sl .str) a0)] (.s (.v .bool true)) [] :=
  SC_of_run cfgOK (its := [.bool false, .bool false, .loop (fun _ => (.exit 0, spec_foGood_L0X2 k1y3 k1y23 k1y24 k1y25 k1y26)), .bool true])
    (ps := [decide (((List.length a0 : Nat) : Int) > (8 : Int)) = false,
      decide (((List.length a0 : Nat) : Int) > (0 : Int)) = false,
      LoopSC cfg.P 1 (lb P_spec_foGood 0) (spec_foGood_L0a (0 : Int) a0 ((List.length a0 : Nat) : Int) (0 : Int)) (.exit 0) (spec_foGood_L0X2 k1y3 k1y23 k1y24 k1y25 k1y26),
      decide (k1y3 ≤ (8 : Int)) = true]) (by kernel_rfl) ⟨(decide_eq_false h1), (decide_eq_false h2), h3, (decide_eq_true h4), trivial⟩ get_spec_foGood (by decide)

theorem spec_foGood_p8 (a0 : (List ByteArray)) (k1y3 : Int) (k1y23 : (List ByteArray)) (k1y24 : Int) (k1y25 : Int) (k1y26 : Bool)
    (h1 : ¬ (((List.length a0 : Nat) : Int) > (8 : Int)))
    (h2 : ¬ (((List.length a0 : Nat) : Int) > (0 : Int)))
    (h3 : LoopSC cfg.P 1 (lb P_spec_foGood 0) (spec_foGood_L0a (0 : Int) a0 ((List.length a0 : Nat) : Int) (0 : Int)) (.exit 0) (spec_foGood_L0X2 k1y3 k1y23 k1y24 k1y25 k1y26))
    (h4 : ¬ (k1y3 ≤ (8 : Int))) :
    SC cfg.P i_spec_foGood [.s (.v (.sl .str) a0)] (.s (.v .bool false)) [] :=
  SC_of_run cfgOK (its := [.bool false, .bool false, .loop (fun _ => (.exit 0, spec_foGood_L0X2 k1y3 k1y23 k1y24 k1y25 k1y26)), .bool false])
    (ps := [decide (((List.length a0 : Nat) : Int) > (8 : Int)) = false,
      decide (((List.length a0 : Nat) : Int) > (0 : Int)) = false,
      LoopSC cfg.P 1 (lb P_spec_foGood 0) (spec_foGood_L0a (0 : Int) a0 ((List.length a0 : Nat) : Int) (0 : Int)) (.exit 0) (spec_foGood_L0X2 k1y3 k1y23 k1y24 k1y25 k1y26),
      decide (k1y3 ≤ (8 : Int)) = false]) (by kernel_rfl) ⟨(decide_eq_false h1), (decide_eq_false h2), h3, (decide_eq_false h4), trivial⟩ get_spec_foGood (by decide)

/-! ### impl_forestOf -/


def impl_forestOf_L0a (x12 : (List ByteArray)) (x13 : Int) (x14 : Int) (xo4 : (List Tr)) : St := mkSt 42 [(4, .s (.osl 4 0)), (12, .s (.v (.sl .str) x12)), (13, .s (.v (.int .i64) x13)), (14, .s (.v (.int .i64) x14))] [(4, .row t_pimpl_node .tree xo4 0 false)]

def impl_forestOf_L0X1 (y3 : Bool) (yo2 : (List Tr)) : St := mkSt 42 [(2, .s (.osl 2 0)), (3, .s (.v .bool y3))] [(2, .row t_pimpl_node .tree yo2 0 false)]

def impl_forestOf_L0X2 (y12 : (List ByteArray)) (y13 : Int) (y14 : Int) (y15 : Bool) (yo4 : (List Tr)) : St := mkSt 42 [(4, .s (.osl 4 0)), (12, .s (.v (.sl .str) y12)), (13, .s (.v (.int .i64) y13)), (14, .s (.v (.int .i64) y14)), (15, .s (.v .bool y15))] [(4, .row t_pimpl_node .tree yo4 0 false)]

theorem impl_forestOf_L0a_i1 (x12 : (List ByteArray)) (x13 : Int) (x14 : Int) (xo4 : (List Tr)) (dc1a : Tr)
    (h1 : x14 < x13)
    (h2 : 0 ≤ x14)
    (h3 : x14 < (List.length x12 : Int))
    (h4 : SC cfg.P i_impl_parse [.s (.v .str (List.getD x12 (x14).toNat (⟨#[]⟩ : ByteArray)))] (.tup [.v .tree dc1a, .v .bool true]) [])
    (h5 : sizeOK (List.length xo4 + List.length ([dc1a] : List Tr)))
    {e : AEx} {st : St} (next : LoopSC cfg.P 1 (lb P_impl_forestOf 0) (impl_forestOf_L0a x12 x13 (IntKind.wrap .i64 (x14 + (1 : Int))) (xo4 ++ ([dc1a] : List Tr))) e st) :
    LoopSC cfg.P 1 (lb P_impl_forestOf 0) (impl_forestOf_L0a x12 x13 x14 xo4) e st :=
  loop_iter cfgOK (f := i_impl_forestOf) (its := [.bool true, .res (.tup [.v .tree dc1a, .v .bool true]) [] [] []])
    (ps := [decide (x14 < x13) = true,
      0 ≤ x14,
      x14 < (List.length x12 : Int),
      SC cfg.P i_impl_parse [.s (.v .str (List.getD x12 (x14).toNat (⟨#[]⟩ : ByteArray)))] (.tup [.v .tree dc1a, .v .bool true]) [],
      sizeOK (List.length xo4 + List.length ([dc1a] : List Tr))]) (st1 := impl_forestOf_L0a x12 x13 (IntKind.wrap .i64 (x14 + (1 : Int))) (xo4 ++ ([dc1a] : List Tr))) (by kernel_rfl) ⟨(decide_eq_true h1), h2, h3, h4, h5, trivial⟩ next

theorem impl_forestOf_L0a_x2 (x12 : (List ByteArray)) (x13 : Int) (x14 : Int) (xo4 : (List Tr)) (dc1a : Tr)
    (h1 : x14 < x13)
    (h2 : 0 ≤ x14)
    (h3 : x14 < (List.length x12 : Int))
    (h4 : SC cfg.P i_impl_parse [.s (.v .str (List.getD x12 (x14).toNat (⟨#[]⟩ : ByteArray)))] (.tup [.v .tree dc1a, .v .bool false]) []) :
    LoopSC cfg.P 1 (lb P_impl_forestOf 0) (impl_forestOf_L0a x12 x13 x14 xo4) (.ret) (impl_forestOf_L0X1 false ([] : List Tr)) :=
  loop_out cfgOK (f := i_impl_forestOf) (its := [.bool true, .res (.tup [.v .tree dc1a, .v .bool false]) [] [] []])
    (ps := [decide (x14 < x13) = true,
      0 ≤ x14,
      x14 < (List.length x12 : Int),
      SC cfg.P i_impl_parse [.s (.v .str (List.getD x12 (x14).toNat (⟨#[]⟩ : ByteArray)))] (.tup [.v .tree dc1a, .v .bool false]) []]) (by kernel_rfl) ⟨(decide_eq_true h1), h2, h3, h4, trivial⟩ (fun h => by cases h)

theorem impl_forestOf_L0a_x3 (x12 : (List ByteArray)) (x13 : Int) (x14 : Int) (xo4 : (List Tr))
    (h1 : ¬ (x14 < x13)) :
    LoopSC cfg.P 1 (lb P_impl_forestOf 0) (impl_forestOf_L0a x12 x13 x14 xo4) (.exit 0) (impl_forestOf_L0X2 x12 x13 x14 false xo4) :=
  loop_out cfgOK (f := i_impl_forestOf) (its := [.bool false])
    (ps := [decide (x14 < x13) = false]) (by kernel_rfl) ⟨(decide_eq_false h1), trivial⟩ (fun h => by cases h)

theorem impl_forestOf_p1 (a0 : (List ByteArray))
    (h1 : ((List.length a0 : Nat) : Int) > (8 : Int)) :
    SC cfg.P i_impl_forestOf [.s (.v (.sl .str) a0)] (.tup [.own t_pimpl_node .tree ([] : List Tr), .v .bool false]) [] :=
  SC_of_run cfgOK (its := [.bool true])
    (ps := [decide (((List.length a0 : Nat) : Int) > (8 : Int)) = true]) (by kernel_rfl) ⟨(decide_eq_true h1), trivial⟩ get_impl_forestOf (by decide)

theorem impl_forestOf_p2 (a0 : (List ByteArray)) (k1y3 : Bool) (k1yo2 : (List Tr))
    (h1 : ¬ (((List.length a0 : Nat) : Int) > (8 : Int)))
    (h2 : LoopSC cfg.P 1 (lb P_impl_forestOf 0) (impl_forestOf_L0a a0 ((List.length a0 : Nat) : Int) (0 : Int) ([] : List Tr)) (.ret) (impl_forestOf_L0X1 k1y3 k1yo2)) :
    SC cfg.P i_impl_forestOf [.s (.v (.sl .str) a0)] (.tup [.own t_pimpl_node .tree k1yo2, .v .bool k1y3]) [] :=
  SC_of_run cfgOK (its := [.bool false, .loop (fun _ => (.ret, impl_forestOf_L0X1 k1y3 k1yo2))])
    (ps := [decide (((List.length a0 : Nat) : Int) > (8 : Int)) = false,
      LoopSC cfg.P 1 (lb P_impl_forestOf 0) (impl_forestOf_L0a a0 ((List.length a0 : Nat) : Int) (0 : Int) ([] : List Tr)) (.ret) (impl_forestOf_L0X1 k1y3 k1yo2)]) (by kernel_rfl) ⟨(decide_eq_false h1), h2, trivial⟩ get_impl_forestOf (by decide)

theorem impl_forestOf_p3 (a0 : (List ByteArray)) (k1y12 : (List ByteArray)) (k1y13 : Int) (k1y14 : Int) (k1y15 : Bool) (k1yo4 : (List Tr)) (c1 : Int) (c2 : (List Tr))
    (h1 : ¬ (((List.length a0 : Nat) : Int) > (8 : Int)))
    (h2 : LoopSC cfg.P 1 (lb P_impl_forestOf 0) (impl_forestOf_L0a a0 ((List.length a0 : Nat) : Int) (0 : Int) ([] : List Tr)) (.exit 0) (impl_forestOf_L0X2 k1y12 k1y13 k1y14 k1y15 k1yo4))
    (h3 : SC cfg.P i_impl_forest_carets [.s (.v (.sl .tree) k1yo4)] (.s (.v (.int .i64) c1)) [])
    (h4 : c1 ≤ (8 : Int))
    (h5 : SC cfg.P i_impl_forest_trimmed [.s (.v (.sl .tree) k1yo4)] (.s (.v (.sl .tree) c2)) [])
    (h6 : ((List.length c2 : Nat) : Int) = ((List.length k1yo4 : Nat) : Int)) :
    SC cfg.P i_impl_forestOf [.s (.v (.sl .str) a0)] (.tup [.v (.sl .tree) k1yo4, .v .bool true]) [] :=
  SC_of_run cfgOK (its := [.bool false, .loop (fun _ => (.exit 0, impl_forestOf_L0X2 k1y12 k1y13 k1y14 k1y15 k1yo4)), .res (.s (.v (.int .i64) c1)) [] [] [], .bool true, .res (.s (.v (.sl .tree) c2)) [] [] [], .bool true])
    (ps := [decide (((List.length a0 : Nat) : Int) > (8 : Int)) = false,
      LoopSC cfg.P 1 (lb P_impl_forestOf 0) (impl_forestOf_L0a a0 ((List.length a0 : Nat) : Int) (0 : Int) ([] : List Tr)) (.exit 0) (impl_forestOf_L0X2 k1y12 k1y13 k1y14 k1y15 k1yo4),
      SC cfg.P i_impl_forest_carets [.s (.v (.sl .tree) k1yo4)] (.s (.v (.int .i64) c1)) [],
      decide (c1 ≤ (8 : Int)) = true,
      SC cfg.P i_impl_forest_trimmed [.s (.v (.sl .tree) k1yo4)] (.s (.v (.sl .tree) c2)) [],
      (((List.length c2 : Nat) : Int) == ((List.length k1yo4 : Nat) : Int)) = true]) (by kernel_rfl) ⟨(decide_eq_false h1), h2, h3, (decide_eq_true h4), h5, (beq_t h6), trivial⟩ get_impl_forestOf (by decide)

theorem impl_forestOf_p4 (a0 : (List ByteArray)) (k1y12 : (List ByteArray)) (k1y13 : Int) (k1y14 : Int) (k1y15 : Bool) (k1yo4 : (List Tr)) (c1 : Int) (c2 : (List Tr))
    (h1 : ¬ (((List.length a0 : Nat) : Int) > (8 : Int)))
    (h2 : LoopSC cfg.P 1 (lb P_impl_forestOf 0) (impl_forestOf_L0a a0 ((List.length a0 : Nat) : Int) (0 : Int) ([] : List Tr)) (.exit 0) (impl_forestOf_L0X2 k1y12 k1y13 k1y14 k1y15 k1yo4))
    (h3 : SC cfg.P i_impl_forest_carets [.s (.v (.sl .tree) k1yo4)] (.s (.v (.int .i64) c1)) [])
    (h4 : c1 ≤ (8 : Int))
    (h5 : SC cfg.P i_impl_forest_trimmed [.s (.v (.sl .tree) k1yo4)] (.s (.v (.sl .tree) c2)) [])
    (h6 : ((List.length c2 : Nat) : Int) ≠ ((List.length k1yo4 : Nat) : Int)) :
    SC cfg.P i_impl_forestOf [.s (.v (.sl .str) a0)] (.tup [.v (.sl .tree) k1yo4, .v .bool false]) [] :=
  SC_of_run cfgOK (its := [.bool false, .loop (fun _ => (.exit 0, impl_forestOf_L0X2 k1y12 k1y13 k1y14 k1y15 k1yo4)), .res (.s (.v (.int .i64) c1)) [] [] [], .bool true, .res (.s (.v (.sl .tree) c2)) [] [] [], .bool false])
    (ps := [decide (((List.length a0 : Nat) : Int) > (8 : Int)) = false,
      LoopSC cfg.P 1 (lb P_impl_forestOf 0) (impl_forestOf_L0a a0 ((List.length a0 : Nat) : Int) (0 : Int) ([] : List Tr)) (.exit 0) (impl_forestOf_L0X2 k1y12 k1y13 k1y14 k1y15 k1yo4),
      SC cfg.P i_impl_forest_carets [.s (.v (.sl .tree) k1yo4)] (.s (.v (.int .i64) c1)) [],
      decide (c1 ≤ (8 : Int)) = true,
      SC cfg.P i_impl_forest_trimmed [.s (.v (.sl .tree) k1yo4)] (.s (.v (.sl .tree) c2)) [],
      (((List.length c2 : Nat) : Int) == ((List.length k1yo4 : Nat) : Int)) = false]) (by kernel_rfl) ⟨(decide_eq_false h1), h2, h3, (decide_eq_true h4), h5, (beq_f h6), trivial⟩ get_impl_forestOf (by decide)

theorem impl_forestOf_p5 (a0 : (List ByteArray)) (k1y12 : (List ByteArray)) (k1y13 : Int) (k1y14 : Int) (k1y15 : Bool) (k1yo4 : (List Tr)) (c1 : Int)
    (h1 : ¬ (((List.length a0 : Nat) : Int) > (8 : Int)))
    (h2 : LoopSC cfg.P 1 (lb P_impl_forestOf 0) (impl_forestOf_L0a a0 ((List.length a0 : Nat) : Int) (0 : Int) ([] : List Tr)) (.exit 0) (impl_forestOf_L0X2 k1y12 k1y13 k1y14 k1y15 k1yo4))
    (h3 : SC cfg.P i_impl_forest_carets [.s (.v (.sl .tree) k1yo4)] (.s (.v (.int .i64) c1)) [])
    (h4 : ¬ (c1 ≤ (8 : Int))) :
    SC cfg.P i_impl_forestOf [.s (.v (.sl .str) a0)] (.tup [.own t_pimpl_node .tree k1yo4, .v .bool false]) [] :=
  SC_of_run cfgOK (its := [.bool false, .loop (fun _ => (.exit 0, impl_forestOf_L0X2 k1y12 k1y13 k1y14 k1y15 k1yo4)), .res (.s (.v (.int .i64) c1)) [] [] [], .bool false])
    (ps := [decide (((List.length a0 : Nat) : Int) > (8 : Int)) = false,
      LoopSC cfg.P 1 (lb P_impl_forestOf 0) (impl_forestOf_L0a a0 ((List.length a0 : Nat) : Int) (0 : Int) ([] : List Tr)) (.exit 0) (impl_forestOf_L0X2 k1y12 k1y13 k1y14 k1y15 k1yo4),
      SC cfg.P i_impl_forest_carets [.s (.v (.sl .tree) k1yo4)] (.s (.v (.int .i64) c1)) [],
      decide (c1 ≤ (8 : Int)) = false]) (by kernel_rfl) ⟨(decide_eq_false h1), h2, h3, (decide_eq_false h4), trivial⟩ get_impl_forestOf (by decide)

/-! ### impl_twoForests -/


theorem impl_twoForests_p1 (a0 : (List ByteArray)) (a1 : (List ByteArray)) (c1a : (List Tr)) (c2a : (List Tr)) (c2b : Bool)
    (h1 : SC cfg.P i_impl_forestOf [.s (.v (.sl .str) a0)] (.tup [.v (.sl .tree) c1a, .v .bool true]) [])
    (h2 : SC cfg.P i_impl_forestOf [.s (.v (.sl .str) a1)] (.tup [.v (.sl .tree) c2a, .v .bool c2b]) []) :
    SC cfg.P i_impl_twoForests [.s (.v (.sl .str) a0), .s (.v (.sl .str) a1)] (.tup [.v (.sl .tree) c1a, .v (.sl .tree) c2a, .v .bool c2b]) [] :=
  SC_of_run cfgOK (its := [.res (.tup [.v (.sl .tree) c1a, .v .bool true]) [] [] [], .res (.tup [.v (.sl .tree) c2a, .v .bool c2b]) [] [] []])
    (ps := [SC cfg.P i_impl_forestOf [.s (.v (.sl .str) a0)] (.tup [.v (.sl .tree) c1a, .v .bool true]) [],
      SC cfg.P i_impl_forestOf [.s (.v (.sl .str) a1)] (.tup [.v (.sl .tree) c2a, .v .bool c2b]) []]) (by kernel_rfl) ⟨h1, h2, trivial⟩ get_impl_twoForests (by decide)

theorem impl_twoForests_p2 (a0 : (List ByteArray)) (a1 : (List ByteArray)) (c1a : (List Tr)) (c2a : (List Tr)) (c2b : Bool)
    (h1 : SC cfg.P i_impl_forestOf [.s (.v (.sl .str) a0)] (.tup [.v (.sl .tree) c1a, .v .bool false]) [])
    (h2 : SC cfg.P i_impl_forestOf [.s (.v (.sl .str) a1)] (.tup [.v (.sl .tree) c2a, .v .bool c2b]) []) :
    SC cfg.P i_impl_twoForests [.s (.v (.sl .str) a0), .s (.v (.sl .str) a1)] (.tup [.v (.sl .tree) c1a, .v (.sl .tree) c2a, .v .bool false]) [] :=
  SC_of_run cfgOK (its := [.res (.tup [.v (.sl .tree) c1a, .v .bool false]) [] [] [], .res (.tup [.v (.sl .tree) c2a, .v .bool c2b]) [] [] []])
    (ps := [SC cfg.P i_impl_forestOf [.s (.v (.sl .str) a0)] (.tup [.v (.sl .tree) c1a, .v .bool false]) [],
      SC cfg.P i_impl_forestOf [.s (.v (.sl .str) a1)] (.tup [.v (.sl .tree) c2a, .v .bool c2b]) []]) (by kernel_rfl) ⟨h1, h2, trivial⟩ get_impl_twoForests (by decide)

/-! ### spec_foIf -/


theorem spec_foIf_p1 (a0 : (List ByteArray)) (c1 : (List ByteArray))
    (h1 : SC cfg.P i_spec_wdShort [.s (.v (.sl .str) a0)] (.s (.own t_string .str c1)) [])
    (h2 : SC cfg.P i_spec_foGood [.s (.v (.sl .str) c1)] (.s (.v .bool true)) []) :
    SC cfg.P i_spec_foIf [.s (.v (.sl .str) a0)] (.tup [.own t_string .str c1, .v .bool true]) [] :=
  SC_of_run cfgOK (its := [.res (.s (.own t_string .str c1)) [] [] [6], .res (.s (.v .bool true)) [] [] []])
    (ps := [SC cfg.P i_spec_wdShort [.s (.v (.sl .str) a0)] (.s (.own t_string .str c1)) [],
      SC cfg.P i_spec_foGood [.s (.v (.sl .str) c1)] (.s (.v .bool true)) []]) (by kernel_rfl) ⟨h1, h2, trivial⟩ get_spec_foIf (by decide)

theorem spec_foIf_p2 (a0 : (List ByteArray)) (c1 : (List ByteArray))
    (h1 : SC cfg.P i_spec_wdShort [.s (.v (.sl .str) a0)] (.s (.own t_string .str c1)) [])
    (h2 : SC cfg.P i_spec_foGood [.s (.v (.sl .str) c1)] (.s (.v .bool false)) []) :
    SC cfg.P i_spec_foIf [.s (.v (.sl .str) a0)] (.tup [.own t_string .str ([] : List ByteArray), .v .bool false]) [] :=
  SC_of_run cfgOK (its := [.res (.s (.own t_string .str c1)) [] [] [6], .res (.s (.v .bool false)) [] [] []])
    (ps := [SC cfg.P i_spec_wdShort [.s (.v (.sl .str) a0)] (.s (.own t_string .str c1)) [],
      SC cfg.P i_spec_foGood [.s (.v (.sl .str) c1)] (.s (.v .bool false)) []]) (by kernel_rfl) ⟨h1, h2, trivial⟩ get_spec_foIf (by decide)

/-! ### impl_forest_texts -/


def impl_forest_texts_L0a (x17 : (List Tr)) (x18 : Int) (x19 : Int) (xo4 : (List ByteArray)) : St := mkSt 30 [(4, .s (.osl 4 0)), (17, .s (.v (.sl .tree) x17)), (18, .s (.v (.int .i64) x18)), (19, .s (.v (.int .i64) x19))] [(4, .row t_string .str xo4 0 false)]

def impl_forest_texts_L0X1 (y17 : (List Tr)) (y18 : Int) (y19 : Int) (y20 : Bool) (yo4 : (List ByteArray)) : St := mkSt 30 [(4, .s (.osl 4 0)), (17, .s (.v (.sl .tree) y17)), (18, .s (.v (.int .i64) y18)), (19, .s (.v (.int .i64) y19)), (20, .s (.v .bool y20))] [(4, .row t_string .str yo4 0 false)]

theorem impl_forest_texts_L0a_i1 (x17 : (List Tr)) (x18 : Int) (x19 : Int) (xo4 : (List ByteArray)) (dc1 : ByteArray)
    (h1 : x19 < x18)
    (h2 : 0 ≤ x19)
    (h3 : x19 < (List.length x17 : Int))
    (h4 : SC cfg.P i_impl_node_text [.s (.v .tree (List.getD x17 (x19).toNat Tr.leaf))] (.s (.v .str dc1)) [])
    (h5 : sizeOK (List.length xo4 + List.length ([dc1] : List ByteArray)))
    {e : AEx} {st : St} (next : LoopSC cfg.P 1 (lb P_impl_forest_texts 0) (impl_forest_texts_L0a x17 x18 (IntKind.wrap .i64 (x19 + (1 : Int))) (xo4 ++ ([dc1] : List ByteArray))) e st) :
    LoopSC cfg.P 1 (lb P_impl_forest_texts 0) (impl_forest_texts_L0a x17 x18 x19 xo4) e st :=
  loop_iter cfgOK (f := i_impl_forest_texts) (its := [.bool true, .res (.s (.v .str dc1)) [] [] []])
    (ps := [decide (x19 < x18) = true,
      0 ≤ x19,
      x19 < (List.length x17 : Int),
      SC cfg.P i_impl_node_text [.s (.v .tree (List.getD x17 (x19).toNat Tr.leaf))] (.s (.v .str dc1)) [],
      sizeOK (List.length xo4 + List.length ([dc1] : List ByteArray))]) (st1 := impl_forest_texts_L0a x17 x18 (IntKind.wrap .i64 (x19 + (1 : Int))) (xo4 ++ ([dc1] : List ByteArray))) (by kernel_rfl) ⟨(decide_eq_true h1), h2, h3, h4, h5, trivial⟩ next

theorem impl_forest_texts_L0a_x2 (x17 : (List Tr)) (x18 : Int) (x19 : Int) (xo4 : (List ByteArray))
    (h1 : ¬ (x19 < x18)) :
    LoopSC cfg.P 1 (lb P_impl_forest_texts 0) (impl_forest_texts_L0a x17 x18 x19 xo4) (.exit 0) (impl_forest_texts_L0X1 x17 x18 x19 false xo4) :=
  loop_out cfgOK (f := i_impl_forest_texts) (its := [.bool false])
    (ps := [decide (x19 < x18) = false]) (by kernel_rfl) ⟨(decide_eq_false h1), trivial⟩ (fun h => by cases h)

theorem impl_forest_texts_p1 (a0 : (List Tr)) (c1 : (List Tr))
    (h1 : SC cfg.P i_impl_forest_trimmed [.s (.v (.sl .tree) a0)] (.s (.v (.sl .tree) c1)) [])
    (h2 : ((List.length c1 : Nat) : Int) > (8 : Int)) :
    SC cfg.P i_impl_forest_texts [.s (.v (.sl .tree) a0)] (.tup [.own t_string .str ([] : List ByteArray), .v .bool false]) [] :=
  SC_of_run cfgOK (its := [.res (.s (.v (.sl .tree) c1)) [] [] [], .bool true])
    (ps := [SC cfg.P i_impl_forest_trimmed [.s (.v (.sl .tree) a0)] (.s (.v (.sl .tree) c1)) [],
      decide (((List.length c1 : Nat) : Int) > (8 : Int)) = true]) (by kernel_rfl) ⟨h1, (decide_eq_true h2), trivial⟩ get_impl_forest_texts (by decide)

theorem impl_forest_texts_p2 (a0 : (List Tr)) (c1 : (List Tr)) (c2 : Int)
    (h1 : SC cfg.P i_impl_forest_trimmed [.s (.v (.sl .tree) a0)] (.s (.v (.sl .tree) c1)) [])
    (h2 : ¬ (((List.length c1 : Nat) : Int) > (8 : Int)))
    (h3 : SC cfg.P i_impl_forest_carets [.s (.v (.sl .tree) c1)] (.s (.v (.int .i64) c2)) [])
    (h4 : c2 > (8 : Int)) :
    SC cfg.P i_impl_forest_texts [.s (.v (.sl .tree) a0)] (.tup [.own t_string .str ([] : List ByteArray), .v .bool false]) [] :=
  SC_of_run cfgOK (its := [.res (.s (.v (.sl .tree) c1)) [] [] [], .bool false, .res (.s (.v (.int .i64) c2)) [] [] [], .bool true])
    (ps := [SC cfg.P i_impl_forest_trimmed [.s (.v (.sl .tree) a0)] (.s (.v (.sl .tree) c1)) [],
      decide (((List.length c1 : Nat) : Int) > (8 : Int)) = false,
      SC cfg.P i_impl_forest_carets [.s (.v (.sl .tree) c1)] (.s (.v (.int .i64) c2)) [],
      decide (c2 > (8 : Int)) = true]) (by kernel_rfl) ⟨h1, (decide_eq_false h2), h3, (decide_eq_true h4), trivial⟩ get_impl_forest_texts (by decide)

theorem impl_forest_texts_p3 (a0 : (List Tr)) (c1 : (List Tr)) (c2 : Int) (k1y17 : (List Tr)) (k1y18 : Int) (k1y19 : Int) (k1y20 : Bool) (k1yo4 : (List ByteArray))
    (h1 : SC cfg.P i_impl_forest_trimmed [.s (.v (.sl .tree) a0)] (.s (.v (.sl .tree) c1)) [])
    (h2 : ¬ (((List.length c1 : Nat) : Int) > (8 : Int)))
    (h3 : SC cfg.P i_impl_forest_carets [.s (.v (.sl .tree) c1)] (.s (.v (.int .i64) c2)) [])
    (h4 : ¬ (c2 > (8 : Int)))
    (h5 : LoopSC cfg.P 1 (lb P_impl_forest_texts 0) (impl_forest_texts_L0a c1 ((List.length c1 : Nat) : Int) (0 : Int) ([] : List ByteArray)) (.exit 0) (impl_forest_texts_L0X1 k1y17 k1y18 k1y19 k1y20 k1yo4)) :
    SC cfg.P i_impl_forest_texts [.s (.v (.sl .tree) a0)] (.tup [.own t_string .str k1yo4, .v .bool true]) [] :=
  SC_of_run cfgOK (its := [.res (.s (.v (.sl .tree) c1)) [] [] [], .bool false, .res (.s (.v (.int .i64) c2)) [] [] [], .bool false, .loop (fun _ => (.exit 0, impl_forest_texts_L0X1 k1y17 k1y18 k1y19 k1y20 k1yo4))])
    (ps := [SC cfg.P i_impl_forest_trimmed [.s (.v (.sl .tree) a0)] (.s (.v (.sl .tree) c1)) [],
      decide (((List.length c1 : Nat) : Int) > (8 : Int)) = false,
      SC cfg.P i_impl_forest_carets [.s (.v (.sl .tree) c1)] (.s (.v (.int .i64) c2)) [],
      decide (c2 > (8 : Int)) = false,
      LoopSC cfg.P 1 (lb P_impl_forest_texts 0) (impl_forest_texts_L0a c1 ((List.length c1 : Nat) : Int) (0 : Int) ([] : List ByteArray)) (.exit 0) (impl_forest_texts_L0X1 k1y17 k1y18 k1y19 k1y20 k1yo4)]) (by kernel_rfl) ⟨h1, (decide_eq_false h2), h3, (decide_eq_false h4), h5, trivial⟩ get_impl_forest_texts (by decide)

/-! ### impl_forest_carets -/


def impl_forest_carets_L0a (x3 : Int) (x6 : (List Tr)) (x7 : Int) (x8 : Int) : St := mkSt 18 [(3, .s (.v (.int .i64) x3)), (6, .s (.v (.sl .tree) x6)), (7, .s (.v (.int .i64) x7)), (8, .s (.v (.int .i64) x8))] []

def impl_forest_carets_L0X1 (y3 : Int) (y6 : (List Tr)) (y7 : Int) (y8 : Int) (y9 : Bool) : St := mkSt 18 [(3, .s (.v (.int .i64) y3)), (6, .s (.v (.sl .tree) y6)), (7, .s (.v (.int .i64) y7)), (8, .s (.v (.int .i64) y8)), (9, .s (.v .bool y9))] []

theorem impl_forest_carets_L0a_i1 (x3 : Int) (x6 : (List Tr)) (x7 : Int) (x8 : Int) (dc1 : Int)
    (h1 : x8 < x7)
    (h2 : 0 ≤ x8)
    (h3 : x8 < (List.length x6 : Int))
    (h4 : SC cfg.P i_impl_node_carets [.s (.v .tree (List.getD x6 (x8).toNat Tr.leaf))] (.s (.v (.int .i64) dc1)) [])
    {e : AEx} {st : St} (next : LoopSC cfg.P 1 (lb P_impl_forest_carets 0) (impl_forest_carets_L0a (IntKind.wrap .i64 (x3 + dc1)) x6 x7 (IntKind.wrap .i64 (x8 + (1 : Int)))) e st) :
    LoopSC cfg.P 1 (lb P_impl_forest_carets 0) (impl_forest_carets_L0a x3 x6 x7 x8) e st :=
  loop_iter cfgOK (f := i_impl_forest_carets) (its := [.bool true, .res (.s (.v (.int .i64) dc1)) [] [] []])
    (ps := [decide (x8 < x7) = true,
      0 ≤ x8,
      x8 < (List.length x6 : Int),
      SC cfg.P i_impl_node_carets [.s (.v .tree (List.getD x6 (x8).toNat Tr.leaf))] (.s (.v (.int .i64) dc1)) []]) (st1 := impl_forest_carets_L0a (IntKind.wrap .i64 (x3 + dc1)) x6 x7 (IntKind.wrap .i64 (x8 + (1 : Int)))) (by kernel_rfl) ⟨(decide_eq_true h1), h2, h3, h4, trivial⟩ next

theorem impl_forest_carets_L0a_x2 (x3 : Int) (x6 : (List Tr)) (x7 : Int) (x8 : Int)
    (h1 : ¬ (x8 < x7)) :
    LoopSC cfg.P 1 (lb P_impl_forest_carets 0) (impl_forest_carets_L0a x3 x6 x7 x8) (.exit 0) (impl_forest_carets_L0X1 x3 x6 x7 x8 false) :=
  loop_out cfgOK (f := i_impl_forest_carets) (its := [.bool false])
    (ps := [decide (x8 < x7) = false]) (by kernel_rfl) ⟨(decide_eq_false h1), trivial⟩ (fun h => by cases h)

theorem impl_forest_carets_p1 (a0 : (List Tr)) (k1y3 : Int) (k1y6 : (List Tr)) (k1y7 : Int) (k1y8 : Int) (k1y9 : Bool)
    (h1 : LoopSC cfg.P 1 (lb P_impl_forest_carets 0) (impl_forest_carets_L0a (0 : Int) a0 ((List.length a0 : Nat) : Int) (0 : Int)) (.exit 0) (impl_forest_carets_L0X1 k1y3 k1y6 k1y7 k1y8 k1y9)) :
    SC cfg.P i_impl_forest_carets [.s (.v (.sl .tree) a0)] (.s (.v (.int .i64) k1y3)) [] :=
  SC_of_run cfgOK (its := [.loop (fun _ => (.exit 0, impl_forest_carets_L0X1 k1y3 k1y6 k1y7 k1y8 k1y9))])
    (ps := [LoopSC cfg.P 1 (lb P_impl_forest_carets 0) (impl_forest_carets_L0a (0 : Int) a0 ((List.length a0 : Nat) : Int) (0 : Int)) (.exit 0) (impl_forest_carets_L0X1 k1y3 k1y6 k1y7 k1y8 k1y9)]) (by kernel_rfl) ⟨h1, trivial⟩ get_impl_forest_carets (by decide)

/-! ### impl_forest_trimmed -/


def impl_forest_trimmed_L0a (x0 : (List Tr)) : St := mkSt 21 [(0, .s (.v (.sl .tree) x0))] []

def impl_forest_trimmed_L0X1 (y0 : (List Tr)) (y14 : Bool) : St := mkSt 21 [(0, .s (.v (.sl .tree) y0)), (14, .s (.v .bool y14))] []

theorem impl_forest_trimmed_L0a_i1 (x0 : (List Tr))
    (h1 : ((List.length x0 : Nat) : Int) > (0 : Int))
    (h2 : 0 ≤ (IntKind.wrap .i64 (((List.length x0 : Nat) : Int) - (1 : Int))))
    (h3 : (IntKind.wrap .i64 (((List.length x0 : Nat) : Int) - (1 : Int))) < (List.length x0 : Int))
    (h4 : ((List.getD x0 ((IntKind.wrap .i64 (((List.length x0 : Nat) : Int) - (1 : Int)))).toNat Tr.leaf)).isLeaf = true)
    (h5 : (IntKind.wrap .i64 (((List.length x0 : Nat) : Int) - (1 : Int))) ≤ (List.length x0 : Int))
    {e : AEx} {st : St} (next : LoopSC cfg.P 1 (lb P_impl_forest_trimmed 0) (impl_forest_trimmed_L0a (cutL x0 (0 : Int) (IntKind.wrap .i64 (((List.length x0 : Nat) : Int) - (1 : Int))))) e st) :
    LoopSC cfg.P 1 (lb P_impl_forest_trimmed 0) (impl_forest_trimmed_L0a x0) e st :=
  loop_iter cfgOK (f := i_impl_forest_trimmed) (its := [.bool true, .bool true])
    (ps := [decide (((List.length x0 : Nat) : Int) > (0 : Int)) = true,
      0 ≤ (IntKind.wrap .i64 (((List.length x0 : Nat) : Int) - (1 : Int))),
      (IntKind.wrap .i64 (((List.length x0 : Nat) : Int) - (1 : Int))) < (List.length x0 : Int),
      ((List.getD x0 ((IntKind.wrap .i64 (((List.length x0 : Nat) : Int) - (1 : Int)))).toNat Tr.leaf)).isLeaf = true,
      0 ≤ (IntKind.wrap .i64 (((List.length x0 : Nat) : Int) - (1 : Int))),
      (IntKind.wrap .i64 (((List.length x0 : Nat) : Int) - (1 : Int))) ≤ (List.length x0 : Int)]) (st1 := impl_forest_trimmed_L0a (cutL x0 (0 : Int) (IntKind.wrap .i64 (((List.length x0 : Nat) : Int) - (1 : Int))))) (by kernel_rfl) ⟨(decide_eq_true h1), h2, h3, h4, h2, h5, trivial⟩ next

theorem impl_forest_trimmed_L0a_x2 (x0 : (List Tr))
    (h1 : ((List.length x0 : Nat) : Int) > (0 : Int))
    (h2 : 0 ≤ (IntKind.wrap .i64 (((List.length x0 : Nat) : Int) - (1 : Int))))
    (h3 : (IntKind.wrap .i64 (((List.length x0 : Nat) : Int) - (1 : Int))) < (List.length x0 : Int))
    (h4 : ((List.getD x0 ((IntKind.wrap .i64 (((List.length x0 : Nat) : Int) - (1 : Int)))).toNat Tr.leaf)).isLeaf = false) :
    LoopSC cfg.P 1 (lb P_impl_forest_trimmed 0) (impl_forest_trimmed_L0a x0) (.exit 0) (impl_forest_trimmed_L0X1 x0 false) :=
  loop_out cfgOK (f := i_impl_forest_trimmed) (its := [.bool true, .bool false])
    (ps := [decide (((List.length x0 : Nat) : Int) > (0 : Int)) = true,
      0 ≤ (IntKind.wrap .i64 (((List.length x0 : Nat) : Int) - (1 : Int))),
      (IntKind.wrap .i64 (((List.length x0 : Nat) : Int) - (1 : Int))) < (List.length x0 : Int),
      ((List.getD x0 ((IntKind.wrap .i64 (((List.length x0 : Nat) : Int) - (1 : Int)))).toNat Tr.leaf)).isLeaf = false]) (by kernel_rfl) ⟨(decide_eq_true h1), h2, h3, h4, trivial⟩ (fun h => by cases h)

theorem impl_forest_trimmed_L0a_x3 (x0 : (List Tr))
    (h1 : ¬ (((List.length x0 : Nat) : Int) > (0 : Int))) :
    LoopSC cfg.P 1 (lb P_impl_forest_trimmed 0) (impl_forest_trimmed_L0a x0) (.exit 0) (impl_forest_trimmed_L0X1 x0 false) :=
  loop_out cfgOK (f := i_impl_forest_trimmed) (its := [.bool false])
    (ps := [decide (((List.length x0 : Nat) : Int) > (0 : Int)) = false]) (by kernel_rfl) ⟨(decide_eq_false h1), trivial⟩ (fun h => by cases h)

theorem impl_forest_trimmed_p1 (a0 : (List Tr)) (k1y0 : (List Tr)) (k1y14 : Bool)
    (h1 : LoopSC cfg.P 1 (lb P_impl_forest_trimmed 0) (impl_forest_trimmed_L0a a0) (.exit 0) (impl_forest_trimmed_L0X1 k1y0 k1y14)) :
    SC cfg.P i_impl_forest_trimmed [.s (.v (.sl .tree) a0)] (.s (.v (.sl .tree) k1y0)) [] :=
  SC_of_run cfgOK (its := [.loop (fun _ => (.exit 0, impl_forest_trimmed_L0X1 k1y0 k1y14))])
    (ps := [LoopSC cfg.P 1 (lb P_impl_forest_trimmed 0) (impl_forest_trimmed_L0a a0) (.exit 0) (impl_forest_trimmed_L0X1 k1y0 k1y14)]) (by kernel_rfl) ⟨h1, trivial⟩ get_impl_forest_trimmed (by decide)

/-! ### spec_wdShort -/


def spec_wdShort_L0a (x0 : (List ByteArray)) (x3 : Int) : St := mkSt 23 [(0, .s (.v (.sl .str) x0)), (3, .s (.v (.int .i64) x3))] []

def spec_wdShort_L0X1 (y0 : (List ByteArray)) (y3 : Int) (y15 : Bool) : St := mkSt 23 [(0, .s (.v (.sl .str) y0)), (3, .s (.v (.int .i64) y3)), (15, .s (.v .bool y15))] []

theorem spec_wdShort_L0a_i1 (x0 : (List ByteArray)) (x3 : Int)
    (h1 : x3 > (0 : Int))
    (h2 : 0 ≤ (IntKind.wrap .i64 (x3 - (1 : Int))))
    (h3 : (IntKind.wrap .i64 (x3 - (1 : Int))) < (List.length x0 : Int))
    (h4 : SC cfg.P i_spec_trLeaf [.s (.v .str (List.getD x0 ((IntKind.wrap .i64 (x3 - (1 : Int)))).toNat (⟨#[]⟩ : ByteArray)))] (.s (.v .bool true)) [])
    {e : AEx} {st : St} (next : LoopSC cfg.P 1 (lb P_spec_wdShort 0) (spec_wdShort_L0a x0 (IntKind.wrap .i64 (x3 - (1 : Int)))) e st) :
    LoopSC cfg.P 1 (lb P_spec_wdShort 0) (spec_wdShort_L0a x0 x3) e st :=
  loop_iter cfgOK (f := i_spec_wdShort) (its := [.bool true, .res (.s (.v .bool true)) [] [] []])
    (ps := [decide (x3 > (0 : Int)) = true,
      0 ≤ (IntKind.wrap .i64 (x3 - (1 : Int))),
      (IntKind.wrap .i64 (x3 - (1 : Int))) < (List.length x0 : Int),
      SC cfg.P i_spec_trLeaf [.s (.v .str (List.getD x0 ((IntKind.wrap .i64 (x3 - (1 : Int)))).toNat (⟨#[]⟩ : ByteArray)))] (.s (.v .bool true)) []]) (st1 := spec_wdShort_L0a x0 (IntKind.wrap .i64 (x3 - (1 : Int)))) (by kernel_rfl) ⟨(decide_eq_true h1), h2, h3, h4, trivial⟩ next

theorem spec_wdShort_L0a_x2 (x0 : (List ByteArray)) (x3 : Int)
    (h1 : x3 > (0 : Int))
    (h2 : 0 ≤ (IntKind.wrap .i64 (x3 - (1 : Int))))
    (h3 : (IntKind.wrap .i64 (x3 - (1 : Int))) < (List.length x0 : Int))
    (h4 : SC cfg.P i_spec_trLeaf [.s (.v .str (List.getD x0 ((IntKind.wrap .i64 (x3 - (1 : Int)))).toNat (⟨#[]⟩ : ByteArray)))] (.s (.v .bool false)) []) :
    LoopSC cfg.P 1 (lb P_spec_wdShort 0) (spec_wdShort_L0a x0 x3) (.exit 0) (spec_wdShort_L0X1 x0 x3 false) :=
  loop_out cfgOK (f := i_spec_wdShort) (its := [.bool true, .res (.s (.v .bool false)) [] [] []])
    (ps := [decide (x3 > (0 : Int)) = true,
      0 ≤ (IntKind.wrap .i64 (x3 - (1 : Int))),
      (IntKind.wrap .i64 (x3 - (1 : Int))) < (List.length x0 : Int),
      SC cfg.P i_spec_trLeaf [.s (.v .str (List.getD x0 ((IntKind.wrap .i64 (x3 - (1 : Int)))).toNat (⟨#[]⟩ : ByteArray)))] (.s (.v .bool false)) []]) (by kernel_rfl) ⟨(decide_eq_true h1), h2, h3, h4, trivial⟩ (fun h => by cases h)

theorem spec_wdShort_L0a_x3 (x0 : (List ByteArray)) (x3 : Int)
    (h1 : ¬ (x3 > (0 : Int))) :
    LoopSC cfg.P 1 (lb P_spec_wdShort 0) (spec_wdShort_L0a x0 x3) (.exit 0) (spec_wdShort_L0X1 x0 x3 false) :=
  loop_out cfgOK (f := i_spec_wdShort) (its := [.bool false])
    (ps := [decide (x3 > (0 : Int)) = false]) (by kernel_rfl) ⟨(decide_eq_false h1), trivial⟩ (fun h => by cases h)

theorem spec_wdShort_p1 (a0 : (List ByteArray)) (k1y0 : (List ByteArray)) (k1y3 : Int) (k1y15 : Bool)
    (h1 : LoopSC cfg.P 1 (lb P_spec_wdShort 0) (spec_wdShort_L0a a0 ((List.length a0 : Nat) : Int)) (.exit 0) (spec_wdShort_L0X1 k1y0 k1y3 k1y15))
    (h2 : 0 ≤ k1y3)
    (h3 : k1y3 ≤ (List.length k1y0 : Int))
    (h4 : sizeOK (List.length ([] : List ByteArray) + List.length (cutL k1y0 (0 : Int) k1y3))) :
    SC cfg.P i_spec_wdShort [.s (.v (.sl .str) a0)] (.s (.own t_string .str (([] : List ByteArray) ++ (cutL k1y0 (0 : Int) k1y3)))) [] :=
  SC_of_run cfgOK (its := [.loop (fun _ => (.exit 0, spec_wdShort_L0X1 k1y0 k1y3 k1y15))])
    (ps := [LoopSC cfg.P 1 (lb P_spec_wdShort 0) (spec_wdShort_L0a a0 ((List.length a0 : Nat) : Int)) (.exit 0) (spec_wdShort_L0X1 k1y0 k1y3 k1y15),
      0 ≤ k1y3,
      k1y3 ≤ (List.length k1y0 : Int),
      sizeOK (List.length ([] : List ByteArray) + List.length (cutL k1y0 (0 : Int) k1y3))]) (by kernel_rfl) ⟨h1, h2, h3, h4, trivial⟩ get_spec_wdShort (by decide)

/-! ### impl_forest_tree -/


theorem impl_forest_tree_p1 (a0 : (List Tr)) (a1 : Int)
    (h1 : a1 < ((List.length a0 : Nat) : Int))
    (h2 : 0 ≤ a1)
    (h3 : a1 < (List.length a0 : Int)) :
    SC cfg.P i_impl_forest_tree [.s (.v (.sl .tree) a0), .s (.v (.int .i64) a1)] (.s (.v .tree (List.getD a0 (a1).toNat Tr.leaf))) [] :=
  SC_of_run cfgOK (its := [.bool true])
    (ps := [decide (a1 < ((List.length a0 : Nat) : Int)) = true,
      0 ≤ a1,
      a1 < (List.length a0 : Int)]) (by kernel_rfl) ⟨(decide_eq_true h1), h2, h3, trivial⟩ get_impl_forest_tree (by decide)

theorem impl_forest_tree_p2 (a0 : (List Tr)) (a1 : Int)
    (h1 : ¬ (a1 < ((List.length a0 : Nat) : Int))) :
    SC cfg.P i_impl_forest_tree [.s (.v (.sl .tree) a0), .s (.v (.int .i64) a1)] (.s (.v .tree Tr.leaf)) [] :=
  SC_of_run cfgOK (its := [.bool false])
    (ps := [decide (a1 < ((List.length a0 : Nat) : Int)) = false]) (by kernel_rfl) ⟨(decide_eq_false h1), trivial⟩ get_impl_forest_tree (by decide)

end Go.AI
