/- A part of the road: what it proves stands in its last texts. -/
import Derived.Test.YtmoodcnoncipiaaSIds
import Derived.Test.YtmoodcnoncipiaaProg
set_option autoImplicit false
set_option maxRecDepth 100000
set_option linter.unusedVariables false
namespace Go.AI
open Go.Proofs

/-! ### laws_eqFractionS -/


def laws_eqFractionS_L0a (x0 : (List (Int × Int))) (x1 : (List (Int × Int))) (x5 : Int) : St := mkSt 27 [(0, .s (.v (.sl (.pr (.int .i64) (.int .i64))) x0)), (1, .s (.v (.sl (.pr (.int .i64) (.int .i64))) x1)), (5, .s (.v (.int .i64) x5))] []

def laws_eqFractionS_L0X1 (y4 : Bool) : St := mkSt 27 [(4, .s (.v .bool y4))] []

def laws_eqFractionS_L0X2 (y0 : (List (Int × Int))) (y1 : (List (Int × Int))) (y5 : Int) (y14 : Bool) : St := mkSt 27 [(0, .s (.v (.sl (.pr (.int .i64) (.int .i64))) y0)), (1, .s (.v (.sl (.pr (.int .i64) (.int .i64))) y1)), (5, .s (.v (.int .i64) y5)), (14, .s (.v .bool y14))] []

theorem laws_eqFractionS_L0a_i1 (x0 : (List (Int × Int))) (x1 : (List (Int × Int))) (x5 : Int)
    (h1 : x5 < ((List.length x0 : Nat) : Int))
    (h2 : 0 ≤ x5)
    (h3 : x5 < (List.length x0 : Int))
    (h4 : x5 < (List.length x1 : Int))
    (h5 : SC cfg.P i_laws_eqFraction [.s (.v (.pr (.int .i64) (.int .i64)) (List.getD x0 (x5).toNat ((0 : Int), (0 : Int)))), .s (.v (.pr (.int .i64) (.int .i64)) (List.getD x1 (x5).toNat ((0 : Int), (0 : Int))))] (.s (.v .bool true)) [])
    {e : AEx} {st : St} (next : LoopSC cfg.P 2 (lb P_laws_eqFractionS 0) (laws_eqFractionS_L0a x0 x1 (IntKind.wrap .i64 (x5 + (1 : Int)))) e st) :
    LoopSC cfg.P 2 (lb P_laws_eqFractionS 0) (laws_eqFractionS_L0a x0 x1 x5) e st :=
  loop_iter cfgOK (f := i_laws_eqFractionS) (its := [.bool true, .res (.s (.v .bool true)) [] [] []])
    (ps := [decide (x5 < ((List.length x0 : Nat) : Int)) = true,
      0 ≤ x5,
      x5 < (List.length x0 : Int),
      0 ≤ x5,
      x5 < (List.length x1 : Int),
      SC cfg.P i_laws_eqFraction [.s (.v (.pr (.int .i64) (.int .i64)) (List.getD x0 (x5).toNat ((0 : Int), (0 : Int)))), .s (.v (.pr (.int .i64) (.int .i64)) (List.getD x1 (x5).toNat ((0 : Int), (0 : Int))))] (.s (.v .bool true)) []]) (st1 := laws_eqFractionS_L0a x0 x1 (IntKind.wrap .i64 (x5 + (1 : Int)))) (by kernel_rfl) ⟨(decide_eq_true h1), h2, h3, h2, h4, h5, trivial⟩ next

theorem laws_eqFractionS_L0a_x2 (x0 : (List (Int × Int))) (x1 : (List (Int × Int))) (x5 : Int)
    (h1 : x5 < ((List.length x0 : Nat) : Int))
    (h2 : 0 ≤ x5)
    (h3 : x5 < (List.length x0 : Int))
    (h4 : x5 < (List.length x1 : Int))
    (h5 : SC cfg.P i_laws_eqFraction [.s (.v (.pr (.int .i64) (.int .i64)) (List.getD x0 (x5).toNat ((0 : Int), (0 : Int)))), .s (.v (.pr (.int .i64) (.int .i64)) (List.getD x1 (x5).toNat ((0 : Int), (0 : Int))))] (.s (.v .bool false)) []) :
    LoopSC cfg.P 2 (lb P_laws_eqFractionS 0) (laws_eqFractionS_L0a x0 x1 x5) (.ret) (laws_eqFractionS_L0X1 false) :=
  loop_out cfgOK (f := i_laws_eqFractionS) (its := [.bool true, .res (.s (.v .bool false)) [] [] []])
    (ps := [decide (x5 < ((List.length x0 : Nat) : Int)) = true,
      0 ≤ x5,
      x5 < (List.length x0 : Int),
      0 ≤ x5,
      x5 < (List.length x1 : Int),
      SC cfg.P i_laws_eqFraction [.s (.v (.pr (.int .i64) (.int .i64)) (List.getD x0 (x5).toNat ((0 : Int), (0 : Int)))), .s (.v (.pr (.int .i64) (.int .i64)) (List.getD x1 (x5).toNat ((0 : Int), (0 : Int))))] (.s (.v .bool false)) []]) (by kernel_rfl) ⟨(decide_eq_true h1), h2, h3, h2, h4, h5, trivial⟩ (fun h => by cases h)

theorem laws_eqFractionS_L0a_x3 (x0 : (List (Int × Int))) (x1 : (List (Int × Int))) (x5 : Int)
    (h1 : ¬ (x5 < ((List.length x0 : Nat) : Int))) :
    LoopSC cfg.P 2 (lb P_laws_eqFractionS 0) (laws_eqFractionS_L0a x0 x1 x5) (.exit 0) (laws_eqFractionS_L0X2 x0 x1 x5 false) :=
  loop_out cfgOK (f := i_laws_eqFractionS) (its := [.bool false])
    (ps := [decide (x5 < ((List.length x0 : Nat) : Int)) = false]) (by kernel_rfl) ⟨(decide_eq_false h1), trivial⟩ (fun h => by cases h)

theorem laws_eqFractionS_p1 (a0 : (List (Int × Int))) (a1 : (List (Int × Int)))
    (h1 : ((List.length a0 : Nat) : Int) ≠ ((List.length a1 : Nat) : Int)) :
    SC cfg.P i_laws_eqFractionS [.s (.v (.sl (.pr (.int .i64) (.int .i64))) a0), .s (.v (.sl (.pr (.int .i64) (.int .i64))) a1)] (.s (.v .bool false)) [] :=
  SC_of_run cfgOK (its := [.bool true])
    (ps := [(((List.length a0 : Nat) : Int) != ((List.length a1 : Nat) : Int)) = true]) (by kernel_rfl) ⟨(bne_t h1), trivial⟩ get_laws_eqFractionS (by decide)

theorem laws_eqFractionS_p2 (a0 : (List (Int × Int))) (a1 : (List (Int × Int))) (k1y4 : Bool)
    (h1 : ((List.length a0 : Nat) : Int) = ((List.length a1 : Nat) : Int))
    (h2 : LoopSC cfg.P 2 (lb P_laws_eqFractionS 0) (laws_eqFractionS_L0a a0 a1 (0 : Int)) (.ret) (laws_eqFractionS_L0X1 k1y4)) :
    SC cfg.P i_laws_eqFractionS [.s (.v (.sl (.pr (.int .i64) (.int .i64))) a0), .s (.v (.sl (.pr (.int .i64) (.int .i64))) a1)] (.s (.v .bool k1y4)) [] :=
  SC_of_run cfgOK (its := [.bool false, .loop (fun _ => (.ret, laws_eqFractionS_L0X1 k1y4))])
    (ps := [(((List.length a0 : Nat) : Int) != ((List.length a1 : Nat) : Int)) = false,
      LoopSC cfg.P 2 (lb P_laws_eqFractionS 0) (laws_eqFractionS_L0a a0 a1 (0 : Int)) (.ret) (laws_eqFractionS_L0X1 k1y4)]) (by kernel_rfl) ⟨(bne_f h1), h2, trivial⟩ get_laws_eqFractionS (by decide)

theorem laws_eqFractionS_p3 (a0 : (List (Int × Int))) (a1 : (List (Int × Int))) (k1y0 : (List (Int × Int))) (k1y1 : (List (Int × Int))) (k1y5 : Int) (k1y14 : Bool)
    (h1 : ((List.length a0 : Nat) : Int) = ((List.length a1 : Nat) : Int))
    (h2 : LoopSC cfg.P 2 (lb P_laws_eqFractionS 0) (laws_eqFractionS_L0a a0 a1 (0 : Int)) (.exit 0) (laws_eqFractionS_L0X2 k1y0 k1y1 k1y5 k1y14)) :
    SC cfg.P i_laws_eqFractionS [.s (.v (.sl (.pr (.int .i64) (.int .i64))) a0), .s (.v (.sl (.pr (.int .i64) (.int .i64))) a1)] (.s (.v .bool true)) [] :=
  SC_of_run cfgOK (its := [.bool false, .loop (fun _ => (.exit 0, laws_eqFractionS_L0X2 k1y0 k1y1 k1y5 k1y14))])
    (ps := [(((List.length a0 : Nat) : Int) != ((List.length a1 : Nat) : Int)) = false,
      LoopSC cfg.P 2 (lb P_laws_eqFractionS 0) (laws_eqFractionS_L0a a0 a1 (0 : Int)) (.exit 0) (laws_eqFractionS_L0X2 k1y0 k1y1 k1y5 k1y14)]) (by kernel_rfl) ⟨(bne_f h1), h2, trivial⟩ get_laws_eqFractionS (by decide)

/-! ### laws_markFractionS -/


def laws_markFractionS_L0a (x1 : Int) (x5 : Int) (xo0 : (List (Int × Int))) : St := mkSt 27 [(0, .s (.osl 0 0)), (1, .s (.v (.int .i64) x1)), (5, .s (.v (.int .i64) x5))] [(0, .row t_impl_Fraction (.pr (.int .i64) (.int .i64)) xo0 0 false)]

def laws_markFractionS_L0X1 (y1 : Int) (y5 : Int) (y9 : Bool) (yo0 : (List (Int × Int))) : St := mkSt 27 [(0, .s (.osl 0 0)), (1, .s (.v (.int .i64) y1)), (5, .s (.v (.int .i64) y5)), (9, .s (.v .bool y9))] [(0, .row t_impl_Fraction (.pr (.int .i64) (.int .i64)) yo0 0 false)]

theorem laws_markFractionS_L0a_i1 (x1 : Int) (x5 : Int) (xo0 : (List (Int × Int)))
    (h1 : x5 < ((List.length xo0 : Nat) : Int))
    (h2 : 0 ≤ x5)
    (h3 : x5 < (List.length xo0 : Int))
    (h4 : (x5).toNat < List.length xo0)
    (h5 : x5 < (List.length (List.set xo0 (x5).toNat (x1, (List.getD xo0 (x5).toNat ((0 : Int), (0 : Int))).2)) : Int))
    (h6 : (x5).toNat < List.length (List.set xo0 (x5).toNat (x1, (List.getD xo0 (x5).toNat ((0 : Int), (0 : Int))).2)))
    {e : AEx} {st : St} (next : LoopSC cfg.P 2 (lb P_laws_markFractionS 0) (laws_markFractionS_L0a (IntKind.wrap .i64 ((IntKind.wrap .i64 (x1 + (1 : Int))) + (1 : Int))) (IntKind.wrap .i64 (x5 + (1 : Int))) (List.set (List.set xo0 (x5).toNat (x1, (List.getD xo0 (x5).toNat ((0 : Int), (0 : Int))).2)) (x5).toNat ((List.getD (List.set xo0 (x5).toNat (x1, (List.getD xo0 (x5).toNat ((0 : Int), (0 : Int))).2)) (x5).toNat ((0 : Int), (0 : Int))).1, (IntKind.wrap .i64 (x1 + (1 : Int)))))) e st) :
    LoopSC cfg.P 2 (lb P_laws_markFractionS 0) (laws_markFractionS_L0a x1 x5 xo0) e st :=
  loop_iter cfgOK (f := i_laws_markFractionS) (its := [.bool true])
    (ps := [decide (x5 < ((List.length xo0 : Nat) : Int)) = true,
      0 ≤ x5,
      x5 < (List.length xo0 : Int),
      (x5).toNat < List.length xo0,
      0 ≤ x5,
      x5 < (List.length (List.set xo0 (x5).toNat (x1, (List.getD xo0 (x5).toNat ((0 : Int), (0 : Int))).2)) : Int),
      (x5).toNat < List.length (List.set xo0 (x5).toNat (x1, (List.getD xo0 (x5).toNat ((0 : Int), (0 : Int))).2))]) (st1 := laws_markFractionS_L0a (IntKind.wrap .i64 ((IntKind.wrap .i64 (x1 + (1 : Int))) + (1 : Int))) (IntKind.wrap .i64 (x5 + (1 : Int))) (List.set (List.set xo0 (x5).toNat (x1, (List.getD xo0 (x5).toNat ((0 : Int), (0 : Int))).2)) (x5).toNat ((List.getD (List.set xo0 (x5).toNat (x1, (List.getD xo0 (x5).toNat ((0 : Int), (0 : Int))).2)) (x5).toNat ((0 : Int), (0 : Int))).1, (IntKind.wrap .i64 (x1 + (1 : Int)))))) (by kernel_rfl) ⟨(decide_eq_true h1), h2, h3, h4, h2, h5, h6, trivial⟩ next

theorem laws_markFractionS_L0a_x2 (x1 : Int) (x5 : Int) (xo0 : (List (Int × Int)))
    (h1 : ¬ (x5 < ((List.length xo0 : Nat) : Int))) :
    LoopSC cfg.P 2 (lb P_laws_markFractionS 0) (laws_markFractionS_L0a x1 x5 xo0) (.exit 0) (laws_markFractionS_L0X1 x1 x5 false xo0) :=
  loop_out cfgOK (f := i_laws_markFractionS) (its := [.bool false])
    (ps := [decide (x5 < ((List.length xo0 : Nat) : Int)) = false]) (by kernel_rfl) ⟨(decide_eq_false h1), trivial⟩ (fun h => by cases h)

theorem laws_markFractionS_p1 (a0 : (List (Int × Int))) (a1 : Int) (k1y1 : Int) (k1y5 : Int) (k1y9 : Bool) (k1yo0 : (List (Int × Int)))
    (h1 : LoopSC cfg.P 2 (lb P_laws_markFractionS 0) (laws_markFractionS_L0a a1 (0 : Int) a0) (.exit 0) (laws_markFractionS_L0X1 k1y1 k1y5 k1y9 k1yo0)) :
    SC cfg.P i_laws_markFractionS [.s (.msl t_impl_Fraction (.pr (.int .i64) (.int .i64)) a0), .s (.v (.int .i64) a1)] (.s (.v (.int .i64) k1y1)) [.row t_impl_Fraction (.pr (.int .i64) (.int .i64)) k1yo0] :=
  SC_of_run cfgOK (its := [.loop (fun _ => (.exit 0, laws_markFractionS_L0X1 k1y1 k1y5 k1y9 k1yo0))])
    (ps := [LoopSC cfg.P 2 (lb P_laws_markFractionS 0) (laws_markFractionS_L0a a1 (0 : Int) a0) (.exit 0) (laws_markFractionS_L0X1 k1y1 k1y5 k1y9 k1yo0)]) (by kernel_rfl) ⟨h1, trivial⟩ get_laws_markFractionS (by decide)

/-! ### laws_heldFractionS -/


def laws_heldFractionS_L0a (x0 : (List (Int × Int))) (x1 : Int) (x5 : Int) : St := mkSt 31 [(0, .s (.v (.sl (.pr (.int .i64) (.int .i64))) x0)), (1, .s (.v (.int .i64) x1)), (5, .s (.v (.int .i64) x5))] []

def laws_heldFractionS_L0X1 (y4 : Int) : St := mkSt 31 [(4, .s (.v (.int .i64) y4))] []

def laws_heldFractionS_L0X2 (y0 : (List (Int × Int))) (y1 : Int) (y5 : Int) (y9 : Bool) : St := mkSt 31 [(0, .s (.v (.sl (.pr (.int .i64) (.int .i64))) y0)), (1, .s (.v (.int .i64) y1)), (5, .s (.v (.int .i64) y5)), (9, .s (.v .bool y9))] []

theorem laws_heldFractionS_L0a_x1 (x0 : (List (Int × Int))) (x1 : Int) (x5 : Int)
    (h1 : x5 < ((List.length x0 : Nat) : Int))
    (h2 : 0 ≤ x5)
    (h3 : x5 < (List.length x0 : Int))
    (h4 : (List.getD x0 (x5).toNat ((0 : Int), (0 : Int))).1 ≠ x1) :
    LoopSC cfg.P 2 (lb P_laws_heldFractionS 0) (laws_heldFractionS_L0a x0 x1 x5) (.ret) (laws_heldFractionS_L0X1 (-1 : Int)) :=
  loop_out cfgOK (f := i_laws_heldFractionS) (its := [.bool true, .bool true])
    (ps := [decide (x5 < ((List.length x0 : Nat) : Int)) = true,
      0 ≤ x5,
      x5 < (List.length x0 : Int),
      ((List.getD x0 (x5).toNat ((0 : Int), (0 : Int))).1 != x1) = true]) (by kernel_rfl) ⟨(decide_eq_true h1), h2, h3, (bne_t h4), trivial⟩ (fun h => by cases h)

theorem laws_heldFractionS_L0a_x2 (x0 : (List (Int × Int))) (x1 : Int) (x5 : Int)
    (h1 : x5 < ((List.length x0 : Nat) : Int))
    (h2 : 0 ≤ x5)
    (h3 : x5 < (List.length x0 : Int))
    (h4 : (List.getD x0 (x5).toNat ((0 : Int), (0 : Int))).1 = x1)
    (h5 : (List.getD x0 (x5).toNat ((0 : Int), (0 : Int))).2 ≠ (IntKind.wrap .i64 (x1 + (1 : Int)))) :
    LoopSC cfg.P 2 (lb P_laws_heldFractionS 0) (laws_heldFractionS_L0a x0 x1 x5) (.ret) (laws_heldFractionS_L0X1 (-1 : Int)) :=
  loop_out cfgOK (f := i_laws_heldFractionS) (its := [.bool true, .bool false, .bool true])
    (ps := [decide (x5 < ((List.length x0 : Nat) : Int)) = true,
      0 ≤ x5,
      x5 < (List.length x0 : Int),
      ((List.getD x0 (x5).toNat ((0 : Int), (0 : Int))).1 != x1) = false,
      0 ≤ x5,
      x5 < (List.length x0 : Int),
      ((List.getD x0 (x5).toNat ((0 : Int), (0 : Int))).2 != (IntKind.wrap .i64 (x1 + (1 : Int)))) = true]) (by kernel_rfl) ⟨(decide_eq_true h1), h2, h3, (bne_f h4), h2, h3, (bne_t h5), trivial⟩ (fun h => by cases h)

theorem laws_heldFractionS_L0a_i3 (x0 : (List (Int × Int))) (x1 : Int) (x5 : Int)
    (h1 : x5 < ((List.length x0 : Nat) : Int))
    (h2 : 0 ≤ x5)
    (h3 : x5 < (List.length x0 : Int))
    (h4 : (List.getD x0 (x5).toNat ((0 : Int), (0 : Int))).1 = x1)
    (h5 : (List.getD x0 (x5).toNat ((0 : Int), (0 : Int))).2 = (IntKind.wrap .i64 (x1 + (1 : Int))))
    {e : AEx} {st : St} (next : LoopSC cfg.P 2 (lb P_laws_heldFractionS 0) (laws_heldFractionS_L0a x0 (IntKind.wrap .i64 ((IntKind.wrap .i64 (x1 + (1 : Int))) + (1 : Int))) (IntKind.wrap .i64 (x5 + (1 : Int)))) e st) :
    LoopSC cfg.P 2 (lb P_laws_heldFractionS 0) (laws_heldFractionS_L0a x0 x1 x5) e st :=
  loop_iter cfgOK (f := i_laws_heldFractionS) (its := [.bool true, .bool false, .bool false])
    (ps := [decide (x5 < ((List.length x0 : Nat) : Int)) = true,
      0 ≤ x5,
      x5 < (List.length x0 : Int),
      ((List.getD x0 (x5).toNat ((0 : Int), (0 : Int))).1 != x1) = false,
      0 ≤ x5,
      x5 < (List.length x0 : Int),
      ((List.getD x0 (x5).toNat ((0 : Int), (0 : Int))).2 != (IntKind.wrap .i64 (x1 + (1 : Int)))) = false]) (st1 := laws_heldFractionS_L0a x0 (IntKind.wrap .i64 ((IntKind.wrap .i64 (x1 + (1 : Int))) + (1 : Int))) (IntKind.wrap .i64 (x5 + (1 : Int)))) (by kernel_rfl) ⟨(decide_eq_true h1), h2, h3, (bne_f h4), h2, h3, (bne_f h5), trivial⟩ next

theorem laws_heldFractionS_L0a_x4 (x0 : (List (Int × Int))) (x1 : Int) (x5 : Int)
    (h1 : ¬ (x5 < ((List.length x0 : Nat) : Int))) :
    LoopSC cfg.P 2 (lb P_laws_heldFractionS 0) (laws_heldFractionS_L0a x0 x1 x5) (.exit 0) (laws_heldFractionS_L0X2 x0 x1 x5 false) :=
  loop_out cfgOK (f := i_laws_heldFractionS) (its := [.bool false])
    (ps := [decide (x5 < ((List.length x0 : Nat) : Int)) = false]) (by kernel_rfl) ⟨(decide_eq_false h1), trivial⟩ (fun h => by cases h)

theorem laws_heldFractionS_p1 (a0 : (List (Int × Int))) (a1 : Int) (k1y4 : Int)
    (h1 : LoopSC cfg.P 2 (lb P_laws_heldFractionS 0) (laws_heldFractionS_L0a a0 a1 (0 : Int)) (.ret) (laws_heldFractionS_L0X1 k1y4)) :
    SC cfg.P i_laws_heldFractionS [.s (.v (.sl (.pr (.int .i64) (.int .i64))) a0), .s (.v (.int .i64) a1)] (.s (.v (.int .i64) k1y4)) [] :=
  SC_of_run cfgOK (its := [.loop (fun _ => (.ret, laws_heldFractionS_L0X1 k1y4))])
    (ps := [LoopSC cfg.P 2 (lb P_laws_heldFractionS 0) (laws_heldFractionS_L0a a0 a1 (0 : Int)) (.ret) (laws_heldFractionS_L0X1 k1y4)]) (by kernel_rfl) ⟨h1, trivial⟩ get_laws_heldFractionS (by decide)

theorem laws_heldFractionS_p2 (a0 : (List (Int × Int))) (a1 : Int) (k1y0 : (List (Int × Int))) (k1y1 : Int) (k1y5 : Int) (k1y9 : Bool)
    (h1 : LoopSC cfg.P 2 (lb P_laws_heldFractionS 0) (laws_heldFractionS_L0a a0 a1 (0 : Int)) (.exit 0) (laws_heldFractionS_L0X2 k1y0 k1y1 k1y5 k1y9)) :
    SC cfg.P i_laws_heldFractionS [.s (.v (.sl (.pr (.int .i64) (.int .i64))) a0), .s (.v (.int .i64) a1)] (.s (.v (.int .i64) k1y1)) [] :=
  SC_of_run cfgOK (its := [.loop (fun _ => (.exit 0, laws_heldFractionS_L0X2 k1y0 k1y1 k1y5 k1y9))])
    (ps := [LoopSC cfg.P 2 (lb P_laws_heldFractionS 0) (laws_heldFractionS_L0a a0 a1 (0 : Int)) (.exit 0) (laws_heldFractionS_L0X2 k1y0 k1y1 k1y5 k1y9)]) (by kernel_rfl) ⟨h1, trivial⟩ get_laws_heldFractionS (by decide)

/-! ### laws_eqFraction -/


theorem laws_eqFraction_p1 (a0 : (Int × Int)) (a1 : (Int × Int))
    (h1 : a0.1 ≠ a1.1) :
    SC cfg.P i_laws_eqFraction [.s (.v (.pr (.int .i64) (.int .i64)) a0), .s (.v (.pr (.int .i64) (.int .i64)) a1)] (.s (.v .bool false)) [] :=
  SC_of_run cfgOK (its := [.bool true])
    (ps := [(a0.1 != a1.1) = true]) (by kernel_rfl) ⟨(bne_t h1), trivial⟩ get_laws_eqFraction (by decide)

theorem laws_eqFraction_p2 (a0 : (Int × Int)) (a1 : (Int × Int))
    (h1 : a0.1 = a1.1)
    (h2 : a0.2 ≠ a1.2) :
    SC cfg.P i_laws_eqFraction [.s (.v (.pr (.int .i64) (.int .i64)) a0), .s (.v (.pr (.int .i64) (.int .i64)) a1)] (.s (.v .bool false)) [] :=
  SC_of_run cfgOK (its := [.bool false, .bool true])
    (ps := [(a0.1 != a1.1) = false,
      (a0.2 != a1.2) = true]) (by kernel_rfl) ⟨(bne_f h1), (bne_t h2), trivial⟩ get_laws_eqFraction (by decide)

theorem laws_eqFraction_p3 (a0 : (Int × Int)) (a1 : (Int × Int))
    (h1 : a0.1 = a1.1)
    (h2 : a0.2 = a1.2) :
    SC cfg.P i_laws_eqFraction [.s (.v (.pr (.int .i64) (.int .i64)) a0), .s (.v (.pr (.int .i64) (.int .i64)) a1)] (.s (.v .bool true)) [] :=
  SC_of_run cfgOK (its := [.bool false, .bool false])
    (ps := [(a0.1 != a1.1) = false,
      (a0.2 != a1.2) = false]) (by kernel_rfl) ⟨(bne_f h1), (bne_f h2), trivial⟩ get_laws_eqFraction (by decide)

end Go.AI
