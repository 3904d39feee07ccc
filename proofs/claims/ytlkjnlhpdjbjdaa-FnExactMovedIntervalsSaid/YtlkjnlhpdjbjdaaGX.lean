/- A part of the road: what it proves stands in its last texts. -/
import Derived.Test.YtlkjnlhpdjbjdaaSIds
import Derived.Test.YtlkjnlhpdjbjdaaProg
set_option autoImplicit false
set_option maxRecDepth 100000
set_option linter.unusedVariables false
namespace Go.AI
open Go.Proofs

/-! ### laws_eqRatioSS -/


def laws_eqRatioSS_L0a (x0 : (List (List (Int × Int)))) (x1 : (List (List (Int × Int)))) (x5 : Int) : St := mkSt 27 [(0, .s (.v (.sl (.sl (.pr (.int .i64) (.int .i64)))) x0)), (1, .s (.v (.sl (.sl (.pr (.int .i64) (.int .i64)))) x1)), (5, .s (.v (.int .i64) x5))] []

def laws_eqRatioSS_L0X1 (y4 : Bool) : St := mkSt 27 [(4, .s (.v .bool y4))] []

def laws_eqRatioSS_L0X2 (y0 : (List (List (Int × Int)))) (y1 : (List (List (Int × Int)))) (y5 : Int) (y14 : Bool) : St := mkSt 27 [(0, .s (.v (.sl (.sl (.pr (.int .i64) (.int .i64)))) y0)), (1, .s (.v (.sl (.sl (.pr (.int .i64) (.int .i64)))) y1)), (5, .s (.v (.int .i64) y5)), (14, .s (.v .bool y14))] []

theorem laws_eqRatioSS_L0a_i1 (x0 : (List (List (Int × Int)))) (x1 : (List (List (Int × Int)))) (x5 : Int)
    (h1 : x5 < ((List.length x0 : Nat) : Int))
    (h2 : 0 ≤ x5)
    (h3 : x5 < (List.length x0 : Int))
    (h4 : x5 < (List.length x1 : Int))
    (h5 : SC cfg.P i_laws_eqRatioS [.s (.v (.sl (.pr (.int .i64) (.int .i64))) (List.getD x0 (x5).toNat ([] : List (Int × Int)))), .s (.v (.sl (.pr (.int .i64) (.int .i64))) (List.getD x1 (x5).toNat ([] : List (Int × Int))))] (.s (.v .bool true)) [])
    {e : AEx} {st : St} (next : LoopSC cfg.P 2 (lb P_laws_eqRatioSS 0) (laws_eqRatioSS_L0a x0 x1 (IntKind.wrap .i64 (x5 + (1 : Int)))) e st) :
    LoopSC cfg.P 2 (lb P_laws_eqRatioSS 0) (laws_eqRatioSS_L0a x0 x1 x5) e st :=
  loop_iter cfgOK (f := i_laws_eqRatioSS) (its := [.bool true, .res (.s (.v .bool true)) [] [] []])
    (ps := [decide (x5 < ((List.length x0 : Nat) : Int)) = true,
      0 ≤ x5,
      x5 < (List.length x0 : Int),
      0 ≤ x5,
      x5 < (List.length x1 : Int),
      SC cfg.P i_laws_eqRatioS [.s (.v (.sl (.pr (.int .i64) (.int .i64))) (List.getD x0 (x5).toNat ([] : List (Int × Int)))), .s (.v (.sl (.pr (.int .i64) (.int .i64))) (List.getD x1 (x5).toNat ([] : List (Int × Int))))] (.s (.v .bool true)) []]) (st1 := laws_eqRatioSS_L0a x0 x1 (IntKind.wrap .i64 (x5 + (1 : Int)))) (by kernel_rfl) ⟨(decide_eq_true h1), h2, h3, h2, h4, h5, trivial⟩ next

theorem laws_eqRatioSS_L0a_x2 (x0 : (List (List (Int × Int)))) (x1 : (List (List (Int × Int)))) (x5 : Int)
    (h1 : x5 < ((List.length x0 : Nat) : Int))
    (h2 : 0 ≤ x5)
    (h3 : x5 < (List.length x0 : Int))
    (h4 : x5 < (List.length x1 : Int))
    (h5 : SC cfg.P i_laws_eqRatioS [.s (.v (.sl (.pr (.int .i64) (.int .i64))) (List.getD x0 (x5).toNat ([] : List (Int × Int)))), .s (.v (.sl (.pr (.int .i64) (.int .i64))) (List.getD x1 (x5).toNat ([] : List (Int × Int))))] (.s (.v .bool false)) []) :
    LoopSC cfg.P 2 (lb P_laws_eqRatioSS 0) (laws_eqRatioSS_L0a x0 x1 x5) (.ret) (laws_eqRatioSS_L0X1 false) :=
  loop_out cfgOK (f := i_laws_eqRatioSS) (its := [.bool true, .res (.s (.v .bool false)) [] [] []])
    (ps := [decide (x5 < ((List.length x0 : Nat) : Int)) = true,
      0 ≤ x5,
      x5 < (List.length x0 : Int),
      0 ≤ x5,
      x5 < (List.length x1 : Int),
      SC cfg.P i_laws_eqRatioS [.s (.v (.sl (.pr (.int .i64) (.int .i64))) (List.getD x0 (x5).toNat ([] : List (Int × Int)))), .s (.v (.sl (.pr (.int .i64) (.int .i64))) (List.getD x1 (x5).toNat ([] : List (Int × Int))))] (.s (.v .bool false)) []]) (by kernel_rfl) ⟨(decide_eq_true h1), h2, h3, h2, h4, h5, trivial⟩ (fun h => by cases h)

theorem laws_eqRatioSS_L0a_x3 (x0 : (List (List (Int × Int)))) (x1 : (List (List (Int × Int)))) (x5 : Int)
    (h1 : ¬ (x5 < ((List.length x0 : Nat) : Int))) :
    LoopSC cfg.P 2 (lb P_laws_eqRatioSS 0) (laws_eqRatioSS_L0a x0 x1 x5) (.exit 0) (laws_eqRatioSS_L0X2 x0 x1 x5 false) :=
  loop_out cfgOK (f := i_laws_eqRatioSS) (its := [.bool false])
    (ps := [decide (x5 < ((List.length x0 : Nat) : Int)) = false]) (by kernel_rfl) ⟨(decide_eq_false h1), trivial⟩ (fun h => by cases h)

theorem laws_eqRatioSS_p1 (a0 : (List (List (Int × Int)))) (a1 : (List (List (Int × Int))))
    (h1 : ((List.length a0 : Nat) : Int) ≠ ((List.length a1 : Nat) : Int)) :
    SC cfg.P i_laws_eqRatioSS [.s (.v (.sl (.sl (.pr (.int .i64) (.int .i64)))) a0), .s (.v (.sl (.sl (.pr (.int .i64) (.int .i64)))) a1)] (.s (.v .bool false)) [] :=
  SC_of_run cfgOK (its := [.bool true])
    (ps := [(((List.length a0 : Nat) : Int) != ((List.length a1 : Nat) : Int)) = true]) (by kernel_rfl) ⟨(bne_t h1), trivial⟩ get_laws_eqRatioSS (by decide)

theorem laws_eqRatioSS_p2 (a0 : (List (List (Int × Int)))) (a1 : (List (List (Int × Int)))) (k1y4 : Bool)
    (h1 : ((List.length a0 : Nat) : Int) = ((List.length a1 : Nat) : Int))
    (h2 : LoopSC cfg.P 2 (lb P_laws_eqRatioSS 0) (laws_eqRatioSS_L0a a0 a1 (0 : Int)) (.ret) (laws_eqRatioSS_L0X1 k1y4)) :
    SC cfg.P i_laws_eqRatioSS [.s (.v (.sl (.sl (.pr (.int .i64) (.int .i64)))) a0), .s (.v (.sl (.sl (.pr (.int .i64) (.int .i64)))) a1)] (.s (.v .bool k1y4)) [] :=
  SC_of_run cfgOK (its := [.bool false, .loop (fun _ => (.ret, laws_eqRatioSS_L0X1 k1y4))])
    (ps := [(((List.length a0 : Nat) : Int) != ((List.length a1 : Nat) : Int)) = false,
      LoopSC cfg.P 2 (lb P_laws_eqRatioSS 0) (laws_eqRatioSS_L0a a0 a1 (0 : Int)) (.ret) (laws_eqRatioSS_L0X1 k1y4)]) (by kernel_rfl) ⟨(bne_f h1), h2, trivial⟩ get_laws_eqRatioSS (by decide)

theorem laws_eqRatioSS_p3 (a0 : (List (List (Int × Int)))) (a1 : (List (List (Int × Int)))) (k1y0 : (List (List (Int × Int)))) (k1y1 : (List (List (Int × Int)))) (k1y5 : Int) (k1y14 : Bool)
    (h1 : ((List.length a0 : Nat) : Int) = ((List.length a1 : Nat) : Int))
    (h2 : LoopSC cfg.P 2 (lb P_laws_eqRatioSS 0) (laws_eqRatioSS_L0a a0 a1 (0 : Int)) (.exit 0) (laws_eqRatioSS_L0X2 k1y0 k1y1 k1y5 k1y14)) :
    SC cfg.P i_laws_eqRatioSS [.s (.v (.sl (.sl (.pr (.int .i64) (.int .i64)))) a0), .s (.v (.sl (.sl (.pr (.int .i64) (.int .i64)))) a1)] (.s (.v .bool true)) [] :=
  SC_of_run cfgOK (its := [.bool false, .loop (fun _ => (.exit 0, laws_eqRatioSS_L0X2 k1y0 k1y1 k1y5 k1y14))])
    (ps := [(((List.length a0 : Nat) : Int) != ((List.length a1 : Nat) : Int)) = false,
      LoopSC cfg.P 2 (lb P_laws_eqRatioSS 0) (laws_eqRatioSS_L0a a0 a1 (0 : Int)) (.exit 0) (laws_eqRatioSS_L0X2 k1y0 k1y1 k1y5 k1y14)]) (by kernel_rfl) ⟨(bne_f h1), h2, trivial⟩ get_laws_eqRatioSS (by decide)

/-! ### spec_obMoved -/


def spec_obMoved_L0a (x5 : Int) (xo3 : (List (List (Int × Int)))) (xo7 : (List (List (Int × Int)))) : St := mkSt 32 [(3, .s (.osl 3 0)), (4, .s (.osl 7 0)), (5, .s (.v (.int .i64) x5))] [(3, .row t_Simpl_Ratio (.sl (.pr (.int .i64) (.int .i64))) xo3 0 false), (7, .row t_Simpl_Ratio (.sl (.pr (.int .i64) (.int .i64))) xo7 0 false)]

def spec_obMoved_L0X1 (y5 : Int) (y11 : Bool) (yo3 : (List (List (Int × Int)))) (yo7 : (List (List (Int × Int)))) : St := mkSt 32 [(3, .s (.osl 3 0)), (4, .s (.osl 7 0)), (5, .s (.v (.int .i64) y5)), (11, .s (.v .bool y11))] [(3, .row t_Simpl_Ratio (.sl (.pr (.int .i64) (.int .i64))) yo3 0 false), (7, .row t_Simpl_Ratio (.sl (.pr (.int .i64) (.int .i64))) yo7 0 false)]

theorem spec_obMoved_L0a_i1 (x5 : Int) (xo3 : (List (List (Int × Int)))) (xo7 : (List (List (Int × Int))))
    (h1 : x5 < ((List.length xo7 : Nat) : Int))
    (h2 : 0 ≤ (IntKind.wrap .i64 (x5 - (1 : Int))))
    (h3 : (IntKind.wrap .i64 (x5 - (1 : Int))) < (List.length xo7 : Int))
    (h4 : ((IntKind.wrap .i64 (x5 - (1 : Int)))).toNat < List.length xo7)
    (h5 : (1 : Int) < (List.length (List.getD xo7 ((IntKind.wrap .i64 (x5 - (1 : Int)))).toNat ([] : List (Int × Int))) : Int))
    (h6 : 0 ≤ x5)
    (h7 : x5 < (List.length xo7 : Int))
    (h8 : (x5).toNat < List.length xo7)
    (h9 : (0 : Int) < (List.length (List.getD xo7 (x5).toNat ([] : List (Int × Int))) : Int))
    (h10 : sizeOK (List.length xo3 + List.length ([([(List.getD (List.getD xo7 ((IntKind.wrap .i64 (x5 - (1 : Int)))).toNat ([] : List (Int × Int))) ((1 : Int)).toNat ((0 : Int), (0 : Int))), (List.getD (List.getD xo7 (x5).toNat ([] : List (Int × Int))) ((0 : Int)).toNat ((0 : Int), (0 : Int)))] : List (Int × Int))] : List (List (Int × Int)))))
    {e : AEx} {st : St} (next : LoopSC cfg.P 1 (lb P_spec_obMoved 0) (spec_obMoved_L0a (IntKind.wrap .i64 (x5 + (1 : Int))) (xo3 ++ ([([(List.getD (List.getD xo7 ((IntKind.wrap .i64 (x5 - (1 : Int)))).toNat ([] : List (Int × Int))) ((1 : Int)).toNat ((0 : Int), (0 : Int))), (List.getD (List.getD xo7 (x5).toNat ([] : List (Int × Int))) ((0 : Int)).toNat ((0 : Int), (0 : Int)))] : List (Int × Int))] : List (List (Int × Int)))) xo7) e st) :
    LoopSC cfg.P 1 (lb P_spec_obMoved 0) (spec_obMoved_L0a x5 xo3 xo7) e st :=
  loop_iter cfgOK (f := i_spec_obMoved) (its := [.bool true])
    (ps := [decide (x5 < ((List.length xo7 : Nat) : Int)) = true,
      0 ≤ (IntKind.wrap .i64 (x5 - (1 : Int))),
      (IntKind.wrap .i64 (x5 - (1 : Int))) < (List.length xo7 : Int),
      ((IntKind.wrap .i64 (x5 - (1 : Int)))).toNat < List.length xo7,
      0 ≤ (1 : Int),
      (1 : Int) < (List.length (List.getD xo7 ((IntKind.wrap .i64 (x5 - (1 : Int)))).toNat ([] : List (Int × Int))) : Int),
      0 ≤ x5,
      x5 < (List.length xo7 : Int),
      (x5).toNat < List.length xo7,
      0 ≤ (0 : Int),
      (0 : Int) < (List.length (List.getD xo7 (x5).toNat ([] : List (Int × Int))) : Int),
      sizeOK (List.length xo3 + List.length ([([(List.getD (List.getD xo7 ((IntKind.wrap .i64 (x5 - (1 : Int)))).toNat ([] : List (Int × Int))) ((1 : Int)).toNat ((0 : Int), (0 : Int))), (List.getD (List.getD xo7 (x5).toNat ([] : List (Int × Int))) ((0 : Int)).toNat ((0 : Int), (0 : Int)))] : List (Int × Int))] : List (List (Int × Int))))]) (st1 := spec_obMoved_L0a (IntKind.wrap .i64 (x5 + (1 : Int))) (xo3 ++ ([([(List.getD (List.getD xo7 ((IntKind.wrap .i64 (x5 - (1 : Int)))).toNat ([] : List (Int × Int))) ((1 : Int)).toNat ((0 : Int), (0 : Int))), (List.getD (List.getD xo7 (x5).toNat ([] : List (Int × Int))) ((0 : Int)).toNat ((0 : Int), (0 : Int)))] : List (Int × Int))] : List (List (Int × Int)))) xo7) (by kernel_rfl) ⟨(decide_eq_true h1), h2, h3, h4, (by decide), h5, h6, h7, h8, (by decide), h9, h10, trivial⟩ next

theorem spec_obMoved_L0a_x2 (x5 : Int) (xo3 : (List (List (Int × Int)))) (xo7 : (List (List (Int × Int))))
    (h1 : ¬ (x5 < ((List.length xo7 : Nat) : Int))) :
    LoopSC cfg.P 1 (lb P_spec_obMoved 0) (spec_obMoved_L0a x5 xo3 xo7) (.exit 0) (spec_obMoved_L0X1 x5 false xo3 xo7) :=
  loop_out cfgOK (f := i_spec_obMoved) (its := [.bool false])
    (ps := [decide (x5 < ((List.length xo7 : Nat) : Int)) = false]) (by kernel_rfl) ⟨(decide_eq_false h1), trivial⟩ (fun h => by cases h)

theorem spec_obMoved_p1 (a0 : (ByteArray × ByteArray)) (c1 : (List (List (Int × Int)))) (k1y5 : Int) (k1y11 : Bool) (k1yo3 : (List (List (Int × Int)))) (k1yo7 : (List (List (Int × Int))))
    (h1 : SC cfg.P i_spec_obFixed [.s (.v (.pr .str .str) a0)] (.s (.own t_Simpl_Ratio (.sl (.pr (.int .i64) (.int .i64))) c1)) [])
    (h2 : LoopSC cfg.P 1 (lb P_spec_obMoved 0) (spec_obMoved_L0a (1 : Int) ([] : List (List (Int × Int))) c1) (.exit 0) (spec_obMoved_L0X1 k1y5 k1y11 k1yo3 k1yo7)) :
    SC cfg.P i_spec_obMoved [.s (.v (.pr .str .str) a0)] (.s (.own t_Simpl_Ratio (.sl (.pr (.int .i64) (.int .i64))) k1yo3)) [] :=
  SC_of_run cfgOK (its := [.res (.s (.own t_Simpl_Ratio (.sl (.pr (.int .i64) (.int .i64))) c1)) [] [] [7], .loop (fun _ => (.exit 0, spec_obMoved_L0X1 k1y5 k1y11 k1yo3 k1yo7))])
    (ps := [SC cfg.P i_spec_obFixed [.s (.v (.pr .str .str) a0)] (.s (.own t_Simpl_Ratio (.sl (.pr (.int .i64) (.int .i64))) c1)) [],
      LoopSC cfg.P 1 (lb P_spec_obMoved 0) (spec_obMoved_L0a (1 : Int) ([] : List (List (Int × Int))) c1) (.exit 0) (spec_obMoved_L0X1 k1y5 k1y11 k1yo3 k1yo7)]) (by kernel_rfl) ⟨h1, h2, trivial⟩ get_spec_obMoved (by decide)

/-! ### impl_pair_moved -/


def impl_pair_moved_L0a (x5 : Int) (xo3 : (List (List (Int × Int)))) (xo7 : (List (List (Int × Int)))) : St := mkSt 32 [(3, .s (.osl 3 0)), (4, .s (.osl 7 0)), (5, .s (.v (.int .i64) x5))] [(3, .row t_Simpl_Ratio (.sl (.pr (.int .i64) (.int .i64))) xo3 0 false), (7, .row t_Simpl_Ratio (.sl (.pr (.int .i64) (.int .i64))) xo7 0 false)]

def impl_pair_moved_L0X1 (y5 : Int) (y11 : Bool) (yo3 : (List (List (Int × Int)))) (yo7 : (List (List (Int × Int)))) : St := mkSt 32 [(3, .s (.osl 3 0)), (4, .s (.osl 7 0)), (5, .s (.v (.int .i64) y5)), (11, .s (.v .bool y11))] [(3, .row t_Simpl_Ratio (.sl (.pr (.int .i64) (.int .i64))) yo3 0 false), (7, .row t_Simpl_Ratio (.sl (.pr (.int .i64) (.int .i64))) yo7 0 false)]

theorem impl_pair_moved_L0a_i1 (x5 : Int) (xo3 : (List (List (Int × Int)))) (xo7 : (List (List (Int × Int))))
    (h1 : x5 < ((List.length xo7 : Nat) : Int))
    (h2 : 0 ≤ (IntKind.wrap .i64 (x5 - (1 : Int))))
    (h3 : (IntKind.wrap .i64 (x5 - (1 : Int))) < (List.length xo7 : Int))
    (h4 : ((IntKind.wrap .i64 (x5 - (1 : Int)))).toNat < List.length xo7)
    (h5 : (1 : Int) < (List.length (List.getD xo7 ((IntKind.wrap .i64 (x5 - (1 : Int)))).toNat ([] : List (Int × Int))) : Int))
    (h6 : 0 ≤ x5)
    (h7 : x5 < (List.length xo7 : Int))
    (h8 : (x5).toNat < List.length xo7)
    (h9 : (0 : Int) < (List.length (List.getD xo7 (x5).toNat ([] : List (Int × Int))) : Int))
    (h10 : sizeOK (List.length xo3 + List.length ([([(List.getD (List.getD xo7 ((IntKind.wrap .i64 (x5 - (1 : Int)))).toNat ([] : List (Int × Int))) ((1 : Int)).toNat ((0 : Int), (0 : Int))), (List.getD (List.getD xo7 (x5).toNat ([] : List (Int × Int))) ((0 : Int)).toNat ((0 : Int), (0 : Int)))] : List (Int × Int))] : List (List (Int × Int)))))
    {e : AEx} {st : St} (next : LoopSC cfg.P 1 (lb P_impl_pair_moved 0) (impl_pair_moved_L0a (IntKind.wrap .i64 (x5 + (1 : Int))) (xo3 ++ ([([(List.getD (List.getD xo7 ((IntKind.wrap .i64 (x5 - (1 : Int)))).toNat ([] : List (Int × Int))) ((1 : Int)).toNat ((0 : Int), (0 : Int))), (List.getD (List.getD xo7 (x5).toNat ([] : List (Int × Int))) ((0 : Int)).toNat ((0 : Int), (0 : Int)))] : List (Int × Int))] : List (List (Int × Int)))) xo7) e st) :
    LoopSC cfg.P 1 (lb P_impl_pair_moved 0) (impl_pair_moved_L0a x5 xo3 xo7) e st :=
  loop_iter cfgOK (f := i_impl_pair_moved) (its := [.bool true])
    (ps := [decide (x5 < ((List.length xo7 : Nat) : Int)) = true,
      0 ≤ (IntKind.wrap .i64 (x5 - (1 : Int))),
      (IntKind.wrap .i64 (x5 - (1 : Int))) < (List.length xo7 : Int),
      ((IntKind.wrap .i64 (x5 - (1 : Int)))).toNat < List.length xo7,
      0 ≤ (1 : Int),
      (1 : Int) < (List.length (List.getD xo7 ((IntKind.wrap .i64 (x5 - (1 : Int)))).toNat ([] : List (Int × Int))) : Int),
      0 ≤ x5,
      x5 < (List.length xo7 : Int),
      (x5).toNat < List.length xo7,
      0 ≤ (0 : Int),
      (0 : Int) < (List.length (List.getD xo7 (x5).toNat ([] : List (Int × Int))) : Int),
      sizeOK (List.length xo3 + List.length ([([(List.getD (List.getD xo7 ((IntKind.wrap .i64 (x5 - (1 : Int)))).toNat ([] : List (Int × Int))) ((1 : Int)).toNat ((0 : Int), (0 : Int))), (List.getD (List.getD xo7 (x5).toNat ([] : List (Int × Int))) ((0 : Int)).toNat ((0 : Int), (0 : Int)))] : List (Int × Int))] : List (List (Int × Int))))]) (st1 := impl_pair_moved_L0a (IntKind.wrap .i64 (x5 + (1 : Int))) (xo3 ++ ([([(List.getD (List.getD xo7 ((IntKind.wrap .i64 (x5 - (1 : Int)))).toNat ([] : List (Int × Int))) ((1 : Int)).toNat ((0 : Int), (0 : Int))), (List.getD (List.getD xo7 (x5).toNat ([] : List (Int × Int))) ((0 : Int)).toNat ((0 : Int), (0 : Int)))] : List (Int × Int))] : List (List (Int × Int)))) xo7) (by kernel_rfl) ⟨(decide_eq_true h1), h2, h3, h4, (by decide), h5, h6, h7, h8, (by decide), h9, h10, trivial⟩ next

theorem impl_pair_moved_L0a_x2 (x5 : Int) (xo3 : (List (List (Int × Int)))) (xo7 : (List (List (Int × Int))))
    (h1 : ¬ (x5 < ((List.length xo7 : Nat) : Int))) :
    LoopSC cfg.P 1 (lb P_impl_pair_moved 0) (impl_pair_moved_L0a x5 xo3 xo7) (.exit 0) (impl_pair_moved_L0X1 x5 false xo3 xo7) :=
  loop_out cfgOK (f := i_impl_pair_moved) (its := [.bool false])
    (ps := [decide (x5 < ((List.length xo7 : Nat) : Int)) = false]) (by kernel_rfl) ⟨(decide_eq_false h1), trivial⟩ (fun h => by cases h)

theorem impl_pair_moved_p1 (a0 : (Tr × Tr)) (c1 : (List (List (Int × Int)))) (k1y5 : Int) (k1y11 : Bool) (k1yo3 : (List (List (Int × Int)))) (k1yo7 : (List (List (Int × Int))))
    (h1 : SC cfg.P i_impl_pair_fixed [.s (.v (.pr .tree .tree) a0)] (.s (.own t_Simpl_Ratio (.sl (.pr (.int .i64) (.int .i64))) c1)) [])
    (h2 : LoopSC cfg.P 1 (lb P_impl_pair_moved 0) (impl_pair_moved_L0a (1 : Int) ([] : List (List (Int × Int))) c1) (.exit 0) (impl_pair_moved_L0X1 k1y5 k1y11 k1yo3 k1yo7)) :
    SC cfg.P i_impl_pair_moved [.s (.v (.pr .tree .tree) a0)] (.s (.own t_Simpl_Ratio (.sl (.pr (.int .i64) (.int .i64))) k1yo3)) [] :=
  SC_of_run cfgOK (its := [.res (.s (.own t_Simpl_Ratio (.sl (.pr (.int .i64) (.int .i64))) c1)) [] [] [7], .loop (fun _ => (.exit 0, impl_pair_moved_L0X1 k1y5 k1y11 k1yo3 k1yo7))])
    (ps := [SC cfg.P i_impl_pair_fixed [.s (.v (.pr .tree .tree) a0)] (.s (.own t_Simpl_Ratio (.sl (.pr (.int .i64) (.int .i64))) c1)) [],
      LoopSC cfg.P 1 (lb P_impl_pair_moved 0) (impl_pair_moved_L0a (1 : Int) ([] : List (List (Int × Int))) c1) (.exit 0) (impl_pair_moved_L0X1 k1y5 k1y11 k1yo3 k1yo7)]) (by kernel_rfl) ⟨h1, h2, trivial⟩ get_impl_pair_moved (by decide)

/-! ### spec_obFixed -/


def spec_obFixed_L0a (x4 : (List ByteArray)) (x21 : (List ByteArray)) (x22 : Int) (x23 : Int) (xo3 : (List (List (Int × Int)))) : St := mkSt 156 [(3, .s (.osl 3 0)), (4, .s (.v (.sl .str) x4)), (21, .s (.v (.sl .str) x21)), (22, .s (.v (.int .i64) x22)), (23, .s (.v (.int .i64) x23))] [(3, .row t_Simpl_Ratio (.sl (.pr (.int .i64) (.int .i64))) xo3 0 false)]

def spec_obFixed_L0X1 (y4 : (List ByteArray)) (y21 : (List ByteArray)) (y22 : Int) (y23 : Int) (y24 : Bool) (yo3 : (List (List (Int × Int)))) : St := mkSt 156 [(3, .s (.osl 3 0)), (4, .s (.v (.sl .str) y4)), (21, .s (.v (.sl .str) y21)), (22, .s (.v (.int .i64) y22)), (23, .s (.v (.int .i64) y23)), (24, .s (.v .bool y24))] [(3, .row t_Simpl_Ratio (.sl (.pr (.int .i64) (.int .i64))) yo3 0 false)]

theorem spec_obFixed_L0a_i1 (x4 : (List ByteArray)) (x21 : (List ByteArray)) (x22 : Int) (x23 : Int) (xo3 : (List (List (Int × Int)))) (dc1 : (Int × Int)) (dc2 : (Int × Int)) (dc3 : (Int × Int)) (dc4 : (Int × Int))
    (h1 : x23 < x22)
    (h2 : 0 ≤ x23)
    (h3 : x23 < (List.length x21 : Int))
    (h4 : SC cfg.P i_spec_mpOf [.s (.v .str (List.getD x21 (x23).toNat (⟨#[]⟩ : ByteArray)))] (.s (.v (.pr (.int .i64) (.int .i64)) dc1)) [])
    (h5 : x23 < (List.length x4 : Int))
    (h6 : SC cfg.P i_spec_mpOf [.s (.v .str (List.getD x4 (x23).toNat (⟨#[]⟩ : ByteArray)))] (.s (.v (.pr (.int .i64) (.int .i64)) dc2)) [])
    (h7 : SC cfg.P i_spec_obRatio [.s (.v (.int .i64) dc1.1), .s (.v (.int .i64) dc1.2)] (.s (.v (.pr (.int .i64) (.int .i64)) dc3)) [])
    (h8 : 0 ≤ (((List.getD x21 (x23).toNat (⟨#[]⟩ : ByteArray))).size : Int))
    (h9 : dc1.2 ≠ 0)
    (h10 : SC cfg.P i_spec_obRatio [.s (.v (.int .i64) (IntKind.wrap .i64 ((IntKind.wrap .i64 (dc1.1 * (IntKind.wrap .i64 (Int.tdiv (IntKind.wrap .i64 ((1 : Int) * 2 ^ (min ((((List.getD x21 (x23).toNat (⟨#[]⟩ : ByteArray))).size : Int)).toNat (IntKind.bits .i64)))) dc1.2)))) + (1 : Int)))), .s (.v (.int .i64) (IntKind.wrap .i64 ((1 : Int) * 2 ^ (min ((((List.getD x21 (x23).toNat (⟨#[]⟩ : ByteArray))).size : Int)).toNat (IntKind.bits .i64)))))] (.s (.v (.pr (.int .i64) (.int .i64)) dc4)) [])
    (h11 : (((List.getD x21 (x23).toNat (⟨#[]⟩ : ByteArray))).size : Int) = (((List.getD x4 (x23).toNat (⟨#[]⟩ : ByteArray))).size : Int))
    (h12 : ((dc1.1 == dc2.1) && (dc1.2 == dc2.2)) = true)
    (h13 : ((List.length ([dc3, dc4] : List (Int × Int)) : Nat) : Int) = (0 : Int))
    {e : AEx} {st : St} (next : LoopSC cfg.P 1 (lb P_spec_obFixed 0) (spec_obFixed_L0a x4 x21 x22 (IntKind.wrap .i64 (x23 + (1 : Int))) xo3) e st) :
    LoopSC cfg.P 1 (lb P_spec_obFixed 0) (spec_obFixed_L0a x4 x21 x22 x23 xo3) e st :=
  loop_iter cfgOK (f := i_spec_obFixed) (its := [.bool true, .res (.s (.v (.pr (.int .i64) (.int .i64)) dc1)) [] [] [], .res (.s (.v (.pr (.int .i64) (.int .i64)) dc2)) [] [] [], .res (.s (.v (.pr (.int .i64) (.int .i64)) dc3)) [] [] [], .res (.s (.v (.pr (.int .i64) (.int .i64)) dc4)) [] [] [], .bool true, .bool true, .bool true])
    (ps := [decide (x23 < x22) = true,
      0 ≤ x23,
      x23 < (List.length x21 : Int),
      SC cfg.P i_spec_mpOf [.s (.v .str (List.getD x21 (x23).toNat (⟨#[]⟩ : ByteArray)))] (.s (.v (.pr (.int .i64) (.int .i64)) dc1)) [],
      0 ≤ x23,
      x23 < (List.length x4 : Int),
      SC cfg.P i_spec_mpOf [.s (.v .str (List.getD x4 (x23).toNat (⟨#[]⟩ : ByteArray)))] (.s (.v (.pr (.int .i64) (.int .i64)) dc2)) [],
      SC cfg.P i_spec_obRatio [.s (.v (.int .i64) dc1.1), .s (.v (.int .i64) dc1.2)] (.s (.v (.pr (.int .i64) (.int .i64)) dc3)) [],
      0 ≤ (((List.getD x21 (x23).toNat (⟨#[]⟩ : ByteArray))).size : Int),
      dc1.2 ≠ 0,
      0 ≤ (((List.getD x21 (x23).toNat (⟨#[]⟩ : ByteArray))).size : Int),
      SC cfg.P i_spec_obRatio [.s (.v (.int .i64) (IntKind.wrap .i64 ((IntKind.wrap .i64 (dc1.1 * (IntKind.wrap .i64 (Int.tdiv (IntKind.wrap .i64 ((1 : Int) * 2 ^ (min ((((List.getD x21 (x23).toNat (⟨#[]⟩ : ByteArray))).size : Int)).toNat (IntKind.bits .i64)))) dc1.2)))) + (1 : Int)))), .s (.v (.int .i64) (IntKind.wrap .i64 ((1 : Int) * 2 ^ (min ((((List.getD x21 (x23).toNat (⟨#[]⟩ : ByteArray))).size : Int)).toNat (IntKind.bits .i64)))))] (.s (.v (.pr (.int .i64) (.int .i64)) dc4)) [],
      0 ≤ x23,
      x23 < (List.length x4 : Int),
      ((((List.getD x21 (x23).toNat (⟨#[]⟩ : ByteArray))).size : Int) == (((List.getD x4 (x23).toNat (⟨#[]⟩ : ByteArray))).size : Int)) = true,
      ((dc1.1 == dc2.1) && (dc1.2 == dc2.2)) = true,
      (((List.length ([dc3, dc4] : List (Int × Int)) : Nat) : Int) == (0 : Int)) = true]) (st1 := spec_obFixed_L0a x4 x21 x22 (IntKind.wrap .i64 (x23 + (1 : Int))) xo3) (by kernel_rfl) ⟨(decide_eq_true h1), h2, h3, h4, h2, h5, h6, h7, h8, h9, h8, h10, h2, h5, (beq_t h11), h12, (beq_t h13), trivial⟩ next

theorem spec_obFixed_L0a_i2 (x4 : (List ByteArray)) (x21 : (List ByteArray)) (x22 : Int) (x23 : Int) (xo3 : (List (List (Int × Int)))) (dc1 : (Int × Int)) (dc2 : (Int × Int)) (dc3 : (Int × Int)) (dc4 : (Int × Int))
    (h1 : x23 < x22)
    (h2 : 0 ≤ x23)
    (h3 : x23 < (List.length x21 : Int))
    (h4 : SC cfg.P i_spec_mpOf [.s (.v .str (List.getD x21 (x23).toNat (⟨#[]⟩ : ByteArray)))] (.s (.v (.pr (.int .i64) (.int .i64)) dc1)) [])
    (h5 : x23 < (List.length x4 : Int))
    (h6 : SC cfg.P i_spec_mpOf [.s (.v .str (List.getD x4 (x23).toNat (⟨#[]⟩ : ByteArray)))] (.s (.v (.pr (.int .i64) (.int .i64)) dc2)) [])
    (h7 : SC cfg.P i_spec_obRatio [.s (.v (.int .i64) dc1.1), .s (.v (.int .i64) dc1.2)] (.s (.v (.pr (.int .i64) (.int .i64)) dc3)) [])
    (h8 : 0 ≤ (((List.getD x21 (x23).toNat (⟨#[]⟩ : ByteArray))).size : Int))
    (h9 : dc1.2 ≠ 0)
    (h10 : SC cfg.P i_spec_obRatio [.s (.v (.int .i64) (IntKind.wrap .i64 ((IntKind.wrap .i64 (dc1.1 * (IntKind.wrap .i64 (Int.tdiv (IntKind.wrap .i64 ((1 : Int) * 2 ^ (min ((((List.getD x21 (x23).toNat (⟨#[]⟩ : ByteArray))).size : Int)).toNat (IntKind.bits .i64)))) dc1.2)))) + (1 : Int)))), .s (.v (.int .i64) (IntKind.wrap .i64 ((1 : Int) * 2 ^ (min ((((List.getD x21 (x23).toNat (⟨#[]⟩ : ByteArray))).size : Int)).toNat (IntKind.bits .i64)))))] (.s (.v (.pr (.int .i64) (.int .i64)) dc4)) [])
    (h11 : (((List.getD x21 (x23).toNat (⟨#[]⟩ : ByteArray))).size : Int) = (((List.getD x4 (x23).toNat (⟨#[]⟩ : ByteArray))).size : Int))
    (h12 : ((dc1.1 == dc2.1) && (dc1.2 == dc2.2)) = true)
    (h13 : ((List.length ([dc3, dc4] : List (Int × Int)) : Nat) : Int) ≠ (0 : Int))
    (h14 : (IntKind.wrap .i64 (((List.length xo3 : Nat) : Int) - (1 : Int))) ≥ (0 : Int))
    (h15 : 0 ≤ (IntKind.wrap .i64 (((List.length xo3 : Nat) : Int) - (1 : Int))))
    (h16 : (IntKind.wrap .i64 (((List.length xo3 : Nat) : Int) - (1 : Int))) < (List.length xo3 : Int))
    (h17 : ((IntKind.wrap .i64 (((List.length xo3 : Nat) : Int) - (1 : Int)))).toNat < List.length xo3)
    (h18 : (1 : Int) < (List.length (List.getD xo3 ((IntKind.wrap .i64 (((List.length xo3 : Nat) : Int) - (1 : Int)))).toNat ([] : List (Int × Int))) : Int))
    (h19 : (0 : Int) < (List.length ([dc3, dc4] : List (Int × Int)) : Int))
    (h20 : ((0 : Int)).toNat < List.length ([dc3, dc4] : List (Int × Int)))
    (h21 : (((List.getD (List.getD xo3 ((IntKind.wrap .i64 (((List.length xo3 : Nat) : Int) - (1 : Int)))).toNat ([] : List (Int × Int))) ((1 : Int)).toNat ((0 : Int), (0 : Int))).1 == (List.getD ([dc3, dc4] : List (Int × Int)) ((0 : Int)).toNat ((0 : Int), (0 : Int))).1) && ((List.getD (List.getD xo3 ((IntKind.wrap .i64 (((List.length xo3 : Nat) : Int) - (1 : Int)))).toNat ([] : List (Int × Int))) ((1 : Int)).toNat ((0 : Int), (0 : Int))).2 == (List.getD ([dc3, dc4] : List (Int × Int)) ((0 : Int)).toNat ((0 : Int), (0 : Int))).2)) = true)
    (h22 : (0 : Int) < (List.length (List.getD xo3 ((IntKind.wrap .i64 (((List.length xo3 : Nat) : Int) - (1 : Int)))).toNat ([] : List (Int × Int))) : Int))
    (h23 : (1 : Int) < (List.length ([dc3, dc4] : List (Int × Int)) : Int))
    (h24 : ((1 : Int)).toNat < List.length ([dc3, dc4] : List (Int × Int)))
    {e : AEx} {st : St} (next : LoopSC cfg.P 1 (lb P_spec_obFixed 0) (spec_obFixed_L0a x4 x21 x22 (IntKind.wrap .i64 (x23 + (1 : Int))) (List.set xo3 ((IntKind.wrap .i64 (((List.length xo3 : Nat) : Int) - (1 : Int)))).toNat ([(List.getD (List.getD xo3 ((IntKind.wrap .i64 (((List.length xo3 : Nat) : Int) - (1 : Int)))).toNat ([] : List (Int × Int))) ((0 : Int)).toNat ((0 : Int), (0 : Int))), (List.getD ([dc3, dc4] : List (Int × Int)) ((1 : Int)).toNat ((0 : Int), (0 : Int)))] : List (Int × Int)))) e st) :
    LoopSC cfg.P 1 (lb P_spec_obFixed 0) (spec_obFixed_L0a x4 x21 x22 x23 xo3) e st :=
  loop_iter cfgOK (f := i_spec_obFixed) (its := [.bool true, .res (.s (.v (.pr (.int .i64) (.int .i64)) dc1)) [] [] [], .res (.s (.v (.pr (.int .i64) (.int .i64)) dc2)) [] [] [], .res (.s (.v (.pr (.int .i64) (.int .i64)) dc3)) [] [] [], .res (.s (.v (.pr (.int .i64) (.int .i64)) dc4)) [] [] [], .bool true, .bool true, .bool false, .bool true, .bool true])
    (ps := [decide (x23 < x22) = true,
      0 ≤ x23,
      x23 < (List.length x21 : Int),
      SC cfg.P i_spec_mpOf [.s (.v .str (List.getD x21 (x23).toNat (⟨#[]⟩ : ByteArray)))] (.s (.v (.pr (.int .i64) (.int .i64)) dc1)) [],
      0 ≤ x23,
      x23 < (List.length x4 : Int),
      SC cfg.P i_spec_mpOf [.s (.v .str (List.getD x4 (x23).toNat (⟨#[]⟩ : ByteArray)))] (.s (.v (.pr (.int .i64) (.int .i64)) dc2)) [],
      SC cfg.P i_spec_obRatio [.s (.v (.int .i64) dc1.1), .s (.v (.int .i64) dc1.2)] (.s (.v (.pr (.int .i64) (.int .i64)) dc3)) [],
      0 ≤ (((List.getD x21 (x23).toNat (⟨#[]⟩ : ByteArray))).size : Int),
      dc1.2 ≠ 0,
      0 ≤ (((List.getD x21 (x23).toNat (⟨#[]⟩ : ByteArray))).size : Int),
      SC cfg.P i_spec_obRatio [.s (.v (.int .i64) (IntKind.wrap .i64 ((IntKind.wrap .i64 (dc1.1 * (IntKind.wrap .i64 (Int.tdiv (IntKind.wrap .i64 ((1 : Int) * 2 ^ (min ((((List.getD x21 (x23).toNat (⟨#[]⟩ : ByteArray))).size : Int)).toNat (IntKind.bits .i64)))) dc1.2)))) + (1 : Int)))), .s (.v (.int .i64) (IntKind.wrap .i64 ((1 : Int) * 2 ^ (min ((((List.getD x21 (x23).toNat (⟨#[]⟩ : ByteArray))).size : Int)).toNat (IntKind.bits .i64)))))] (.s (.v (.pr (.int .i64) (.int .i64)) dc4)) [],
      0 ≤ x23,
      x23 < (List.length x4 : Int),
      ((((List.getD x21 (x23).toNat (⟨#[]⟩ : ByteArray))).size : Int) == (((List.getD x4 (x23).toNat (⟨#[]⟩ : ByteArray))).size : Int)) = true,
      ((dc1.1 == dc2.1) && (dc1.2 == dc2.2)) = true,
      (((List.length ([dc3, dc4] : List (Int × Int)) : Nat) : Int) == (0 : Int)) = false,
      decide ((IntKind.wrap .i64 (((List.length xo3 : Nat) : Int) - (1 : Int))) ≥ (0 : Int)) = true,
      0 ≤ (IntKind.wrap .i64 (((List.length xo3 : Nat) : Int) - (1 : Int))),
      (IntKind.wrap .i64 (((List.length xo3 : Nat) : Int) - (1 : Int))) < (List.length xo3 : Int),
      ((IntKind.wrap .i64 (((List.length xo3 : Nat) : Int) - (1 : Int)))).toNat < List.length xo3,
      0 ≤ (1 : Int),
      (1 : Int) < (List.length (List.getD xo3 ((IntKind.wrap .i64 (((List.length xo3 : Nat) : Int) - (1 : Int)))).toNat ([] : List (Int × Int))) : Int),
      0 ≤ (0 : Int),
      (0 : Int) < (List.length ([dc3, dc4] : List (Int × Int)) : Int),
      ((0 : Int)).toNat < List.length ([dc3, dc4] : List (Int × Int)),
      (((List.getD (List.getD xo3 ((IntKind.wrap .i64 (((List.length xo3 : Nat) : Int) - (1 : Int)))).toNat ([] : List (Int × Int))) ((1 : Int)).toNat ((0 : Int), (0 : Int))).1 == (List.getD ([dc3, dc4] : List (Int × Int)) ((0 : Int)).toNat ((0 : Int), (0 : Int))).1) && ((List.getD (List.getD xo3 ((IntKind.wrap .i64 (((List.length xo3 : Nat) : Int) - (1 : Int)))).toNat ([] : List (Int × Int))) ((1 : Int)).toNat ((0 : Int), (0 : Int))).2 == (List.getD ([dc3, dc4] : List (Int × Int)) ((0 : Int)).toNat ((0 : Int), (0 : Int))).2)) = true,
      0 ≤ (IntKind.wrap .i64 (((List.length xo3 : Nat) : Int) - (1 : Int))),
      (IntKind.wrap .i64 (((List.length xo3 : Nat) : Int) - (1 : Int))) < (List.length xo3 : Int),
      ((IntKind.wrap .i64 (((List.length xo3 : Nat) : Int) - (1 : Int)))).toNat < List.length xo3,
      0 ≤ (0 : Int),
      (0 : Int) < (List.length (List.getD xo3 ((IntKind.wrap .i64 (((List.length xo3 : Nat) : Int) - (1 : Int)))).toNat ([] : List (Int × Int))) : Int),
      0 ≤ (1 : Int),
      (1 : Int) < (List.length ([dc3, dc4] : List (Int × Int)) : Int),
      ((1 : Int)).toNat < List.length ([dc3, dc4] : List (Int × Int)),
      0 ≤ (IntKind.wrap .i64 (((List.length xo3 : Nat) : Int) - (1 : Int))),
      (IntKind.wrap .i64 (((List.length xo3 : Nat) : Int) - (1 : Int))) < (List.length xo3 : Int),
      ((IntKind.wrap .i64 (((List.length xo3 : Nat) : Int) - (1 : Int)))).toNat < List.length xo3]) (st1 := spec_obFixed_L0a x4 x21 x22 (IntKind.wrap .i64 (x23 + (1 : Int))) (List.set xo3 ((IntKind.wrap .i64 (((List.length xo3 : Nat) : Int) - (1 : Int)))).toNat ([(List.getD (List.getD xo3 ((IntKind.wrap .i64 (((List.length xo3 : Nat) : Int) - (1 : Int)))).toNat ([] : List (Int × Int))) ((0 : Int)).toNat ((0 : Int), (0 : Int))), (List.getD ([dc3, dc4] : List (Int × Int)) ((1 : Int)).toNat ((0 : Int), (0 : Int)))] : List (Int × Int)))) (by kernel_rfl) ⟨(decide_eq_true h1), h2, h3, h4, h2, h5, h6, h7, h8, h9, h8, h10, h2, h5, (beq_t h11), h12, (beq_f h13), (decide_eq_true h14), h15, h16, h17, (by decide), h18, (by decide), h19, h20, h21, h15, h16, h17, (by decide), h22, (by decide), h23, h24, h15, h16, h17, trivial⟩ next

theorem spec_obFixed_L0a_i3 (x4 : (List ByteArray)) (x21 : (List ByteArray)) (x22 : Int) (x23 : Int) (xo3 : (List (List (Int × Int)))) (dc1 : (Int × Int)) (dc2 : (Int × Int)) (dc3 : (Int × Int)) (dc4 : (Int × Int))
    (h1 : x23 < x22)
    (h2 : 0 ≤ x23)
    (h3 : x23 < (List.length x21 : Int))
    (h4 : SC cfg.P i_spec_mpOf [.s (.v .str (List.getD x21 (x23).toNat (⟨#[]⟩ : ByteArray)))] (.s (.v (.pr (.int .i64) (.int .i64)) dc1)) [])
    (h5 : x23 < (List.length x4 : Int))
    (h6 : SC cfg.P i_spec_mpOf [.s (.v .str (List.getD x4 (x23).toNat (⟨#[]⟩ : ByteArray)))] (.s (.v (.pr (.int .i64) (.int .i64)) dc2)) [])
    (h7 : SC cfg.P i_spec_obRatio [.s (.v (.int .i64) dc1.1), .s (.v (.int .i64) dc1.2)] (.s (.v (.pr (.int .i64) (.int .i64)) dc3)) [])
    (h8 : 0 ≤ (((List.getD x21 (x23).toNat (⟨#[]⟩ : ByteArray))).size : Int))
    (h9 : dc1.2 ≠ 0)
    (h10 : SC cfg.P i_spec_obRatio [.s (.v (.int .i64) (IntKind.wrap .i64 ((IntKind.wrap .i64 (dc1.1 * (IntKind.wrap .i64 (Int.tdiv (IntKind.wrap .i64 ((1 : Int) * 2 ^ (min ((((List.getD x21 (x23).toNat (⟨#[]⟩ : ByteArray))).size : Int)).toNat (IntKind.bits .i64)))) dc1.2)))) + (1 : Int)))), .s (.v (.int .i64) (IntKind.wrap .i64 ((1 : Int) * 2 ^ (min ((((List.getD x21 (x23).toNat (⟨#[]⟩ : ByteArray))).size : Int)).toNat (IntKind.bits .i64)))))] (.s (.v (.pr (.int .i64) (.int .i64)) dc4)) [])
    (h11 : (((List.getD x21 (x23).toNat (⟨#[]⟩ : ByteArray))).size : Int) = (((List.getD x4 (x23).toNat (⟨#[]⟩ : ByteArray))).size : Int))
    (h12 : ((dc1.1 == dc2.1) && (dc1.2 == dc2.2)) = true)
    (h13 : ((List.length ([dc3, dc4] : List (Int × Int)) : Nat) : Int) ≠ (0 : Int))
    (h14 : (IntKind.wrap .i64 (((List.length xo3 : Nat) : Int) - (1 : Int))) ≥ (0 : Int))
    (h15 : 0 ≤ (IntKind.wrap .i64 (((List.length xo3 : Nat) : Int) - (1 : Int))))
    (h16 : (IntKind.wrap .i64 (((List.length xo3 : Nat) : Int) - (1 : Int))) < (List.length xo3 : Int))
    (h17 : ((IntKind.wrap .i64 (((List.length xo3 : Nat) : Int) - (1 : Int)))).toNat < List.length xo3)
    (h18 : (1 : Int) < (List.length (List.getD xo3 ((IntKind.wrap .i64 (((List.length xo3 : Nat) : Int) - (1 : Int)))).toNat ([] : List (Int × Int))) : Int))
    (h19 : (0 : Int) < (List.length ([dc3, dc4] : List (Int × Int)) : Int))
    (h20 : ((0 : Int)).toNat < List.length ([dc3, dc4] : List (Int × Int)))
    (h21 : (((List.getD (List.getD xo3 ((IntKind.wrap .i64 (((List.length xo3 : Nat) : Int) - (1 : Int)))).toNat ([] : List (Int × Int))) ((1 : Int)).toNat ((0 : Int), (0 : Int))).1 == (List.getD ([dc3, dc4] : List (Int × Int)) ((0 : Int)).toNat ((0 : Int), (0 : Int))).1) && ((List.getD (List.getD xo3 ((IntKind.wrap .i64 (((List.length xo3 : Nat) : Int) - (1 : Int)))).toNat ([] : List (Int × Int))) ((1 : Int)).toNat ((0 : Int), (0 : Int))).2 == (List.getD ([dc3, dc4] : List (Int × Int)) ((0 : Int)).toNat ((0 : Int), (0 : Int))).2)) = false)
    (h22 : sizeOK (List.length xo3 + List.length ([([dc3, dc4] : List (Int × Int))] : List (List (Int × Int)))))
    {e : AEx} {st : St} (next : LoopSC cfg.P 1 (lb P_spec_obFixed 0) (spec_obFixed_L0a x4 x21 x22 (IntKind.wrap .i64 (x23 + (1 : Int))) (xo3 ++ ([([dc3, dc4] : List (Int × Int))] : List (List (Int × Int))))) e st) :
    LoopSC cfg.P 1 (lb P_spec_obFixed 0) (spec_obFixed_L0a x4 x21 x22 x23 xo3) e st :=
  loop_iter cfgOK (f := i_spec_obFixed) (its := [.bool true, .res (.s (.v (.pr (.int .i64) (.int .i64)) dc1)) [] [] [], .res (.s (.v (.pr (.int .i64) (.int .i64)) dc2)) [] [] [], .res (.s (.v (.pr (.int .i64) (.int .i64)) dc3)) [] [] [], .res (.s (.v (.pr (.int .i64) (.int .i64)) dc4)) [] [] [], .bool true, .bool true, .bool false, .bool true, .bool false])
    (ps := [decide (x23 < x22) = true,
      0 ≤ x23,
      x23 < (List.length x21 : Int),
      SC cfg.P i_spec_mpOf [.s (.v .str (List.getD x21 (x23).toNat (⟨#[]⟩ : ByteArray)))] (.s (.v (.pr (.int .i64) (.int .i64)) dc1)) [],
      0 ≤ x23,
      x23 < (List.length x4 : Int),
      SC cfg.P i_spec_mpOf [.s (.v .str (List.getD x4 (x23).toNat (⟨#[]⟩ : ByteArray)))] (.s (.v (.pr (.int .i64) (.int .i64)) dc2)) [],
      SC cfg.P i_spec_obRatio [.s (.v (.int .i64) dc1.1), .s (.v (.int .i64) dc1.2)] (.s (.v (.pr (.int .i64) (.int .i64)) dc3)) [],
      0 ≤ (((List.getD x21 (x23).toNat (⟨#[]⟩ : ByteArray))).size : Int),
      dc1.2 ≠ 0,
      0 ≤ (((List.getD x21 (x23).toNat (⟨#[]⟩ : ByteArray))).size : Int),
      SC cfg.P i_spec_obRatio [.s (.v (.int .i64) (IntKind.wrap .i64 ((IntKind.wrap .i64 (dc1.1 * (IntKind.wrap .i64 (Int.tdiv (IntKind.wrap .i64 ((1 : Int) * 2 ^ (min ((((List.getD x21 (x23).toNat (⟨#[]⟩ : ByteArray))).size : Int)).toNat (IntKind.bits .i64)))) dc1.2)))) + (1 : Int)))), .s (.v (.int .i64) (IntKind.wrap .i64 ((1 : Int) * 2 ^ (min ((((List.getD x21 (x23).toNat (⟨#[]⟩ : ByteArray))).size : Int)).toNat (IntKind.bits .i64)))))] (.s (.v (.pr (.int .i64) (.int .i64)) dc4)) [],
      0 ≤ x23,
      x23 < (List.length x4 : Int),
      ((((List.getD x21 (x23).toNat (⟨#[]⟩ : ByteArray))).size : Int) == (((List.getD x4 (x23).toNat (⟨#[]⟩ : ByteArray))).size : Int)) = true,
      ((dc1.1 == dc2.1) && (dc1.2 == dc2.2)) = true,
      (((List.length ([dc3, dc4] : List (Int × Int)) : Nat) : Int) == (0 : Int)) = false,
      decide ((IntKind.wrap .i64 (((List.length xo3 : Nat) : Int) - (1 : Int))) ≥ (0 : Int)) = true,
      0 ≤ (IntKind.wrap .i64 (((List.length xo3 : Nat) : Int) - (1 : Int))),
      (IntKind.wrap .i64 (((List.length xo3 : Nat) : Int) - (1 : Int))) < (List.length xo3 : Int),
      ((IntKind.wrap .i64 (((List.length xo3 : Nat) : Int) - (1 : Int)))).toNat < List.length xo3,
      0 ≤ (1 : Int),
      (1 : Int) < (List.length (List.getD xo3 ((IntKind.wrap .i64 (((List.length xo3 : Nat) : Int) - (1 : Int)))).toNat ([] : List (Int × Int))) : Int),
      0 ≤ (0 : Int),
      (0 : Int) < (List.length ([dc3, dc4] : List (Int × Int)) : Int),
      ((0 : Int)).toNat < List.length ([dc3, dc4] : List (Int × Int)),
      (((List.getD (List.getD xo3 ((IntKind.wrap .i64 (((List.length xo3 : Nat) : Int) - (1 : Int)))).toNat ([] : List (Int × Int))) ((1 : Int)).toNat ((0 : Int), (0 : Int))).1 == (List.getD ([dc3, dc4] : List (Int × Int)) ((0 : Int)).toNat ((0 : Int), (0 : Int))).1) && ((List.getD (List.getD xo3 ((IntKind.wrap .i64 (((List.length xo3 : Nat) : Int) - (1 : Int)))).toNat ([] : List (Int × Int))) ((1 : Int)).toNat ((0 : Int), (0 : Int))).2 == (List.getD ([dc3, dc4] : List (Int × Int)) ((0 : Int)).toNat ((0 : Int), (0 : Int))).2)) = false,
      sizeOK (List.length xo3 + List.length ([([dc3, dc4] : List (Int × Int))] : List (List (Int × Int))))]) (st1 := spec_obFixed_L0a x4 x21 x22 (IntKind.wrap .i64 (x23 + (1 : Int))) (xo3 ++ ([([dc3, dc4] : List (Int × Int))] : List (List (Int × Int))))) (by kernel_rfl) ⟨(decide_eq_true h1), h2, h3, h4, h2, h5, h6, h7, h8, h9, h8, h10, h2, h5, (beq_t h11), h12, (beq_f h13), (decide_eq_true h14), h15, h16, h17, (by decide), h18, (by decide), h19, h20, h21, h22, trivial⟩ next

theorem spec_obFixed_L0a_i4 (x4 : (List ByteArray)) (x21 : (List ByteArray)) (x22 : Int) (x23 : Int) (xo3 : (List (List (Int × Int)))) (dc1 : (Int × Int)) (dc2 : (Int × Int)) (dc3 : (Int × Int)) (dc4 : (Int × Int))
    (h1 : x23 < x22)
    (h2 : 0 ≤ x23)
    (h3 : x23 < (List.length x21 : Int))
    (h4 : SC cfg.P i_spec_mpOf [.s (.v .str (List.getD x21 (x23).toNat (⟨#[]⟩ : ByteArray)))] (.s (.v (.pr (.int .i64) (.int .i64)) dc1)) [])
    (h5 : x23 < (List.length x4 : Int))
    (h6 : SC cfg.P i_spec_mpOf [.s (.v .str (List.getD x4 (x23).toNat (⟨#[]⟩ : ByteArray)))] (.s (.v (.pr (.int .i64) (.int .i64)) dc2)) [])
    (h7 : SC cfg.P i_spec_obRatio [.s (.v (.int .i64) dc1.1), .s (.v (.int .i64) dc1.2)] (.s (.v (.pr (.int .i64) (.int .i64)) dc3)) [])
    (h8 : 0 ≤ (((List.getD x21 (x23).toNat (⟨#[]⟩ : ByteArray))).size : Int))
    (h9 : dc1.2 ≠ 0)
    (h10 : SC cfg.P i_spec_obRatio [.s (.v (.int .i64) (IntKind.wrap .i64 ((IntKind.wrap .i64 (dc1.1 * (IntKind.wrap .i64 (Int.tdiv (IntKind.wrap .i64 ((1 : Int) * 2 ^ (min ((((List.getD x21 (x23).toNat (⟨#[]⟩ : ByteArray))).size : Int)).toNat (IntKind.bits .i64)))) dc1.2)))) + (1 : Int)))), .s (.v (.int .i64) (IntKind.wrap .i64 ((1 : Int) * 2 ^ (min ((((List.getD x21 (x23).toNat (⟨#[]⟩ : ByteArray))).size : Int)).toNat (IntKind.bits .i64)))))] (.s (.v (.pr (.int .i64) (.int .i64)) dc4)) [])
    (h11 : (((List.getD x21 (x23).toNat (⟨#[]⟩ : ByteArray))).size : Int) = (((List.getD x4 (x23).toNat (⟨#[]⟩ : ByteArray))).size : Int))
    (h12 : ((dc1.1 == dc2.1) && (dc1.2 == dc2.2)) = true)
    (h13 : ((List.length ([dc3, dc4] : List (Int × Int)) : Nat) : Int) ≠ (0 : Int))
    (h14 : ¬ ((IntKind.wrap .i64 (((List.length xo3 : Nat) : Int) - (1 : Int))) ≥ (0 : Int)))
    (h15 : sizeOK (List.length xo3 + List.length ([([dc3, dc4] : List (Int × Int))] : List (List (Int × Int)))))
    {e : AEx} {st : St} (next : LoopSC cfg.P 1 (lb P_spec_obFixed 0) (spec_obFixed_L0a x4 x21 x22 (IntKind.wrap .i64 (x23 + (1 : Int))) (xo3 ++ ([([dc3, dc4] : List (Int × Int))] : List (List (Int × Int))))) e st) :
    LoopSC cfg.P 1 (lb P_spec_obFixed 0) (spec_obFixed_L0a x4 x21 x22 x23 xo3) e st :=
  loop_iter cfgOK (f := i_spec_obFixed) (its := [.bool true, .res (.s (.v (.pr (.int .i64) (.int .i64)) dc1)) [] [] [], .res (.s (.v (.pr (.int .i64) (.int .i64)) dc2)) [] [] [], .res (.s (.v (.pr (.int .i64) (.int .i64)) dc3)) [] [] [], .res (.s (.v (.pr (.int .i64) (.int .i64)) dc4)) [] [] [], .bool true, .bool true, .bool false, .bool false])
    (ps := [decide (x23 < x22) = true,
      0 ≤ x23,
      x23 < (List.length x21 : Int),
      SC cfg.P i_spec_mpOf [.s (.v .str (List.getD x21 (x23).toNat (⟨#[]⟩ : ByteArray)))] (.s (.v (.pr (.int .i64) (.int .i64)) dc1)) [],
      0 ≤ x23,
      x23 < (List.length x4 : Int),
      SC cfg.P i_spec_mpOf [.s (.v .str (List.getD x4 (x23).toNat (⟨#[]⟩ : ByteArray)))] (.s (.v (.pr (.int .i64) (.int .i64)) dc2)) [],
      SC cfg.P i_spec_obRatio [.s (.v (.int .i64) dc1.1), .s (.v (.int .i64) dc1.2)] (.s (.v (.pr (.int .i64) (.int .i64)) dc3)) [],
      0 ≤ (((List.getD x21 (x23).toNat (⟨#[]⟩ : ByteArray))).size : Int),
      dc1.2 ≠ 0,
      0 ≤ (((List.getD x21 (x23).toNat (⟨#[]⟩ : ByteArray))).size : Int),
      SC cfg.P i_spec_obRatio [.s (.v (.int .i64) (IntKind.wrap .i64 ((IntKind.wrap .i64 (dc1.1 * (IntKind.wrap .i64 (Int.tdiv (IntKind.wrap .i64 ((1 : Int) * 2 ^ (min ((((List.getD x21 (x23).toNat (⟨#[]⟩ : ByteArray))).size : Int)).toNat (IntKind.bits .i64)))) dc1.2)))) + (1 : Int)))), .s (.v (.int .i64) (IntKind.wrap .i64 ((1 : Int) * 2 ^ (min ((((List.getD x21 (x23).toNat (⟨#[]⟩ : ByteArray))).size : Int)).toNat (IntKind.bits .i64)))))] (.s (.v (.pr (.int .i64) (.int .i64)) dc4)) [],
      0 ≤ x23,
      x23 < (List.length x4 : Int),
      ((((List.getD x21 (x23).toNat (⟨#[]⟩ : ByteArray))).size : Int) == (((List.getD x4 (x23).toNat (⟨#[]⟩ : ByteArray))).size : Int)) = true,
      ((dc1.1 == dc2.1) && (dc1.2 == dc2.2)) = true,
      (((List.length ([dc3, dc4] : List (Int × Int)) : Nat) : Int) == (0 : Int)) = false,
      decide ((IntKind.wrap .i64 (((List.length xo3 : Nat) : Int) - (1 : Int))) ≥ (0 : Int)) = false,
      sizeOK (List.length xo3 + List.length ([([dc3, dc4] : List (Int × Int))] : List (List (Int × Int))))]) (st1 := spec_obFixed_L0a x4 x21 x22 (IntKind.wrap .i64 (x23 + (1 : Int))) (xo3 ++ ([([dc3, dc4] : List (Int × Int))] : List (List (Int × Int))))) (by kernel_rfl) ⟨(decide_eq_true h1), h2, h3, h4, h2, h5, h6, h7, h8, h9, h8, h10, h2, h5, (beq_t h11), h12, (beq_f h13), (decide_eq_false h14), h15, trivial⟩ next

theorem spec_obFixed_L0a_i5 (x4 : (List ByteArray)) (x21 : (List ByteArray)) (x22 : Int) (x23 : Int) (xo3 : (List (List (Int × Int)))) (dc1 : (Int × Int)) (dc2 : (Int × Int)) (dc3 : (Int × Int)) (dc4 : (Int × Int))
    (h1 : x23 < x22)
    (h2 : 0 ≤ x23)
    (h3 : x23 < (List.length x21 : Int))
    (h4 : SC cfg.P i_spec_mpOf [.s (.v .str (List.getD x21 (x23).toNat (⟨#[]⟩ : ByteArray)))] (.s (.v (.pr (.int .i64) (.int .i64)) dc1)) [])
    (h5 : x23 < (List.length x4 : Int))
    (h6 : SC cfg.P i_spec_mpOf [.s (.v .str (List.getD x4 (x23).toNat (⟨#[]⟩ : ByteArray)))] (.s (.v (.pr (.int .i64) (.int .i64)) dc2)) [])
    (h7 : SC cfg.P i_spec_obRatio [.s (.v (.int .i64) dc1.1), .s (.v (.int .i64) dc1.2)] (.s (.v (.pr (.int .i64) (.int .i64)) dc3)) [])
    (h8 : 0 ≤ (((List.getD x21 (x23).toNat (⟨#[]⟩ : ByteArray))).size : Int))
    (h9 : dc1.2 ≠ 0)
    (h10 : SC cfg.P i_spec_obRatio [.s (.v (.int .i64) (IntKind.wrap .i64 ((IntKind.wrap .i64 (dc1.1 * (IntKind.wrap .i64 (Int.tdiv (IntKind.wrap .i64 ((1 : Int) * 2 ^ (min ((((List.getD x21 (x23).toNat (⟨#[]⟩ : ByteArray))).size : Int)).toNat (IntKind.bits .i64)))) dc1.2)))) + (1 : Int)))), .s (.v (.int .i64) (IntKind.wrap .i64 ((1 : Int) * 2 ^ (min ((((List.getD x21 (x23).toNat (⟨#[]⟩ : ByteArray))).size : Int)).toNat (IntKind.bits .i64)))))] (.s (.v (.pr (.int .i64) (.int .i64)) dc4)) [])
    (h11 : (((List.getD x21 (x23).toNat (⟨#[]⟩ : ByteArray))).size : Int) = (((List.getD x4 (x23).toNat (⟨#[]⟩ : ByteArray))).size : Int))
    (h12 : ((dc1.1 == dc2.1) && (dc1.2 == dc2.2)) = false)
    (h13 : ((List.length ([] : List (Int × Int)) : Nat) : Int) = (0 : Int))
    {e : AEx} {st : St} (next : LoopSC cfg.P 1 (lb P_spec_obFixed 0) (spec_obFixed_L0a x4 x21 x22 (IntKind.wrap .i64 (x23 + (1 : Int))) xo3) e st) :
    LoopSC cfg.P 1 (lb P_spec_obFixed 0) (spec_obFixed_L0a x4 x21 x22 x23 xo3) e st :=
  loop_iter cfgOK (f := i_spec_obFixed) (its := [.bool true, .res (.s (.v (.pr (.int .i64) (.int .i64)) dc1)) [] [] [], .res (.s (.v (.pr (.int .i64) (.int .i64)) dc2)) [] [] [], .res (.s (.v (.pr (.int .i64) (.int .i64)) dc3)) [] [] [], .res (.s (.v (.pr (.int .i64) (.int .i64)) dc4)) [] [] [], .bool true, .bool false, .bool true])
    (ps := [decide (x23 < x22) = true,
      0 ≤ x23,
      x23 < (List.length x21 : Int),
      SC cfg.P i_spec_mpOf [.s (.v .str (List.getD x21 (x23).toNat (⟨#[]⟩ : ByteArray)))] (.s (.v (.pr (.int .i64) (.int .i64)) dc1)) [],
      0 ≤ x23,
      x23 < (List.length x4 : Int),
      SC cfg.P i_spec_mpOf [.s (.v .str (List.getD x4 (x23).toNat (⟨#[]⟩ : ByteArray)))] (.s (.v (.pr (.int .i64) (.int .i64)) dc2)) [],
      SC cfg.P i_spec_obRatio [.s (.v (.int .i64) dc1.1), .s (.v (.int .i64) dc1.2)] (.s (.v (.pr (.int .i64) (.int .i64)) dc3)) [],
      0 ≤ (((List.getD x21 (x23).toNat (⟨#[]⟩ : ByteArray))).size : Int),
      dc1.2 ≠ 0,
      0 ≤ (((List.getD x21 (x23).toNat (⟨#[]⟩ : ByteArray))).size : Int),
      SC cfg.P i_spec_obRatio [.s (.v (.int .i64) (IntKind.wrap .i64 ((IntKind.wrap .i64 (dc1.1 * (IntKind.wrap .i64 (Int.tdiv (IntKind.wrap .i64 ((1 : Int) * 2 ^ (min ((((List.getD x21 (x23).toNat (⟨#[]⟩ : ByteArray))).size : Int)).toNat (IntKind.bits .i64)))) dc1.2)))) + (1 : Int)))), .s (.v (.int .i64) (IntKind.wrap .i64 ((1 : Int) * 2 ^ (min ((((List.getD x21 (x23).toNat (⟨#[]⟩ : ByteArray))).size : Int)).toNat (IntKind.bits .i64)))))] (.s (.v (.pr (.int .i64) (.int .i64)) dc4)) [],
      0 ≤ x23,
      x23 < (List.length x4 : Int),
      ((((List.getD x21 (x23).toNat (⟨#[]⟩ : ByteArray))).size : Int) == (((List.getD x4 (x23).toNat (⟨#[]⟩ : ByteArray))).size : Int)) = true,
      ((dc1.1 == dc2.1) && (dc1.2 == dc2.2)) = false,
      (((List.length ([] : List (Int × Int)) : Nat) : Int) == (0 : Int)) = true]) (st1 := spec_obFixed_L0a x4 x21 x22 (IntKind.wrap .i64 (x23 + (1 : Int))) xo3) (by kernel_rfl) ⟨(decide_eq_true h1), h2, h3, h4, h2, h5, h6, h7, h8, h9, h8, h10, h2, h5, (beq_t h11), h12, (beq_t h13), trivial⟩ next

theorem spec_obFixed_L0a_i6 (x4 : (List ByteArray)) (x21 : (List ByteArray)) (x22 : Int) (x23 : Int) (xo3 : (List (List (Int × Int)))) (dc1 : (Int × Int)) (dc2 : (Int × Int)) (dc3 : (Int × Int)) (dc4 : (Int × Int))
    (h1 : x23 < x22)
    (h2 : 0 ≤ x23)
    (h3 : x23 < (List.length x21 : Int))
    (h4 : SC cfg.P i_spec_mpOf [.s (.v .str (List.getD x21 (x23).toNat (⟨#[]⟩ : ByteArray)))] (.s (.v (.pr (.int .i64) (.int .i64)) dc1)) [])
    (h5 : x23 < (List.length x4 : Int))
    (h6 : SC cfg.P i_spec_mpOf [.s (.v .str (List.getD x4 (x23).toNat (⟨#[]⟩ : ByteArray)))] (.s (.v (.pr (.int .i64) (.int .i64)) dc2)) [])
    (h7 : SC cfg.P i_spec_obRatio [.s (.v (.int .i64) dc1.1), .s (.v (.int .i64) dc1.2)] (.s (.v (.pr (.int .i64) (.int .i64)) dc3)) [])
    (h8 : 0 ≤ (((List.getD x21 (x23).toNat (⟨#[]⟩ : ByteArray))).size : Int))
    (h9 : dc1.2 ≠ 0)
    (h10 : SC cfg.P i_spec_obRatio [.s (.v (.int .i64) (IntKind.wrap .i64 ((IntKind.wrap .i64 (dc1.1 * (IntKind.wrap .i64 (Int.tdiv (IntKind.wrap .i64 ((1 : Int) * 2 ^ (min ((((List.getD x21 (x23).toNat (⟨#[]⟩ : ByteArray))).size : Int)).toNat (IntKind.bits .i64)))) dc1.2)))) + (1 : Int)))), .s (.v (.int .i64) (IntKind.wrap .i64 ((1 : Int) * 2 ^ (min ((((List.getD x21 (x23).toNat (⟨#[]⟩ : ByteArray))).size : Int)).toNat (IntKind.bits .i64)))))] (.s (.v (.pr (.int .i64) (.int .i64)) dc4)) [])
    (h11 : (((List.getD x21 (x23).toNat (⟨#[]⟩ : ByteArray))).size : Int) = (((List.getD x4 (x23).toNat (⟨#[]⟩ : ByteArray))).size : Int))
    (h12 : ((dc1.1 == dc2.1) && (dc1.2 == dc2.2)) = false)
    (h13 : ((List.length ([] : List (Int × Int)) : Nat) : Int) ≠ (0 : Int))
    (h14 : (IntKind.wrap .i64 (((List.length xo3 : Nat) : Int) - (1 : Int))) ≥ (0 : Int))
    (h15 : 0 ≤ (IntKind.wrap .i64 (((List.length xo3 : Nat) : Int) - (1 : Int))))
    (h16 : (IntKind.wrap .i64 (((List.length xo3 : Nat) : Int) - (1 : Int))) < (List.length xo3 : Int))
    (h17 : ((IntKind.wrap .i64 (((List.length xo3 : Nat) : Int) - (1 : Int)))).toNat < List.length xo3)
    (h18 : (1 : Int) < (List.length (List.getD xo3 ((IntKind.wrap .i64 (((List.length xo3 : Nat) : Int) - (1 : Int)))).toNat ([] : List (Int × Int))) : Int))
    (h19 : (0 : Int) < (List.length ([] : List (Int × Int)) : Int))
    (h20 : ((0 : Int)).toNat < List.length ([] : List (Int × Int)))
    (h21 : (((List.getD (List.getD xo3 ((IntKind.wrap .i64 (((List.length xo3 : Nat) : Int) - (1 : Int)))).toNat ([] : List (Int × Int))) ((1 : Int)).toNat ((0 : Int), (0 : Int))).1 == (List.getD ([] : List (Int × Int)) ((0 : Int)).toNat ((0 : Int), (0 : Int))).1) && ((List.getD (List.getD xo3 ((IntKind.wrap .i64 (((List.length xo3 : Nat) : Int) - (1 : Int)))).toNat ([] : List (Int × Int))) ((1 : Int)).toNat ((0 : Int), (0 : Int))).2 == (List.getD ([] : List (Int × Int)) ((0 : Int)).toNat ((0 : Int), (0 : Int))).2)) = true)
    (h22 : (0 : Int) < (List.length (List.getD xo3 ((IntKind.wrap .i64 (((List.length xo3 : Nat) : Int) - (1 : Int)))).toNat ([] : List (Int × Int))) : Int))
    (h23 : (1 : Int) < (List.length ([] : List (Int × Int)) : Int))
    (h24 : ((1 : Int)).toNat < List.length ([] : List (Int × Int)))
    {e : AEx} {st : St} (next : LoopSC cfg.P 1 (lb P_spec_obFixed 0) (spec_obFixed_L0a x4 x21 x22 (IntKind.wrap .i64 (x23 + (1 : Int))) (List.set xo3 ((IntKind.wrap .i64 (((List.length xo3 : Nat) : Int) - (1 : Int)))).toNat ([(List.getD (List.getD xo3 ((IntKind.wrap .i64 (((List.length xo3 : Nat) : Int) - (1 : Int)))).toNat ([] : List (Int × Int))) ((0 : Int)).toNat ((0 : Int), (0 : Int))), (List.getD ([] : List (Int × Int)) ((1 : Int)).toNat ((0 : Int), (0 : Int)))] : List (Int × Int)))) e st) :
    LoopSC cfg.P 1 (lb P_spec_obFixed 0) (spec_obFixed_L0a x4 x21 x22 x23 xo3) e st :=
  loop_iter cfgOK (f := i_spec_obFixed) (its := [.bool true, .res (.s (.v (.pr (.int .i64) (.int .i64)) dc1)) [] [] [], .res (.s (.v (.pr (.int .i64) (.int .i64)) dc2)) [] [] [], .res (.s (.v (.pr (.int .i64) (.int .i64)) dc3)) [] [] [], .res (.s (.v (.pr (.int .i64) (.int .i64)) dc4)) [] [] [], .bool true, .bool false, .bool false, .bool true, .bool true])
    (ps := [decide (x23 < x22) = true,
      0 ≤ x23,
      x23 < (List.length x21 : Int),
      SC cfg.P i_spec_mpOf [.s (.v .str (List.getD x21 (x23).toNat (⟨#[]⟩ : ByteArray)))] (.s (.v (.pr (.int .i64) (.int .i64)) dc1)) [],
      0 ≤ x23,
      x23 < (List.length x4 : Int),
      SC cfg.P i_spec_mpOf [.s (.v .str (List.getD x4 (x23).toNat (⟨#[]⟩ : ByteArray)))] (.s (.v (.pr (.int .i64) (.int .i64)) dc2)) [],
      SC cfg.P i_spec_obRatio [.s (.v (.int .i64) dc1.1), .s (.v (.int .i64) dc1.2)] (.s (.v (.pr (.int .i64) (.int .i64)) dc3)) [],
      0 ≤ (((List.getD x21 (x23).toNat (⟨#[]⟩ : ByteArray))).size : Int),
      dc1.2 ≠ 0,
      0 ≤ (((List.getD x21 (x23).toNat (⟨#[]⟩ : ByteArray))).size : Int),
      SC cfg.P i_spec_obRatio [.s (.v (.int .i64) (IntKind.wrap .i64 ((IntKind.wrap .i64 (dc1.1 * (IntKind.wrap .i64 (Int.tdiv (IntKind.wrap .i64 ((1 : Int) * 2 ^ (min ((((List.getD x21 (x23).toNat (⟨#[]⟩ : ByteArray))).size : Int)).toNat (IntKind.bits .i64)))) dc1.2)))) + (1 : Int)))), .s (.v (.int .i64) (IntKind.wrap .i64 ((1 : Int) * 2 ^ (min ((((List.getD x21 (x23).toNat (⟨#[]⟩ : ByteArray))).size : Int)).toNat (IntKind.bits .i64)))))] (.s (.v (.pr (.int .i64) (.int .i64)) dc4)) [],
      0 ≤ x23,
      x23 < (List.length x4 : Int),
      ((((List.getD x21 (x23).toNat (⟨#[]⟩ : ByteArray))).size : Int) == (((List.getD x4 (x23).toNat (⟨#[]⟩ : ByteArray))).size : Int)) = true,
      ((dc1.1 == dc2.1) && (dc1.2 == dc2.2)) = false,
      (((List.length ([] : List (Int × Int)) : Nat) : Int) == (0 : Int)) = false,
      decide ((IntKind.wrap .i64 (((List.length xo3 : Nat) : Int) - (1 : Int))) ≥ (0 : Int)) = true,
      0 ≤ (IntKind.wrap .i64 (((List.length xo3 : Nat) : Int) - (1 : Int))),
      (IntKind.wrap .i64 (((List.length xo3 : Nat) : Int) - (1 : Int))) < (List.length xo3 : Int),
      ((IntKind.wrap .i64 (((List.length xo3 : Nat) : Int) - (1 : Int)))).toNat < List.length xo3,
      0 ≤ (1 : Int),
      (1 : Int) < (List.length (List.getD xo3 ((IntKind.wrap .i64 (((List.length xo3 : Nat) : Int) - (1 : Int)))).toNat ([] : List (Int × Int))) : Int),
      0 ≤ (0 : Int),
      (0 : Int) < (List.length ([] : List (Int × Int)) : Int),
      ((0 : Int)).toNat < List.length ([] : List (Int × Int)),
      (((List.getD (List.getD xo3 ((IntKind.wrap .i64 (((List.length xo3 : Nat) : Int) - (1 : Int)))).toNat ([] : List (Int × Int))) ((1 : Int)).toNat ((0 : Int), (0 : Int))).1 == (List.getD ([] : List (Int × Int)) ((0 : Int)).toNat ((0 : Int), (0 : Int))).1) && ((List.getD (List.getD xo3 ((IntKind.wrap .i64 (((List.length xo3 : Nat) : Int) - (1 : Int)))).toNat ([] : List (Int × Int))) ((1 : Int)).toNat ((0 : Int), (0 : Int))).2 == (List.getD ([] : List (Int × Int)) ((0 : Int)).toNat ((0 : Int), (0 : Int))).2)) = true,
      0 ≤ (IntKind.wrap .i64 (((List.length xo3 : Nat) : Int) - (1 : Int))),
      (IntKind.wrap .i64 (((List.length xo3 : Nat) : Int) - (1 : Int))) < (List.length xo3 : Int),
      ((IntKind.wrap .i64 (((List.length xo3 : Nat) : Int) - (1 : Int)))).toNat < List.length xo3,
      0 ≤ (0 : Int),
      (0 : Int) < (List.length (List.getD xo3 ((IntKind.wrap .i64 (((List.length xo3 : Nat) : Int) - (1 : Int)))).toNat ([] : List (Int × Int))) : Int),
      0 ≤ (1 : Int),
      (1 : Int) < (List.length ([] : List (Int × Int)) : Int),
      ((1 : Int)).toNat < List.length ([] : List (Int × Int)),
      0 ≤ (IntKind.wrap .i64 (((List.length xo3 : Nat) : Int) - (1 : Int))),
      (IntKind.wrap .i64 (((List.length xo3 : Nat) : Int) - (1 : Int))) < (List.length xo3 : Int),
      ((IntKind.wrap .i64 (((List.length xo3 : Nat) : Int) - (1 : Int)))).toNat < List.length xo3]) (st1 := spec_obFixed_L0a x4 x21 x22 (IntKind.wrap .i64 (x23 + (1 : Int))) (List.set xo3 ((IntKind.wrap .i64 (((List.length xo3 : Nat) : Int) - (1 : Int)))).toNat ([(List.getD (List.getD xo3 ((IntKind.wrap .i64 (((List.length xo3 : Nat) : Int) - (1 : Int)))).toNat ([] : List (Int × Int))) ((0 : Int)).toNat ((0 : Int), (0 : Int))), (List.getD ([] : List (Int × Int)) ((1 : Int)).toNat ((0 : Int), (0 : Int)))] : List (Int × Int)))) (by kernel_rfl) ⟨(decide_eq_true h1), h2, h3, h4, h2, h5, h6, h7, h8, h9, h8, h10, h2, h5, (beq_t h11), h12, (beq_f h13), (decide_eq_true h14), h15, h16, h17, (by decide), h18, (by decide), h19, h20, h21, h15, h16, h17, (by decide), h22, (by decide), h23, h24, h15, h16, h17, trivial⟩ next

theorem spec_obFixed_L0a_i7 (x4 : (List ByteArray)) (x21 : (List ByteArray)) (x22 : Int) (x23 : Int) (xo3 : (List (List (Int × Int)))) (dc1 : (Int × Int)) (dc2 : (Int × Int)) (dc3 : (Int × Int)) (dc4 : (Int × Int))
    (h1 : x23 < x22)
    (h2 : 0 ≤ x23)
    (h3 : x23 < (List.length x21 : Int))
    (h4 : SC cfg.P i_spec_mpOf [.s (.v .str (List.getD x21 (x23).toNat (⟨#[]⟩ : ByteArray)))] (.s (.v (.pr (.int .i64) (.int .i64)) dc1)) [])
    (h5 : x23 < (List.length x4 : Int))
    (h6 : SC cfg.P i_spec_mpOf [.s (.v .str (List.getD x4 (x23).toNat (⟨#[]⟩ : ByteArray)))] (.s (.v (.pr (.int .i64) (.int .i64)) dc2)) [])
    (h7 : SC cfg.P i_spec_obRatio [.s (.v (.int .i64) dc1.1), .s (.v (.int .i64) dc1.2)] (.s (.v (.pr (.int .i64) (.int .i64)) dc3)) [])
    (h8 : 0 ≤ (((List.getD x21 (x23).toNat (⟨#[]⟩ : ByteArray))).size : Int))
    (h9 : dc1.2 ≠ 0)
    (h10 : SC cfg.P i_spec_obRatio [.s (.v (.int .i64) (IntKind.wrap .i64 ((IntKind.wrap .i64 (dc1.1 * (IntKind.wrap .i64 (Int.tdiv (IntKind.wrap .i64 ((1 : Int) * 2 ^ (min ((((List.getD x21 (x23).toNat (⟨#[]⟩ : ByteArray))).size : Int)).toNat (IntKind.bits .i64)))) dc1.2)))) + (1 : Int)))), .s (.v (.int .i64) (IntKind.wrap .i64 ((1 : Int) * 2 ^ (min ((((List.getD x21 (x23).toNat (⟨#[]⟩ : ByteArray))).size : Int)).toNat (IntKind.bits .i64)))))] (.s (.v (.pr (.int .i64) (.int .i64)) dc4)) [])
    (h11 : (((List.getD x21 (x23).toNat (⟨#[]⟩ : ByteArray))).size : Int) = (((List.getD x4 (x23).toNat (⟨#[]⟩ : ByteArray))).size : Int))
    (h12 : ((dc1.1 == dc2.1) && (dc1.2 == dc2.2)) = false)
    (h13 : ((List.length ([] : List (Int × Int)) : Nat) : Int) ≠ (0 : Int))
    (h14 : (IntKind.wrap .i64 (((List.length xo3 : Nat) : Int) - (1 : Int))) ≥ (0 : Int))
    (h15 : 0 ≤ (IntKind.wrap .i64 (((List.length xo3 : Nat) : Int) - (1 : Int))))
    (h16 : (IntKind.wrap .i64 (((List.length xo3 : Nat) : Int) - (1 : Int))) < (List.length xo3 : Int))
    (h17 : ((IntKind.wrap .i64 (((List.length xo3 : Nat) : Int) - (1 : Int)))).toNat < List.length xo3)
    (h18 : (1 : Int) < (List.length (List.getD xo3 ((IntKind.wrap .i64 (((List.length xo3 : Nat) : Int) - (1 : Int)))).toNat ([] : List (Int × Int))) : Int))
    (h19 : (0 : Int) < (List.length ([] : List (Int × Int)) : Int))
    (h20 : ((0 : Int)).toNat < List.length ([] : List (Int × Int)))
    (h21 : (((List.getD (List.getD xo3 ((IntKind.wrap .i64 (((List.length xo3 : Nat) : Int) - (1 : Int)))).toNat ([] : List (Int × Int))) ((1 : Int)).toNat ((0 : Int), (0 : Int))).1 == (List.getD ([] : List (Int × Int)) ((0 : Int)).toNat ((0 : Int), (0 : Int))).1) && ((List.getD (List.getD xo3 ((IntKind.wrap .i64 (((List.length xo3 : Nat) : Int) - (1 : Int)))).toNat ([] : List (Int × Int))) ((1 : Int)).toNat ((0 : Int), (0 : Int))).2 == (List.getD ([] : List (Int × Int)) ((0 : Int)).toNat ((0 : Int), (0 : Int))).2)) = false)
    (h22 : sizeOK (List.length xo3 + List.length ([([] : List (Int × Int))] : List (List (Int × Int)))))
    {e : AEx} {st : St} (next : LoopSC cfg.P 1 (lb P_spec_obFixed 0) (spec_obFixed_L0a x4 x21 x22 (IntKind.wrap .i64 (x23 + (1 : Int))) (xo3 ++ ([([] : List (Int × Int))] : List (List (Int × Int))))) e st) :
    LoopSC cfg.P 1 (lb P_spec_obFixed 0) (spec_obFixed_L0a x4 x21 x22 x23 xo3) e st :=
  loop_iter cfgOK (f := i_spec_obFixed) (its := [.bool true, .res (.s (.v (.pr (.int .i64) (.int .i64)) dc1)) [] [] [], .res (.s (.v (.pr (.int .i64) (.int .i64)) dc2)) [] [] [], .res (.s (.v (.pr (.int .i64) (.int .i64)) dc3)) [] [] [], .res (.s (.v (.pr (.int .i64) (.int .i64)) dc4)) [] [] [], .bool true, .bool false, .bool false, .bool true, .bool false])
    (ps := [decide (x23 < x22) = true,
      0 ≤ x23,
      x23 < (List.length x21 : Int),
      SC cfg.P i_spec_mpOf [.s (.v .str (List.getD x21 (x23).toNat (⟨#[]⟩ : ByteArray)))] (.s (.v (.pr (.int .i64) (.int .i64)) dc1)) [],
      0 ≤ x23,
      x23 < (List.length x4 : Int),
      SC cfg.P i_spec_mpOf [.s (.v .str (List.getD x4 (x23).toNat (⟨#[]⟩ : ByteArray)))] (.s (.v (.pr (.int .i64) (.int .i64)) dc2)) [],
      SC cfg.P i_spec_obRatio [.s (.v (.int .i64) dc1.1), .s (.v (.int .i64) dc1.2)] (.s (.v (.pr (.int .i64) (.int .i64)) dc3)) [],
      0 ≤ (((List.getD x21 (x23).toNat (⟨#[]⟩ : ByteArray))).size : Int),
      dc1.2 ≠ 0,
      0 ≤ (((List.getD x21 (x23).toNat (⟨#[]⟩ : ByteArray))).size : Int),
      SC cfg.P i_spec_obRatio [.s (.v (.int .i64) (IntKind.wrap .i64 ((IntKind.wrap .i64 (dc1.1 * (IntKind.wrap .i64 (Int.tdiv (IntKind.wrap .i64 ((1 : Int) * 2 ^ (min ((((List.getD x21 (x23).toNat (⟨#[]⟩ : ByteArray))).size : Int)).toNat (IntKind.bits .i64)))) dc1.2)))) + (1 : Int)))), .s (.v (.int .i64) (IntKind.wrap .i64 ((1 : Int) * 2 ^ (min ((((List.getD x21 (x23).toNat (⟨#[]⟩ : ByteArray))).size : Int)).toNat (IntKind.bits .i64)))))] (.s (.v (.pr (.int .i64) (.int .i64)) dc4)) [],
      0 ≤ x23,
      x23 < (List.length x4 : Int),
      ((((List.getD x21 (x23).toNat (⟨#[]⟩ : ByteArray))).size : Int) == (((List.getD x4 (x23).toNat (⟨#[]⟩ : ByteArray))).size : Int)) = true,
      ((dc1.1 == dc2.1) && (dc1.2 == dc2.2)) = false,
      (((List.length ([] : List (Int × Int)) : Nat) : Int) == (0 : Int)) = false,
      decide ((IntKind.wrap .i64 (((List.length xo3 : Nat) : Int) - (1 : Int))) ≥ (0 : Int)) = true,
      0 ≤ (IntKind.wrap .i64 (((List.length xo3 : Nat) : Int) - (1 : Int))),
      (IntKind.wrap .i64 (((List.length xo3 : Nat) : Int) - (1 : Int))) < (List.length xo3 : Int),
      ((IntKind.wrap .i64 (((List.length xo3 : Nat) : Int) - (1 : Int)))).toNat < List.length xo3,
      0 ≤ (1 : Int),
      (1 : Int) < (List.length (List.getD xo3 ((IntKind.wrap .i64 (((List.length xo3 : Nat) : Int) - (1 : Int)))).toNat ([] : List (Int × Int))) : Int),
      0 ≤ (0 : Int),
      (0 : Int) < (List.length ([] : List (Int × Int)) : Int),
      ((0 : Int)).toNat < List.length ([] : List (Int × Int)),
      (((List.getD (List.getD xo3 ((IntKind.wrap .i64 (((List.length xo3 : Nat) : Int) - (1 : Int)))).toNat ([] : List (Int × Int))) ((1 : Int)).toNat ((0 : Int), (0 : Int))).1 == (List.getD ([] : List (Int × Int)) ((0 : Int)).toNat ((0 : Int), (0 : Int))).1) && ((List.getD (List.getD xo3 ((IntKind.wrap .i64 (((List.length xo3 : Nat) : Int) - (1 : Int)))).toNat ([] : List (Int × Int))) ((1 : Int)).toNat ((0 : Int), (0 : Int))).2 == (List.getD ([] : List (Int × Int)) ((0 : Int)).toNat ((0 : Int), (0 : Int))).2)) = false,
      sizeOK (List.length xo3 + List.length ([([] : List (Int × Int))] : List (List (Int × Int))))]) (st1 := spec_obFixed_L0a x4 x21 x22 (IntKind.wrap .i64 (x23 + (1 : Int))) (xo3 ++ ([([] : List (Int × Int))] : List (List (Int × Int))))) (by kernel_rfl) ⟨(decide_eq_true h1), h2, h3, h4, h2, h5, h6, h7, h8, h9, h8, h10, h2, h5, (beq_t h11), h12, (beq_f h13), (decide_eq_true h14), h15, h16, h17, (by decide), h18, (by decide), h19, h20, h21, h22, trivial⟩ next

theorem spec_obFixed_L0a_i8 (x4 : (List ByteArray)) (x21 : (List ByteArray)) (x22 : Int) (x23 : Int) (xo3 : (List (List (Int × Int)))) (dc1 : (Int × Int)) (dc2 : (Int × Int)) (dc3 : (Int × Int)) (dc4 : (Int × Int))
    (h1 : x23 < x22)
    (h2 : 0 ≤ x23)
    (h3 : x23 < (List.length x21 : Int))
    (h4 : SC cfg.P i_spec_mpOf [.s (.v .str (List.getD x21 (x23).toNat (⟨#[]⟩ : ByteArray)))] (.s (.v (.pr (.int .i64) (.int .i64)) dc1)) [])
    (h5 : x23 < (List.length x4 : Int))
    (h6 : SC cfg.P i_spec_mpOf [.s (.v .str (List.getD x4 (x23).toNat (⟨#[]⟩ : ByteArray)))] (.s (.v (.pr (.int .i64) (.int .i64)) dc2)) [])
    (h7 : SC cfg.P i_spec_obRatio [.s (.v (.int .i64) dc1.1), .s (.v (.int .i64) dc1.2)] (.s (.v (.pr (.int .i64) (.int .i64)) dc3)) [])
    (h8 : 0 ≤ (((List.getD x21 (x23).toNat (⟨#[]⟩ : ByteArray))).size : Int))
    (h9 : dc1.2 ≠ 0)
    (h10 : SC cfg.P i_spec_obRatio [.s (.v (.int .i64) (IntKind.wrap .i64 ((IntKind.wrap .i64 (dc1.1 * (IntKind.wrap .i64 (Int.tdiv (IntKind.wrap .i64 ((1 : Int) * 2 ^ (min ((((List.getD x21 (x23).toNat (⟨#[]⟩ : ByteArray))).size : Int)).toNat (IntKind.bits .i64)))) dc1.2)))) + (1 : Int)))), .s (.v (.int .i64) (IntKind.wrap .i64 ((1 : Int) * 2 ^ (min ((((List.getD x21 (x23).toNat (⟨#[]⟩ : ByteArray))).size : Int)).toNat (IntKind.bits .i64)))))] (.s (.v (.pr (.int .i64) (.int .i64)) dc4)) [])
    (h11 : (((List.getD x21 (x23).toNat (⟨#[]⟩ : ByteArray))).size : Int) = (((List.getD x4 (x23).toNat (⟨#[]⟩ : ByteArray))).size : Int))
    (h12 : ((dc1.1 == dc2.1) && (dc1.2 == dc2.2)) = false)
    (h13 : ((List.length ([] : List (Int × Int)) : Nat) : Int) ≠ (0 : Int))
    (h14 : ¬ ((IntKind.wrap .i64 (((List.length xo3 : Nat) : Int) - (1 : Int))) ≥ (0 : Int)))
    (h15 : sizeOK (List.length xo3 + List.length ([([] : List (Int × Int))] : List (List (Int × Int)))))
    {e : AEx} {st : St} (next : LoopSC cfg.P 1 (lb P_spec_obFixed 0) (spec_obFixed_L0a x4 x21 x22 (IntKind.wrap .i64 (x23 + (1 : Int))) (xo3 ++ ([([] : List (Int × Int))] : List (List (Int × Int))))) e st) :
    LoopSC cfg.P 1 (lb P_spec_obFixed 0) (spec_obFixed_L0a x4 x21 x22 x23 xo3) e st :=
  loop_iter cfgOK (f := i_spec_obFixed) (its := [.bool true, .res (.s (.v (.pr (.int .i64) (.int .i64)) dc1)) [] [] [], .res (.s (.v (.pr (.int .i64) (.int .i64)) dc2)) [] [] [], .res (.s (.v (.pr (.int .i64) (.int .i64)) dc3)) [] [] [], .res (.s (.v (.pr (.int .i64) (.int .i64)) dc4)) [] [] [], .bool true, .bool false, .bool false, .bool false])
    (ps := [decide (x23 < x22) = true,
      0 ≤ x23,
      x23 < (List.length x21 : Int),
      SC cfg.P i_spec_mpOf [.s (.v .str (List.getD x21 (x23).toNat (⟨#[]⟩ : ByteArray)))] (.s (.v (.pr (.int .i64) (.int .i64)) dc1)) [],
      0 ≤ x23,
      x23 < (List.length x4 : Int),
      SC cfg.P i_spec_mpOf [.s (.v .str (List.getD x4 (x23).toNat (⟨#[]⟩ : ByteArray)))] (.s (.v (.pr (.int .i64) (.int .i64)) dc2)) [],
      SC cfg.P i_spec_obRatio [.s (.v (.int .i64) dc1.1), .s (.v (.int .i64) dc1.2)] (.s (.v (.pr (.int .i64) (.int .i64)) dc3)) [],
      0 ≤ (((List.getD x21 (x23).toNat (⟨#[]⟩ : ByteArray))).size : Int),
      dc1.2 ≠ 0,
      0 ≤ (((List.getD x21 (x23).toNat (⟨#[]⟩ : ByteArray))).size : Int),
      SC cfg.P i_spec_obRatio [.s (.v (.int .i64) (IntKind.wrap .i64 ((IntKind.wrap .i64 (dc1.1 * (IntKind.wrap .i64 (Int.tdiv (IntKind.wrap .i64 ((1 : Int) * 2 ^ (min ((((List.getD x21 (x23).toNat (⟨#[]⟩ : ByteArray))).size : Int)).toNat (IntKind.bits .i64)))) dc1.2)))) + (1 : Int)))), .s (.v (.int .i64) (IntKind.wrap .i64 ((1 : Int) * 2 ^ (min ((((List.getD x21 (x23).toNat (⟨#[]⟩ : ByteArray))).size : Int)).toNat (IntKind.bits .i64)))))] (.s (.v (.pr (.int .i64) (.int .i64)) dc4)) [],
      0 ≤ x23,
      x23 < (List.length x4 : Int),
      ((((List.getD x21 (x23).toNat (⟨#[]⟩ : ByteArray))).size : Int) == (((List.getD x4 (x23).toNat (⟨#[]⟩ : ByteArray))).size : Int)) = true,
      ((dc1.1 == dc2.1) && (dc1.2 == dc2.2)) = false,
      (((List.length ([] : List (Int × Int)) : Nat) : Int) == (0 : Int)) = false,
      decide ((IntKind.wrap .i64 (((List.length xo3 : Nat) : Int) - (1 : Int))) ≥ (0 : Int)) = false,
      sizeOK (List.length xo3 + List.length ([([] : List (Int × Int))] : List (List (Int × Int))))]) (st1 := spec_obFixed_L0a x4 x21 x22 (IntKind.wrap .i64 (x23 + (1 : Int))) (xo3 ++ ([([] : List (Int × Int))] : List (List (Int × Int))))) (by kernel_rfl) ⟨(decide_eq_true h1), h2, h3, h4, h2, h5, h6, h7, h8, h9, h8, h10, h2, h5, (beq_t h11), h12, (beq_f h13), (decide_eq_false h14), h15, trivial⟩ next

theorem spec_obFixed_L0a_i9 (x4 : (List ByteArray)) (x21 : (List ByteArray)) (x22 : Int) (x23 : Int) (xo3 : (List (List (Int × Int)))) (dc1 : (Int × Int)) (dc2 : (Int × Int)) (dc3 : (Int × Int)) (dc4 : (Int × Int)) (dc5 : (Int × Int))
    (h1 : x23 < x22)
    (h2 : 0 ≤ x23)
    (h3 : x23 < (List.length x21 : Int))
    (h4 : SC cfg.P i_spec_mpOf [.s (.v .str (List.getD x21 (x23).toNat (⟨#[]⟩ : ByteArray)))] (.s (.v (.pr (.int .i64) (.int .i64)) dc1)) [])
    (h5 : x23 < (List.length x4 : Int))
    (h6 : SC cfg.P i_spec_mpOf [.s (.v .str (List.getD x4 (x23).toNat (⟨#[]⟩ : ByteArray)))] (.s (.v (.pr (.int .i64) (.int .i64)) dc2)) [])
    (h7 : SC cfg.P i_spec_obRatio [.s (.v (.int .i64) dc1.1), .s (.v (.int .i64) dc1.2)] (.s (.v (.pr (.int .i64) (.int .i64)) dc3)) [])
    (h8 : 0 ≤ (((List.getD x21 (x23).toNat (⟨#[]⟩ : ByteArray))).size : Int))
    (h9 : dc1.2 ≠ 0)
    (h10 : SC cfg.P i_spec_obRatio [.s (.v (.int .i64) (IntKind.wrap .i64 ((IntKind.wrap .i64 (dc1.1 * (IntKind.wrap .i64 (Int.tdiv (IntKind.wrap .i64 ((1 : Int) * 2 ^ (min ((((List.getD x21 (x23).toNat (⟨#[]⟩ : ByteArray))).size : Int)).toNat (IntKind.bits .i64)))) dc1.2)))) + (1 : Int)))), .s (.v (.int .i64) (IntKind.wrap .i64 ((1 : Int) * 2 ^ (min ((((List.getD x21 (x23).toNat (⟨#[]⟩ : ByteArray))).size : Int)).toNat (IntKind.bits .i64)))))] (.s (.v (.pr (.int .i64) (.int .i64)) dc4)) [])
    (h11 : (((List.getD x21 (x23).toNat (⟨#[]⟩ : ByteArray))).size : Int) ≠ (((List.getD x4 (x23).toNat (⟨#[]⟩ : ByteArray))).size : Int))
    (h12 : 0 ≤ (((List.getD x4 (x23).toNat (⟨#[]⟩ : ByteArray))).size : Int))
    (h13 : SC cfg.P i_spec_obRatio [.s (.v (.int .i64) (IntKind.wrap .i64 ((IntKind.wrap .i64 ((IntKind.wrap .i64 ((IntKind.wrap .i64 (dc1.1 * (IntKind.wrap .i64 ((1 : Int) * 2 ^ (min ((((List.getD x21 (x23).toNat (⟨#[]⟩ : ByteArray))).size : Int)).toNat (IntKind.bits .i64)))))) * dc2.2)) - (IntKind.wrap .i64 ((IntKind.wrap .i64 (dc2.1 * (IntKind.wrap .i64 ((1 : Int) * 2 ^ (min ((((List.getD x4 (x23).toNat (⟨#[]⟩ : ByteArray))).size : Int)).toNat (IntKind.bits .i64)))))) * dc1.2)))) * (1 : Int)))), .s (.v (.int .i64) (IntKind.wrap .i64 ((IntKind.wrap .i64 ((IntKind.wrap .i64 ((IntKind.wrap .i64 ((1 : Int) * 2 ^ (min ((((List.getD x21 (x23).toNat (⟨#[]⟩ : ByteArray))).size : Int)).toNat (IntKind.bits .i64)))) - (IntKind.wrap .i64 ((1 : Int) * 2 ^ (min ((((List.getD x4 (x23).toNat (⟨#[]⟩ : ByteArray))).size : Int)).toNat (IntKind.bits .i64)))))) * dc1.2)) * dc2.2)))] (.s (.v (.pr (.int .i64) (.int .i64)) dc5)) [])
    (h14 : SC cfg.P i_spec_obLess [.s (.v (.pr (.int .i64) (.int .i64)) dc5), .s (.v (.pr (.int .i64) (.int .i64)) dc3)] (.s (.v .bool true)) [])
    (h15 : ((List.length ([] : List (Int × Int)) : Nat) : Int) = (0 : Int))
    {e : AEx} {st : St} (next : LoopSC cfg.P 1 (lb P_spec_obFixed 0) (spec_obFixed_L0a x4 x21 x22 (IntKind.wrap .i64 (x23 + (1 : Int))) xo3) e st) :
    LoopSC cfg.P 1 (lb P_spec_obFixed 0) (spec_obFixed_L0a x4 x21 x22 x23 xo3) e st :=
  loop_iter cfgOK (f := i_spec_obFixed) (its := [.bool true, .res (.s (.v (.pr (.int .i64) (.int .i64)) dc1)) [] [] [], .res (.s (.v (.pr (.int .i64) (.int .i64)) dc2)) [] [] [], .res (.s (.v (.pr (.int .i64) (.int .i64)) dc3)) [] [] [], .res (.s (.v (.pr (.int .i64) (.int .i64)) dc4)) [] [] [], .bool false, .res (.s (.v (.pr (.int .i64) (.int .i64)) dc5)) [] [] [], .res (.s (.v .bool true)) [] [] [], .bool true])
    (ps := [decide (x23 < x22) = true,
      0 ≤ x23,
      x23 < (List.length x21 : Int),
      SC cfg.P i_spec_mpOf [.s (.v .str (List.getD x21 (x23).toNat (⟨#[]⟩ : ByteArray)))] (.s (.v (.pr (.int .i64) (.int .i64)) dc1)) [],
      0 ≤ x23,
      x23 < (List.length x4 : Int),
      SC cfg.P i_spec_mpOf [.s (.v .str (List.getD x4 (x23).toNat (⟨#[]⟩ : ByteArray)))] (.s (.v (.pr (.int .i64) (.int .i64)) dc2)) [],
      SC cfg.P i_spec_obRatio [.s (.v (.int .i64) dc1.1), .s (.v (.int .i64) dc1.2)] (.s (.v (.pr (.int .i64) (.int .i64)) dc3)) [],
      0 ≤ (((List.getD x21 (x23).toNat (⟨#[]⟩ : ByteArray))).size : Int),
      dc1.2 ≠ 0,
      0 ≤ (((List.getD x21 (x23).toNat (⟨#[]⟩ : ByteArray))).size : Int),
      SC cfg.P i_spec_obRatio [.s (.v (.int .i64) (IntKind.wrap .i64 ((IntKind.wrap .i64 (dc1.1 * (IntKind.wrap .i64 (Int.tdiv (IntKind.wrap .i64 ((1 : Int) * 2 ^ (min ((((List.getD x21 (x23).toNat (⟨#[]⟩ : ByteArray))).size : Int)).toNat (IntKind.bits .i64)))) dc1.2)))) + (1 : Int)))), .s (.v (.int .i64) (IntKind.wrap .i64 ((1 : Int) * 2 ^ (min ((((List.getD x21 (x23).toNat (⟨#[]⟩ : ByteArray))).size : Int)).toNat (IntKind.bits .i64)))))] (.s (.v (.pr (.int .i64) (.int .i64)) dc4)) [],
      0 ≤ x23,
      x23 < (List.length x4 : Int),
      ((((List.getD x21 (x23).toNat (⟨#[]⟩ : ByteArray))).size : Int) == (((List.getD x4 (x23).toNat (⟨#[]⟩ : ByteArray))).size : Int)) = false,
      0 ≤ (((List.getD x21 (x23).toNat (⟨#[]⟩ : ByteArray))).size : Int),
      0 ≤ x23,
      x23 < (List.length x4 : Int),
      0 ≤ (((List.getD x4 (x23).toNat (⟨#[]⟩ : ByteArray))).size : Int),
      SC cfg.P i_spec_obRatio [.s (.v (.int .i64) (IntKind.wrap .i64 ((IntKind.wrap .i64 ((IntKind.wrap .i64 ((IntKind.wrap .i64 (dc1.1 * (IntKind.wrap .i64 ((1 : Int) * 2 ^ (min ((((List.getD x21 (x23).toNat (⟨#[]⟩ : ByteArray))).size : Int)).toNat (IntKind.bits .i64)))))) * dc2.2)) - (IntKind.wrap .i64 ((IntKind.wrap .i64 (dc2.1 * (IntKind.wrap .i64 ((1 : Int) * 2 ^ (min ((((List.getD x4 (x23).toNat (⟨#[]⟩ : ByteArray))).size : Int)).toNat (IntKind.bits .i64)))))) * dc1.2)))) * (1 : Int)))), .s (.v (.int .i64) (IntKind.wrap .i64 ((IntKind.wrap .i64 ((IntKind.wrap .i64 ((IntKind.wrap .i64 ((1 : Int) * 2 ^ (min ((((List.getD x21 (x23).toNat (⟨#[]⟩ : ByteArray))).size : Int)).toNat (IntKind.bits .i64)))) - (IntKind.wrap .i64 ((1 : Int) * 2 ^ (min ((((List.getD x4 (x23).toNat (⟨#[]⟩ : ByteArray))).size : Int)).toNat (IntKind.bits .i64)))))) * dc1.2)) * dc2.2)))] (.s (.v (.pr (.int .i64) (.int .i64)) dc5)) [],
      SC cfg.P i_spec_obLess [.s (.v (.pr (.int .i64) (.int .i64)) dc5), .s (.v (.pr (.int .i64) (.int .i64)) dc3)] (.s (.v .bool true)) [],
      (((List.length ([] : List (Int × Int)) : Nat) : Int) == (0 : Int)) = true]) (st1 := spec_obFixed_L0a x4 x21 x22 (IntKind.wrap .i64 (x23 + (1 : Int))) xo3) (by kernel_rfl) ⟨(decide_eq_true h1), h2, h3, h4, h2, h5, h6, h7, h8, h9, h8, h10, h2, h5, (beq_f h11), h8, h2, h5, h12, h13, h14, (beq_t h15), trivial⟩ next

theorem spec_obFixed_L0a_i10 (x4 : (List ByteArray)) (x21 : (List ByteArray)) (x22 : Int) (x23 : Int) (xo3 : (List (List (Int × Int)))) (dc1 : (Int × Int)) (dc2 : (Int × Int)) (dc3 : (Int × Int)) (dc4 : (Int × Int)) (dc5 : (Int × Int))
    (h1 : x23 < x22)
    (h2 : 0 ≤ x23)
    (h3 : x23 < (List.length x21 : Int))
    (h4 : SC cfg.P i_spec_mpOf [.s (.v .str (List.getD x21 (x23).toNat (⟨#[]⟩ : ByteArray)))] (.s (.v (.pr (.int .i64) (.int .i64)) dc1)) [])
    (h5 : x23 < (List.length x4 : Int))
    (h6 : SC cfg.P i_spec_mpOf [.s (.v .str (List.getD x4 (x23).toNat (⟨#[]⟩ : ByteArray)))] (.s (.v (.pr (.int .i64) (.int .i64)) dc2)) [])
    (h7 : SC cfg.P i_spec_obRatio [.s (.v (.int .i64) dc1.1), .s (.v (.int .i64) dc1.2)] (.s (.v (.pr (.int .i64) (.int .i64)) dc3)) [])
    (h8 : 0 ≤ (((List.getD x21 (x23).toNat (⟨#[]⟩ : ByteArray))).size : Int))
    (h9 : dc1.2 ≠ 0)
    (h10 : SC cfg.P i_spec_obRatio [.s (.v (.int .i64) (IntKind.wrap .i64 ((IntKind.wrap .i64 (dc1.1 * (IntKind.wrap .i64 (Int.tdiv (IntKind.wrap .i64 ((1 : Int) * 2 ^ (min ((((List.getD x21 (x23).toNat (⟨#[]⟩ : ByteArray))).size : Int)).toNat (IntKind.bits .i64)))) dc1.2)))) + (1 : Int)))), .s (.v (.int .i64) (IntKind.wrap .i64 ((1 : Int) * 2 ^ (min ((((List.getD x21 (x23).toNat (⟨#[]⟩ : ByteArray))).size : Int)).toNat (IntKind.bits .i64)))))] (.s (.v (.pr (.int .i64) (.int .i64)) dc4)) [])
    (h11 : (((List.getD x21 (x23).toNat (⟨#[]⟩ : ByteArray))).size : Int) ≠ (((List.getD x4 (x23).toNat (⟨#[]⟩ : ByteArray))).size : Int))
    (h12 : 0 ≤ (((List.getD x4 (x23).toNat (⟨#[]⟩ : ByteArray))).size : Int))
    (h13 : SC cfg.P i_spec_obRatio [.s (.v (.int .i64) (IntKind.wrap .i64 ((IntKind.wrap .i64 ((IntKind.wrap .i64 ((IntKind.wrap .i64 (dc1.1 * (IntKind.wrap .i64 ((1 : Int) * 2 ^ (min ((((List.getD x21 (x23).toNat (⟨#[]⟩ : ByteArray))).size : Int)).toNat (IntKind.bits .i64)))))) * dc2.2)) - (IntKind.wrap .i64 ((IntKind.wrap .i64 (dc2.1 * (IntKind.wrap .i64 ((1 : Int) * 2 ^ (min ((((List.getD x4 (x23).toNat (⟨#[]⟩ : ByteArray))).size : Int)).toNat (IntKind.bits .i64)))))) * dc1.2)))) * (1 : Int)))), .s (.v (.int .i64) (IntKind.wrap .i64 ((IntKind.wrap .i64 ((IntKind.wrap .i64 ((IntKind.wrap .i64 ((1 : Int) * 2 ^ (min ((((List.getD x21 (x23).toNat (⟨#[]⟩ : ByteArray))).size : Int)).toNat (IntKind.bits .i64)))) - (IntKind.wrap .i64 ((1 : Int) * 2 ^ (min ((((List.getD x4 (x23).toNat (⟨#[]⟩ : ByteArray))).size : Int)).toNat (IntKind.bits .i64)))))) * dc1.2)) * dc2.2)))] (.s (.v (.pr (.int .i64) (.int .i64)) dc5)) [])
    (h14 : SC cfg.P i_spec_obLess [.s (.v (.pr (.int .i64) (.int .i64)) dc5), .s (.v (.pr (.int .i64) (.int .i64)) dc3)] (.s (.v .bool true)) [])
    (h15 : ((List.length ([] : List (Int × Int)) : Nat) : Int) ≠ (0 : Int))
    (h16 : (IntKind.wrap .i64 (((List.length xo3 : Nat) : Int) - (1 : Int))) ≥ (0 : Int))
    (h17 : 0 ≤ (IntKind.wrap .i64 (((List.length xo3 : Nat) : Int) - (1 : Int))))
    (h18 : (IntKind.wrap .i64 (((List.length xo3 : Nat) : Int) - (1 : Int))) < (List.length xo3 : Int))
    (h19 : ((IntKind.wrap .i64 (((List.length xo3 : Nat) : Int) - (1 : Int)))).toNat < List.length xo3)
    (h20 : (1 : Int) < (List.length (List.getD xo3 ((IntKind.wrap .i64 (((List.length xo3 : Nat) : Int) - (1 : Int)))).toNat ([] : List (Int × Int))) : Int))
    (h21 : (0 : Int) < (List.length ([] : List (Int × Int)) : Int))
    (h22 : ((0 : Int)).toNat < List.length ([] : List (Int × Int)))
    (h23 : (((List.getD (List.getD xo3 ((IntKind.wrap .i64 (((List.length xo3 : Nat) : Int) - (1 : Int)))).toNat ([] : List (Int × Int))) ((1 : Int)).toNat ((0 : Int), (0 : Int))).1 == (List.getD ([] : List (Int × Int)) ((0 : Int)).toNat ((0 : Int), (0 : Int))).1) && ((List.getD (List.getD xo3 ((IntKind.wrap .i64 (((List.length xo3 : Nat) : Int) - (1 : Int)))).toNat ([] : List (Int × Int))) ((1 : Int)).toNat ((0 : Int), (0 : Int))).2 == (List.getD ([] : List (Int × Int)) ((0 : Int)).toNat ((0 : Int), (0 : Int))).2)) = true)
    (h24 : (0 : Int) < (List.length (List.getD xo3 ((IntKind.wrap .i64 (((List.length xo3 : Nat) : Int) - (1 : Int)))).toNat ([] : List (Int × Int))) : Int))
    (h25 : (1 : Int) < (List.length ([] : List (Int × Int)) : Int))
    (h26 : ((1 : Int)).toNat < List.length ([] : List (Int × Int)))
    {e : AEx} {st : St} (next : LoopSC cfg.P 1 (lb P_spec_obFixed 0) (spec_obFixed_L0a x4 x21 x22 (IntKind.wrap .i64 (x23 + (1 : Int))) (List.set xo3 ((IntKind.wrap .i64 (((List.length xo3 : Nat) : Int) - (1 : Int)))).toNat ([(List.getD (List.getD xo3 ((IntKind.wrap .i64 (((List.length xo3 : Nat) : Int) - (1 : Int)))).toNat ([] : List (Int × Int))) ((0 : Int)).toNat ((0 : Int), (0 : Int))), (List.getD ([] : List (Int × Int)) ((1 : Int)).toNat ((0 : Int), (0 : Int)))] : List (Int × Int)))) e st) :
    LoopSC cfg.P 1 (lb P_spec_obFixed 0) (spec_obFixed_L0a x4 x21 x22 x23 xo3) e st :=
  loop_iter cfgOK (f := i_spec_obFixed) (its := [.bool true, .res (.s (.v (.pr (.int .i64) (.int .i64)) dc1)) [] [] [], .res (.s (.v (.pr (.int .i64) (.int .i64)) dc2)) [] [] [], .res (.s (.v (.pr (.int .i64) (.int .i64)) dc3)) [] [] [], .res (.s (.v (.pr (.int .i64) (.int .i64)) dc4)) [] [] [], .bool false, .res (.s (.v (.pr (.int .i64) (.int .i64)) dc5)) [] [] [], .res (.s (.v .bool true)) [] [] [], .bool false, .bool true, .bool true])
    (ps := [decide (x23 < x22) = true,
      0 ≤ x23,
      x23 < (List.length x21 : Int),
      SC cfg.P i_spec_mpOf [.s (.v .str (List.getD x21 (x23).toNat (⟨#[]⟩ : ByteArray)))] (.s (.v (.pr (.int .i64) (.int .i64)) dc1)) [],
      0 ≤ x23,
      x23 < (List.length x4 : Int),
      SC cfg.P i_spec_mpOf [.s (.v .str (List.getD x4 (x23).toNat (⟨#[]⟩ : ByteArray)))] (.s (.v (.pr (.int .i64) (.int .i64)) dc2)) [],
      SC cfg.P i_spec_obRatio [.s (.v (.int .i64) dc1.1), .s (.v (.int .i64) dc1.2)] (.s (.v (.pr (.int .i64) (.int .i64)) dc3)) [],
      0 ≤ (((List.getD x21 (x23).toNat (⟨#[]⟩ : ByteArray))).size : Int),
      dc1.2 ≠ 0,
      0 ≤ (((List.getD x21 (x23).toNat (⟨#[]⟩ : ByteArray))).size : Int),
      SC cfg.P i_spec_obRatio [.s (.v (.int .i64) (IntKind.wrap .i64 ((IntKind.wrap .i64 (dc1.1 * (IntKind.wrap .i64 (Int.tdiv (IntKind.wrap .i64 ((1 : Int) * 2 ^ (min ((((List.getD x21 (x23).toNat (⟨#[]⟩ : ByteArray))).size : Int)).toNat (IntKind.bits .i64)))) dc1.2)))) + (1 : Int)))), .s (.v (.int .i64) (IntKind.wrap .i64 ((1 : Int) * 2 ^ (min ((((List.getD x21 (x23).toNat (⟨#[]⟩ : ByteArray))).size : Int)).toNat (IntKind.bits .i64)))))] (.s (.v (.pr (.int .i64) (.int .i64)) dc4)) [],
      0 ≤ x23,
      x23 < (List.length x4 : Int),
      ((((List.getD x21 (x23).toNat (⟨#[]⟩ : ByteArray))).size : Int) == (((List.getD x4 (x23).toNat (⟨#[]⟩ : ByteArray))).size : Int)) = false,
      0 ≤ (((List.getD x21 (x23).toNat (⟨#[]⟩ : ByteArray))).size : Int),
      0 ≤ x23,
      x23 < (List.length x4 : Int),
      0 ≤ (((List.getD x4 (x23).toNat (⟨#[]⟩ : ByteArray))).size : Int),
      SC cfg.P i_spec_obRatio [.s (.v (.int .i64) (IntKind.wrap .i64 ((IntKind.wrap .i64 ((IntKind.wrap .i64 ((IntKind.wrap .i64 (dc1.1 * (IntKind.wrap .i64 ((1 : Int) * 2 ^ (min ((((List.getD x21 (x23).toNat (⟨#[]⟩ : ByteArray))).size : Int)).toNat (IntKind.bits .i64)))))) * dc2.2)) - (IntKind.wrap .i64 ((IntKind.wrap .i64 (dc2.1 * (IntKind.wrap .i64 ((1 : Int) * 2 ^ (min ((((List.getD x4 (x23).toNat (⟨#[]⟩ : ByteArray))).size : Int)).toNat (IntKind.bits .i64)))))) * dc1.2)))) * (1 : Int)))), .s (.v (.int .i64) (IntKind.wrap .i64 ((IntKind.wrap .i64 ((IntKind.wrap .i64 ((IntKind.wrap .i64 ((1 : Int) * 2 ^ (min ((((List.getD x21 (x23).toNat (⟨#[]⟩ : ByteArray))).size : Int)).toNat (IntKind.bits .i64)))) - (IntKind.wrap .i64 ((1 : Int) * 2 ^ (min ((((List.getD x4 (x23).toNat (⟨#[]⟩ : ByteArray))).size : Int)).toNat (IntKind.bits .i64)))))) * dc1.2)) * dc2.2)))] (.s (.v (.pr (.int .i64) (.int .i64)) dc5)) [],
      SC cfg.P i_spec_obLess [.s (.v (.pr (.int .i64) (.int .i64)) dc5), .s (.v (.pr (.int .i64) (.int .i64)) dc3)] (.s (.v .bool true)) [],
      (((List.length ([] : List (Int × Int)) : Nat) : Int) == (0 : Int)) = false,
      decide ((IntKind.wrap .i64 (((List.length xo3 : Nat) : Int) - (1 : Int))) ≥ (0 : Int)) = true,
      0 ≤ (IntKind.wrap .i64 (((List.length xo3 : Nat) : Int) - (1 : Int))),
      (IntKind.wrap .i64 (((List.length xo3 : Nat) : Int) - (1 : Int))) < (List.length xo3 : Int),
      ((IntKind.wrap .i64 (((List.length xo3 : Nat) : Int) - (1 : Int)))).toNat < List.length xo3,
      0 ≤ (1 : Int),
      (1 : Int) < (List.length (List.getD xo3 ((IntKind.wrap .i64 (((List.length xo3 : Nat) : Int) - (1 : Int)))).toNat ([] : List (Int × Int))) : Int),
      0 ≤ (0 : Int),
      (0 : Int) < (List.length ([] : List (Int × Int)) : Int),
      ((0 : Int)).toNat < List.length ([] : List (Int × Int)),
      (((List.getD (List.getD xo3 ((IntKind.wrap .i64 (((List.length xo3 : Nat) : Int) - (1 : Int)))).toNat ([] : List (Int × Int))) ((1 : Int)).toNat ((0 : Int), (0 : Int))).1 == (List.getD ([] : List (Int × Int)) ((0 : Int)).toNat ((0 : Int), (0 : Int))).1) && ((List.getD (List.getD xo3 ((IntKind.wrap .i64 (((List.length xo3 : Nat) : Int) - (1 : Int)))).toNat ([] : List (Int × Int))) ((1 : Int)).toNat ((0 : Int), (0 : Int))).2 == (List.getD ([] : List (Int × Int)) ((0 : Int)).toNat ((0 : Int), (0 : Int))).2)) = true,
      0 ≤ (IntKind.wrap .i64 (((List.length xo3 : Nat) : Int) - (1 : Int))),
      (IntKind.wrap .i64 (((List.length xo3 : Nat) : Int) - (1 : Int))) < (List.length xo3 : Int),
      ((IntKind.wrap .i64 (((List.length xo3 : Nat) : Int) - (1 : Int)))).toNat < List.length xo3,
      0 ≤ (0 : Int),
      (0 : Int) < (List.length (List.getD xo3 ((IntKind.wrap .i64 (((List.length xo3 : Nat) : Int) - (1 : Int)))).toNat ([] : List (Int × Int))) : Int),
      0 ≤ (1 : Int),
      (1 : Int) < (List.length ([] : List (Int × Int)) : Int),
      ((1 : Int)).toNat < List.length ([] : List (Int × Int)),
      0 ≤ (IntKind.wrap .i64 (((List.length xo3 : Nat) : Int) - (1 : Int))),
      (IntKind.wrap .i64 (((List.length xo3 : Nat) : Int) - (1 : Int))) < (List.length xo3 : Int),
      ((IntKind.wrap .i64 (((List.length xo3 : Nat) : Int) - (1 : Int)))).toNat < List.length xo3]) (st1 := spec_obFixed_L0a x4 x21 x22 (IntKind.wrap .i64 (x23 + (1 : Int))) (List.set xo3 ((IntKind.wrap .i64 (((List.length xo3 : Nat) : Int) - (1 : Int)))).toNat ([(List.getD (List.getD xo3 ((IntKind.wrap .i64 (((List.length xo3 : Nat) : Int) - (1 : Int)))).toNat ([] : List (Int × Int))) ((0 : Int)).toNat ((0 : Int), (0 : Int))), (List.getD ([] : List (Int × Int)) ((1 : Int)).toNat ((0 : Int), (0 : Int)))] : List (Int × Int)))) (by kernel_rfl) ⟨(decide_eq_true h1), h2, h3, h4, h2, h5, h6, h7, h8, h9, h8, h10, h2, h5, (beq_f h11), h8, h2, h5, h12, h13, h14, (beq_f h15), (decide_eq_true h16), h17, h18, h19, (by decide), h20, (by decide), h21, h22, h23, h17, h18, h19, (by decide), h24, (by decide), h25, h26, h17, h18, h19, trivial⟩ next

theorem spec_obFixed_L0a_i11 (x4 : (List ByteArray)) (x21 : (List ByteArray)) (x22 : Int) (x23 : Int) (xo3 : (List (List (Int × Int)))) (dc1 : (Int × Int)) (dc2 : (Int × Int)) (dc3 : (Int × Int)) (dc4 : (Int × Int)) (dc5 : (Int × Int))
    (h1 : x23 < x22)
    (h2 : 0 ≤ x23)
    (h3 : x23 < (List.length x21 : Int))
    (h4 : SC cfg.P i_spec_mpOf [.s (.v .str (List.getD x21 (x23).toNat (⟨#[]⟩ : ByteArray)))] (.s (.v (.pr (.int .i64) (.int .i64)) dc1)) [])
    (h5 : x23 < (List.length x4 : Int))
    (h6 : SC cfg.P i_spec_mpOf [.s (.v .str (List.getD x4 (x23).toNat (⟨#[]⟩ : ByteArray)))] (.s (.v (.pr (.int .i64) (.int .i64)) dc2)) [])
    (h7 : SC cfg.P i_spec_obRatio [.s (.v (.int .i64) dc1.1), .s (.v (.int .i64) dc1.2)] (.s (.v (.pr (.int .i64) (.int .i64)) dc3)) [])
    (h8 : 0 ≤ (((List.getD x21 (x23).toNat (⟨#[]⟩ : ByteArray))).size : Int))
    (h9 : dc1.2 ≠ 0)
    (h10 : SC cfg.P i_spec_obRatio [.s (.v (.int .i64) (IntKind.wrap .i64 ((IntKind.wrap .i64 (dc1.1 * (IntKind.wrap .i64 (Int.tdiv (IntKind.wrap .i64 ((1 : Int) * 2 ^ (min ((((List.getD x21 (x23).toNat (⟨#[]⟩ : ByteArray))).size : Int)).toNat (IntKind.bits .i64)))) dc1.2)))) + (1 : Int)))), .s (.v (.int .i64) (IntKind.wrap .i64 ((1 : Int) * 2 ^ (min ((((List.getD x21 (x23).toNat (⟨#[]⟩ : ByteArray))).size : Int)).toNat (IntKind.bits .i64)))))] (.s (.v (.pr (.int .i64) (.int .i64)) dc4)) [])
    (h11 : (((List.getD x21 (x23).toNat (⟨#[]⟩ : ByteArray))).size : Int) ≠ (((List.getD x4 (x23).toNat (⟨#[]⟩ : ByteArray))).size : Int))
    (h12 : 0 ≤ (((List.getD x4 (x23).toNat (⟨#[]⟩ : ByteArray))).size : Int))
    (h13 : SC cfg.P i_spec_obRatio [.s (.v (.int .i64) (IntKind.wrap .i64 ((IntKind.wrap .i64 ((IntKind.wrap .i64 ((IntKind.wrap .i64 (dc1.1 * (IntKind.wrap .i64 ((1 : Int) * 2 ^ (min ((((List.getD x21 (x23).toNat (⟨#[]⟩ : ByteArray))).size : Int)).toNat (IntKind.bits .i64)))))) * dc2.2)) - (IntKind.wrap .i64 ((IntKind.wrap .i64 (dc2.1 * (IntKind.wrap .i64 ((1 : Int) * 2 ^ (min ((((List.getD x4 (x23).toNat (⟨#[]⟩ : ByteArray))).size : Int)).toNat (IntKind.bits .i64)))))) * dc1.2)))) * (1 : Int)))), .s (.v (.int .i64) (IntKind.wrap .i64 ((IntKind.wrap .i64 ((IntKind.wrap .i64 ((IntKind.wrap .i64 ((1 : Int) * 2 ^ (min ((((List.getD x21 (x23).toNat (⟨#[]⟩ : ByteArray))).size : Int)).toNat (IntKind.bits .i64)))) - (IntKind.wrap .i64 ((1 : Int) * 2 ^ (min ((((List.getD x4 (x23).toNat (⟨#[]⟩ : ByteArray))).size : Int)).toNat (IntKind.bits .i64)))))) * dc1.2)) * dc2.2)))] (.s (.v (.pr (.int .i64) (.int .i64)) dc5)) [])
    (h14 : SC cfg.P i_spec_obLess [.s (.v (.pr (.int .i64) (.int .i64)) dc5), .s (.v (.pr (.int .i64) (.int .i64)) dc3)] (.s (.v .bool true)) [])
    (h15 : ((List.length ([] : List (Int × Int)) : Nat) : Int) ≠ (0 : Int))
    (h16 : (IntKind.wrap .i64 (((List.length xo3 : Nat) : Int) - (1 : Int))) ≥ (0 : Int))
    (h17 : 0 ≤ (IntKind.wrap .i64 (((List.length xo3 : Nat) : Int) - (1 : Int))))
    (h18 : (IntKind.wrap .i64 (((List.length xo3 : Nat) : Int) - (1 : Int))) < (List.length xo3 : Int))
    (h19 : ((IntKind.wrap .i64 (((List.length xo3 : Nat) : Int) - (1 : Int)))).toNat < List.length xo3)
    (h20 : (1 : Int) < (List.length (List.getD xo3 ((IntKind.wrap .i64 (((List.length xo3 : Nat) : Int) - (1 : Int)))).toNat ([] : List (Int × Int))) : Int))
    (h21 : (0 : Int) < (List.length ([] : List (Int × Int)) : Int))
    (h22 : ((0 : Int)).toNat < List.length ([] : List (Int × Int)))
    (h23 : (((List.getD (List.getD xo3 ((IntKind.wrap .i64 (((List.length xo3 : Nat) : Int) - (1 : Int)))).toNat ([] : List (Int × Int))) ((1 : Int)).toNat ((0 : Int), (0 : Int))).1 == (List.getD ([] : List (Int × Int)) ((0 : Int)).toNat ((0 : Int), (0 : Int))).1) && ((List.getD (List.getD xo3 ((IntKind.wrap .i64 (((List.length xo3 : Nat) : Int) - (1 : Int)))).toNat ([] : List (Int × Int))) ((1 : Int)).toNat ((0 : Int), (0 : Int))).2 == (List.getD ([] : List (Int × Int)) ((0 : Int)).toNat ((0 : Int), (0 : Int))).2)) = false)
    (h24 : sizeOK (List.length xo3 + List.length ([([] : List (Int × Int))] : List (List (Int × Int)))))
    {e : AEx} {st : St} (next : LoopSC cfg.P 1 (lb P_spec_obFixed 0) (spec_obFixed_L0a x4 x21 x22 (IntKind.wrap .i64 (x23 + (1 : Int))) (xo3 ++ ([([] : List (Int × Int))] : List (List (Int × Int))))) e st) :
    LoopSC cfg.P 1 (lb P_spec_obFixed 0) (spec_obFixed_L0a x4 x21 x22 x23 xo3) e st :=
  loop_iter cfgOK (f := i_spec_obFixed) (its := [.bool true, .res (.s (.v (.pr (.int .i64) (.int .i64)) dc1)) [] [] [], .res (.s (.v (.pr (.int .i64) (.int .i64)) dc2)) [] [] [], .res (.s (.v (.pr (.int .i64) (.int .i64)) dc3)) [] [] [], .res (.s (.v (.pr (.int .i64) (.int .i64)) dc4)) [] [] [], .bool false, .res (.s (.v (.pr (.int .i64) (.int .i64)) dc5)) [] [] [], .res (.s (.v .bool true)) [] [] [], .bool false, .bool true, .bool false])
    (ps := [decide (x23 < x22) = true,
      0 ≤ x23,
      x23 < (List.length x21 : Int),
      SC cfg.P i_spec_mpOf [.s (.v .str (List.getD x21 (x23).toNat (⟨#[]⟩ : ByteArray)))] (.s (.v (.pr (.int .i64) (.int .i64)) dc1)) [],
      0 ≤ x23,
      x23 < (List.length x4 : Int),
      SC cfg.P i_spec_mpOf [.s (.v .str (List.getD x4 (x23).toNat (⟨#[]⟩ : ByteArray)))] (.s (.v (.pr (.int .i64) (.int .i64)) dc2)) [],
      SC cfg.P i_spec_obRatio [.s (.v (.int .i64) dc1.1), .s (.v (.int .i64) dc1.2)] (.s (.v (.pr (.int .i64) (.int .i64)) dc3)) [],
      0 ≤ (((List.getD x21 (x23).toNat (⟨#[]⟩ : ByteArray))).size : Int),
      dc1.2 ≠ 0,
      0 ≤ (((List.getD x21 (x23).toNat (⟨#[]⟩ : ByteArray))).size : Int),
      SC cfg.P i_spec_obRatio [.s (.v (.int .i64) (IntKind.wrap .i64 ((IntKind.wrap .i64 (dc1.1 * (IntKind.wrap .i64 (Int.tdiv (IntKind.wrap .i64 ((1 : Int) * 2 ^ (min ((((List.getD x21 (x23).toNat (⟨#[]⟩ : ByteArray))).size : Int)).toNat (IntKind.bits .i64)))) dc1.2)))) + (1 : Int)))), .s (.v (.int .i64) (IntKind.wrap .i64 ((1 : Int) * 2 ^ (min ((((List.getD x21 (x23).toNat (⟨#[]⟩ : ByteArray))).size : Int)).toNat (IntKind.bits .i64)))))] (.s (.v (.pr (.int .i64) (.int .i64)) dc4)) [],
      0 ≤ x23,
      x23 < (List.length x4 : Int),
      ((((List.getD x21 (x23).toNat (⟨#[]⟩ : ByteArray))).size : Int) == (((List.getD x4 (x23).toNat (⟨#[]⟩ : ByteArray))).size : Int)) = false,
      0 ≤ (((List.getD x21 (x23).toNat (⟨#[]⟩ : ByteArray))).size : Int),
      0 ≤ x23,
      x23 < (List.length x4 : Int),
      0 ≤ (((List.getD x4 (x23).toNat (⟨#[]⟩ : ByteArray))).size : Int),
      SC cfg.P i_spec_obRatio [.s (.v (.int .i64) (IntKind.wrap .i64 ((IntKind.wrap .i64 ((IntKind.wrap .i64 ((IntKind.wrap .i64 (dc1.1 * (IntKind.wrap .i64 ((1 : Int) * 2 ^ (min ((((List.getD x21 (x23).toNat (⟨#[]⟩ : ByteArray))).size : Int)).toNat (IntKind.bits .i64)))))) * dc2.2)) - (IntKind.wrap .i64 ((IntKind.wrap .i64 (dc2.1 * (IntKind.wrap .i64 ((1 : Int) * 2 ^ (min ((((List.getD x4 (x23).toNat (⟨#[]⟩ : ByteArray))).size : Int)).toNat (IntKind.bits .i64)))))) * dc1.2)))) * (1 : Int)))), .s (.v (.int .i64) (IntKind.wrap .i64 ((IntKind.wrap .i64 ((IntKind.wrap .i64 ((IntKind.wrap .i64 ((1 : Int) * 2 ^ (min ((((List.getD x21 (x23).toNat (⟨#[]⟩ : ByteArray))).size : Int)).toNat (IntKind.bits .i64)))) - (IntKind.wrap .i64 ((1 : Int) * 2 ^ (min ((((List.getD x4 (x23).toNat (⟨#[]⟩ : ByteArray))).size : Int)).toNat (IntKind.bits .i64)))))) * dc1.2)) * dc2.2)))] (.s (.v (.pr (.int .i64) (.int .i64)) dc5)) [],
      SC cfg.P i_spec_obLess [.s (.v (.pr (.int .i64) (.int .i64)) dc5), .s (.v (.pr (.int .i64) (.int .i64)) dc3)] (.s (.v .bool true)) [],
      (((List.length ([] : List (Int × Int)) : Nat) : Int) == (0 : Int)) = false,
      decide ((IntKind.wrap .i64 (((List.length xo3 : Nat) : Int) - (1 : Int))) ≥ (0 : Int)) = true,
      0 ≤ (IntKind.wrap .i64 (((List.length xo3 : Nat) : Int) - (1 : Int))),
      (IntKind.wrap .i64 (((List.length xo3 : Nat) : Int) - (1 : Int))) < (List.length xo3 : Int),
      ((IntKind.wrap .i64 (((List.length xo3 : Nat) : Int) - (1 : Int)))).toNat < List.length xo3,
      0 ≤ (1 : Int),
      (1 : Int) < (List.length (List.getD xo3 ((IntKind.wrap .i64 (((List.length xo3 : Nat) : Int) - (1 : Int)))).toNat ([] : List (Int × Int))) : Int),
      0 ≤ (0 : Int),
      (0 : Int) < (List.length ([] : List (Int × Int)) : Int),
      ((0 : Int)).toNat < List.length ([] : List (Int × Int)),
      (((List.getD (List.getD xo3 ((IntKind.wrap .i64 (((List.length xo3 : Nat) : Int) - (1 : Int)))).toNat ([] : List (Int × Int))) ((1 : Int)).toNat ((0 : Int), (0 : Int))).1 == (List.getD ([] : List (Int × Int)) ((0 : Int)).toNat ((0 : Int), (0 : Int))).1) && ((List.getD (List.getD xo3 ((IntKind.wrap .i64 (((List.length xo3 : Nat) : Int) - (1 : Int)))).toNat ([] : List (Int × Int))) ((1 : Int)).toNat ((0 : Int), (0 : Int))).2 == (List.getD ([] : List (Int × Int)) ((0 : Int)).toNat ((0 : Int), (0 : Int))).2)) = false,
      sizeOK (List.length xo3 + List.length ([([] : List (Int × Int))] : List (List (Int × Int))))]) (st1 := spec_obFixed_L0a x4 x21 x22 (IntKind.wrap .i64 (x23 + (1 : Int))) (xo3 ++ ([([] : List (Int × Int))] : List (List (Int × Int))))) (by kernel_rfl) ⟨(decide_eq_true h1), h2, h3, h4, h2, h5, h6, h7, h8, h9, h8, h10, h2, h5, (beq_f h11), h8, h2, h5, h12, h13, h14, (beq_f h15), (decide_eq_true h16), h17, h18, h19, (by decide), h20, (by decide), h21, h22, h23, h24, trivial⟩ next

theorem spec_obFixed_L0a_i12 (x4 : (List ByteArray)) (x21 : (List ByteArray)) (x22 : Int) (x23 : Int) (xo3 : (List (List (Int × Int)))) (dc1 : (Int × Int)) (dc2 : (Int × Int)) (dc3 : (Int × Int)) (dc4 : (Int × Int)) (dc5 : (Int × Int))
    (h1 : x23 < x22)
    (h2 : 0 ≤ x23)
    (h3 : x23 < (List.length x21 : Int))
    (h4 : SC cfg.P i_spec_mpOf [.s (.v .str (List.getD x21 (x23).toNat (⟨#[]⟩ : ByteArray)))] (.s (.v (.pr (.int .i64) (.int .i64)) dc1)) [])
    (h5 : x23 < (List.length x4 : Int))
    (h6 : SC cfg.P i_spec_mpOf [.s (.v .str (List.getD x4 (x23).toNat (⟨#[]⟩ : ByteArray)))] (.s (.v (.pr (.int .i64) (.int .i64)) dc2)) [])
    (h7 : SC cfg.P i_spec_obRatio [.s (.v (.int .i64) dc1.1), .s (.v (.int .i64) dc1.2)] (.s (.v (.pr (.int .i64) (.int .i64)) dc3)) [])
    (h8 : 0 ≤ (((List.getD x21 (x23).toNat (⟨#[]⟩ : ByteArray))).size : Int))
    (h9 : dc1.2 ≠ 0)
    (h10 : SC cfg.P i_spec_obRatio [.s (.v (.int .i64) (IntKind.wrap .i64 ((IntKind.wrap .i64 (dc1.1 * (IntKind.wrap .i64 (Int.tdiv (IntKind.wrap .i64 ((1 : Int) * 2 ^ (min ((((List.getD x21 (x23).toNat (⟨#[]⟩ : ByteArray))).size : Int)).toNat (IntKind.bits .i64)))) dc1.2)))) + (1 : Int)))), .s (.v (.int .i64) (IntKind.wrap .i64 ((1 : Int) * 2 ^ (min ((((List.getD x21 (x23).toNat (⟨#[]⟩ : ByteArray))).size : Int)).toNat (IntKind.bits .i64)))))] (.s (.v (.pr (.int .i64) (.int .i64)) dc4)) [])
    (h11 : (((List.getD x21 (x23).toNat (⟨#[]⟩ : ByteArray))).size : Int) ≠ (((List.getD x4 (x23).toNat (⟨#[]⟩ : ByteArray))).size : Int))
    (h12 : 0 ≤ (((List.getD x4 (x23).toNat (⟨#[]⟩ : ByteArray))).size : Int))
    (h13 : SC cfg.P i_spec_obRatio [.s (.v (.int .i64) (IntKind.wrap .i64 ((IntKind.wrap .i64 ((IntKind.wrap .i64 ((IntKind.wrap .i64 (dc1.1 * (IntKind.wrap .i64 ((1 : Int) * 2 ^ (min ((((List.getD x21 (x23).toNat (⟨#[]⟩ : ByteArray))).size : Int)).toNat (IntKind.bits .i64)))))) * dc2.2)) - (IntKind.wrap .i64 ((IntKind.wrap .i64 (dc2.1 * (IntKind.wrap .i64 ((1 : Int) * 2 ^ (min ((((List.getD x4 (x23).toNat (⟨#[]⟩ : ByteArray))).size : Int)).toNat (IntKind.bits .i64)))))) * dc1.2)))) * (1 : Int)))), .s (.v (.int .i64) (IntKind.wrap .i64 ((IntKind.wrap .i64 ((IntKind.wrap .i64 ((IntKind.wrap .i64 ((1 : Int) * 2 ^ (min ((((List.getD x21 (x23).toNat (⟨#[]⟩ : ByteArray))).size : Int)).toNat (IntKind.bits .i64)))) - (IntKind.wrap .i64 ((1 : Int) * 2 ^ (min ((((List.getD x4 (x23).toNat (⟨#[]⟩ : ByteArray))).size : Int)).toNat (IntKind.bits .i64)))))) * dc1.2)) * dc2.2)))] (.s (.v (.pr (.int .i64) (.int .i64)) dc5)) [])
    (h14 : SC cfg.P i_spec_obLess [.s (.v (.pr (.int .i64) (.int .i64)) dc5), .s (.v (.pr (.int .i64) (.int .i64)) dc3)] (.s (.v .bool true)) [])
    (h15 : ((List.length ([] : List (Int × Int)) : Nat) : Int) ≠ (0 : Int))
    (h16 : ¬ ((IntKind.wrap .i64 (((List.length xo3 : Nat) : Int) - (1 : Int))) ≥ (0 : Int)))
    (h17 : sizeOK (List.length xo3 + List.length ([([] : List (Int × Int))] : List (List (Int × Int)))))
    {e : AEx} {st : St} (next : LoopSC cfg.P 1 (lb P_spec_obFixed 0) (spec_obFixed_L0a x4 x21 x22 (IntKind.wrap .i64 (x23 + (1 : Int))) (xo3 ++ ([([] : List (Int × Int))] : List (List (Int × Int))))) e st) :
    LoopSC cfg.P 1 (lb P_spec_obFixed 0) (spec_obFixed_L0a x4 x21 x22 x23 xo3) e st :=
  loop_iter cfgOK (f := i_spec_obFixed) (its := [.bool true, .res (.s (.v (.pr (.int .i64) (.int .i64)) dc1)) [] [] [], .res (.s (.v (.pr (.int .i64) (.int .i64)) dc2)) [] [] [], .res (.s (.v (.pr (.int .i64) (.int .i64)) dc3)) [] [] [], .res (.s (.v (.pr (.int .i64) (.int .i64)) dc4)) [] [] [], .bool false, .res (.s (.v (.pr (.int .i64) (.int .i64)) dc5)) [] [] [], .res (.s (.v .bool true)) [] [] [], .bool false, .bool false])
    (ps := [decide (x23 < x22) = true,
      0 ≤ x23,
      x23 < (List.length x21 : Int),
      SC cfg.P i_spec_mpOf [.s (.v .str (List.getD x21 (x23).toNat (⟨#[]⟩ : ByteArray)))] (.s (.v (.pr (.int .i64) (.int .i64)) dc1)) [],
      0 ≤ x23,
      x23 < (List.length x4 : Int),
      SC cfg.P i_spec_mpOf [.s (.v .str (List.getD x4 (x23).toNat (⟨#[]⟩ : ByteArray)))] (.s (.v (.pr (.int .i64) (.int .i64)) dc2)) [],
      SC cfg.P i_spec_obRatio [.s (.v (.int .i64) dc1.1), .s (.v (.int .i64) dc1.2)] (.s (.v (.pr (.int .i64) (.int .i64)) dc3)) [],
      0 ≤ (((List.getD x21 (x23).toNat (⟨#[]⟩ : ByteArray))).size : Int),
      dc1.2 ≠ 0,
      0 ≤ (((List.getD x21 (x23).toNat (⟨#[]⟩ : ByteArray))).size : Int),
      SC cfg.P i_spec_obRatio [.s (.v (.int .i64) (IntKind.wrap .i64 ((IntKind.wrap .i64 (dc1.1 * (IntKind.wrap .i64 (Int.tdiv (IntKind.wrap .i64 ((1 : Int) * 2 ^ (min ((((List.getD x21 (x23).toNat (⟨#[]⟩ : ByteArray))).size : Int)).toNat (IntKind.bits .i64)))) dc1.2)))) + (1 : Int)))), .s (.v (.int .i64) (IntKind.wrap .i64 ((1 : Int) * 2 ^ (min ((((List.getD x21 (x23).toNat (⟨#[]⟩ : ByteArray))).size : Int)).toNat (IntKind.bits .i64)))))] (.s (.v (.pr (.int .i64) (.int .i64)) dc4)) [],
      0 ≤ x23,
      x23 < (List.length x4 : Int),
      ((((List.getD x21 (x23).toNat (⟨#[]⟩ : ByteArray))).size : Int) == (((List.getD x4 (x23).toNat (⟨#[]⟩ : ByteArray))).size : Int)) = false,
      0 ≤ (((List.getD x21 (x23).toNat (⟨#[]⟩ : ByteArray))).size : Int),
      0 ≤ x23,
      x23 < (List.length x4 : Int),
      0 ≤ (((List.getD x4 (x23).toNat (⟨#[]⟩ : ByteArray))).size : Int),
      SC cfg.P i_spec_obRatio [.s (.v (.int .i64) (IntKind.wrap .i64 ((IntKind.wrap .i64 ((IntKind.wrap .i64 ((IntKind.wrap .i64 (dc1.1 * (IntKind.wrap .i64 ((1 : Int) * 2 ^ (min ((((List.getD x21 (x23).toNat (⟨#[]⟩ : ByteArray))).size : Int)).toNat (IntKind.bits .i64)))))) * dc2.2)) - (IntKind.wrap .i64 ((IntKind.wrap .i64 (dc2.1 * (IntKind.wrap .i64 ((1 : Int) * 2 ^ (min ((((List.getD x4 (x23).toNat (⟨#[]⟩ : ByteArray))).size : Int)).toNat (IntKind.bits .i64)))))) * dc1.2)))) * (1 : Int)))), .s (.v (.int .i64) (IntKind.wrap .i64 ((IntKind.wrap .i64 ((IntKind.wrap .i64 ((IntKind.wrap .i64 ((1 : Int) * 2 ^ (min ((((List.getD x21 (x23).toNat (⟨#[]⟩ : ByteArray))).size : Int)).toNat (IntKind.bits .i64)))) - (IntKind.wrap .i64 ((1 : Int) * 2 ^ (min ((((List.getD x4 (x23).toNat (⟨#[]⟩ : ByteArray))).size : Int)).toNat (IntKind.bits .i64)))))) * dc1.2)) * dc2.2)))] (.s (.v (.pr (.int .i64) (.int .i64)) dc5)) [],
      SC cfg.P i_spec_obLess [.s (.v (.pr (.int .i64) (.int .i64)) dc5), .s (.v (.pr (.int .i64) (.int .i64)) dc3)] (.s (.v .bool true)) [],
      (((List.length ([] : List (Int × Int)) : Nat) : Int) == (0 : Int)) = false,
      decide ((IntKind.wrap .i64 (((List.length xo3 : Nat) : Int) - (1 : Int))) ≥ (0 : Int)) = false,
      sizeOK (List.length xo3 + List.length ([([] : List (Int × Int))] : List (List (Int × Int))))]) (st1 := spec_obFixed_L0a x4 x21 x22 (IntKind.wrap .i64 (x23 + (1 : Int))) (xo3 ++ ([([] : List (Int × Int))] : List (List (Int × Int))))) (by kernel_rfl) ⟨(decide_eq_true h1), h2, h3, h4, h2, h5, h6, h7, h8, h9, h8, h10, h2, h5, (beq_f h11), h8, h2, h5, h12, h13, h14, (beq_f h15), (decide_eq_false h16), h17, trivial⟩ next

theorem spec_obFixed_L0a_i13 (x4 : (List ByteArray)) (x21 : (List ByteArray)) (x22 : Int) (x23 : Int) (xo3 : (List (List (Int × Int)))) (dc1 : (Int × Int)) (dc2 : (Int × Int)) (dc3 : (Int × Int)) (dc4 : (Int × Int)) (dc5 : (Int × Int))
    (h1 : x23 < x22)
    (h2 : 0 ≤ x23)
    (h3 : x23 < (List.length x21 : Int))
    (h4 : SC cfg.P i_spec_mpOf [.s (.v .str (List.getD x21 (x23).toNat (⟨#[]⟩ : ByteArray)))] (.s (.v (.pr (.int .i64) (.int .i64)) dc1)) [])
    (h5 : x23 < (List.length x4 : Int))
    (h6 : SC cfg.P i_spec_mpOf [.s (.v .str (List.getD x4 (x23).toNat (⟨#[]⟩ : ByteArray)))] (.s (.v (.pr (.int .i64) (.int .i64)) dc2)) [])
    (h7 : SC cfg.P i_spec_obRatio [.s (.v (.int .i64) dc1.1), .s (.v (.int .i64) dc1.2)] (.s (.v (.pr (.int .i64) (.int .i64)) dc3)) [])
    (h8 : 0 ≤ (((List.getD x21 (x23).toNat (⟨#[]⟩ : ByteArray))).size : Int))
    (h9 : dc1.2 ≠ 0)
    (h10 : SC cfg.P i_spec_obRatio [.s (.v (.int .i64) (IntKind.wrap .i64 ((IntKind.wrap .i64 (dc1.1 * (IntKind.wrap .i64 (Int.tdiv (IntKind.wrap .i64 ((1 : Int) * 2 ^ (min ((((List.getD x21 (x23).toNat (⟨#[]⟩ : ByteArray))).size : Int)).toNat (IntKind.bits .i64)))) dc1.2)))) + (1 : Int)))), .s (.v (.int .i64) (IntKind.wrap .i64 ((1 : Int) * 2 ^ (min ((((List.getD x21 (x23).toNat (⟨#[]⟩ : ByteArray))).size : Int)).toNat (IntKind.bits .i64)))))] (.s (.v (.pr (.int .i64) (.int .i64)) dc4)) [])
    (h11 : (((List.getD x21 (x23).toNat (⟨#[]⟩ : ByteArray))).size : Int) ≠ (((List.getD x4 (x23).toNat (⟨#[]⟩ : ByteArray))).size : Int))
    (h12 : 0 ≤ (((List.getD x4 (x23).toNat (⟨#[]⟩ : ByteArray))).size : Int))
    (h13 : SC cfg.P i_spec_obRatio [.s (.v (.int .i64) (IntKind.wrap .i64 ((IntKind.wrap .i64 ((IntKind.wrap .i64 ((IntKind.wrap .i64 (dc1.1 * (IntKind.wrap .i64 ((1 : Int) * 2 ^ (min ((((List.getD x21 (x23).toNat (⟨#[]⟩ : ByteArray))).size : Int)).toNat (IntKind.bits .i64)))))) * dc2.2)) - (IntKind.wrap .i64 ((IntKind.wrap .i64 (dc2.1 * (IntKind.wrap .i64 ((1 : Int) * 2 ^ (min ((((List.getD x4 (x23).toNat (⟨#[]⟩ : ByteArray))).size : Int)).toNat (IntKind.bits .i64)))))) * dc1.2)))) * (1 : Int)))), .s (.v (.int .i64) (IntKind.wrap .i64 ((IntKind.wrap .i64 ((IntKind.wrap .i64 ((IntKind.wrap .i64 ((1 : Int) * 2 ^ (min ((((List.getD x21 (x23).toNat (⟨#[]⟩ : ByteArray))).size : Int)).toNat (IntKind.bits .i64)))) - (IntKind.wrap .i64 ((1 : Int) * 2 ^ (min ((((List.getD x4 (x23).toNat (⟨#[]⟩ : ByteArray))).size : Int)).toNat (IntKind.bits .i64)))))) * dc1.2)) * dc2.2)))] (.s (.v (.pr (.int .i64) (.int .i64)) dc5)) [])
    (h14 : SC cfg.P i_spec_obLess [.s (.v (.pr (.int .i64) (.int .i64)) dc5), .s (.v (.pr (.int .i64) (.int .i64)) dc3)] (.s (.v .bool false)) [])
    (h15 : SC cfg.P i_spec_obLess [.s (.v (.pr (.int .i64) (.int .i64)) dc4), .s (.v (.pr (.int .i64) (.int .i64)) dc5)] (.s (.v .bool true)) [])
    (h16 : ((List.length ([] : List (Int × Int)) : Nat) : Int) = (0 : Int))
    {e : AEx} {st : St} (next : LoopSC cfg.P 1 (lb P_spec_obFixed 0) (spec_obFixed_L0a x4 x21 x22 (IntKind.wrap .i64 (x23 + (1 : Int))) xo3) e st) :
    LoopSC cfg.P 1 (lb P_spec_obFixed 0) (spec_obFixed_L0a x4 x21 x22 x23 xo3) e st :=
  loop_iter cfgOK (f := i_spec_obFixed) (its := [.bool true, .res (.s (.v (.pr (.int .i64) (.int .i64)) dc1)) [] [] [], .res (.s (.v (.pr (.int .i64) (.int .i64)) dc2)) [] [] [], .res (.s (.v (.pr (.int .i64) (.int .i64)) dc3)) [] [] [], .res (.s (.v (.pr (.int .i64) (.int .i64)) dc4)) [] [] [], .bool false, .res (.s (.v (.pr (.int .i64) (.int .i64)) dc5)) [] [] [], .res (.s (.v .bool false)) [] [] [], .res (.s (.v .bool true)) [] [] [], .bool true])
    (ps := [decide (x23 < x22) = true,
      0 ≤ x23,
      x23 < (List.length x21 : Int),
      SC cfg.P i_spec_mpOf [.s (.v .str (List.getD x21 (x23).toNat (⟨#[]⟩ : ByteArray)))] (.s (.v (.pr (.int .i64) (.int .i64)) dc1)) [],
      0 ≤ x23,
      x23 < (List.length x4 : Int),
      SC cfg.P i_spec_mpOf [.s (.v .str (List.getD x4 (x23).toNat (⟨#[]⟩ : ByteArray)))] (.s (.v (.pr (.int .i64) (.int .i64)) dc2)) [],
      SC cfg.P i_spec_obRatio [.s (.v (.int .i64) dc1.1), .s (.v (.int .i64) dc1.2)] (.s (.v (.pr (.int .i64) (.int .i64)) dc3)) [],
      0 ≤ (((List.getD x21 (x23).toNat (⟨#[]⟩ : ByteArray))).size : Int),
      dc1.2 ≠ 0,
      0 ≤ (((List.getD x21 (x23).toNat (⟨#[]⟩ : ByteArray))).size : Int),
      SC cfg.P i_spec_obRatio [.s (.v (.int .i64) (IntKind.wrap .i64 ((IntKind.wrap .i64 (dc1.1 * (IntKind.wrap .i64 (Int.tdiv (IntKind.wrap .i64 ((1 : Int) * 2 ^ (min ((((List.getD x21 (x23).toNat (⟨#[]⟩ : ByteArray))).size : Int)).toNat (IntKind.bits .i64)))) dc1.2)))) + (1 : Int)))), .s (.v (.int .i64) (IntKind.wrap .i64 ((1 : Int) * 2 ^ (min ((((List.getD x21 (x23).toNat (⟨#[]⟩ : ByteArray))).size : Int)).toNat (IntKind.bits .i64)))))] (.s (.v (.pr (.int .i64) (.int .i64)) dc4)) [],
      0 ≤ x23,
      x23 < (List.length x4 : Int),
      ((((List.getD x21 (x23).toNat (⟨#[]⟩ : ByteArray))).size : Int) == (((List.getD x4 (x23).toNat (⟨#[]⟩ : ByteArray))).size : Int)) = false,
      0 ≤ (((List.getD x21 (x23).toNat (⟨#[]⟩ : ByteArray))).size : Int),
      0 ≤ x23,
      x23 < (List.length x4 : Int),
      0 ≤ (((List.getD x4 (x23).toNat (⟨#[]⟩ : ByteArray))).size : Int),
      SC cfg.P i_spec_obRatio [.s (.v (.int .i64) (IntKind.wrap .i64 ((IntKind.wrap .i64 ((IntKind.wrap .i64 ((IntKind.wrap .i64 (dc1.1 * (IntKind.wrap .i64 ((1 : Int) * 2 ^ (min ((((List.getD x21 (x23).toNat (⟨#[]⟩ : ByteArray))).size : Int)).toNat (IntKind.bits .i64)))))) * dc2.2)) - (IntKind.wrap .i64 ((IntKind.wrap .i64 (dc2.1 * (IntKind.wrap .i64 ((1 : Int) * 2 ^ (min ((((List.getD x4 (x23).toNat (⟨#[]⟩ : ByteArray))).size : Int)).toNat (IntKind.bits .i64)))))) * dc1.2)))) * (1 : Int)))), .s (.v (.int .i64) (IntKind.wrap .i64 ((IntKind.wrap .i64 ((IntKind.wrap .i64 ((IntKind.wrap .i64 ((1 : Int) * 2 ^ (min ((((List.getD x21 (x23).toNat (⟨#[]⟩ : ByteArray))).size : Int)).toNat (IntKind.bits .i64)))) - (IntKind.wrap .i64 ((1 : Int) * 2 ^ (min ((((List.getD x4 (x23).toNat (⟨#[]⟩ : ByteArray))).size : Int)).toNat (IntKind.bits .i64)))))) * dc1.2)) * dc2.2)))] (.s (.v (.pr (.int .i64) (.int .i64)) dc5)) [],
      SC cfg.P i_spec_obLess [.s (.v (.pr (.int .i64) (.int .i64)) dc5), .s (.v (.pr (.int .i64) (.int .i64)) dc3)] (.s (.v .bool false)) [],
      SC cfg.P i_spec_obLess [.s (.v (.pr (.int .i64) (.int .i64)) dc4), .s (.v (.pr (.int .i64) (.int .i64)) dc5)] (.s (.v .bool true)) [],
      (((List.length ([] : List (Int × Int)) : Nat) : Int) == (0 : Int)) = true]) (st1 := spec_obFixed_L0a x4 x21 x22 (IntKind.wrap .i64 (x23 + (1 : Int))) xo3) (by kernel_rfl) ⟨(decide_eq_true h1), h2, h3, h4, h2, h5, h6, h7, h8, h9, h8, h10, h2, h5, (beq_f h11), h8, h2, h5, h12, h13, h14, h15, (beq_t h16), trivial⟩ next

theorem spec_obFixed_L0a_i14 (x4 : (List ByteArray)) (x21 : (List ByteArray)) (x22 : Int) (x23 : Int) (xo3 : (List (List (Int × Int)))) (dc1 : (Int × Int)) (dc2 : (Int × Int)) (dc3 : (Int × Int)) (dc4 : (Int × Int)) (dc5 : (Int × Int))
    (h1 : x23 < x22)
    (h2 : 0 ≤ x23)
    (h3 : x23 < (List.length x21 : Int))
    (h4 : SC cfg.P i_spec_mpOf [.s (.v .str (List.getD x21 (x23).toNat (⟨#[]⟩ : ByteArray)))] (.s (.v (.pr (.int .i64) (.int .i64)) dc1)) [])
    (h5 : x23 < (List.length x4 : Int))
    (h6 : SC cfg.P i_spec_mpOf [.s (.v .str (List.getD x4 (x23).toNat (⟨#[]⟩ : ByteArray)))] (.s (.v (.pr (.int .i64) (.int .i64)) dc2)) [])
    (h7 : SC cfg.P i_spec_obRatio [.s (.v (.int .i64) dc1.1), .s (.v (.int .i64) dc1.2)] (.s (.v (.pr (.int .i64) (.int .i64)) dc3)) [])
    (h8 : 0 ≤ (((List.getD x21 (x23).toNat (⟨#[]⟩ : ByteArray))).size : Int))
    (h9 : dc1.2 ≠ 0)
    (h10 : SC cfg.P i_spec_obRatio [.s (.v (.int .i64) (IntKind.wrap .i64 ((IntKind.wrap .i64 (dc1.1 * (IntKind.wrap .i64 (Int.tdiv (IntKind.wrap .i64 ((1 : Int) * 2 ^ (min ((((List.getD x21 (x23).toNat (⟨#[]⟩ : ByteArray))).size : Int)).toNat (IntKind.bits .i64)))) dc1.2)))) + (1 : Int)))), .s (.v (.int .i64) (IntKind.wrap .i64 ((1 : Int) * 2 ^ (min ((((List.getD x21 (x23).toNat (⟨#[]⟩ : ByteArray))).size : Int)).toNat (IntKind.bits .i64)))))] (.s (.v (.pr (.int .i64) (.int .i64)) dc4)) [])
    (h11 : (((List.getD x21 (x23).toNat (⟨#[]⟩ : ByteArray))).size : Int) ≠ (((List.getD x4 (x23).toNat (⟨#[]⟩ : ByteArray))).size : Int))
    (h12 : 0 ≤ (((List.getD x4 (x23).toNat (⟨#[]⟩ : ByteArray))).size : Int))
    (h13 : SC cfg.P i_spec_obRatio [.s (.v (.int .i64) (IntKind.wrap .i64 ((IntKind.wrap .i64 ((IntKind.wrap .i64 ((IntKind.wrap .i64 (dc1.1 * (IntKind.wrap .i64 ((1 : Int) * 2 ^ (min ((((List.getD x21 (x23).toNat (⟨#[]⟩ : ByteArray))).size : Int)).toNat (IntKind.bits .i64)))))) * dc2.2)) - (IntKind.wrap .i64 ((IntKind.wrap .i64 (dc2.1 * (IntKind.wrap .i64 ((1 : Int) * 2 ^ (min ((((List.getD x4 (x23).toNat (⟨#[]⟩ : ByteArray))).size : Int)).toNat (IntKind.bits .i64)))))) * dc1.2)))) * (1 : Int)))), .s (.v (.int .i64) (IntKind.wrap .i64 ((IntKind.wrap .i64 ((IntKind.wrap .i64 ((IntKind.wrap .i64 ((1 : Int) * 2 ^ (min ((((List.getD x21 (x23).toNat (⟨#[]⟩ : ByteArray))).size : Int)).toNat (IntKind.bits .i64)))) - (IntKind.wrap .i64 ((1 : Int) * 2 ^ (min ((((List.getD x4 (x23).toNat (⟨#[]⟩ : ByteArray))).size : Int)).toNat (IntKind.bits .i64)))))) * dc1.2)) * dc2.2)))] (.s (.v (.pr (.int .i64) (.int .i64)) dc5)) [])
    (h14 : SC cfg.P i_spec_obLess [.s (.v (.pr (.int .i64) (.int .i64)) dc5), .s (.v (.pr (.int .i64) (.int .i64)) dc3)] (.s (.v .bool false)) [])
    (h15 : SC cfg.P i_spec_obLess [.s (.v (.pr (.int .i64) (.int .i64)) dc4), .s (.v (.pr (.int .i64) (.int .i64)) dc5)] (.s (.v .bool true)) [])
    (h16 : ((List.length ([] : List (Int × Int)) : Nat) : Int) ≠ (0 : Int))
    (h17 : (IntKind.wrap .i64 (((List.length xo3 : Nat) : Int) - (1 : Int))) ≥ (0 : Int))
    (h18 : 0 ≤ (IntKind.wrap .i64 (((List.length xo3 : Nat) : Int) - (1 : Int))))
    (h19 : (IntKind.wrap .i64 (((List.length xo3 : Nat) : Int) - (1 : Int))) < (List.length xo3 : Int))
    (h20 : ((IntKind.wrap .i64 (((List.length xo3 : Nat) : Int) - (1 : Int)))).toNat < List.length xo3)
    (h21 : (1 : Int) < (List.length (List.getD xo3 ((IntKind.wrap .i64 (((List.length xo3 : Nat) : Int) - (1 : Int)))).toNat ([] : List (Int × Int))) : Int))
    (h22 : (0 : Int) < (List.length ([] : List (Int × Int)) : Int))
    (h23 : ((0 : Int)).toNat < List.length ([] : List (Int × Int)))
    (h24 : (((List.getD (List.getD xo3 ((IntKind.wrap .i64 (((List.length xo3 : Nat) : Int) - (1 : Int)))).toNat ([] : List (Int × Int))) ((1 : Int)).toNat ((0 : Int), (0 : Int))).1 == (List.getD ([] : List (Int × Int)) ((0 : Int)).toNat ((0 : Int), (0 : Int))).1) && ((List.getD (List.getD xo3 ((IntKind.wrap .i64 (((List.length xo3 : Nat) : Int) - (1 : Int)))).toNat ([] : List (Int × Int))) ((1 : Int)).toNat ((0 : Int), (0 : Int))).2 == (List.getD ([] : List (Int × Int)) ((0 : Int)).toNat ((0 : Int), (0 : Int))).2)) = true)
    (h25 : (0 : Int) < (List.length (List.getD xo3 ((IntKind.wrap .i64 (((List.length xo3 : Nat) : Int) - (1 : Int)))).toNat ([] : List (Int × Int))) : Int))
    (h26 : (1 : Int) < (List.length ([] : List (Int × Int)) : Int))
    (h27 : ((1 : Int)).toNat < List.length ([] : List (Int × Int)))
    {e : AEx} {st : St} (next : LoopSC cfg.P 1 (lb P_spec_obFixed 0) (spec_obFixed_L0a x4 x21 x22 (IntKind.wrap .i64 (x23 + (1 : Int))) (List.set xo3 ((IntKind.wrap .i64 (((List.length xo3 : Nat) : Int) - (1 : Int)))).toNat ([(List.getD (List.getD xo3 ((IntKind.wrap .i64 (((List.length xo3 : Nat) : Int) - (1 : Int)))).toNat ([] : List (Int × Int))) ((0 : Int)).toNat ((0 : Int), (0 : Int))), (List.getD ([] : List (Int × Int)) ((1 : Int)).toNat ((0 : Int), (0 : Int)))] : List (Int × Int)))) e st) :
    LoopSC cfg.P 1 (lb P_spec_obFixed 0) (spec_obFixed_L0a x4 x21 x22 x23 xo3) e st :=
  loop_iter cfgOK (f := i_spec_obFixed) (its := [.bool true, .res (.s (.v (.pr (.int .i64) (.int .i64)) dc1)) [] [] [], .res (.s (.v (.pr (.int .i64) (.int .i64)) dc2)) [] [] [], .res (.s (.v (.pr (.int .i64) (.int .i64)) dc3)) [] [] [], .res (.s (.v (.pr (.int .i64) (.int .i64)) dc4)) [] [] [], .bool false, .res (.s (.v (.pr (.int .i64) (.int .i64)) dc5)) [] [] [], .res (.s (.v .bool false)) [] [] [], .res (.s (.v .bool true)) [] [] [], .bool false, .bool true, .bool true])
    (ps := [decide (x23 < x22) = true,
      0 ≤ x23,
      x23 < (List.length x21 : Int),
      SC cfg.P i_spec_mpOf [.s (.v .str (List.getD x21 (x23).toNat (⟨#[]⟩ : ByteArray)))] (.s (.v (.pr (.int .i64) (.int .i64)) dc1)) [],
      0 ≤ x23,
      x23 < (List.length x4 : Int),
      SC cfg.P i_spec_mpOf [.s (.v .str (List.getD x4 (x23).toNat (⟨#[]⟩ : ByteArray)))] (.s (.v (.pr (.int .i64) (.int .i64)) dc2)) [],
      SC cfg.P i_spec_obRatio [.s (.v (.int .i64) dc1.1), .s (.v (.int .i64) dc1.2)] (.s (.v (.pr (.int .i64) (.int .i64)) dc3)) [],
      0 ≤ (((List.getD x21 (x23).toNat (⟨#[]⟩ : ByteArray))).size : Int),
      dc1.2 ≠ 0,
      0 ≤ (((List.getD x21 (x23).toNat (⟨#[]⟩ : ByteArray))).size : Int),
      SC cfg.P i_spec_obRatio [.s (.v (.int .i64) (IntKind.wrap .i64 ((IntKind.wrap .i64 (dc1.1 * (IntKind.wrap .i64 (Int.tdiv (IntKind.wrap .i64 ((1 : Int) * 2 ^ (min ((((List.getD x21 (x23).toNat (⟨#[]⟩ : ByteArray))).size : Int)).toNat (IntKind.bits .i64)))) dc1.2)))) + (1 : Int)))), .s (.v (.int .i64) (IntKind.wrap .i64 ((1 : Int) * 2 ^ (min ((((List.getD x21 (x23).toNat (⟨#[]⟩ : ByteArray))).size : Int)).toNat (IntKind.bits .i64)))))] (.s (.v (.pr (.int .i64) (.int .i64)) dc4)) [],
      0 ≤ x23,
      x23 < (List.length x4 : Int),
      ((((List.getD x21 (x23).toNat (⟨#[]⟩ : ByteArray))).size : Int) == (((List.getD x4 (x23).toNat (⟨#[]⟩ : ByteArray))).size : Int)) = false,
      0 ≤ (((List.getD x21 (x23).toNat (⟨#[]⟩ : ByteArray))).size : Int),
      0 ≤ x23,
      x23 < (List.length x4 : Int),
      0 ≤ (((List.getD x4 (x23).toNat (⟨#[]⟩ : ByteArray))).size : Int),
      SC cfg.P i_spec_obRatio [.s (.v (.int .i64) (IntKind.wrap .i64 ((IntKind.wrap .i64 ((IntKind.wrap .i64 ((IntKind.wrap .i64 (dc1.1 * (IntKind.wrap .i64 ((1 : Int) * 2 ^ (min ((((List.getD x21 (x23).toNat (⟨#[]⟩ : ByteArray))).size : Int)).toNat (IntKind.bits .i64)))))) * dc2.2)) - (IntKind.wrap .i64 ((IntKind.wrap .i64 (dc2.1 * (IntKind.wrap .i64 ((1 : Int) * 2 ^ (min ((((List.getD x4 (x23).toNat (⟨#[]⟩ : ByteArray))).size : Int)).toNat (IntKind.bits .i64)))))) * dc1.2)))) * (1 : Int)))), .s (.v (.int .i64) (IntKind.wrap .i64 ((IntKind.wrap .i64 ((IntKind.wrap .i64 ((IntKind.wrap .i64 ((1 : Int) * 2 ^ (min ((((List.getD x21 (x23).toNat (⟨#[]⟩ : ByteArray))).size : Int)).toNat (IntKind.bits .i64)))) - (IntKind.wrap .i64 ((1 : Int) * 2 ^ (min ((((List.getD x4 (x23).toNat (⟨#[]⟩ : ByteArray))).size : Int)).toNat (IntKind.bits .i64)))))) * dc1.2)) * dc2.2)))] (.s (.v (.pr (.int .i64) (.int .i64)) dc5)) [],
      SC cfg.P i_spec_obLess [.s (.v (.pr (.int .i64) (.int .i64)) dc5), .s (.v (.pr (.int .i64) (.int .i64)) dc3)] (.s (.v .bool false)) [],
      SC cfg.P i_spec_obLess [.s (.v (.pr (.int .i64) (.int .i64)) dc4), .s (.v (.pr (.int .i64) (.int .i64)) dc5)] (.s (.v .bool true)) [],
      (((List.length ([] : List (Int × Int)) : Nat) : Int) == (0 : Int)) = false,
      decide ((IntKind.wrap .i64 (((List.length xo3 : Nat) : Int) - (1 : Int))) ≥ (0 : Int)) = true,
      0 ≤ (IntKind.wrap .i64 (((List.length xo3 : Nat) : Int) - (1 : Int))),
      (IntKind.wrap .i64 (((List.length xo3 : Nat) : Int) - (1 : Int))) < (List.length xo3 : Int),
      ((IntKind.wrap .i64 (((List.length xo3 : Nat) : Int) - (1 : Int)))).toNat < List.length xo3,
      0 ≤ (1 : Int),
      (1 : Int) < (List.length (List.getD xo3 ((IntKind.wrap .i64 (((List.length xo3 : Nat) : Int) - (1 : Int)))).toNat ([] : List (Int × Int))) : Int),
      0 ≤ (0 : Int),
      (0 : Int) < (List.length ([] : List (Int × Int)) : Int),
      ((0 : Int)).toNat < List.length ([] : List (Int × Int)),
      (((List.getD (List.getD xo3 ((IntKind.wrap .i64 (((List.length xo3 : Nat) : Int) - (1 : Int)))).toNat ([] : List (Int × Int))) ((1 : Int)).toNat ((0 : Int), (0 : Int))).1 == (List.getD ([] : List (Int × Int)) ((0 : Int)).toNat ((0 : Int), (0 : Int))).1) && ((List.getD (List.getD xo3 ((IntKind.wrap .i64 (((List.length xo3 : Nat) : Int) - (1 : Int)))).toNat ([] : List (Int × Int))) ((1 : Int)).toNat ((0 : Int), (0 : Int))).2 == (List.getD ([] : List (Int × Int)) ((0 : Int)).toNat ((0 : Int), (0 : Int))).2)) = true,
      0 ≤ (IntKind.wrap .i64 (((List.length xo3 : Nat) : Int) - (1 : Int))),
      (IntKind.wrap .i64 (((List.length xo3 : Nat) : Int) - (1 : Int))) < (List.length xo3 : Int),
      ((IntKind.wrap .i64 (((List.length xo3 : Nat) : Int) - (1 : Int)))).toNat < List.length xo3,
      0 ≤ (0 : Int),
      (0 : Int) < (List.length (List.getD xo3 ((IntKind.wrap .i64 (((List.length xo3 : Nat) : Int) - (1 : Int)))).toNat ([] : List (Int × Int))) : Int),
      0 ≤ (1 : Int),
      (1 : Int) < (List.length ([] : List (Int × Int)) : Int),
      ((1 : Int)).toNat < List.length ([] : List (Int × Int)),
      0 ≤ (IntKind.wrap .i64 (((List.length xo3 : Nat) : Int) - (1 : Int))),
      (IntKind.wrap .i64 (((List.length xo3 : Nat) : Int) - (1 : Int))) < (List.length xo3 : Int),
      ((IntKind.wrap .i64 (((List.length xo3 : Nat) : Int) - (1 : Int)))).toNat < List.length xo3]) (st1 := spec_obFixed_L0a x4 x21 x22 (IntKind.wrap .i64 (x23 + (1 : Int))) (List.set xo3 ((IntKind.wrap .i64 (((List.length xo3 : Nat) : Int) - (1 : Int)))).toNat ([(List.getD (List.getD xo3 ((IntKind.wrap .i64 (((List.length xo3 : Nat) : Int) - (1 : Int)))).toNat ([] : List (Int × Int))) ((0 : Int)).toNat ((0 : Int), (0 : Int))), (List.getD ([] : List (Int × Int)) ((1 : Int)).toNat ((0 : Int), (0 : Int)))] : List (Int × Int)))) (by kernel_rfl) ⟨(decide_eq_true h1), h2, h3, h4, h2, h5, h6, h7, h8, h9, h8, h10, h2, h5, (beq_f h11), h8, h2, h5, h12, h13, h14, h15, (beq_f h16), (decide_eq_true h17), h18, h19, h20, (by decide), h21, (by decide), h22, h23, h24, h18, h19, h20, (by decide), h25, (by decide), h26, h27, h18, h19, h20, trivial⟩ next

theorem spec_obFixed_L0a_i15 (x4 : (List ByteArray)) (x21 : (List ByteArray)) (x22 : Int) (x23 : Int) (xo3 : (List (List (Int × Int)))) (dc1 : (Int × Int)) (dc2 : (Int × Int)) (dc3 : (Int × Int)) (dc4 : (Int × Int)) (dc5 : (Int × Int))
    (h1 : x23 < x22)
    (h2 : 0 ≤ x23)
    (h3 : x23 < (List.length x21 : Int))
    (h4 : SC cfg.P i_spec_mpOf [.s (.v .str (List.getD x21 (x23).toNat (⟨#[]⟩ : ByteArray)))] (.s (.v (.pr (.int .i64) (.int .i64)) dc1)) [])
    (h5 : x23 < (List.length x4 : Int))
    (h6 : SC cfg.P i_spec_mpOf [.s (.v .str (List.getD x4 (x23).toNat (⟨#[]⟩ : ByteArray)))] (.s (.v (.pr (.int .i64) (.int .i64)) dc2)) [])
    (h7 : SC cfg.P i_spec_obRatio [.s (.v (.int .i64) dc1.1), .s (.v (.int .i64) dc1.2)] (.s (.v (.pr (.int .i64) (.int .i64)) dc3)) [])
    (h8 : 0 ≤ (((List.getD x21 (x23).toNat (⟨#[]⟩ : ByteArray))).size : Int))
    (h9 : dc1.2 ≠ 0)
    (h10 : SC cfg.P i_spec_obRatio [.s (.v (.int .i64) (IntKind.wrap .i64 ((IntKind.wrap .i64 (dc1.1 * (IntKind.wrap .i64 (Int.tdiv (IntKind.wrap .i64 ((1 : Int) * 2 ^ (min ((((List.getD x21 (x23).toNat (⟨#[]⟩ : ByteArray))).size : Int)).toNat (IntKind.bits .i64)))) dc1.2)))) + (1 : Int)))), .s (.v (.int .i64) (IntKind.wrap .i64 ((1 : Int) * 2 ^ (min ((((List.getD x21 (x23).toNat (⟨#[]⟩ : ByteArray))).size : Int)).toNat (IntKind.bits .i64)))))] (.s (.v (.pr (.int .i64) (.int .i64)) dc4)) [])
    (h11 : (((List.getD x21 (x23).toNat (⟨#[]⟩ : ByteArray))).size : Int) ≠ (((List.getD x4 (x23).toNat (⟨#[]⟩ : ByteArray))).size : Int))
    (h12 : 0 ≤ (((List.getD x4 (x23).toNat (⟨#[]⟩ : ByteArray))).size : Int))
    (h13 : SC cfg.P i_spec_obRatio [.s (.v (.int .i64) (IntKind.wrap .i64 ((IntKind.wrap .i64 ((IntKind.wrap .i64 ((IntKind.wrap .i64 (dc1.1 * (IntKind.wrap .i64 ((1 : Int) * 2 ^ (min ((((List.getD x21 (x23).toNat (⟨#[]⟩ : ByteArray))).size : Int)).toNat (IntKind.bits .i64)))))) * dc2.2)) - (IntKind.wrap .i64 ((IntKind.wrap .i64 (dc2.1 * (IntKind.wrap .i64 ((1 : Int) * 2 ^ (min ((((List.getD x4 (x23).toNat (⟨#[]⟩ : ByteArray))).size : Int)).toNat (IntKind.bits .i64)))))) * dc1.2)))) * (1 : Int)))), .s (.v (.int .i64) (IntKind.wrap .i64 ((IntKind.wrap .i64 ((IntKind.wrap .i64 ((IntKind.wrap .i64 ((1 : Int) * 2 ^ (min ((((List.getD x21 (x23).toNat (⟨#[]⟩ : ByteArray))).size : Int)).toNat (IntKind.bits .i64)))) - (IntKind.wrap .i64 ((1 : Int) * 2 ^ (min ((((List.getD x4 (x23).toNat (⟨#[]⟩ : ByteArray))).size : Int)).toNat (IntKind.bits .i64)))))) * dc1.2)) * dc2.2)))] (.s (.v (.pr (.int .i64) (.int .i64)) dc5)) [])
    (h14 : SC cfg.P i_spec_obLess [.s (.v (.pr (.int .i64) (.int .i64)) dc5), .s (.v (.pr (.int .i64) (.int .i64)) dc3)] (.s (.v .bool false)) [])
    (h15 : SC cfg.P i_spec_obLess [.s (.v (.pr (.int .i64) (.int .i64)) dc4), .s (.v (.pr (.int .i64) (.int .i64)) dc5)] (.s (.v .bool true)) [])
    (h16 : ((List.length ([] : List (Int × Int)) : Nat) : Int) ≠ (0 : Int))
    (h17 : (IntKind.wrap .i64 (((List.length xo3 : Nat) : Int) - (1 : Int))) ≥ (0 : Int))
    (h18 : 0 ≤ (IntKind.wrap .i64 (((List.length xo3 : Nat) : Int) - (1 : Int))))
    (h19 : (IntKind.wrap .i64 (((List.length xo3 : Nat) : Int) - (1 : Int))) < (List.length xo3 : Int))
    (h20 : ((IntKind.wrap .i64 (((List.length xo3 : Nat) : Int) - (1 : Int)))).toNat < List.length xo3)
    (h21 : (1 : Int) < (List.length (List.getD xo3 ((IntKind.wrap .i64 (((List.length xo3 : Nat) : Int) - (1 : Int)))).toNat ([] : List (Int × Int))) : Int))
    (h22 : (0 : Int) < (List.length ([] : List (Int × Int)) : Int))
    (h23 : ((0 : Int)).toNat < List.length ([] : List (Int × Int)))
    (h24 : (((List.getD (List.getD xo3 ((IntKind.wrap .i64 (((List.length xo3 : Nat) : Int) - (1 : Int)))).toNat ([] : List (Int × Int))) ((1 : Int)).toNat ((0 : Int), (0 : Int))).1 == (List.getD ([] : List (Int × Int)) ((0 : Int)).toNat ((0 : Int), (0 : Int))).1) && ((List.getD (List.getD xo3 ((IntKind.wrap .i64 (((List.length xo3 : Nat) : Int) - (1 : Int)))).toNat ([] : List (Int × Int))) ((1 : Int)).toNat ((0 : Int), (0 : Int))).2 == (List.getD ([] : List (Int × Int)) ((0 : Int)).toNat ((0 : Int), (0 : Int))).2)) = false)
    (h25 : sizeOK (List.length xo3 + List.length ([([] : List (Int × Int))] : List (List (Int × Int)))))
    {e : AEx} {st : St} (next : LoopSC cfg.P 1 (lb P_spec_obFixed 0) (spec_obFixed_L0a x4 x21 x22 (IntKind.wrap .i64 (x23 + (1 : Int))) (xo3 ++ ([([] : List (Int × Int))] : List (List (Int × Int))))) e st) :
    LoopSC cfg.P 1 (lb P_spec_obFixed 0) (spec_obFixed_L0a x4 x21 x22 x23 xo3) e st :=
  loop_iter cfgOK (f := i_spec_obFixed) (its := [.bool true, .res (.s (.v (.pr (.int .i64) (.int .i64)) dc1)) [] [] [], .res (.s (.v (.pr (.int .i64) (.int .i64)) dc2)) [] [] [], .res (.s (.v (.pr (.int .i64) (.int .i64)) dc3)) [] [] [], .res (.s (.v (.pr (.int .i64) (.int .i64)) dc4)) [] [] [], .bool false, .res (.s (.v (.pr (.int .i64) (.int .i64)) dc5)) [] [] [], .res (.s (.v .bool false)) [] [] [], .res (.s (.v .bool true)) [] [] [], .bool false, .bool true, .bool false])
    (ps := [decide (x23 < x22) = true,
      0 ≤ x23,
      x23 < (List.length x21 : Int),
      SC cfg.P i_spec_mpOf [.s (.v .str (List.getD x21 (x23).toNat (⟨#[]⟩ : ByteArray)))] (.s (.v (.pr (.int .i64) (.int .i64)) dc1)) [],
      0 ≤ x23,
      x23 < (List.length x4 : Int),
      SC cfg.P i_spec_mpOf [.s (.v .str (List.getD x4 (x23).toNat (⟨#[]⟩ : ByteArray)))] (.s (.v (.pr (.int .i64) (.int .i64)) dc2)) [],
      SC cfg.P i_spec_obRatio [.s (.v (.int .i64) dc1.1), .s (.v (.int .i64) dc1.2)] (.s (.v (.pr (.int .i64) (.int .i64)) dc3)) [],
      0 ≤ (((List.getD x21 (x23).toNat (⟨#[]⟩ : ByteArray))).size : Int),
      dc1.2 ≠ 0,
      0 ≤ (((List.getD x21 (x23).toNat (⟨#[]⟩ : ByteArray))).size : Int),
      SC cfg.P i_spec_obRatio [.s (.v (.int .i64) (IntKind.wrap .i64 ((IntKind.wrap .i64 (dc1.1 * (IntKind.wrap .i64 (Int.tdiv (IntKind.wrap .i64 ((1 : Int) * 2 ^ (min ((((List.getD x21 (x23).toNat (⟨#[]⟩ : ByteArray))).size : Int)).toNat (IntKind.bits .i64)))) dc1.2)))) + (1 : Int)))), .s (.v (.int .i64) (IntKind.wrap .i64 ((1 : Int) * 2 ^ (min ((((List.getD x21 (x23).toNat (⟨#[]⟩ : ByteArray))).size : Int)).toNat (IntKind.bits .i64)))))] (.s (.v (.pr (.int .i64) (.int .i64)) dc4)) [],
      0 ≤ x23,
      x23 < (List.length x4 : Int),
      ((((List.getD x21 (x23).toNat (⟨#[]⟩ : ByteArray))).size : Int) == (((List.getD x4 (x23).toNat (⟨#[]⟩ : ByteArray))).size : Int)) = false,
      0 ≤ (((List.getD x21 (x23).toNat (⟨#[]⟩ : ByteArray))).size : Int),
      0 ≤ x23,
      x23 < (List.length x4 : Int),
      0 ≤ (((List.getD x4 (x23).toNat (⟨#[]⟩ : ByteArray))).size : Int),
      SC cfg.P i_spec_obRatio [.s (.v (.int .i64) (IntKind.wrap .i64 ((IntKind.wrap .i64 ((IntKind.wrap .i64 ((IntKind.wrap .i64 (dc1.1 * (IntKind.wrap .i64 ((1 : Int) * 2 ^ (min ((((List.getD x21 (x23).toNat (⟨#[]⟩ : ByteArray))).size : Int)).toNat (IntKind.bits .i64)))))) * dc2.2)) - (IntKind.wrap .i64 ((IntKind.wrap .i64 (dc2.1 * (IntKind.wrap .i64 ((1 : Int) * 2 ^ (min ((((List.getD x4 (x23).toNat (⟨#[]⟩ : ByteArray))).size : Int)).toNat (IntKind.bits .i64)))))) * dc1.2)))) * (1 : Int)))), .s (.v (.int .i64) (IntKind.wrap .i64 ((IntKind.wrap .i64 ((IntKind.wrap .i64 ((IntKind.wrap .i64 ((1 : Int) * 2 ^ (min ((((List.getD x21 (x23).toNat (⟨#[]⟩ : ByteArray))).size : Int)).toNat (IntKind.bits .i64)))) - (IntKind.wrap .i64 ((1 : Int) * 2 ^ (min ((((List.getD x4 (x23).toNat (⟨#[]⟩ : ByteArray))).size : Int)).toNat (IntKind.bits .i64)))))) * dc1.2)) * dc2.2)))] (.s (.v (.pr (.int .i64) (.int .i64)) dc5)) [],
      SC cfg.P i_spec_obLess [.s (.v (.pr (.int .i64) (.int .i64)) dc5), .s (.v (.pr (.int .i64) (.int .i64)) dc3)] (.s (.v .bool false)) [],
      SC cfg.P i_spec_obLess [.s (.v (.pr (.int .i64) (.int .i64)) dc4), .s (.v (.pr (.int .i64) (.int .i64)) dc5)] (.s (.v .bool true)) [],
      (((List.length ([] : List (Int × Int)) : Nat) : Int) == (0 : Int)) = false,
      decide ((IntKind.wrap .i64 (((List.length xo3 : Nat) : Int) - (1 : Int))) ≥ (0 : Int)) = true,
      0 ≤ (IntKind.wrap .i64 (((List.length xo3 : Nat) : Int) - (1 : Int))),
      (IntKind.wrap .i64 (((List.length xo3 : Nat) : Int) - (1 : Int))) < (List.length xo3 : Int),
      ((IntKind.wrap .i64 (((List.length xo3 : Nat) : Int) - (1 : Int)))).toNat < List.length xo3,
      0 ≤ (1 : Int),
      (1 : Int) < (List.length (List.getD xo3 ((IntKind.wrap .i64 (((List.length xo3 : Nat) : Int) - (1 : Int)))).toNat ([] : List (Int × Int))) : Int),
      0 ≤ (0 : Int),
      (0 : Int) < (List.length ([] : List (Int × Int)) : Int),
      ((0 : Int)).toNat < List.length ([] : List (Int × Int)),
      (((List.getD (List.getD xo3 ((IntKind.wrap .i64 (((List.length xo3 : Nat) : Int) - (1 : Int)))).toNat ([] : List (Int × Int))) ((1 : Int)).toNat ((0 : Int), (0 : Int))).1 == (List.getD ([] : List (Int × Int)) ((0 : Int)).toNat ((0 : Int), (0 : Int))).1) && ((List.getD (List.getD xo3 ((IntKind.wrap .i64 (((List.length xo3 : Nat) : Int) - (1 : Int)))).toNat ([] : List (Int × Int))) ((1 : Int)).toNat ((0 : Int), (0 : Int))).2 == (List.getD ([] : List (Int × Int)) ((0 : Int)).toNat ((0 : Int), (0 : Int))).2)) = false,
      sizeOK (List.length xo3 + List.length ([([] : List (Int × Int))] : List (List (Int × Int))))]) (st1 := spec_obFixed_L0a x4 x21 x22 (IntKind.wrap .i64 (x23 + (1 : Int))) (xo3 ++ ([([] : List (Int × Int))] : List (List (Int × Int))))) (by kernel_rfl) ⟨(decide_eq_true h1), h2, h3, h4, h2, h5, h6, h7, h8, h9, h8, h10, h2, h5, (beq_f h11), h8, h2, h5, h12, h13, h14, h15, (beq_f h16), (decide_eq_true h17), h18, h19, h20, (by decide), h21, (by decide), h22, h23, h24, h25, trivial⟩ next

theorem spec_obFixed_L0a_i16 (x4 : (List ByteArray)) (x21 : (List ByteArray)) (x22 : Int) (x23 : Int) (xo3 : (List (List (Int × Int)))) (dc1 : (Int × Int)) (dc2 : (Int × Int)) (dc3 : (Int × Int)) (dc4 : (Int × Int)) (dc5 : (Int × Int))
    (h1 : x23 < x22)
    (h2 : 0 ≤ x23)
    (h3 : x23 < (List.length x21 : Int))
    (h4 : SC cfg.P i_spec_mpOf [.s (.v .str (List.getD x21 (x23).toNat (⟨#[]⟩ : ByteArray)))] (.s (.v (.pr (.int .i64) (.int .i64)) dc1)) [])
    (h5 : x23 < (List.length x4 : Int))
    (h6 : SC cfg.P i_spec_mpOf [.s (.v .str (List.getD x4 (x23).toNat (⟨#[]⟩ : ByteArray)))] (.s (.v (.pr (.int .i64) (.int .i64)) dc2)) [])
    (h7 : SC cfg.P i_spec_obRatio [.s (.v (.int .i64) dc1.1), .s (.v (.int .i64) dc1.2)] (.s (.v (.pr (.int .i64) (.int .i64)) dc3)) [])
    (h8 : 0 ≤ (((List.getD x21 (x23).toNat (⟨#[]⟩ : ByteArray))).size : Int))
    (h9 : dc1.2 ≠ 0)
    (h10 : SC cfg.P i_spec_obRatio [.s (.v (.int .i64) (IntKind.wrap .i64 ((IntKind.wrap .i64 (dc1.1 * (IntKind.wrap .i64 (Int.tdiv (IntKind.wrap .i64 ((1 : Int) * 2 ^ (min ((((List.getD x21 (x23).toNat (⟨#[]⟩ : ByteArray))).size : Int)).toNat (IntKind.bits .i64)))) dc1.2)))) + (1 : Int)))), .s (.v (.int .i64) (IntKind.wrap .i64 ((1 : Int) * 2 ^ (min ((((List.getD x21 (x23).toNat (⟨#[]⟩ : ByteArray))).size : Int)).toNat (IntKind.bits .i64)))))] (.s (.v (.pr (.int .i64) (.int .i64)) dc4)) [])
    (h11 : (((List.getD x21 (x23).toNat (⟨#[]⟩ : ByteArray))).size : Int) ≠ (((List.getD x4 (x23).toNat (⟨#[]⟩ : ByteArray))).size : Int))
    (h12 : 0 ≤ (((List.getD x4 (x23).toNat (⟨#[]⟩ : ByteArray))).size : Int))
    (h13 : SC cfg.P i_spec_obRatio [.s (.v (.int .i64) (IntKind.wrap .i64 ((IntKind.wrap .i64 ((IntKind.wrap .i64 ((IntKind.wrap .i64 (dc1.1 * (IntKind.wrap .i64 ((1 : Int) * 2 ^ (min ((((List.getD x21 (x23).toNat (⟨#[]⟩ : ByteArray))).size : Int)).toNat (IntKind.bits .i64)))))) * dc2.2)) - (IntKind.wrap .i64 ((IntKind.wrap .i64 (dc2.1 * (IntKind.wrap .i64 ((1 : Int) * 2 ^ (min ((((List.getD x4 (x23).toNat (⟨#[]⟩ : ByteArray))).size : Int)).toNat (IntKind.bits .i64)))))) * dc1.2)))) * (1 : Int)))), .s (.v (.int .i64) (IntKind.wrap .i64 ((IntKind.wrap .i64 ((IntKind.wrap .i64 ((IntKind.wrap .i64 ((1 : Int) * 2 ^ (min ((((List.getD x21 (x23).toNat (⟨#[]⟩ : ByteArray))).size : Int)).toNat (IntKind.bits .i64)))) - (IntKind.wrap .i64 ((1 : Int) * 2 ^ (min ((((List.getD x4 (x23).toNat (⟨#[]⟩ : ByteArray))).size : Int)).toNat (IntKind.bits .i64)))))) * dc1.2)) * dc2.2)))] (.s (.v (.pr (.int .i64) (.int .i64)) dc5)) [])
    (h14 : SC cfg.P i_spec_obLess [.s (.v (.pr (.int .i64) (.int .i64)) dc5), .s (.v (.pr (.int .i64) (.int .i64)) dc3)] (.s (.v .bool false)) [])
    (h15 : SC cfg.P i_spec_obLess [.s (.v (.pr (.int .i64) (.int .i64)) dc4), .s (.v (.pr (.int .i64) (.int .i64)) dc5)] (.s (.v .bool true)) [])
    (h16 : ((List.length ([] : List (Int × Int)) : Nat) : Int) ≠ (0 : Int))
    (h17 : ¬ ((IntKind.wrap .i64 (((List.length xo3 : Nat) : Int) - (1 : Int))) ≥ (0 : Int)))
    (h18 : sizeOK (List.length xo3 + List.length ([([] : List (Int × Int))] : List (List (Int × Int)))))
    {e : AEx} {st : St} (next : LoopSC cfg.P 1 (lb P_spec_obFixed 0) (spec_obFixed_L0a x4 x21 x22 (IntKind.wrap .i64 (x23 + (1 : Int))) (xo3 ++ ([([] : List (Int × Int))] : List (List (Int × Int))))) e st) :
    LoopSC cfg.P 1 (lb P_spec_obFixed 0) (spec_obFixed_L0a x4 x21 x22 x23 xo3) e st :=
  loop_iter cfgOK (f := i_spec_obFixed) (its := [.bool true, .res (.s (.v (.pr (.int .i64) (.int .i64)) dc1)) [] [] [], .res (.s (.v (.pr (.int .i64) (.int .i64)) dc2)) [] [] [], .res (.s (.v (.pr (.int .i64) (.int .i64)) dc3)) [] [] [], .res (.s (.v (.pr (.int .i64) (.int .i64)) dc4)) [] [] [], .bool false, .res (.s (.v (.pr (.int .i64) (.int .i64)) dc5)) [] [] [], .res (.s (.v .bool false)) [] [] [], .res (.s (.v .bool true)) [] [] [], .bool false, .bool false])
    (ps := [decide (x23 < x22) = true,
      0 ≤ x23,
      x23 < (List.length x21 : Int),
      SC cfg.P i_spec_mpOf [.s (.v .str (List.getD x21 (x23).toNat (⟨#[]⟩ : ByteArray)))] (.s (.v (.pr (.int .i64) (.int .i64)) dc1)) [],
      0 ≤ x23,
      x23 < (List.length x4 : Int),
      SC cfg.P i_spec_mpOf [.s (.v .str (List.getD x4 (x23).toNat (⟨#[]⟩ : ByteArray)))] (.s (.v (.pr (.int .i64) (.int .i64)) dc2)) [],
      SC cfg.P i_spec_obRatio [.s (.v (.int .i64) dc1.1), .s (.v (.int .i64) dc1.2)] (.s (.v (.pr (.int .i64) (.int .i64)) dc3)) [],
      0 ≤ (((List.getD x21 (x23).toNat (⟨#[]⟩ : ByteArray))).size : Int),
      dc1.2 ≠ 0,
      0 ≤ (((List.getD x21 (x23).toNat (⟨#[]⟩ : ByteArray))).size : Int),
      SC cfg.P i_spec_obRatio [.s (.v (.int .i64) (IntKind.wrap .i64 ((IntKind.wrap .i64 (dc1.1 * (IntKind.wrap .i64 (Int.tdiv (IntKind.wrap .i64 ((1 : Int) * 2 ^ (min ((((List.getD x21 (x23).toNat (⟨#[]⟩ : ByteArray))).size : Int)).toNat (IntKind.bits .i64)))) dc1.2)))) + (1 : Int)))), .s (.v (.int .i64) (IntKind.wrap .i64 ((1 : Int) * 2 ^ (min ((((List.getD x21 (x23).toNat (⟨#[]⟩ : ByteArray))).size : Int)).toNat (IntKind.bits .i64)))))] (.s (.v (.pr (.int .i64) (.int .i64)) dc4)) [],
      0 ≤ x23,
      x23 < (List.length x4 : Int),
      ((((List.getD x21 (x23).toNat (⟨#[]⟩ : ByteArray))).size : Int) == (((List.getD x4 (x23).toNat (⟨#[]⟩ : ByteArray))).size : Int)) = false,
      0 ≤ (((List.getD x21 (x23).toNat (⟨#[]⟩ : ByteArray))).size : Int),
      0 ≤ x23,
      x23 < (List.length x4 : Int),
      0 ≤ (((List.getD x4 (x23).toNat (⟨#[]⟩ : ByteArray))).size : Int),
      SC cfg.P i_spec_obRatio [.s (.v (.int .i64) (IntKind.wrap .i64 ((IntKind.wrap .i64 ((IntKind.wrap .i64 ((IntKind.wrap .i64 (dc1.1 * (IntKind.wrap .i64 ((1 : Int) * 2 ^ (min ((((List.getD x21 (x23).toNat (⟨#[]⟩ : ByteArray))).size : Int)).toNat (IntKind.bits .i64)))))) * dc2.2)) - (IntKind.wrap .i64 ((IntKind.wrap .i64 (dc2.1 * (IntKind.wrap .i64 ((1 : Int) * 2 ^ (min ((((List.getD x4 (x23).toNat (⟨#[]⟩ : ByteArray))).size : Int)).toNat (IntKind.bits .i64)))))) * dc1.2)))) * (1 : Int)))), .s (.v (.int .i64) (IntKind.wrap .i64 ((IntKind.wrap .i64 ((IntKind.wrap .i64 ((IntKind.wrap .i64 ((1 : Int) * 2 ^ (min ((((List.getD x21 (x23).toNat (⟨#[]⟩ : ByteArray))).size : Int)).toNat (IntKind.bits .i64)))) - (IntKind.wrap .i64 ((1 : Int) * 2 ^ (min ((((List.getD x4 (x23).toNat (⟨#[]⟩ : ByteArray))).size : Int)).toNat (IntKind.bits .i64)))))) * dc1.2)) * dc2.2)))] (.s (.v (.pr (.int .i64) (.int .i64)) dc5)) [],
      SC cfg.P i_spec_obLess [.s (.v (.pr (.int .i64) (.int .i64)) dc5), .s (.v (.pr (.int .i64) (.int .i64)) dc3)] (.s (.v .bool false)) [],
      SC cfg.P i_spec_obLess [.s (.v (.pr (.int .i64) (.int .i64)) dc4), .s (.v (.pr (.int .i64) (.int .i64)) dc5)] (.s (.v .bool true)) [],
      (((List.length ([] : List (Int × Int)) : Nat) : Int) == (0 : Int)) = false,
      decide ((IntKind.wrap .i64 (((List.length xo3 : Nat) : Int) - (1 : Int))) ≥ (0 : Int)) = false,
      sizeOK (List.length xo3 + List.length ([([] : List (Int × Int))] : List (List (Int × Int))))]) (st1 := spec_obFixed_L0a x4 x21 x22 (IntKind.wrap .i64 (x23 + (1 : Int))) (xo3 ++ ([([] : List (Int × Int))] : List (List (Int × Int))))) (by kernel_rfl) ⟨(decide_eq_true h1), h2, h3, h4, h2, h5, h6, h7, h8, h9, h8, h10, h2, h5, (beq_f h11), h8, h2, h5, h12, h13, h14, h15, (beq_f h16), (decide_eq_false h17), h18, trivial⟩ next

theorem spec_obFixed_L0a_i17 (x4 : (List ByteArray)) (x21 : (List ByteArray)) (x22 : Int) (x23 : Int) (xo3 : (List (List (Int × Int)))) (dc1 : (Int × Int)) (dc2 : (Int × Int)) (dc3 : (Int × Int)) (dc4 : (Int × Int)) (dc5 : (Int × Int))
    (h1 : x23 < x22)
    (h2 : 0 ≤ x23)
    (h3 : x23 < (List.length x21 : Int))
    (h4 : SC cfg.P i_spec_mpOf [.s (.v .str (List.getD x21 (x23).toNat (⟨#[]⟩ : ByteArray)))] (.s (.v (.pr (.int .i64) (.int .i64)) dc1)) [])
    (h5 : x23 < (List.length x4 : Int))
    (h6 : SC cfg.P i_spec_mpOf [.s (.v .str (List.getD x4 (x23).toNat (⟨#[]⟩ : ByteArray)))] (.s (.v (.pr (.int .i64) (.int .i64)) dc2)) [])
    (h7 : SC cfg.P i_spec_obRatio [.s (.v (.int .i64) dc1.1), .s (.v (.int .i64) dc1.2)] (.s (.v (.pr (.int .i64) (.int .i64)) dc3)) [])
    (h8 : 0 ≤ (((List.getD x21 (x23).toNat (⟨#[]⟩ : ByteArray))).size : Int))
    (h9 : dc1.2 ≠ 0)
    (h10 : SC cfg.P i_spec_obRatio [.s (.v (.int .i64) (IntKind.wrap .i64 ((IntKind.wrap .i64 (dc1.1 * (IntKind.wrap .i64 (Int.tdiv (IntKind.wrap .i64 ((1 : Int) * 2 ^ (min ((((List.getD x21 (x23).toNat (⟨#[]⟩ : ByteArray))).size : Int)).toNat (IntKind.bits .i64)))) dc1.2)))) + (1 : Int)))), .s (.v (.int .i64) (IntKind.wrap .i64 ((1 : Int) * 2 ^ (min ((((List.getD x21 (x23).toNat (⟨#[]⟩ : ByteArray))).size : Int)).toNat (IntKind.bits .i64)))))] (.s (.v (.pr (.int .i64) (.int .i64)) dc4)) [])
    (h11 : (((List.getD x21 (x23).toNat (⟨#[]⟩ : ByteArray))).size : Int) ≠ (((List.getD x4 (x23).toNat (⟨#[]⟩ : ByteArray))).size : Int))
    (h12 : 0 ≤ (((List.getD x4 (x23).toNat (⟨#[]⟩ : ByteArray))).size : Int))
    (h13 : SC cfg.P i_spec_obRatio [.s (.v (.int .i64) (IntKind.wrap .i64 ((IntKind.wrap .i64 ((IntKind.wrap .i64 ((IntKind.wrap .i64 (dc1.1 * (IntKind.wrap .i64 ((1 : Int) * 2 ^ (min ((((List.getD x21 (x23).toNat (⟨#[]⟩ : ByteArray))).size : Int)).toNat (IntKind.bits .i64)))))) * dc2.2)) - (IntKind.wrap .i64 ((IntKind.wrap .i64 (dc2.1 * (IntKind.wrap .i64 ((1 : Int) * 2 ^ (min ((((List.getD x4 (x23).toNat (⟨#[]⟩ : ByteArray))).size : Int)).toNat (IntKind.bits .i64)))))) * dc1.2)))) * (1 : Int)))), .s (.v (.int .i64) (IntKind.wrap .i64 ((IntKind.wrap .i64 ((IntKind.wrap .i64 ((IntKind.wrap .i64 ((1 : Int) * 2 ^ (min ((((List.getD x21 (x23).toNat (⟨#[]⟩ : ByteArray))).size : Int)).toNat (IntKind.bits .i64)))) - (IntKind.wrap .i64 ((1 : Int) * 2 ^ (min ((((List.getD x4 (x23).toNat (⟨#[]⟩ : ByteArray))).size : Int)).toNat (IntKind.bits .i64)))))) * dc1.2)) * dc2.2)))] (.s (.v (.pr (.int .i64) (.int .i64)) dc5)) [])
    (h14 : SC cfg.P i_spec_obLess [.s (.v (.pr (.int .i64) (.int .i64)) dc5), .s (.v (.pr (.int .i64) (.int .i64)) dc3)] (.s (.v .bool false)) [])
    (h15 : SC cfg.P i_spec_obLess [.s (.v (.pr (.int .i64) (.int .i64)) dc4), .s (.v (.pr (.int .i64) (.int .i64)) dc5)] (.s (.v .bool false)) [])
    (h16 : ((List.length ([dc5, dc5] : List (Int × Int)) : Nat) : Int) = (0 : Int))
    {e : AEx} {st : St} (next : LoopSC cfg.P 1 (lb P_spec_obFixed 0) (spec_obFixed_L0a x4 x21 x22 (IntKind.wrap .i64 (x23 + (1 : Int))) xo3) e st) :
    LoopSC cfg.P 1 (lb P_spec_obFixed 0) (spec_obFixed_L0a x4 x21 x22 x23 xo3) e st :=
  loop_iter cfgOK (f := i_spec_obFixed) (its := [.bool true, .res (.s (.v (.pr (.int .i64) (.int .i64)) dc1)) [] [] [], .res (.s (.v (.pr (.int .i64) (.int .i64)) dc2)) [] [] [], .res (.s (.v (.pr (.int .i64) (.int .i64)) dc3)) [] [] [], .res (.s (.v (.pr (.int .i64) (.int .i64)) dc4)) [] [] [], .bool false, .res (.s (.v (.pr (.int .i64) (.int .i64)) dc5)) [] [] [], .res (.s (.v .bool false)) [] [] [], .res (.s (.v .bool false)) [] [] [], .bool true])
    (ps := [decide (x23 < x22) = true,
      0 ≤ x23,
      x23 < (List.length x21 : Int),
      SC cfg.P i_spec_mpOf [.s (.v .str (List.getD x21 (x23).toNat (⟨#[]⟩ : ByteArray)))] (.s (.v (.pr (.int .i64) (.int .i64)) dc1)) [],
      0 ≤ x23,
      x23 < (List.length x4 : Int),
      SC cfg.P i_spec_mpOf [.s (.v .str (List.getD x4 (x23).toNat (⟨#[]⟩ : ByteArray)))] (.s (.v (.pr (.int .i64) (.int .i64)) dc2)) [],
      SC cfg.P i_spec_obRatio [.s (.v (.int .i64) dc1.1), .s (.v (.int .i64) dc1.2)] (.s (.v (.pr (.int .i64) (.int .i64)) dc3)) [],
      0 ≤ (((List.getD x21 (x23).toNat (⟨#[]⟩ : ByteArray))).size : Int),
      dc1.2 ≠ 0,
      0 ≤ (((List.getD x21 (x23).toNat (⟨#[]⟩ : ByteArray))).size : Int),
      SC cfg.P i_spec_obRatio [.s (.v (.int .i64) (IntKind.wrap .i64 ((IntKind.wrap .i64 (dc1.1 * (IntKind.wrap .i64 (Int.tdiv (IntKind.wrap .i64 ((1 : Int) * 2 ^ (min ((((List.getD x21 (x23).toNat (⟨#[]⟩ : ByteArray))).size : Int)).toNat (IntKind.bits .i64)))) dc1.2)))) + (1 : Int)))), .s (.v (.int .i64) (IntKind.wrap .i64 ((1 : Int) * 2 ^ (min ((((List.getD x21 (x23).toNat (⟨#[]⟩ : ByteArray))).size : Int)).toNat (IntKind.bits .i64)))))] (.s (.v (.pr (.int .i64) (.int .i64)) dc4)) [],
      0 ≤ x23,
      x23 < (List.length x4 : Int),
      ((((List.getD x21 (x23).toNat (⟨#[]⟩ : ByteArray))).size : Int) == (((List.getD x4 (x23).toNat (⟨#[]⟩ : ByteArray))).size : Int)) = false,
      0 ≤ (((List.getD x21 (x23).toNat (⟨#[]⟩ : ByteArray))).size : Int),
      0 ≤ x23,
      x23 < (List.length x4 : Int),
      0 ≤ (((List.getD x4 (x23).toNat (⟨#[]⟩ : ByteArray))).size : Int),
      SC cfg.P i_spec_obRatio [.s (.v (.int .i64) (IntKind.wrap .i64 ((IntKind.wrap .i64 ((IntKind.wrap .i64 ((IntKind.wrap .i64 (dc1.1 * (IntKind.wrap .i64 ((1 : Int) * 2 ^ (min ((((List.getD x21 (x23).toNat (⟨#[]⟩ : ByteArray))).size : Int)).toNat (IntKind.bits .i64)))))) * dc2.2)) - (IntKind.wrap .i64 ((IntKind.wrap .i64 (dc2.1 * (IntKind.wrap .i64 ((1 : Int) * 2 ^ (min ((((List.getD x4 (x23).toNat (⟨#[]⟩ : ByteArray))).size : Int)).toNat (IntKind.bits .i64)))))) * dc1.2)))) * (1 : Int)))), .s (.v (.int .i64) (IntKind.wrap .i64 ((IntKind.wrap .i64 ((IntKind.wrap .i64 ((IntKind.wrap .i64 ((1 : Int) * 2 ^ (min ((((List.getD x21 (x23).toNat (⟨#[]⟩ : ByteArray))).size : Int)).toNat (IntKind.bits .i64)))) - (IntKind.wrap .i64 ((1 : Int) * 2 ^ (min ((((List.getD x4 (x23).toNat (⟨#[]⟩ : ByteArray))).size : Int)).toNat (IntKind.bits .i64)))))) * dc1.2)) * dc2.2)))] (.s (.v (.pr (.int .i64) (.int .i64)) dc5)) [],
      SC cfg.P i_spec_obLess [.s (.v (.pr (.int .i64) (.int .i64)) dc5), .s (.v (.pr (.int .i64) (.int .i64)) dc3)] (.s (.v .bool false)) [],
      SC cfg.P i_spec_obLess [.s (.v (.pr (.int .i64) (.int .i64)) dc4), .s (.v (.pr (.int .i64) (.int .i64)) dc5)] (.s (.v .bool false)) [],
      (((List.length ([dc5, dc5] : List (Int × Int)) : Nat) : Int) == (0 : Int)) = true]) (st1 := spec_obFixed_L0a x4 x21 x22 (IntKind.wrap .i64 (x23 + (1 : Int))) xo3) (by kernel_rfl) ⟨(decide_eq_true h1), h2, h3, h4, h2, h5, h6, h7, h8, h9, h8, h10, h2, h5, (beq_f h11), h8, h2, h5, h12, h13, h14, h15, (beq_t h16), trivial⟩ next

theorem spec_obFixed_L0a_i18 (x4 : (List ByteArray)) (x21 : (List ByteArray)) (x22 : Int) (x23 : Int) (xo3 : (List (List (Int × Int)))) (dc1 : (Int × Int)) (dc2 : (Int × Int)) (dc3 : (Int × Int)) (dc4 : (Int × Int)) (dc5 : (Int × Int))
    (h1 : x23 < x22)
    (h2 : 0 ≤ x23)
    (h3 : x23 < (List.length x21 : Int))
    (h4 : SC cfg.P i_spec_mpOf [.s (.v .str (List.getD x21 (x23).toNat (⟨#[]⟩ : ByteArray)))] (.s (.v (.pr (.int .i64) (.int .i64)) dc1)) [])
    (h5 : x23 < (List.length x4 : Int))
    (h6 : SC cfg.P i_spec_mpOf [.s (.v .str (List.getD x4 (x23).toNat (⟨#[]⟩ : ByteArray)))] (.s (.v (.pr (.int .i64) (.int .i64)) dc2)) [])
    (h7 : SC cfg.P i_spec_obRatio [.s (.v (.int .i64) dc1.1), .s (.v (.int .i64) dc1.2)] (.s (.v (.pr (.int .i64) (.int .i64)) dc3)) [])
    (h8 : 0 ≤ (((List.getD x21 (x23).toNat (⟨#[]⟩ : ByteArray))).size : Int))
    (h9 : dc1.2 ≠ 0)
    (h10 : SC cfg.P i_spec_obRatio [.s (.v (.int .i64) (IntKind.wrap .i64 ((IntKind.wrap .i64 (dc1.1 * (IntKind.wrap .i64 (Int.tdiv (IntKind.wrap .i64 ((1 : Int) * 2 ^ (min ((((List.getD x21 (x23).toNat (⟨#[]⟩ : ByteArray))).size : Int)).toNat (IntKind.bits .i64)))) dc1.2)))) + (1 : Int)))), .s (.v (.int .i64) (IntKind.wrap .i64 ((1 : Int) * 2 ^ (min ((((List.getD x21 (x23).toNat (⟨#[]⟩ : ByteArray))).size : Int)).toNat (IntKind.bits .i64)))))] (.s (.v (.pr (.int .i64) (.int .i64)) dc4)) [])
    (h11 : (((List.getD x21 (x23).toNat (⟨#[]⟩ : ByteArray))).size : Int) ≠ (((List.getD x4 (x23).toNat (⟨#[]⟩ : ByteArray))).size : Int))
    (h12 : 0 ≤ (((List.getD x4 (x23).toNat (⟨#[]⟩ : ByteArray))).size : Int))
    (h13 : SC cfg.P i_spec_obRatio [.s (.v (.int .i64) (IntKind.wrap .i64 ((IntKind.wrap .i64 ((IntKind.wrap .i64 ((IntKind.wrap .i64 (dc1.1 * (IntKind.wrap .i64 ((1 : Int) * 2 ^ (min ((((List.getD x21 (x23).toNat (⟨#[]⟩ : ByteArray))).size : Int)).toNat (IntKind.bits .i64)))))) * dc2.2)) - (IntKind.wrap .i64 ((IntKind.wrap .i64 (dc2.1 * (IntKind.wrap .i64 ((1 : Int) * 2 ^ (min ((((List.getD x4 (x23).toNat (⟨#[]⟩ : ByteArray))).size : Int)).toNat (IntKind.bits .i64)))))) * dc1.2)))) * (1 : Int)))), .s (.v (.int .i64) (IntKind.wrap .i64 ((IntKind.wrap .i64 ((IntKind.wrap .i64 ((IntKind.wrap .i64 ((1 : Int) * 2 ^ (min ((((List.getD x21 (x23).toNat (⟨#[]⟩ : ByteArray))).size : Int)).toNat (IntKind.bits .i64)))) - (IntKind.wrap .i64 ((1 : Int) * 2 ^ (min ((((List.getD x4 (x23).toNat (⟨#[]⟩ : ByteArray))).size : Int)).toNat (IntKind.bits .i64)))))) * dc1.2)) * dc2.2)))] (.s (.v (.pr (.int .i64) (.int .i64)) dc5)) [])
    (h14 : SC cfg.P i_spec_obLess [.s (.v (.pr (.int .i64) (.int .i64)) dc5), .s (.v (.pr (.int .i64) (.int .i64)) dc3)] (.s (.v .bool false)) [])
    (h15 : SC cfg.P i_spec_obLess [.s (.v (.pr (.int .i64) (.int .i64)) dc4), .s (.v (.pr (.int .i64) (.int .i64)) dc5)] (.s (.v .bool false)) [])
    (h16 : ((List.length ([dc5, dc5] : List (Int × Int)) : Nat) : Int) ≠ (0 : Int))
    (h17 : (IntKind.wrap .i64 (((List.length xo3 : Nat) : Int) - (1 : Int))) ≥ (0 : Int))
    (h18 : 0 ≤ (IntKind.wrap .i64 (((List.length xo3 : Nat) : Int) - (1 : Int))))
    (h19 : (IntKind.wrap .i64 (((List.length xo3 : Nat) : Int) - (1 : Int))) < (List.length xo3 : Int))
    (h20 : ((IntKind.wrap .i64 (((List.length xo3 : Nat) : Int) - (1 : Int)))).toNat < List.length xo3)
    (h21 : (1 : Int) < (List.length (List.getD xo3 ((IntKind.wrap .i64 (((List.length xo3 : Nat) : Int) - (1 : Int)))).toNat ([] : List (Int × Int))) : Int))
    (h22 : (0 : Int) < (List.length ([dc5, dc5] : List (Int × Int)) : Int))
    (h23 : ((0 : Int)).toNat < List.length ([dc5, dc5] : List (Int × Int)))
    (h24 : (((List.getD (List.getD xo3 ((IntKind.wrap .i64 (((List.length xo3 : Nat) : Int) - (1 : Int)))).toNat ([] : List (Int × Int))) ((1 : Int)).toNat ((0 : Int), (0 : Int))).1 == (List.getD ([dc5, dc5] : List (Int × Int)) ((0 : Int)).toNat ((0 : Int), (0 : Int))).1) && ((List.getD (List.getD xo3 ((IntKind.wrap .i64 (((List.length xo3 : Nat) : Int) - (1 : Int)))).toNat ([] : List (Int × Int))) ((1 : Int)).toNat ((0 : Int), (0 : Int))).2 == (List.getD ([dc5, dc5] : List (Int × Int)) ((0 : Int)).toNat ((0 : Int), (0 : Int))).2)) = true)
    (h25 : (0 : Int) < (List.length (List.getD xo3 ((IntKind.wrap .i64 (((List.length xo3 : Nat) : Int) - (1 : Int)))).toNat ([] : List (Int × Int))) : Int))
    (h26 : (1 : Int) < (List.length ([dc5, dc5] : List (Int × Int)) : Int))
    (h27 : ((1 : Int)).toNat < List.length ([dc5, dc5] : List (Int × Int)))
    {e : AEx} {st : St} (next : LoopSC cfg.P 1 (lb P_spec_obFixed 0) (spec_obFixed_L0a x4 x21 x22 (IntKind.wrap .i64 (x23 + (1 : Int))) (List.set xo3 ((IntKind.wrap .i64 (((List.length xo3 : Nat) : Int) - (1 : Int)))).toNat ([(List.getD (List.getD xo3 ((IntKind.wrap .i64 (((List.length xo3 : Nat) : Int) - (1 : Int)))).toNat ([] : List (Int × Int))) ((0 : Int)).toNat ((0 : Int), (0 : Int))), (List.getD ([dc5, dc5] : List (Int × Int)) ((1 : Int)).toNat ((0 : Int), (0 : Int)))] : List (Int × Int)))) e st) :
    LoopSC cfg.P 1 (lb P_spec_obFixed 0) (spec_obFixed_L0a x4 x21 x22 x23 xo3) e st :=
  loop_iter cfgOK (f := i_spec_obFixed) (its := [.bool true, .res (.s (.v (.pr (.int .i64) (.int .i64)) dc1)) [] [] [], .res (.s (.v (.pr (.int .i64) (.int .i64)) dc2)) [] [] [], .res (.s (.v (.pr (.int .i64) (.int .i64)) dc3)) [] [] [], .res (.s (.v (.pr (.int .i64) (.int .i64)) dc4)) [] [] [], .bool false, .res (.s (.v (.pr (.int .i64) (.int .i64)) dc5)) [] [] [], .res (.s (.v .bool false)) [] [] [], .res (.s (.v .bool false)) [] [] [], .bool false, .bool true, .bool true])
    (ps := [decide (x23 < x22) = true,
      0 ≤ x23,
      x23 < (List.length x21 : Int),
      SC cfg.P i_spec_mpOf [.s (.v .str (List.getD x21 (x23).toNat (⟨#[]⟩ : ByteArray)))] (.s (.v (.pr (.int .i64) (.int .i64)) dc1)) [],
      0 ≤ x23,
      x23 < (List.length x4 : Int),
      SC cfg.P i_spec_mpOf [.s (.v .str (List.getD x4 (x23).toNat (⟨#[]⟩ : ByteArray)))] (.s (.v (.pr (.int .i64) (.int .i64)) dc2)) [],
      SC cfg.P i_spec_obRatio [.s (.v (.int .i64) dc1.1), .s (.v (.int .i64) dc1.2)] (.s (.v (.pr (.int .i64) (.int .i64)) dc3)) [],
      0 ≤ (((List.getD x21 (x23).toNat (⟨#[]⟩ : ByteArray))).size : Int),
      dc1.2 ≠ 0,
      0 ≤ (((List.getD x21 (x23).toNat (⟨#[]⟩ : ByteArray))).size : Int),
      SC cfg.P i_spec_obRatio [.s (.v (.int .i64) (IntKind.wrap .i64 ((IntKind.wrap .i64 (dc1.1 * (IntKind.wrap .i64 (Int.tdiv (IntKind.wrap .i64 ((1 : Int) * 2 ^ (min ((((List.getD x21 (x23).toNat (⟨#[]⟩ : ByteArray))).size : Int)).toNat (IntKind.bits .i64)))) dc1.2)))) + (1 : Int)))), .s (.v (.int .i64) (IntKind.wrap .i64 ((1 : Int) * 2 ^ (min ((((List.getD x21 (x23).toNat (⟨#[]⟩ : ByteArray))).size : Int)).toNat (IntKind.bits .i64)))))] (.s (.v (.pr (.int .i64) (.int .i64)) dc4)) [],
      0 ≤ x23,
      x23 < (List.length x4 : Int),
      ((((List.getD x21 (x23).toNat (⟨#[]⟩ : ByteArray))).size : Int) == (((List.getD x4 (x23).toNat (⟨#[]⟩ : ByteArray))).size : Int)) = false,
      0 ≤ (((List.getD x21 (x23).toNat (⟨#[]⟩ : ByteArray))).size : Int),
      0 ≤ x23,
      x23 < (List.length x4 : Int),
      0 ≤ (((List.getD x4 (x23).toNat (⟨#[]⟩ : ByteArray))).size : Int),
      SC cfg.P i_spec_obRatio [.s (.v (.int .i64) (IntKind.wrap .i64 ((IntKind.wrap .i64 ((IntKind.wrap .i64 ((IntKind.wrap .i64 (dc1.1 * (IntKind.wrap .i64 ((1 : Int) * 2 ^ (min ((((List.getD x21 (x23).toNat (⟨#[]⟩ : ByteArray))).size : Int)).toNat (IntKind.bits .i64)))))) * dc2.2)) - (IntKind.wrap .i64 ((IntKind.wrap .i64 (dc2.1 * (IntKind.wrap .i64 ((1 : Int) * 2 ^ (min ((((List.getD x4 (x23).toNat (⟨#[]⟩ : ByteArray))).size : Int)).toNat (IntKind.bits .i64)))))) * dc1.2)))) * (1 : Int)))), .s (.v (.int .i64) (IntKind.wrap .i64 ((IntKind.wrap .i64 ((IntKind.wrap .i64 ((IntKind.wrap .i64 ((1 : Int) * 2 ^ (min ((((List.getD x21 (x23).toNat (⟨#[]⟩ : ByteArray))).size : Int)).toNat (IntKind.bits .i64)))) - (IntKind.wrap .i64 ((1 : Int) * 2 ^ (min ((((List.getD x4 (x23).toNat (⟨#[]⟩ : ByteArray))).size : Int)).toNat (IntKind.bits .i64)))))) * dc1.2)) * dc2.2)))] (.s (.v (.pr (.int .i64) (.int .i64)) dc5)) [],
      SC cfg.P i_spec_obLess [.s (.v (.pr (.int .i64) (.int .i64)) dc5), .s (.v (.pr (.int .i64) (.int .i64)) dc3)] (.s (.v .bool false)) [],
      SC cfg.P i_spec_obLess [.s (.v (.pr (.int .i64) (.int .i64)) dc4), .s (.v (.pr (.int .i64) (.int .i64)) dc5)] (.s (.v .bool false)) [],
      (((List.length ([dc5, dc5] : List (Int × Int)) : Nat) : Int) == (0 : Int)) = false,
      decide ((IntKind.wrap .i64 (((List.length xo3 : Nat) : Int) - (1 : Int))) ≥ (0 : Int)) = true,
      0 ≤ (IntKind.wrap .i64 (((List.length xo3 : Nat) : Int) - (1 : Int))),
      (IntKind.wrap .i64 (((List.length xo3 : Nat) : Int) - (1 : Int))) < (List.length xo3 : Int),
      ((IntKind.wrap .i64 (((List.length xo3 : Nat) : Int) - (1 : Int)))).toNat < List.length xo3,
      0 ≤ (1 : Int),
      (1 : Int) < (List.length (List.getD xo3 ((IntKind.wrap .i64 (((List.length xo3 : Nat) : Int) - (1 : Int)))).toNat ([] : List (Int × Int))) : Int),
      0 ≤ (0 : Int),
      (0 : Int) < (List.length ([dc5, dc5] : List (Int × Int)) : Int),
      ((0 : Int)).toNat < List.length ([dc5, dc5] : List (Int × Int)),
      (((List.getD (List.getD xo3 ((IntKind.wrap .i64 (((List.length xo3 : Nat) : Int) - (1 : Int)))).toNat ([] : List (Int × Int))) ((1 : Int)).toNat ((0 : Int), (0 : Int))).1 == (List.getD ([dc5, dc5] : List (Int × Int)) ((0 : Int)).toNat ((0 : Int), (0 : Int))).1) && ((List.getD (List.getD xo3 ((IntKind.wrap .i64 (((List.length xo3 : Nat) : Int) - (1 : Int)))).toNat ([] : List (Int × Int))) ((1 : Int)).toNat ((0 : Int), (0 : Int))).2 == (List.getD ([dc5, dc5] : List (Int × Int)) ((0 : Int)).toNat ((0 : Int), (0 : Int))).2)) = true,
      0 ≤ (IntKind.wrap .i64 (((List.length xo3 : Nat) : Int) - (1 : Int))),
      (IntKind.wrap .i64 (((List.length xo3 : Nat) : Int) - (1 : Int))) < (List.length xo3 : Int),
      ((IntKind.wrap .i64 (((List.length xo3 : Nat) : Int) - (1 : Int)))).toNat < List.length xo3,
      0 ≤ (0 : Int),
      (0 : Int) < (List.length (List.getD xo3 ((IntKind.wrap .i64 (((List.length xo3 : Nat) : Int) - (1 : Int)))).toNat ([] : List (Int × Int))) : Int),
      0 ≤ (1 : Int),
      (1 : Int) < (List.length ([dc5, dc5] : List (Int × Int)) : Int),
      ((1 : Int)).toNat < List.length ([dc5, dc5] : List (Int × Int)),
      0 ≤ (IntKind.wrap .i64 (((List.length xo3 : Nat) : Int) - (1 : Int))),
      (IntKind.wrap .i64 (((List.length xo3 : Nat) : Int) - (1 : Int))) < (List.length xo3 : Int),
      ((IntKind.wrap .i64 (((List.length xo3 : Nat) : Int) - (1 : Int)))).toNat < List.length xo3]) (st1 := spec_obFixed_L0a x4 x21 x22 (IntKind.wrap .i64 (x23 + (1 : Int))) (List.set xo3 ((IntKind.wrap .i64 (((List.length xo3 : Nat) : Int) - (1 : Int)))).toNat ([(List.getD (List.getD xo3 ((IntKind.wrap .i64 (((List.length xo3 : Nat) : Int) - (1 : Int)))).toNat ([] : List (Int × Int))) ((0 : Int)).toNat ((0 : Int), (0 : Int))), (List.getD ([dc5, dc5] : List (Int × Int)) ((1 : Int)).toNat ((0 : Int), (0 : Int)))] : List (Int × Int)))) (by kernel_rfl) ⟨(decide_eq_true h1), h2, h3, h4, h2, h5, h6, h7, h8, h9, h8, h10, h2, h5, (beq_f h11), h8, h2, h5, h12, h13, h14, h15, (beq_f h16), (decide_eq_true h17), h18, h19, h20, (by decide), h21, (by decide), h22, h23, h24, h18, h19, h20, (by decide), h25, (by decide), h26, h27, h18, h19, h20, trivial⟩ next

theorem spec_obFixed_L0a_i19 (x4 : (List ByteArray)) (x21 : (List ByteArray)) (x22 : Int) (x23 : Int) (xo3 : (List (List (Int × Int)))) (dc1 : (Int × Int)) (dc2 : (Int × Int)) (dc3 : (Int × Int)) (dc4 : (Int × Int)) (dc5 : (Int × Int))
    (h1 : x23 < x22)
    (h2 : 0 ≤ x23)
    (h3 : x23 < (List.length x21 : Int))
    (h4 : SC cfg.P i_spec_mpOf [.s (.v .str (List.getD x21 (x23).toNat (⟨#[]⟩ : ByteArray)))] (.s (.v (.pr (.int .i64) (.int .i64)) dc1)) [])
    (h5 : x23 < (List.length x4 : Int))
    (h6 : SC cfg.P i_spec_mpOf [.s (.v .str (List.getD x4 (x23).toNat (⟨#[]⟩ : ByteArray)))] (.s (.v (.pr (.int .i64) (.int .i64)) dc2)) [])
    (h7 : SC cfg.P i_spec_obRatio [.s (.v (.int .i64) dc1.1), .s (.v (.int .i64) dc1.2)] (.s (.v (.pr (.int .i64) (.int .i64)) dc3)) [])
    (h8 : 0 ≤ (((List.getD x21 (x23).toNat (⟨#[]⟩ : ByteArray))).size : Int))
    (h9 : dc1.2 ≠ 0)
    (h10 : SC cfg.P i_spec_obRatio [.s (.v (.int .i64) (IntKind.wrap .i64 ((IntKind.wrap .i64 (dc1.1 * (IntKind.wrap .i64 (Int.tdiv (IntKind.wrap .i64 ((1 : Int) * 2 ^ (min ((((List.getD x21 (x23).toNat (⟨#[]⟩ : ByteArray))).size : Int)).toNat (IntKind.bits .i64)))) dc1.2)))) + (1 : Int)))), .s (.v (.int .i64) (IntKind.wrap .i64 ((1 : Int) * 2 ^ (min ((((List.getD x21 (x23).toNat (⟨#[]⟩ : ByteArray))).size : Int)).toNat (IntKind.bits .i64)))))] (.s (.v (.pr (.int .i64) (.int .i64)) dc4)) [])
    (h11 : (((List.getD x21 (x23).toNat (⟨#[]⟩ : ByteArray))).size : Int) ≠ (((List.getD x4 (x23).toNat (⟨#[]⟩ : ByteArray))).size : Int))
    (h12 : 0 ≤ (((List.getD x4 (x23).toNat (⟨#[]⟩ : ByteArray))).size : Int))
    (h13 : SC cfg.P i_spec_obRatio [.s (.v (.int .i64) (IntKind.wrap .i64 ((IntKind.wrap .i64 ((IntKind.wrap .i64 ((IntKind.wrap .i64 (dc1.1 * (IntKind.wrap .i64 ((1 : Int) * 2 ^ (min ((((List.getD x21 (x23).toNat (⟨#[]⟩ : ByteArray))).size : Int)).toNat (IntKind.bits .i64)))))) * dc2.2)) - (IntKind.wrap .i64 ((IntKind.wrap .i64 (dc2.1 * (IntKind.wrap .i64 ((1 : Int) * 2 ^ (min ((((List.getD x4 (x23).toNat (⟨#[]⟩ : ByteArray))).size : Int)).toNat (IntKind.bits .i64)))))) * dc1.2)))) * (1 : Int)))), .s (.v (.int .i64) (IntKind.wrap .i64 ((IntKind.wrap .i64 ((IntKind.wrap .i64 ((IntKind.wrap .i64 ((1 : Int) * 2 ^ (min ((((List.getD x21 (x23).toNat (⟨#[]⟩ : ByteArray))).size : Int)).toNat (IntKind.bits .i64)))) - (IntKind.wrap .i64 ((1 : Int) * 2 ^ (min ((((List.getD x4 (x23).toNat (⟨#[]⟩ : ByteArray))).size : Int)).toNat (IntKind.bits .i64)))))) * dc1.2)) * dc2.2)))] (.s (.v (.pr (.int .i64) (.int .i64)) dc5)) [])
    (h14 : SC cfg.P i_spec_obLess [.s (.v (.pr (.int .i64) (.int .i64)) dc5), .s (.v (.pr (.int .i64) (.int .i64)) dc3)] (.s (.v .bool false)) [])
    (h15 : SC cfg.P i_spec_obLess [.s (.v (.pr (.int .i64) (.int .i64)) dc4), .s (.v (.pr (.int .i64) (.int .i64)) dc5)] (.s (.v .bool false)) [])
    (h16 : ((List.length ([dc5, dc5] : List (Int × Int)) : Nat) : Int) ≠ (0 : Int))
    (h17 : (IntKind.wrap .i64 (((List.length xo3 : Nat) : Int) - (1 : Int))) ≥ (0 : Int))
    (h18 : 0 ≤ (IntKind.wrap .i64 (((List.length xo3 : Nat) : Int) - (1 : Int))))
    (h19 : (IntKind.wrap .i64 (((List.length xo3 : Nat) : Int) - (1 : Int))) < (List.length xo3 : Int))
    (h20 : ((IntKind.wrap .i64 (((List.length xo3 : Nat) : Int) - (1 : Int)))).toNat < List.length xo3)
    (h21 : (1 : Int) < (List.length (List.getD xo3 ((IntKind.wrap .i64 (((List.length xo3 : Nat) : Int) - (1 : Int)))).toNat ([] : List (Int × Int))) : Int))
    (h22 : (0 : Int) < (List.length ([dc5, dc5] : List (Int × Int)) : Int))
    (h23 : ((0 : Int)).toNat < List.length ([dc5, dc5] : List (Int × Int)))
    (h24 : (((List.getD (List.getD xo3 ((IntKind.wrap .i64 (((List.length xo3 : Nat) : Int) - (1 : Int)))).toNat ([] : List (Int × Int))) ((1 : Int)).toNat ((0 : Int), (0 : Int))).1 == (List.getD ([dc5, dc5] : List (Int × Int)) ((0 : Int)).toNat ((0 : Int), (0 : Int))).1) && ((List.getD (List.getD xo3 ((IntKind.wrap .i64 (((List.length xo3 : Nat) : Int) - (1 : Int)))).toNat ([] : List (Int × Int))) ((1 : Int)).toNat ((0 : Int), (0 : Int))).2 == (List.getD ([dc5, dc5] : List (Int × Int)) ((0 : Int)).toNat ((0 : Int), (0 : Int))).2)) = false)
    (h25 : sizeOK (List.length xo3 + List.length ([([dc5, dc5] : List (Int × Int))] : List (List (Int × Int)))))
    {e : AEx} {st : St} (next : LoopSC cfg.P 1 (lb P_spec_obFixed 0) (spec_obFixed_L0a x4 x21 x22 (IntKind.wrap .i64 (x23 + (1 : Int))) (xo3 ++ ([([dc5, dc5] : List (Int × Int))] : List (List (Int × Int))))) e st) :
    LoopSC cfg.P 1 (lb P_spec_obFixed 0) (spec_obFixed_L0a x4 x21 x22 x23 xo3) e st :=
  loop_iter cfgOK (f := i_spec_obFixed) (its := [.bool true, .res (.s (.v (.pr (.int .i64) (.int .i64)) dc1)) [] [] [], .res (.s (.v (.pr (.int .i64) (.int .i64)) dc2)) [] [] [], .res (.s (.v (.pr (.int .i64) (.int .i64)) dc3)) [] [] [], .res (.s (.v (.pr (.int .i64) (.int .i64)) dc4)) [] [] [], .bool false, .res (.s (.v (.pr (.int .i64) (.int .i64)) dc5)) [] [] [], .res (.s (.v .bool false)) [] [] [], .res (.s (.v .bool false)) [] [] [], .bool false, .bool true, .bool false])
    (ps := [decide (x23 < x22) = true,
      0 ≤ x23,
      x23 < (List.length x21 : Int),
      SC cfg.P i_spec_mpOf [.s (.v .str (List.getD x21 (x23).toNat (⟨#[]⟩ : ByteArray)))] (.s (.v (.pr (.int .i64) (.int .i64)) dc1)) [],
      0 ≤ x23,
      x23 < (List.length x4 : Int),
      SC cfg.P i_spec_mpOf [.s (.v .str (List.getD x4 (x23).toNat (⟨#[]⟩ : ByteArray)))] (.s (.v (.pr (.int .i64) (.int .i64)) dc2)) [],
      SC cfg.P i_spec_obRatio [.s (.v (.int .i64) dc1.1), .s (.v (.int .i64) dc1.2)] (.s (.v (.pr (.int .i64) (.int .i64)) dc3)) [],
      0 ≤ (((List.getD x21 (x23).toNat (⟨#[]⟩ : ByteArray))).size : Int),
      dc1.2 ≠ 0,
      0 ≤ (((List.getD x21 (x23).toNat (⟨#[]⟩ : ByteArray))).size : Int),
      SC cfg.P i_spec_obRatio [.s (.v (.int .i64) (IntKind.wrap .i64 ((IntKind.wrap .i64 (dc1.1 * (IntKind.wrap .i64 (Int.tdiv (IntKind.wrap .i64 ((1 : Int) * 2 ^ (min ((((List.getD x21 (x23).toNat (⟨#[]⟩ : ByteArray))).size : Int)).toNat (IntKind.bits .i64)))) dc1.2)))) + (1 : Int)))), .s (.v (.int .i64) (IntKind.wrap .i64 ((1 : Int) * 2 ^ (min ((((List.getD x21 (x23).toNat (⟨#[]⟩ : ByteArray))).size : Int)).toNat (IntKind.bits .i64)))))] (.s (.v (.pr (.int .i64) (.int .i64)) dc4)) [],
      0 ≤ x23,
      x23 < (List.length x4 : Int),
      ((((List.getD x21 (x23).toNat (⟨#[]⟩ : ByteArray))).size : Int) == (((List.getD x4 (x23).toNat (⟨#[]⟩ : ByteArray))).size : Int)) = false,
      0 ≤ (((List.getD x21 (x23).toNat (⟨#[]⟩ : ByteArray))).size : Int),
      0 ≤ x23,
      x23 < (List.length x4 : Int),
      0 ≤ (((List.getD x4 (x23).toNat (⟨#[]⟩ : ByteArray))).size : Int),
      SC cfg.P i_spec_obRatio [.s (.v (.int .i64) (IntKind.wrap .i64 ((IntKind.wrap .i64 ((IntKind.wrap .i64 ((IntKind.wrap .i64 (dc1.1 * (IntKind.wrap .i64 ((1 : Int) * 2 ^ (min ((((List.getD x21 (x23).toNat (⟨#[]⟩ : ByteArray))).size : Int)).toNat (IntKind.bits .i64)))))) * dc2.2)) - (IntKind.wrap .i64 ((IntKind.wrap .i64 (dc2.1 * (IntKind.wrap .i64 ((1 : Int) * 2 ^ (min ((((List.getD x4 (x23).toNat (⟨#[]⟩ : ByteArray))).size : Int)).toNat (IntKind.bits .i64)))))) * dc1.2)))) * (1 : Int)))), .s (.v (.int .i64) (IntKind.wrap .i64 ((IntKind.wrap .i64 ((IntKind.wrap .i64 ((IntKind.wrap .i64 ((1 : Int) * 2 ^ (min ((((List.getD x21 (x23).toNat (⟨#[]⟩ : ByteArray))).size : Int)).toNat (IntKind.bits .i64)))) - (IntKind.wrap .i64 ((1 : Int) * 2 ^ (min ((((List.getD x4 (x23).toNat (⟨#[]⟩ : ByteArray))).size : Int)).toNat (IntKind.bits .i64)))))) * dc1.2)) * dc2.2)))] (.s (.v (.pr (.int .i64) (.int .i64)) dc5)) [],
      SC cfg.P i_spec_obLess [.s (.v (.pr (.int .i64) (.int .i64)) dc5), .s (.v (.pr (.int .i64) (.int .i64)) dc3)] (.s (.v .bool false)) [],
      SC cfg.P i_spec_obLess [.s (.v (.pr (.int .i64) (.int .i64)) dc4), .s (.v (.pr (.int .i64) (.int .i64)) dc5)] (.s (.v .bool false)) [],
      (((List.length ([dc5, dc5] : List (Int × Int)) : Nat) : Int) == (0 : Int)) = false,
      decide ((IntKind.wrap .i64 (((List.length xo3 : Nat) : Int) - (1 : Int))) ≥ (0 : Int)) = true,
      0 ≤ (IntKind.wrap .i64 (((List.length xo3 : Nat) : Int) - (1 : Int))),
      (IntKind.wrap .i64 (((List.length xo3 : Nat) : Int) - (1 : Int))) < (List.length xo3 : Int),
      ((IntKind.wrap .i64 (((List.length xo3 : Nat) : Int) - (1 : Int)))).toNat < List.length xo3,
      0 ≤ (1 : Int),
      (1 : Int) < (List.length (List.getD xo3 ((IntKind.wrap .i64 (((List.length xo3 : Nat) : Int) - (1 : Int)))).toNat ([] : List (Int × Int))) : Int),
      0 ≤ (0 : Int),
      (0 : Int) < (List.length ([dc5, dc5] : List (Int × Int)) : Int),
      ((0 : Int)).toNat < List.length ([dc5, dc5] : List (Int × Int)),
      (((List.getD (List.getD xo3 ((IntKind.wrap .i64 (((List.length xo3 : Nat) : Int) - (1 : Int)))).toNat ([] : List (Int × Int))) ((1 : Int)).toNat ((0 : Int), (0 : Int))).1 == (List.getD ([dc5, dc5] : List (Int × Int)) ((0 : Int)).toNat ((0 : Int), (0 : Int))).1) && ((List.getD (List.getD xo3 ((IntKind.wrap .i64 (((List.length xo3 : Nat) : Int) - (1 : Int)))).toNat ([] : List (Int × Int))) ((1 : Int)).toNat ((0 : Int), (0 : Int))).2 == (List.getD ([dc5, dc5] : List (Int × Int)) ((0 : Int)).toNat ((0 : Int), (0 : Int))).2)) = false,
      sizeOK (List.length xo3 + List.length ([([dc5, dc5] : List (Int × Int))] : List (List (Int × Int))))]) (st1 := spec_obFixed_L0a x4 x21 x22 (IntKind.wrap .i64 (x23 + (1 : Int))) (xo3 ++ ([([dc5, dc5] : List (Int × Int))] : List (List (Int × Int))))) (by kernel_rfl) ⟨(decide_eq_true h1), h2, h3, h4, h2, h5, h6, h7, h8, h9, h8, h10, h2, h5, (beq_f h11), h8, h2, h5, h12, h13, h14, h15, (beq_f h16), (decide_eq_true h17), h18, h19, h20, (by decide), h21, (by decide), h22, h23, h24, h25, trivial⟩ next

theorem spec_obFixed_L0a_i20 (x4 : (List ByteArray)) (x21 : (List ByteArray)) (x22 : Int) (x23 : Int) (xo3 : (List (List (Int × Int)))) (dc1 : (Int × Int)) (dc2 : (Int × Int)) (dc3 : (Int × Int)) (dc4 : (Int × Int)) (dc5 : (Int × Int))
    (h1 : x23 < x22)
    (h2 : 0 ≤ x23)
    (h3 : x23 < (List.length x21 : Int))
    (h4 : SC cfg.P i_spec_mpOf [.s (.v .str (List.getD x21 (x23).toNat (⟨#[]⟩ : ByteArray)))] (.s (.v (.pr (.int .i64) (.int .i64)) dc1)) [])
    (h5 : x23 < (List.length x4 : Int))
    (h6 : SC cfg.P i_spec_mpOf [.s (.v .str (List.getD x4 (x23).toNat (⟨#[]⟩ : ByteArray)))] (.s (.v (.pr (.int .i64) (.int .i64)) dc2)) [])
    (h7 : SC cfg.P i_spec_obRatio [.s (.v (.int .i64) dc1.1), .s (.v (.int .i64) dc1.2)] (.s (.v (.pr (.int .i64) (.int .i64)) dc3)) [])
    (h8 : 0 ≤ (((List.getD x21 (x23).toNat (⟨#[]⟩ : ByteArray))).size : Int))
    (h9 : dc1.2 ≠ 0)
    (h10 : SC cfg.P i_spec_obRatio [.s (.v (.int .i64) (IntKind.wrap .i64 ((IntKind.wrap .i64 (dc1.1 * (IntKind.wrap .i64 (Int.tdiv (IntKind.wrap .i64 ((1 : Int) * 2 ^ (min ((((List.getD x21 (x23).toNat (⟨#[]⟩ : ByteArray))).size : Int)).toNat (IntKind.bits .i64)))) dc1.2)))) + (1 : Int)))), .s (.v (.int .i64) (IntKind.wrap .i64 ((1 : Int) * 2 ^ (min ((((List.getD x21 (x23).toNat (⟨#[]⟩ : ByteArray))).size : Int)).toNat (IntKind.bits .i64)))))] (.s (.v (.pr (.int .i64) (.int .i64)) dc4)) [])
    (h11 : (((List.getD x21 (x23).toNat (⟨#[]⟩ : ByteArray))).size : Int) ≠ (((List.getD x4 (x23).toNat (⟨#[]⟩ : ByteArray))).size : Int))
    (h12 : 0 ≤ (((List.getD x4 (x23).toNat (⟨#[]⟩ : ByteArray))).size : Int))
    (h13 : SC cfg.P i_spec_obRatio [.s (.v (.int .i64) (IntKind.wrap .i64 ((IntKind.wrap .i64 ((IntKind.wrap .i64 ((IntKind.wrap .i64 (dc1.1 * (IntKind.wrap .i64 ((1 : Int) * 2 ^ (min ((((List.getD x21 (x23).toNat (⟨#[]⟩ : ByteArray))).size : Int)).toNat (IntKind.bits .i64)))))) * dc2.2)) - (IntKind.wrap .i64 ((IntKind.wrap .i64 (dc2.1 * (IntKind.wrap .i64 ((1 : Int) * 2 ^ (min ((((List.getD x4 (x23).toNat (⟨#[]⟩ : ByteArray))).size : Int)).toNat (IntKind.bits .i64)))))) * dc1.2)))) * (1 : Int)))), .s (.v (.int .i64) (IntKind.wrap .i64 ((IntKind.wrap .i64 ((IntKind.wrap .i64 ((IntKind.wrap .i64 ((1 : Int) * 2 ^ (min ((((List.getD x21 (x23).toNat (⟨#[]⟩ : ByteArray))).size : Int)).toNat (IntKind.bits .i64)))) - (IntKind.wrap .i64 ((1 : Int) * 2 ^ (min ((((List.getD x4 (x23).toNat (⟨#[]⟩ : ByteArray))).size : Int)).toNat (IntKind.bits .i64)))))) * dc1.2)) * dc2.2)))] (.s (.v (.pr (.int .i64) (.int .i64)) dc5)) [])
    (h14 : SC cfg.P i_spec_obLess [.s (.v (.pr (.int .i64) (.int .i64)) dc5), .s (.v (.pr (.int .i64) (.int .i64)) dc3)] (.s (.v .bool false)) [])
    (h15 : SC cfg.P i_spec_obLess [.s (.v (.pr (.int .i64) (.int .i64)) dc4), .s (.v (.pr (.int .i64) (.int .i64)) dc5)] (.s (.v .bool false)) [])
    (h16 : ((List.length ([dc5, dc5] : List (Int × Int)) : Nat) : Int) ≠ (0 : Int))
    (h17 : ¬ ((IntKind.wrap .i64 (((List.length xo3 : Nat) : Int) - (1 : Int))) ≥ (0 : Int)))
    (h18 : sizeOK (List.length xo3 + List.length ([([dc5, dc5] : List (Int × Int))] : List (List (Int × Int)))))
    {e : AEx} {st : St} (next : LoopSC cfg.P 1 (lb P_spec_obFixed 0) (spec_obFixed_L0a x4 x21 x22 (IntKind.wrap .i64 (x23 + (1 : Int))) (xo3 ++ ([([dc5, dc5] : List (Int × Int))] : List (List (Int × Int))))) e st) :
    LoopSC cfg.P 1 (lb P_spec_obFixed 0) (spec_obFixed_L0a x4 x21 x22 x23 xo3) e st :=
  loop_iter cfgOK (f := i_spec_obFixed) (its := [.bool true, .res (.s (.v (.pr (.int .i64) (.int .i64)) dc1)) [] [] [], .res (.s (.v (.pr (.int .i64) (.int .i64)) dc2)) [] [] [], .res (.s (.v (.pr (.int .i64) (.int .i64)) dc3)) [] [] [], .res (.s (.v (.pr (.int .i64) (.int .i64)) dc4)) [] [] [], .bool false, .res (.s (.v (.pr (.int .i64) (.int .i64)) dc5)) [] [] [], .res (.s (.v .bool false)) [] [] [], .res (.s (.v .bool false)) [] [] [], .bool false, .bool false])
    (ps := [decide (x23 < x22) = true,
      0 ≤ x23,
      x23 < (List.length x21 : Int),
      SC cfg.P i_spec_mpOf [.s (.v .str (List.getD x21 (x23).toNat (⟨#[]⟩ : ByteArray)))] (.s (.v (.pr (.int .i64) (.int .i64)) dc1)) [],
      0 ≤ x23,
      x23 < (List.length x4 : Int),
      SC cfg.P i_spec_mpOf [.s (.v .str (List.getD x4 (x23).toNat (⟨#[]⟩ : ByteArray)))] (.s (.v (.pr (.int .i64) (.int .i64)) dc2)) [],
      SC cfg.P i_spec_obRatio [.s (.v (.int .i64) dc1.1), .s (.v (.int .i64) dc1.2)] (.s (.v (.pr (.int .i64) (.int .i64)) dc3)) [],
      0 ≤ (((List.getD x21 (x23).toNat (⟨#[]⟩ : ByteArray))).size : Int),
      dc1.2 ≠ 0,
      0 ≤ (((List.getD x21 (x23).toNat (⟨#[]⟩ : ByteArray))).size : Int),
      SC cfg.P i_spec_obRatio [.s (.v (.int .i64) (IntKind.wrap .i64 ((IntKind.wrap .i64 (dc1.1 * (IntKind.wrap .i64 (Int.tdiv (IntKind.wrap .i64 ((1 : Int) * 2 ^ (min ((((List.getD x21 (x23).toNat (⟨#[]⟩ : ByteArray))).size : Int)).toNat (IntKind.bits .i64)))) dc1.2)))) + (1 : Int)))), .s (.v (.int .i64) (IntKind.wrap .i64 ((1 : Int) * 2 ^ (min ((((List.getD x21 (x23).toNat (⟨#[]⟩ : ByteArray))).size : Int)).toNat (IntKind.bits .i64)))))] (.s (.v (.pr (.int .i64) (.int .i64)) dc4)) [],
      0 ≤ x23,
      x23 < (List.length x4 : Int),
      ((((List.getD x21 (x23).toNat (⟨#[]⟩ : ByteArray))).size : Int) == (((List.getD x4 (x23).toNat (⟨#[]⟩ : ByteArray))).size : Int)) = false,
      0 ≤ (((List.getD x21 (x23).toNat (⟨#[]⟩ : ByteArray))).size : Int),
      0 ≤ x23,
      x23 < (List.length x4 : Int),
      0 ≤ (((List.getD x4 (x23).toNat (⟨#[]⟩ : ByteArray))).size : Int),
      SC cfg.P i_spec_obRatio [.s (.v (.int .i64) (IntKind.wrap .i64 ((IntKind.wrap .i64 ((IntKind.wrap .i64 ((IntKind.wrap .i64 (dc1.1 * (IntKind.wrap .i64 ((1 : Int) * 2 ^ (min ((((List.getD x21 (x23).toNat (⟨#[]⟩ : ByteArray))).size : Int)).toNat (IntKind.bits .i64)))))) * dc2.2)) - (IntKind.wrap .i64 ((IntKind.wrap .i64 (dc2.1 * (IntKind.wrap .i64 ((1 : Int) * 2 ^ (min ((((List.getD x4 (x23).toNat (⟨#[]⟩ : ByteArray))).size : Int)).toNat (IntKind.bits .i64)))))) * dc1.2)))) * (1 : Int)))), .s (.v (.int .i64) (IntKind.wrap .i64 ((IntKind.wrap .i64 ((IntKind.wrap .i64 ((IntKind.wrap .i64 ((1 : Int) * 2 ^ (min ((((List.getD x21 (x23).toNat (⟨#[]⟩ : ByteArray))).size : Int)).toNat (IntKind.bits .i64)))) - (IntKind.wrap .i64 ((1 : Int) * 2 ^ (min ((((List.getD x4 (x23).toNat (⟨#[]⟩ : ByteArray))).size : Int)).toNat (IntKind.bits .i64)))))) * dc1.2)) * dc2.2)))] (.s (.v (.pr (.int .i64) (.int .i64)) dc5)) [],
      SC cfg.P i_spec_obLess [.s (.v (.pr (.int .i64) (.int .i64)) dc5), .s (.v (.pr (.int .i64) (.int .i64)) dc3)] (.s (.v .bool false)) [],
      SC cfg.P i_spec_obLess [.s (.v (.pr (.int .i64) (.int .i64)) dc4), .s (.v (.pr (.int .i64) (.int .i64)) dc5)] (.s (.v .bool false)) [],
      (((List.length ([dc5, dc5] : List (Int × Int)) : Nat) : Int) == (0 : Int)) = false,
      decide ((IntKind.wrap .i64 (((List.length xo3 : Nat) : Int) - (1 : Int))) ≥ (0 : Int)) = false,
      sizeOK (List.length xo3 + List.length ([([dc5, dc5] : List (Int × Int))] : List (List (Int × Int))))]) (st1 := spec_obFixed_L0a x4 x21 x22 (IntKind.wrap .i64 (x23 + (1 : Int))) (xo3 ++ ([([dc5, dc5] : List (Int × Int))] : List (List (Int × Int))))) (by kernel_rfl) ⟨(decide_eq_true h1), h2, h3, h4, h2, h5, h6, h7, h8, h9, h8, h10, h2, h5, (beq_f h11), h8, h2, h5, h12, h13, h14, h15, (beq_f h16), (decide_eq_false h17), h18, trivial⟩ next

theorem spec_obFixed_L0a_x21 (x4 : (List ByteArray)) (x21 : (List ByteArray)) (x22 : Int) (x23 : Int) (xo3 : (List (List (Int × Int))))
    (h1 : ¬ (x23 < x22)) :
    LoopSC cfg.P 1 (lb P_spec_obFixed 0) (spec_obFixed_L0a x4 x21 x22 x23 xo3) (.exit 0) (spec_obFixed_L0X1 x4 x21 x22 x23 false xo3) :=
  loop_out cfgOK (f := i_spec_obFixed) (its := [.bool false])
    (ps := [decide (x23 < x22) = false]) (by kernel_rfl) ⟨(decide_eq_false h1), trivial⟩ (fun h => by cases h)

theorem spec_obFixed_p1 (a0 : (ByteArray × ByteArray)) (c1 : (List ByteArray)) (c2 : (List ByteArray)) (k1y4 : (List ByteArray)) (k1y21 : (List ByteArray)) (k1y22 : Int) (k1y23 : Int) (k1y24 : Bool) (k1yo3 : (List (List (Int × Int))))
    (h1 : SC cfg.P i_spec_trAddresses [.s (.v .str a0.2), .s (.v .str (⟨#[]⟩ : ByteArray))] (.s (.v (.sl .str) c1)) [])
    (h2 : SC cfg.P i_spec_trAddresses [.s (.v .str a0.1), .s (.v .str (⟨#[]⟩ : ByteArray))] (.s (.v (.sl .str) c2)) [])
    (h3 : LoopSC cfg.P 1 (lb P_spec_obFixed 0) (spec_obFixed_L0a c1 c2 ((List.length c2 : Nat) : Int) (0 : Int) ([] : List (List (Int × Int)))) (.exit 0) (spec_obFixed_L0X1 k1y4 k1y21 k1y22 k1y23 k1y24 k1yo3)) :
    SC cfg.P i_spec_obFixed [.s (.v (.pr .str .str) a0)] (.s (.own t_Simpl_Ratio (.sl (.pr (.int .i64) (.int .i64))) k1yo3)) [] :=
  SC_of_run cfgOK (its := [.res (.s (.v (.sl .str) c1)) [] [] [], .res (.s (.v (.sl .str) c2)) [] [] [], .loop (fun _ => (.exit 0, spec_obFixed_L0X1 k1y4 k1y21 k1y22 k1y23 k1y24 k1yo3))])
    (ps := [SC cfg.P i_spec_trAddresses [.s (.v .str a0.2), .s (.v .str (⟨#[]⟩ : ByteArray))] (.s (.v (.sl .str) c1)) [],
      SC cfg.P i_spec_trAddresses [.s (.v .str a0.1), .s (.v .str (⟨#[]⟩ : ByteArray))] (.s (.v (.sl .str) c2)) [],
      LoopSC cfg.P 1 (lb P_spec_obFixed 0) (spec_obFixed_L0a c1 c2 ((List.length c2 : Nat) : Int) (0 : Int) ([] : List (List (Int × Int)))) (.exit 0) (spec_obFixed_L0X1 k1y4 k1y21 k1y22 k1y23 k1y24 k1yo3)]) (by kernel_rfl) ⟨h1, h2, h3, trivial⟩ get_spec_obFixed (by decide)

/-! ### impl_pair_fixed -/


def impl_pair_fixed_L0a (x11 : Int) (x12 : Int) (xo3 : (List (List (Int × Int)))) (xo10 : (List (Int × (Int × (Int × Int))))) : St := mkSt 67 [(3, .s (.osl 3 0)), (10, .s (.osl 10 0)), (11, .s (.v (.int .i64) x11)), (12, .s (.v (.int .i64) x12))] [(3, .row t_Simpl_Ratio (.sl (.pr (.int .i64) (.int .i64))) xo3 0 false), (10, .row t_impl_piece (.pr (.int .i64) (.pr (.int .i64) (.pr (.int .i64) (.int .i64)))) xo10 0 false)]

def impl_pair_fixed_L0X1 (y11 : Int) (y12 : Int) (y13 : Bool) (yo3 : (List (List (Int × Int)))) (yo10 : (List (Int × (Int × (Int × Int))))) : St := mkSt 67 [(3, .s (.osl 3 0)), (10, .s (.osl 10 0)), (11, .s (.v (.int .i64) y11)), (12, .s (.v (.int .i64) y12)), (13, .s (.v .bool y13))] [(3, .row t_Simpl_Ratio (.sl (.pr (.int .i64) (.int .i64))) yo3 0 false), (10, .row t_impl_piece (.pr (.int .i64) (.pr (.int .i64) (.pr (.int .i64) (.int .i64)))) yo10 0 false)]

theorem impl_pair_fixed_L0a_i1 (x11 : Int) (x12 : Int) (xo3 : (List (List (Int × Int)))) (xo10 : (List (Int × (Int × (Int × Int))))) (dc1a : (List (Int × Int)))
    (h1 : x12 < x11)
    (h2 : 0 ≤ x12)
    (h3 : x12 < (List.length xo10 : Int))
    (h4 : (x12).toNat < List.length xo10)
    (h5 : SC cfg.P i_impl_piece_fixedIn [.s (.v (.pr (.int .i64) (.pr (.int .i64) (.pr (.int .i64) (.int .i64)))) (List.getD xo10 (x12).toNat ((0 : Int), ((0 : Int), ((0 : Int), (0 : Int))))))] (.tup [.own t_impl_Ratio (.pr (.int .i64) (.int .i64)) dc1a, .v .bool true]) [])
    (h6 : ((List.length xo3 : Nat) : Int) > (0 : Int))
    (h7 : 0 ≤ (IntKind.wrap .i64 (((List.length xo3 : Nat) : Int) - (1 : Int))))
    (h8 : (IntKind.wrap .i64 (((List.length xo3 : Nat) : Int) - (1 : Int))) < (List.length xo3 : Int))
    (h9 : ((IntKind.wrap .i64 (((List.length xo3 : Nat) : Int) - (1 : Int)))).toNat < List.length xo3)
    (h10 : (1 : Int) < (List.length (List.getD xo3 ((IntKind.wrap .i64 (((List.length xo3 : Nat) : Int) - (1 : Int)))).toNat ([] : List (Int × Int))) : Int))
    (h11 : (0 : Int) < (List.length dc1a : Int))
    (h12 : ((0 : Int)).toNat < List.length dc1a)
    (h13 : SC cfg.P i_impl_Ratio_less [.s (.v (.pr (.int .i64) (.int .i64)) (List.getD (List.getD xo3 ((IntKind.wrap .i64 (((List.length xo3 : Nat) : Int) - (1 : Int)))).toNat ([] : List (Int × Int))) ((1 : Int)).toNat ((0 : Int), (0 : Int)))), .s (.v (.pr (.int .i64) (.int .i64)) (List.getD dc1a ((0 : Int)).toNat ((0 : Int), (0 : Int))))] (.s (.v .bool true)) [])
    (h14 : sizeOK (List.length xo3 + List.length ([dc1a] : List (List (Int × Int)))))
    {e : AEx} {st : St} (next : LoopSC cfg.P 1 (lb P_impl_pair_fixed 0) (impl_pair_fixed_L0a x11 (IntKind.wrap .i64 (x12 + (1 : Int))) (xo3 ++ ([dc1a] : List (List (Int × Int)))) xo10) e st) :
    LoopSC cfg.P 1 (lb P_impl_pair_fixed 0) (impl_pair_fixed_L0a x11 x12 xo3 xo10) e st :=
  loop_iter cfgOK (f := i_impl_pair_fixed) (its := [.bool true, .res (.tup [.own t_impl_Ratio (.pr (.int .i64) (.int .i64)) dc1a, .v .bool true]) [] [] [18], .bool true, .res (.s (.v .bool true)) [] [] []])
    (ps := [decide (x12 < x11) = true,
      0 ≤ x12,
      x12 < (List.length xo10 : Int),
      (x12).toNat < List.length xo10,
      SC cfg.P i_impl_piece_fixedIn [.s (.v (.pr (.int .i64) (.pr (.int .i64) (.pr (.int .i64) (.int .i64)))) (List.getD xo10 (x12).toNat ((0 : Int), ((0 : Int), ((0 : Int), (0 : Int))))))] (.tup [.own t_impl_Ratio (.pr (.int .i64) (.int .i64)) dc1a, .v .bool true]) [],
      decide (((List.length xo3 : Nat) : Int) > (0 : Int)) = true,
      0 ≤ (IntKind.wrap .i64 (((List.length xo3 : Nat) : Int) - (1 : Int))),
      (IntKind.wrap .i64 (((List.length xo3 : Nat) : Int) - (1 : Int))) < (List.length xo3 : Int),
      ((IntKind.wrap .i64 (((List.length xo3 : Nat) : Int) - (1 : Int)))).toNat < List.length xo3,
      0 ≤ (1 : Int),
      (1 : Int) < (List.length (List.getD xo3 ((IntKind.wrap .i64 (((List.length xo3 : Nat) : Int) - (1 : Int)))).toNat ([] : List (Int × Int))) : Int),
      0 ≤ (0 : Int),
      (0 : Int) < (List.length dc1a : Int),
      ((0 : Int)).toNat < List.length dc1a,
      SC cfg.P i_impl_Ratio_less [.s (.v (.pr (.int .i64) (.int .i64)) (List.getD (List.getD xo3 ((IntKind.wrap .i64 (((List.length xo3 : Nat) : Int) - (1 : Int)))).toNat ([] : List (Int × Int))) ((1 : Int)).toNat ((0 : Int), (0 : Int)))), .s (.v (.pr (.int .i64) (.int .i64)) (List.getD dc1a ((0 : Int)).toNat ((0 : Int), (0 : Int))))] (.s (.v .bool true)) [],
      sizeOK (List.length xo3 + List.length ([dc1a] : List (List (Int × Int))))]) (st1 := impl_pair_fixed_L0a x11 (IntKind.wrap .i64 (x12 + (1 : Int))) (xo3 ++ ([dc1a] : List (List (Int × Int)))) xo10) (by kernel_rfl) ⟨(decide_eq_true h1), h2, h3, h4, h5, (decide_eq_true h6), h7, h8, h9, (by decide), h10, (by decide), h11, h12, h13, h14, trivial⟩ next

-- impl_pair_fixed_L0a: store ('fadr', ('pr', ('int', 'i64'), ('int', 'i64')), '(List.getD (List.getD xo3 ((IntKind.wrap .i64 (((List.length xo3 : Nat) : Int) - (1 : Int)))).toNat ([] : List (Int × Int))) ((1 : Int)).toNat ((0 : Int), (0 : Int)))') at "l6_orbit.go:68" store   [decide (x12 < x11)=True; decide (((List.length xo3 : Nat) : Int) > (0 : Int))=True]

theorem impl_pair_fixed_L0a_i2 (x11 : Int) (x12 : Int) (xo3 : (List (List (Int × Int)))) (xo10 : (List (Int × (Int × (Int × Int))))) (dc1a : (List (Int × Int)))
    (h1 : x12 < x11)
    (h2 : 0 ≤ x12)
    (h3 : x12 < (List.length xo10 : Int))
    (h4 : (x12).toNat < List.length xo10)
    (h5 : SC cfg.P i_impl_piece_fixedIn [.s (.v (.pr (.int .i64) (.pr (.int .i64) (.pr (.int .i64) (.int .i64)))) (List.getD xo10 (x12).toNat ((0 : Int), ((0 : Int), ((0 : Int), (0 : Int))))))] (.tup [.own t_impl_Ratio (.pr (.int .i64) (.int .i64)) dc1a, .v .bool true]) [])
    (h6 : ((List.length xo3 : Nat) : Int) > (0 : Int))
    (h7 : 0 ≤ (IntKind.wrap .i64 (((List.length xo3 : Nat) : Int) - (1 : Int))))
    (h8 : (IntKind.wrap .i64 (((List.length xo3 : Nat) : Int) - (1 : Int))) < (List.length xo3 : Int))
    (h9 : ((IntKind.wrap .i64 (((List.length xo3 : Nat) : Int) - (1 : Int)))).toNat < List.length xo3)
    (h10 : (1 : Int) < (List.length (List.getD xo3 ((IntKind.wrap .i64 (((List.length xo3 : Nat) : Int) - (1 : Int)))).toNat ([] : List (Int × Int))) : Int))
    (h11 : (0 : Int) < (List.length dc1a : Int))
    (h12 : ((0 : Int)).toNat < List.length dc1a)
    (h13 : SC cfg.P i_impl_Ratio_less [.s (.v (.pr (.int .i64) (.int .i64)) (List.getD (List.getD xo3 ((IntKind.wrap .i64 (((List.length xo3 : Nat) : Int) - (1 : Int)))).toNat ([] : List (Int × Int))) ((1 : Int)).toNat ((0 : Int), (0 : Int)))), .s (.v (.pr (.int .i64) (.int .i64)) (List.getD dc1a ((0 : Int)).toNat ((0 : Int), (0 : Int))))] (.s (.v .bool false)) [])
    (h14 : (1 : Int) < (List.length dc1a : Int))
    (h15 : ((1 : Int)).toNat < List.length dc1a)
    (h16 : SC cfg.P i_impl_Ratio_less [.s (.v (.pr (.int .i64) (.int .i64)) (List.getD (List.getD xo3 ((IntKind.wrap .i64 (((List.length xo3 : Nat) : Int) - (1 : Int)))).toNat ([] : List (Int × Int))) ((1 : Int)).toNat ((0 : Int), (0 : Int)))), .s (.v (.pr (.int .i64) (.int .i64)) (List.getD dc1a ((1 : Int)).toNat ((0 : Int), (0 : Int))))] (.s (.v .bool false)) [])
    {e : AEx} {st : St} (next : LoopSC cfg.P 1 (lb P_impl_pair_fixed 0) (impl_pair_fixed_L0a x11 (IntKind.wrap .i64 (x12 + (1 : Int))) xo3 xo10) e st) :
    LoopSC cfg.P 1 (lb P_impl_pair_fixed 0) (impl_pair_fixed_L0a x11 x12 xo3 xo10) e st :=
  loop_iter cfgOK (f := i_impl_pair_fixed) (its := [.bool true, .res (.tup [.own t_impl_Ratio (.pr (.int .i64) (.int .i64)) dc1a, .v .bool true]) [] [] [18], .bool true, .res (.s (.v .bool false)) [] [] [], .res (.s (.v .bool false)) [] [] []])
    (ps := [decide (x12 < x11) = true,
      0 ≤ x12,
      x12 < (List.length xo10 : Int),
      (x12).toNat < List.length xo10,
      SC cfg.P i_impl_piece_fixedIn [.s (.v (.pr (.int .i64) (.pr (.int .i64) (.pr (.int .i64) (.int .i64)))) (List.getD xo10 (x12).toNat ((0 : Int), ((0 : Int), ((0 : Int), (0 : Int))))))] (.tup [.own t_impl_Ratio (.pr (.int .i64) (.int .i64)) dc1a, .v .bool true]) [],
      decide (((List.length xo3 : Nat) : Int) > (0 : Int)) = true,
      0 ≤ (IntKind.wrap .i64 (((List.length xo3 : Nat) : Int) - (1 : Int))),
      (IntKind.wrap .i64 (((List.length xo3 : Nat) : Int) - (1 : Int))) < (List.length xo3 : Int),
      ((IntKind.wrap .i64 (((List.length xo3 : Nat) : Int) - (1 : Int)))).toNat < List.length xo3,
      0 ≤ (1 : Int),
      (1 : Int) < (List.length (List.getD xo3 ((IntKind.wrap .i64 (((List.length xo3 : Nat) : Int) - (1 : Int)))).toNat ([] : List (Int × Int))) : Int),
      0 ≤ (0 : Int),
      (0 : Int) < (List.length dc1a : Int),
      ((0 : Int)).toNat < List.length dc1a,
      SC cfg.P i_impl_Ratio_less [.s (.v (.pr (.int .i64) (.int .i64)) (List.getD (List.getD xo3 ((IntKind.wrap .i64 (((List.length xo3 : Nat) : Int) - (1 : Int)))).toNat ([] : List (Int × Int))) ((1 : Int)).toNat ((0 : Int), (0 : Int)))), .s (.v (.pr (.int .i64) (.int .i64)) (List.getD dc1a ((0 : Int)).toNat ((0 : Int), (0 : Int))))] (.s (.v .bool false)) [],
      0 ≤ (IntKind.wrap .i64 (((List.length xo3 : Nat) : Int) - (1 : Int))),
      (IntKind.wrap .i64 (((List.length xo3 : Nat) : Int) - (1 : Int))) < (List.length xo3 : Int),
      ((IntKind.wrap .i64 (((List.length xo3 : Nat) : Int) - (1 : Int)))).toNat < List.length xo3,
      0 ≤ (1 : Int),
      (1 : Int) < (List.length (List.getD xo3 ((IntKind.wrap .i64 (((List.length xo3 : Nat) : Int) - (1 : Int)))).toNat ([] : List (Int × Int))) : Int),
      0 ≤ (1 : Int),
      (1 : Int) < (List.length dc1a : Int),
      ((1 : Int)).toNat < List.length dc1a,
      SC cfg.P i_impl_Ratio_less [.s (.v (.pr (.int .i64) (.int .i64)) (List.getD (List.getD xo3 ((IntKind.wrap .i64 (((List.length xo3 : Nat) : Int) - (1 : Int)))).toNat ([] : List (Int × Int))) ((1 : Int)).toNat ((0 : Int), (0 : Int)))), .s (.v (.pr (.int .i64) (.int .i64)) (List.getD dc1a ((1 : Int)).toNat ((0 : Int), (0 : Int))))] (.s (.v .bool false)) []]) (st1 := impl_pair_fixed_L0a x11 (IntKind.wrap .i64 (x12 + (1 : Int))) xo3 xo10) (by kernel_rfl) ⟨(decide_eq_true h1), h2, h3, h4, h5, (decide_eq_true h6), h7, h8, h9, (by decide), h10, (by decide), h11, h12, h13, h7, h8, h9, (by decide), h10, (by decide), h14, h15, h16, trivial⟩ next

theorem impl_pair_fixed_L0a_i3 (x11 : Int) (x12 : Int) (xo3 : (List (List (Int × Int)))) (xo10 : (List (Int × (Int × (Int × Int))))) (dc1a : (List (Int × Int)))
    (h1 : x12 < x11)
    (h2 : 0 ≤ x12)
    (h3 : x12 < (List.length xo10 : Int))
    (h4 : (x12).toNat < List.length xo10)
    (h5 : SC cfg.P i_impl_piece_fixedIn [.s (.v (.pr (.int .i64) (.pr (.int .i64) (.pr (.int .i64) (.int .i64)))) (List.getD xo10 (x12).toNat ((0 : Int), ((0 : Int), ((0 : Int), (0 : Int))))))] (.tup [.own t_impl_Ratio (.pr (.int .i64) (.int .i64)) dc1a, .v .bool true]) [])
    (h6 : ¬ (((List.length xo3 : Nat) : Int) > (0 : Int)))
    (h7 : sizeOK (List.length xo3 + List.length ([dc1a] : List (List (Int × Int)))))
    {e : AEx} {st : St} (next : LoopSC cfg.P 1 (lb P_impl_pair_fixed 0) (impl_pair_fixed_L0a x11 (IntKind.wrap .i64 (x12 + (1 : Int))) (xo3 ++ ([dc1a] : List (List (Int × Int)))) xo10) e st) :
    LoopSC cfg.P 1 (lb P_impl_pair_fixed 0) (impl_pair_fixed_L0a x11 x12 xo3 xo10) e st :=
  loop_iter cfgOK (f := i_impl_pair_fixed) (its := [.bool true, .res (.tup [.own t_impl_Ratio (.pr (.int .i64) (.int .i64)) dc1a, .v .bool true]) [] [] [18], .bool false])
    (ps := [decide (x12 < x11) = true,
      0 ≤ x12,
      x12 < (List.length xo10 : Int),
      (x12).toNat < List.length xo10,
      SC cfg.P i_impl_piece_fixedIn [.s (.v (.pr (.int .i64) (.pr (.int .i64) (.pr (.int .i64) (.int .i64)))) (List.getD xo10 (x12).toNat ((0 : Int), ((0 : Int), ((0 : Int), (0 : Int))))))] (.tup [.own t_impl_Ratio (.pr (.int .i64) (.int .i64)) dc1a, .v .bool true]) [],
      decide (((List.length xo3 : Nat) : Int) > (0 : Int)) = false,
      sizeOK (List.length xo3 + List.length ([dc1a] : List (List (Int × Int))))]) (st1 := impl_pair_fixed_L0a x11 (IntKind.wrap .i64 (x12 + (1 : Int))) (xo3 ++ ([dc1a] : List (List (Int × Int)))) xo10) (by kernel_rfl) ⟨(decide_eq_true h1), h2, h3, h4, h5, (decide_eq_false h6), h7, trivial⟩ next

theorem impl_pair_fixed_L0a_i4 (x11 : Int) (x12 : Int) (xo3 : (List (List (Int × Int)))) (xo10 : (List (Int × (Int × (Int × Int))))) (dc1a : (List (Int × Int)))
    (h1 : x12 < x11)
    (h2 : 0 ≤ x12)
    (h3 : x12 < (List.length xo10 : Int))
    (h4 : (x12).toNat < List.length xo10)
    (h5 : SC cfg.P i_impl_piece_fixedIn [.s (.v (.pr (.int .i64) (.pr (.int .i64) (.pr (.int .i64) (.int .i64)))) (List.getD xo10 (x12).toNat ((0 : Int), ((0 : Int), ((0 : Int), (0 : Int))))))] (.tup [.own t_impl_Ratio (.pr (.int .i64) (.int .i64)) dc1a, .v .bool false]) [])
    {e : AEx} {st : St} (next : LoopSC cfg.P 1 (lb P_impl_pair_fixed 0) (impl_pair_fixed_L0a x11 (IntKind.wrap .i64 (x12 + (1 : Int))) xo3 xo10) e st) :
    LoopSC cfg.P 1 (lb P_impl_pair_fixed 0) (impl_pair_fixed_L0a x11 x12 xo3 xo10) e st :=
  loop_iter cfgOK (f := i_impl_pair_fixed) (its := [.bool true, .res (.tup [.own t_impl_Ratio (.pr (.int .i64) (.int .i64)) dc1a, .v .bool false]) [] [] [18]])
    (ps := [decide (x12 < x11) = true,
      0 ≤ x12,
      x12 < (List.length xo10 : Int),
      (x12).toNat < List.length xo10,
      SC cfg.P i_impl_piece_fixedIn [.s (.v (.pr (.int .i64) (.pr (.int .i64) (.pr (.int .i64) (.int .i64)))) (List.getD xo10 (x12).toNat ((0 : Int), ((0 : Int), ((0 : Int), (0 : Int))))))] (.tup [.own t_impl_Ratio (.pr (.int .i64) (.int .i64)) dc1a, .v .bool false]) []]) (st1 := impl_pair_fixed_L0a x11 (IntKind.wrap .i64 (x12 + (1 : Int))) xo3 xo10) (by kernel_rfl) ⟨(decide_eq_true h1), h2, h3, h4, h5, trivial⟩ next

theorem impl_pair_fixed_L0a_x5 (x11 : Int) (x12 : Int) (xo3 : (List (List (Int × Int)))) (xo10 : (List (Int × (Int × (Int × Int)))))
    (h1 : ¬ (x12 < x11)) :
    LoopSC cfg.P 1 (lb P_impl_pair_fixed 0) (impl_pair_fixed_L0a x11 x12 xo3 xo10) (.exit 0) (impl_pair_fixed_L0X1 x11 x12 false xo3 xo10) :=
  loop_out cfgOK (f := i_impl_pair_fixed) (its := [.bool false])
    (ps := [decide (x12 < x11) = false]) (by kernel_rfl) ⟨(decide_eq_false h1), trivial⟩ (fun h => by cases h)

theorem impl_pair_fixed_p1 (a0 : (Tr × Tr)) (c1 : (List (Int × (Int × (Int × Int))))) (k1y11 : Int) (k1y12 : Int) (k1y13 : Bool) (k1yo3 : (List (List (Int × Int)))) (k1yo10 : (List (Int × (Int × (Int × Int)))))
    (h1 : SC cfg.P i_impl_pair_pieces [.s (.v (.pr .tree .tree) a0)] (.s (.own t_impl_piece (.pr (.int .i64) (.pr (.int .i64) (.pr (.int .i64) (.int .i64)))) c1)) [])
    (h2 : LoopSC cfg.P 1 (lb P_impl_pair_fixed 0) (impl_pair_fixed_L0a ((List.length c1 : Nat) : Int) (0 : Int) ([] : List (List (Int × Int))) c1) (.exit 0) (impl_pair_fixed_L0X1 k1y11 k1y12 k1y13 k1yo3 k1yo10)) :
    SC cfg.P i_impl_pair_fixed [.s (.v (.pr .tree .tree) a0)] (.s (.own t_Simpl_Ratio (.sl (.pr (.int .i64) (.int .i64))) k1yo3)) [] :=
  SC_of_run cfgOK (its := [.res (.s (.own t_impl_piece (.pr (.int .i64) (.pr (.int .i64) (.pr (.int .i64) (.int .i64)))) c1)) [] [] [10], .loop (fun _ => (.exit 0, impl_pair_fixed_L0X1 k1y11 k1y12 k1y13 k1yo3 k1yo10))])
    (ps := [SC cfg.P i_impl_pair_pieces [.s (.v (.pr .tree .tree) a0)] (.s (.own t_impl_piece (.pr (.int .i64) (.pr (.int .i64) (.pr (.int .i64) (.int .i64)))) c1)) [],
      LoopSC cfg.P 1 (lb P_impl_pair_fixed 0) (impl_pair_fixed_L0a ((List.length c1 : Nat) : Int) (0 : Int) ([] : List (List (Int × Int))) c1) (.exit 0) (impl_pair_fixed_L0X1 k1y11 k1y12 k1y13 k1yo3 k1yo10)]) (by kernel_rfl) ⟨h1, h2, trivial⟩ get_impl_pair_fixed (by decide)

end Go.AI
