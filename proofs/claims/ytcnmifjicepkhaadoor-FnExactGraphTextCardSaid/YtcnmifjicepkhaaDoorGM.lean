/- A part of the road: what it proves stands in its last texts. -/
import Derived.Test.YtcnmifjicepkhaaDoorSIds
import Derived.Test.YtcnmifjicepkhaaDoorProg
set_option autoImplicit false
set_option maxRecDepth 100000
set_option linter.unusedVariables false
namespace Go.AI
open Go.Proofs

/-! ### spec_mpBreaks -/


def spec_mpBreaks_L0a (x5 : Int) (xo3 : (List Int)) (xo7 : (List Int)) : St := mkSt 29 [(3, .s (.osl 3 0)), (4, .s (.osl 7 0)), (5, .s (.v (.int .i64) x5))] [(3, .row t_int (.int .i64) xo3 0 false), (7, .row t_int (.int .i64) xo7 0 false)]

def spec_mpBreaks_L0X1 (y5 : Int) (y11 : Bool) (yo3 : (List Int)) (yo7 : (List Int)) : St := mkSt 29 [(3, .s (.osl 3 0)), (4, .s (.osl 7 0)), (5, .s (.v (.int .i64) y5)), (11, .s (.v .bool y11))] [(3, .row t_int (.int .i64) yo3 0 false), (7, .row t_int (.int .i64) yo7 0 false)]

theorem spec_mpBreaks_L0a_i1 (x5 : Int) (xo3 : (List Int)) (xo7 : (List Int))
    (h1 : x5 < ((List.length xo7 : Nat) : Int))
    (h2 : 0 ≤ x5)
    (h3 : x5 < (List.length xo7 : Int))
    (h4 : (x5).toNat < List.length xo7)
    (h5 : 0 ≤ (IntKind.wrap .i64 (x5 - (1 : Int))))
    (h6 : (IntKind.wrap .i64 (x5 - (1 : Int))) < (List.length xo7 : Int))
    (h7 : ((IntKind.wrap .i64 (x5 - (1 : Int)))).toNat < List.length xo7)
    (h8 : (List.getD xo7 (x5).toNat (0 : Int)) ≠ (List.getD xo7 ((IntKind.wrap .i64 (x5 - (1 : Int)))).toNat (0 : Int)))
    (h9 : sizeOK (List.length xo3 + List.length ([x5] : List Int)))
    {e : AEx} {st : St} (next : LoopSC cfg.P 1 (lb P_spec_mpBreaks 0) (spec_mpBreaks_L0a (IntKind.wrap .i64 (x5 + (1 : Int))) (xo3 ++ ([x5] : List Int)) xo7) e st) :
    LoopSC cfg.P 1 (lb P_spec_mpBreaks 0) (spec_mpBreaks_L0a x5 xo3 xo7) e st :=
  loop_iter cfgOK (f := i_spec_mpBreaks) (its := [.bool true, .bool true])
    (ps := [decide (x5 < ((List.length xo7 : Nat) : Int)) = true,
      0 ≤ x5,
      x5 < (List.length xo7 : Int),
      (x5).toNat < List.length xo7,
      0 ≤ (IntKind.wrap .i64 (x5 - (1 : Int))),
      (IntKind.wrap .i64 (x5 - (1 : Int))) < (List.length xo7 : Int),
      ((IntKind.wrap .i64 (x5 - (1 : Int)))).toNat < List.length xo7,
      ((List.getD xo7 (x5).toNat (0 : Int)) != (List.getD xo7 ((IntKind.wrap .i64 (x5 - (1 : Int)))).toNat (0 : Int))) = true,
      sizeOK (List.length xo3 + List.length ([x5] : List Int))]) (st1 := spec_mpBreaks_L0a (IntKind.wrap .i64 (x5 + (1 : Int))) (xo3 ++ ([x5] : List Int)) xo7) (by kernel_rfl) ⟨(decide_eq_true h1), h2, h3, h4, h5, h6, h7, (bne_t h8), h9, trivial⟩ next

theorem spec_mpBreaks_L0a_i2 (x5 : Int) (xo3 : (List Int)) (xo7 : (List Int))
    (h1 : x5 < ((List.length xo7 : Nat) : Int))
    (h2 : 0 ≤ x5)
    (h3 : x5 < (List.length xo7 : Int))
    (h4 : (x5).toNat < List.length xo7)
    (h5 : 0 ≤ (IntKind.wrap .i64 (x5 - (1 : Int))))
    (h6 : (IntKind.wrap .i64 (x5 - (1 : Int))) < (List.length xo7 : Int))
    (h7 : ((IntKind.wrap .i64 (x5 - (1 : Int)))).toNat < List.length xo7)
    (h8 : (List.getD xo7 (x5).toNat (0 : Int)) = (List.getD xo7 ((IntKind.wrap .i64 (x5 - (1 : Int)))).toNat (0 : Int)))
    {e : AEx} {st : St} (next : LoopSC cfg.P 1 (lb P_spec_mpBreaks 0) (spec_mpBreaks_L0a (IntKind.wrap .i64 (x5 + (1 : Int))) xo3 xo7) e st) :
    LoopSC cfg.P 1 (lb P_spec_mpBreaks 0) (spec_mpBreaks_L0a x5 xo3 xo7) e st :=
  loop_iter cfgOK (f := i_spec_mpBreaks) (its := [.bool true, .bool false])
    (ps := [decide (x5 < ((List.length xo7 : Nat) : Int)) = true,
      0 ≤ x5,
      x5 < (List.length xo7 : Int),
      (x5).toNat < List.length xo7,
      0 ≤ (IntKind.wrap .i64 (x5 - (1 : Int))),
      (IntKind.wrap .i64 (x5 - (1 : Int))) < (List.length xo7 : Int),
      ((IntKind.wrap .i64 (x5 - (1 : Int)))).toNat < List.length xo7,
      ((List.getD xo7 (x5).toNat (0 : Int)) != (List.getD xo7 ((IntKind.wrap .i64 (x5 - (1 : Int)))).toNat (0 : Int))) = false]) (st1 := spec_mpBreaks_L0a (IntKind.wrap .i64 (x5 + (1 : Int))) xo3 xo7) (by kernel_rfl) ⟨(decide_eq_true h1), h2, h3, h4, h5, h6, h7, (bne_f h8), trivial⟩ next

theorem spec_mpBreaks_L0a_x3 (x5 : Int) (xo3 : (List Int)) (xo7 : (List Int))
    (h1 : ¬ (x5 < ((List.length xo7 : Nat) : Int))) :
    LoopSC cfg.P 1 (lb P_spec_mpBreaks 0) (spec_mpBreaks_L0a x5 xo3 xo7) (.exit 0) (spec_mpBreaks_L0X1 x5 false xo3 xo7) :=
  loop_out cfgOK (f := i_spec_mpBreaks) (its := [.bool false])
    (ps := [decide (x5 < ((List.length xo7 : Nat) : Int)) = false]) (by kernel_rfl) ⟨(decide_eq_false h1), trivial⟩ (fun h => by cases h)

theorem spec_mpBreaks_p1 (a0 : (ByteArray × ByteArray)) (c1 : (List Int)) (k1y5 : Int) (k1y11 : Bool) (k1yo3 : (List Int)) (k1yo7 : (List Int))
    (h1 : SC cfg.P i_spec_mpSlopes [.s (.v (.pr .str .str) a0)] (.s (.own t_int (.int .i64) c1)) [])
    (h2 : LoopSC cfg.P 1 (lb P_spec_mpBreaks 0) (spec_mpBreaks_L0a (1 : Int) ([] : List Int) c1) (.exit 0) (spec_mpBreaks_L0X1 k1y5 k1y11 k1yo3 k1yo7)) :
    SC cfg.P i_spec_mpBreaks [.s (.v (.pr .str .str) a0)] (.s (.own t_int (.int .i64) k1yo3)) [] :=
  SC_of_run cfgOK (its := [.res (.s (.own t_int (.int .i64) c1)) [] [] [7], .loop (fun _ => (.exit 0, spec_mpBreaks_L0X1 k1y5 k1y11 k1yo3 k1yo7))])
    (ps := [SC cfg.P i_spec_mpSlopes [.s (.v (.pr .str .str) a0)] (.s (.own t_int (.int .i64) c1)) [],
      LoopSC cfg.P 1 (lb P_spec_mpBreaks 0) (spec_mpBreaks_L0a (1 : Int) ([] : List Int) c1) (.exit 0) (spec_mpBreaks_L0X1 k1y5 k1y11 k1yo3 k1yo7)]) (by kernel_rfl) ⟨h1, h2, trivial⟩ get_spec_mpBreaks (by decide)

/-! ### spec_mpAt -/


def spec_mpAt_L0a (x11 : (List Int)) (x12 : Int) (x13 : Int) (xo5 : (List (Int × Int))) (xo10 : (List (Int × Int))) : St := mkSt 26 [(5, .s (.osl 5 0)), (6, .s (.osl 10 0)), (11, .s (.v (.sl (.int .i64)) x11)), (12, .s (.v (.int .i64) x12)), (13, .s (.v (.int .i64) x13))] [(5, .row t_impl_Fraction (.pr (.int .i64) (.int .i64)) xo5 0 false), (10, .row t_impl_Fraction (.pr (.int .i64) (.int .i64)) xo10 0 false)]

def spec_mpAt_L0X1 (y11 : (List Int)) (y12 : Int) (y13 : Int) (y14 : Bool) (yo5 : (List (Int × Int))) (yo10 : (List (Int × Int))) : St := mkSt 26 [(5, .s (.osl 5 0)), (6, .s (.osl 10 0)), (11, .s (.v (.sl (.int .i64)) y11)), (12, .s (.v (.int .i64) y12)), (13, .s (.v (.int .i64) y13)), (14, .s (.v .bool y14))] [(5, .row t_impl_Fraction (.pr (.int .i64) (.int .i64)) yo5 0 false), (10, .row t_impl_Fraction (.pr (.int .i64) (.int .i64)) yo10 0 false)]

theorem spec_mpAt_L0a_i1 (x11 : (List Int)) (x12 : Int) (x13 : Int) (xo5 : (List (Int × Int))) (xo10 : (List (Int × Int)))
    (h1 : x13 < x12)
    (h2 : 0 ≤ x13)
    (h3 : x13 < (List.length x11 : Int))
    (h4 : 0 ≤ (List.getD x11 (x13).toNat (0 : Int)))
    (h5 : (List.getD x11 (x13).toNat (0 : Int)) < (List.length xo10 : Int))
    (h6 : ((List.getD x11 (x13).toNat (0 : Int))).toNat < List.length xo10)
    (h7 : sizeOK (List.length xo5 + List.length ([(List.getD xo10 ((List.getD x11 (x13).toNat (0 : Int))).toNat ((0 : Int), (0 : Int)))] : List (Int × Int))))
    {e : AEx} {st : St} (next : LoopSC cfg.P 2 (lb P_spec_mpAt 0) (spec_mpAt_L0a x11 x12 (IntKind.wrap .i64 (x13 + (1 : Int))) (xo5 ++ ([(List.getD xo10 ((List.getD x11 (x13).toNat (0 : Int))).toNat ((0 : Int), (0 : Int)))] : List (Int × Int))) xo10) e st) :
    LoopSC cfg.P 2 (lb P_spec_mpAt 0) (spec_mpAt_L0a x11 x12 x13 xo5 xo10) e st :=
  loop_iter cfgOK (f := i_spec_mpAt) (its := [.bool true])
    (ps := [decide (x13 < x12) = true,
      0 ≤ x13,
      x13 < (List.length x11 : Int),
      0 ≤ (List.getD x11 (x13).toNat (0 : Int)),
      (List.getD x11 (x13).toNat (0 : Int)) < (List.length xo10 : Int),
      ((List.getD x11 (x13).toNat (0 : Int))).toNat < List.length xo10,
      sizeOK (List.length xo5 + List.length ([(List.getD xo10 ((List.getD x11 (x13).toNat (0 : Int))).toNat ((0 : Int), (0 : Int)))] : List (Int × Int)))]) (st1 := spec_mpAt_L0a x11 x12 (IntKind.wrap .i64 (x13 + (1 : Int))) (xo5 ++ ([(List.getD xo10 ((List.getD x11 (x13).toNat (0 : Int))).toNat ((0 : Int), (0 : Int)))] : List (Int × Int))) xo10) (by kernel_rfl) ⟨(decide_eq_true h1), h2, h3, h4, h5, h6, h7, trivial⟩ next

theorem spec_mpAt_L0a_x2 (x11 : (List Int)) (x12 : Int) (x13 : Int) (xo5 : (List (Int × Int))) (xo10 : (List (Int × Int)))
    (h1 : ¬ (x13 < x12)) :
    LoopSC cfg.P 2 (lb P_spec_mpAt 0) (spec_mpAt_L0a x11 x12 x13 xo5 xo10) (.exit 0) (spec_mpAt_L0X1 x11 x12 x13 false xo5 xo10) :=
  loop_out cfgOK (f := i_spec_mpAt) (its := [.bool false])
    (ps := [decide (x13 < x12) = false]) (by kernel_rfl) ⟨(decide_eq_false h1), trivial⟩ (fun h => by cases h)

theorem spec_mpAt_p1 (a0 : ByteArray) (a1 : (List Int)) (c1 : (List (Int × Int))) (k1y11 : (List Int)) (k1y12 : Int) (k1y13 : Int) (k1y14 : Bool) (k1yo5 : (List (Int × Int))) (k1yo10 : (List (Int × Int)))
    (h1 : SC cfg.P i_spec_mpStarts [.s (.v .str a0)] (.s (.own t_impl_Fraction (.pr (.int .i64) (.int .i64)) c1)) [])
    (h2 : LoopSC cfg.P 2 (lb P_spec_mpAt 0) (spec_mpAt_L0a a1 ((List.length a1 : Nat) : Int) (0 : Int) ([] : List (Int × Int)) c1) (.exit 0) (spec_mpAt_L0X1 k1y11 k1y12 k1y13 k1y14 k1yo5 k1yo10)) :
    SC cfg.P i_spec_mpAt [.s (.v .str a0), .s (.v (.sl (.int .i64)) a1)] (.s (.own t_impl_Fraction (.pr (.int .i64) (.int .i64)) k1yo5)) [] :=
  SC_of_run cfgOK (its := [.res (.s (.own t_impl_Fraction (.pr (.int .i64) (.int .i64)) c1)) [] [] [10], .loop (fun _ => (.exit 0, spec_mpAt_L0X1 k1y11 k1y12 k1y13 k1y14 k1yo5 k1yo10))])
    (ps := [SC cfg.P i_spec_mpStarts [.s (.v .str a0)] (.s (.own t_impl_Fraction (.pr (.int .i64) (.int .i64)) c1)) [],
      LoopSC cfg.P 2 (lb P_spec_mpAt 0) (spec_mpAt_L0a a1 ((List.length a1 : Nat) : Int) (0 : Int) ([] : List (Int × Int)) c1) (.exit 0) (spec_mpAt_L0X1 k1y11 k1y12 k1y13 k1y14 k1yo5 k1yo10)]) (by kernel_rfl) ⟨h1, h2, trivial⟩ get_spec_mpAt (by decide)

/-! ### impl_pair_breaks -/


def impl_pair_breaks_L0a (x5 : Int) (xo3 : (List (Int × (Int × (Int × Int))))) (xo7 : (List (Int × (Int × (Int × Int))))) : St := mkSt 34 [(3, .s (.osl 3 0)), (4, .s (.osl 7 0)), (5, .s (.v (.int .i64) x5))] [(3, .row t_impl_piece (.pr (.int .i64) (.pr (.int .i64) (.pr (.int .i64) (.int .i64)))) xo3 0 false), (7, .row t_impl_piece (.pr (.int .i64) (.pr (.int .i64) (.pr (.int .i64) (.int .i64)))) xo7 0 false)]

def impl_pair_breaks_L0X1 (y5 : Int) (y11 : Bool) (yo3 : (List (Int × (Int × (Int × Int))))) (yo7 : (List (Int × (Int × (Int × Int))))) : St := mkSt 34 [(3, .s (.osl 3 0)), (4, .s (.osl 7 0)), (5, .s (.v (.int .i64) y5)), (11, .s (.v .bool y11))] [(3, .row t_impl_piece (.pr (.int .i64) (.pr (.int .i64) (.pr (.int .i64) (.int .i64)))) yo3 0 false), (7, .row t_impl_piece (.pr (.int .i64) (.pr (.int .i64) (.pr (.int .i64) (.int .i64)))) yo7 0 false)]

theorem impl_pair_breaks_L0a_i1 (x5 : Int) (xo3 : (List (Int × (Int × (Int × Int))))) (xo7 : (List (Int × (Int × (Int × Int))))) (dc1 : Int) (dc2 : Int)
    (h1 : x5 < ((List.length xo7 : Nat) : Int))
    (h2 : 0 ≤ x5)
    (h3 : x5 < (List.length xo7 : Int))
    (h4 : (x5).toNat < List.length xo7)
    (h5 : SC cfg.P i_impl_piece_slope [.s (.v (.pr (.int .i64) (.pr (.int .i64) (.pr (.int .i64) (.int .i64)))) (List.getD xo7 (x5).toNat ((0 : Int), ((0 : Int), ((0 : Int), (0 : Int))))))] (.s (.v (.int .i64) dc1)) [])
    (h6 : 0 ≤ (IntKind.wrap .i64 (x5 - (1 : Int))))
    (h7 : (IntKind.wrap .i64 (x5 - (1 : Int))) < (List.length xo7 : Int))
    (h8 : ((IntKind.wrap .i64 (x5 - (1 : Int)))).toNat < List.length xo7)
    (h9 : SC cfg.P i_impl_piece_slope [.s (.v (.pr (.int .i64) (.pr (.int .i64) (.pr (.int .i64) (.int .i64)))) (List.getD xo7 ((IntKind.wrap .i64 (x5 - (1 : Int)))).toNat ((0 : Int), ((0 : Int), ((0 : Int), (0 : Int))))))] (.s (.v (.int .i64) dc2)) [])
    (h10 : dc1 ≠ dc2)
    (h11 : sizeOK (List.length xo3 + List.length ([(List.getD xo7 (x5).toNat ((0 : Int), ((0 : Int), ((0 : Int), (0 : Int)))))] : List (Int × (Int × (Int × Int))))))
    {e : AEx} {st : St} (next : LoopSC cfg.P 1 (lb P_impl_pair_breaks 0) (impl_pair_breaks_L0a (IntKind.wrap .i64 (x5 + (1 : Int))) (xo3 ++ ([(List.getD xo7 (x5).toNat ((0 : Int), ((0 : Int), ((0 : Int), (0 : Int)))))] : List (Int × (Int × (Int × Int))))) xo7) e st) :
    LoopSC cfg.P 1 (lb P_impl_pair_breaks 0) (impl_pair_breaks_L0a x5 xo3 xo7) e st :=
  loop_iter cfgOK (f := i_impl_pair_breaks) (its := [.bool true, .res (.s (.v (.int .i64) dc1)) [] [] [], .res (.s (.v (.int .i64) dc2)) [] [] [], .bool true])
    (ps := [decide (x5 < ((List.length xo7 : Nat) : Int)) = true,
      0 ≤ x5,
      x5 < (List.length xo7 : Int),
      (x5).toNat < List.length xo7,
      SC cfg.P i_impl_piece_slope [.s (.v (.pr (.int .i64) (.pr (.int .i64) (.pr (.int .i64) (.int .i64)))) (List.getD xo7 (x5).toNat ((0 : Int), ((0 : Int), ((0 : Int), (0 : Int))))))] (.s (.v (.int .i64) dc1)) [],
      0 ≤ (IntKind.wrap .i64 (x5 - (1 : Int))),
      (IntKind.wrap .i64 (x5 - (1 : Int))) < (List.length xo7 : Int),
      ((IntKind.wrap .i64 (x5 - (1 : Int)))).toNat < List.length xo7,
      SC cfg.P i_impl_piece_slope [.s (.v (.pr (.int .i64) (.pr (.int .i64) (.pr (.int .i64) (.int .i64)))) (List.getD xo7 ((IntKind.wrap .i64 (x5 - (1 : Int)))).toNat ((0 : Int), ((0 : Int), ((0 : Int), (0 : Int))))))] (.s (.v (.int .i64) dc2)) [],
      (dc1 != dc2) = true,
      0 ≤ x5,
      x5 < (List.length xo7 : Int),
      (x5).toNat < List.length xo7,
      sizeOK (List.length xo3 + List.length ([(List.getD xo7 (x5).toNat ((0 : Int), ((0 : Int), ((0 : Int), (0 : Int)))))] : List (Int × (Int × (Int × Int)))))]) (st1 := impl_pair_breaks_L0a (IntKind.wrap .i64 (x5 + (1 : Int))) (xo3 ++ ([(List.getD xo7 (x5).toNat ((0 : Int), ((0 : Int), ((0 : Int), (0 : Int)))))] : List (Int × (Int × (Int × Int))))) xo7) (by kernel_rfl) ⟨(decide_eq_true h1), h2, h3, h4, h5, h6, h7, h8, h9, (bne_t h10), h2, h3, h4, h11, trivial⟩ next

theorem impl_pair_breaks_L0a_i2 (x5 : Int) (xo3 : (List (Int × (Int × (Int × Int))))) (xo7 : (List (Int × (Int × (Int × Int))))) (dc1 : Int) (dc2 : Int)
    (h1 : x5 < ((List.length xo7 : Nat) : Int))
    (h2 : 0 ≤ x5)
    (h3 : x5 < (List.length xo7 : Int))
    (h4 : (x5).toNat < List.length xo7)
    (h5 : SC cfg.P i_impl_piece_slope [.s (.v (.pr (.int .i64) (.pr (.int .i64) (.pr (.int .i64) (.int .i64)))) (List.getD xo7 (x5).toNat ((0 : Int), ((0 : Int), ((0 : Int), (0 : Int))))))] (.s (.v (.int .i64) dc1)) [])
    (h6 : 0 ≤ (IntKind.wrap .i64 (x5 - (1 : Int))))
    (h7 : (IntKind.wrap .i64 (x5 - (1 : Int))) < (List.length xo7 : Int))
    (h8 : ((IntKind.wrap .i64 (x5 - (1 : Int)))).toNat < List.length xo7)
    (h9 : SC cfg.P i_impl_piece_slope [.s (.v (.pr (.int .i64) (.pr (.int .i64) (.pr (.int .i64) (.int .i64)))) (List.getD xo7 ((IntKind.wrap .i64 (x5 - (1 : Int)))).toNat ((0 : Int), ((0 : Int), ((0 : Int), (0 : Int))))))] (.s (.v (.int .i64) dc2)) [])
    (h10 : dc1 = dc2)
    {e : AEx} {st : St} (next : LoopSC cfg.P 1 (lb P_impl_pair_breaks 0) (impl_pair_breaks_L0a (IntKind.wrap .i64 (x5 + (1 : Int))) xo3 xo7) e st) :
    LoopSC cfg.P 1 (lb P_impl_pair_breaks 0) (impl_pair_breaks_L0a x5 xo3 xo7) e st :=
  loop_iter cfgOK (f := i_impl_pair_breaks) (its := [.bool true, .res (.s (.v (.int .i64) dc1)) [] [] [], .res (.s (.v (.int .i64) dc2)) [] [] [], .bool false])
    (ps := [decide (x5 < ((List.length xo7 : Nat) : Int)) = true,
      0 ≤ x5,
      x5 < (List.length xo7 : Int),
      (x5).toNat < List.length xo7,
      SC cfg.P i_impl_piece_slope [.s (.v (.pr (.int .i64) (.pr (.int .i64) (.pr (.int .i64) (.int .i64)))) (List.getD xo7 (x5).toNat ((0 : Int), ((0 : Int), ((0 : Int), (0 : Int))))))] (.s (.v (.int .i64) dc1)) [],
      0 ≤ (IntKind.wrap .i64 (x5 - (1 : Int))),
      (IntKind.wrap .i64 (x5 - (1 : Int))) < (List.length xo7 : Int),
      ((IntKind.wrap .i64 (x5 - (1 : Int)))).toNat < List.length xo7,
      SC cfg.P i_impl_piece_slope [.s (.v (.pr (.int .i64) (.pr (.int .i64) (.pr (.int .i64) (.int .i64)))) (List.getD xo7 ((IntKind.wrap .i64 (x5 - (1 : Int)))).toNat ((0 : Int), ((0 : Int), ((0 : Int), (0 : Int))))))] (.s (.v (.int .i64) dc2)) [],
      (dc1 != dc2) = false]) (st1 := impl_pair_breaks_L0a (IntKind.wrap .i64 (x5 + (1 : Int))) xo3 xo7) (by kernel_rfl) ⟨(decide_eq_true h1), h2, h3, h4, h5, h6, h7, h8, h9, (bne_f h10), trivial⟩ next

theorem impl_pair_breaks_L0a_x3 (x5 : Int) (xo3 : (List (Int × (Int × (Int × Int))))) (xo7 : (List (Int × (Int × (Int × Int)))))
    (h1 : ¬ (x5 < ((List.length xo7 : Nat) : Int))) :
    LoopSC cfg.P 1 (lb P_impl_pair_breaks 0) (impl_pair_breaks_L0a x5 xo3 xo7) (.exit 0) (impl_pair_breaks_L0X1 x5 false xo3 xo7) :=
  loop_out cfgOK (f := i_impl_pair_breaks) (its := [.bool false])
    (ps := [decide (x5 < ((List.length xo7 : Nat) : Int)) = false]) (by kernel_rfl) ⟨(decide_eq_false h1), trivial⟩ (fun h => by cases h)

theorem impl_pair_breaks_p1 (a0 : (Tr × Tr)) (c1 : (List (Int × (Int × (Int × Int))))) (k1y5 : Int) (k1y11 : Bool) (k1yo3 : (List (Int × (Int × (Int × Int))))) (k1yo7 : (List (Int × (Int × (Int × Int)))))
    (h1 : SC cfg.P i_impl_pair_pieces [.s (.v (.pr .tree .tree) a0)] (.s (.own t_impl_piece (.pr (.int .i64) (.pr (.int .i64) (.pr (.int .i64) (.int .i64)))) c1)) [])
    (h2 : LoopSC cfg.P 1 (lb P_impl_pair_breaks 0) (impl_pair_breaks_L0a (1 : Int) ([] : List (Int × (Int × (Int × Int)))) c1) (.exit 0) (impl_pair_breaks_L0X1 k1y5 k1y11 k1yo3 k1yo7)) :
    SC cfg.P i_impl_pair_breaks [.s (.v (.pr .tree .tree) a0)] (.s (.own t_impl_piece (.pr (.int .i64) (.pr (.int .i64) (.pr (.int .i64) (.int .i64)))) k1yo3)) [] :=
  SC_of_run cfgOK (its := [.res (.s (.own t_impl_piece (.pr (.int .i64) (.pr (.int .i64) (.pr (.int .i64) (.int .i64)))) c1)) [] [] [7], .loop (fun _ => (.exit 0, impl_pair_breaks_L0X1 k1y5 k1y11 k1yo3 k1yo7))])
    (ps := [SC cfg.P i_impl_pair_pieces [.s (.v (.pr .tree .tree) a0)] (.s (.own t_impl_piece (.pr (.int .i64) (.pr (.int .i64) (.pr (.int .i64) (.int .i64)))) c1)) [],
      LoopSC cfg.P 1 (lb P_impl_pair_breaks 0) (impl_pair_breaks_L0a (1 : Int) ([] : List (Int × (Int × (Int × Int)))) c1) (.exit 0) (impl_pair_breaks_L0X1 k1y5 k1y11 k1yo3 k1yo7)]) (by kernel_rfl) ⟨h1, h2, trivial⟩ get_impl_pair_breaks (by decide)

/-! ### impl_fractionAt -/


def impl_fractionAt_L0a (x0 : Int) (x4 : Int) (xo2 : (Int × Int)) : St := mkSt 28 [(0, .s (.v (.int .i64) x0)), (2, .s (.adr 2 none)), (4, .s (.v (.int .i64) x4))] [(2, .box (.pr (.int .i64) (.int .i64)) xo2 false)]

def impl_fractionAt_L0X1 (y0 : Int) (y4 : Int) (y18 : Bool) (yo2 : (Int × Int)) : St := mkSt 28 [(0, .s (.v (.int .i64) y0)), (2, .s (.adr 2 none)), (4, .s (.v (.int .i64) y4)), (18, .s (.v .bool y18))] [(2, .box (.pr (.int .i64) (.int .i64)) yo2 false)]

theorem impl_fractionAt_L0a_i1 (x0 : Int) (x4 : Int) (xo2 : (Int × Int))
    (h1 : x4 > (1 : Int))
    (h2 : (2 : Int) ≠ 0)
    (h3 : (Int.tmod x0 (2 : Int)) = (0 : Int))
    {e : AEx} {st : St} (next : LoopSC cfg.P 1 (lb P_impl_fractionAt 0) (impl_fractionAt_L0a (IntKind.wrap .i64 (Int.tdiv x0 (2 : Int))) (IntKind.wrap .i64 (Int.tdiv x4 (2 : Int))) xo2) e st) :
    LoopSC cfg.P 1 (lb P_impl_fractionAt 0) (impl_fractionAt_L0a x0 x4 xo2) e st :=
  loop_iter cfgOK (f := i_impl_fractionAt) (its := [.bool true, .bool true])
    (ps := [decide (x4 > (1 : Int)) = true,
      (2 : Int) ≠ 0,
      ((Int.tmod x0 (2 : Int)) == (0 : Int)) = true,
      (2 : Int) ≠ 0,
      (2 : Int) ≠ 0]) (st1 := impl_fractionAt_L0a (IntKind.wrap .i64 (Int.tdiv x0 (2 : Int))) (IntKind.wrap .i64 (Int.tdiv x4 (2 : Int))) xo2) (by kernel_rfl) ⟨(decide_eq_true h1), h2, (beq_t h3), h2, h2, trivial⟩ next

theorem impl_fractionAt_L0a_x2 (x0 : Int) (x4 : Int) (xo2 : (Int × Int))
    (h1 : x4 > (1 : Int))
    (h2 : (2 : Int) ≠ 0)
    (h3 : (Int.tmod x0 (2 : Int)) ≠ (0 : Int)) :
    LoopSC cfg.P 1 (lb P_impl_fractionAt 0) (impl_fractionAt_L0a x0 x4 xo2) (.exit 0) (impl_fractionAt_L0X1 x0 x4 false xo2) :=
  loop_out cfgOK (f := i_impl_fractionAt) (its := [.bool true, .bool false])
    (ps := [decide (x4 > (1 : Int)) = true,
      (2 : Int) ≠ 0,
      ((Int.tmod x0 (2 : Int)) == (0 : Int)) = false]) (by kernel_rfl) ⟨(decide_eq_true h1), h2, (beq_f h3), trivial⟩ (fun h => by cases h)

theorem impl_fractionAt_L0a_x3 (x0 : Int) (x4 : Int) (xo2 : (Int × Int))
    (h1 : ¬ (x4 > (1 : Int))) :
    LoopSC cfg.P 1 (lb P_impl_fractionAt 0) (impl_fractionAt_L0a x0 x4 xo2) (.exit 0) (impl_fractionAt_L0X1 x0 x4 false xo2) :=
  loop_out cfgOK (f := i_impl_fractionAt) (its := [.bool false])
    (ps := [decide (x4 > (1 : Int)) = false]) (by kernel_rfl) ⟨(decide_eq_false h1), trivial⟩ (fun h => by cases h)

theorem impl_fractionAt_p1 (a0 : Int)
    (h1 : a0 < (0 : Int)) :
    SC cfg.P i_impl_fractionAt [.s (.v (.int .i64) a0)] (.tup [.v (.pr (.int .i64) (.int .i64)) ((0 : Int), (0 : Int)), .v .bool false]) [] :=
  SC_of_run cfgOK (its := [.bool true])
    (ps := [decide (a0 < (0 : Int)) = true]) (by kernel_rfl) ⟨(decide_eq_true h1), trivial⟩ get_impl_fractionAt (by decide)

theorem impl_fractionAt_p2 (a0 : Int)
    (h1 : ¬ (a0 < (0 : Int)))
    (h2 : a0 > (1099511627776 : Int)) :
    SC cfg.P i_impl_fractionAt [.s (.v (.int .i64) a0)] (.tup [.v (.pr (.int .i64) (.int .i64)) ((0 : Int), (0 : Int)), .v .bool false]) [] :=
  SC_of_run cfgOK (its := [.bool false, .bool true])
    (ps := [decide (a0 < (0 : Int)) = false,
      decide (a0 > (1099511627776 : Int)) = true]) (by kernel_rfl) ⟨(decide_eq_false h1), (decide_eq_true h2), trivial⟩ get_impl_fractionAt (by decide)

theorem impl_fractionAt_p3 (a0 : Int) (k1y0 : Int) (k1y4 : Int) (k1y18 : Bool) (k1yo2 : (Int × Int))
    (h1 : ¬ (a0 < (0 : Int)))
    (h2 : ¬ (a0 > (1099511627776 : Int)))
    (h3 : LoopSC cfg.P 1 (lb P_impl_fractionAt 0) (impl_fractionAt_L0a a0 (1099511627776 : Int) ((0 : Int), (0 : Int))) (.exit 0) (impl_fractionAt_L0X1 k1y0 k1y4 k1y18 k1yo2))
    (h4 : k1y4 ≤ (1024 : Int)) :
    SC cfg.P i_impl_fractionAt [.s (.v (.int .i64) a0)] (.tup [.v (.pr (.int .i64) (.int .i64)) (k1y0, k1y4), .v .bool true]) [] :=
  SC_of_run cfgOK (its := [.bool false, .bool false, .loop (fun _ => (.exit 0, impl_fractionAt_L0X1 k1y0 k1y4 k1y18 k1yo2)), .bool true])
    (ps := [decide (a0 < (0 : Int)) = false,
      decide (a0 > (1099511627776 : Int)) = false,
      LoopSC cfg.P 1 (lb P_impl_fractionAt 0) (impl_fractionAt_L0a a0 (1099511627776 : Int) ((0 : Int), (0 : Int))) (.exit 0) (impl_fractionAt_L0X1 k1y0 k1y4 k1y18 k1yo2),
      decide (k1y4 ≤ (1024 : Int)) = true]) (by kernel_rfl) ⟨(decide_eq_false h1), (decide_eq_false h2), h3, (decide_eq_true h4), trivial⟩ get_impl_fractionAt (by decide)

theorem impl_fractionAt_p4 (a0 : Int) (k1y0 : Int) (k1y4 : Int) (k1y18 : Bool) (k1yo2 : (Int × Int))
    (h1 : ¬ (a0 < (0 : Int)))
    (h2 : ¬ (a0 > (1099511627776 : Int)))
    (h3 : LoopSC cfg.P 1 (lb P_impl_fractionAt 0) (impl_fractionAt_L0a a0 (1099511627776 : Int) ((0 : Int), (0 : Int))) (.exit 0) (impl_fractionAt_L0X1 k1y0 k1y4 k1y18 k1yo2))
    (h4 : ¬ (k1y4 ≤ (1024 : Int))) :
    SC cfg.P i_impl_fractionAt [.s (.v (.int .i64) a0)] (.tup [.v (.pr (.int .i64) (.int .i64)) (k1y0, k1y4), .v .bool false]) [] :=
  SC_of_run cfgOK (its := [.bool false, .bool false, .loop (fun _ => (.exit 0, impl_fractionAt_L0X1 k1y0 k1y4 k1y18 k1yo2)), .bool false])
    (ps := [decide (a0 < (0 : Int)) = false,
      decide (a0 > (1099511627776 : Int)) = false,
      LoopSC cfg.P 1 (lb P_impl_fractionAt 0) (impl_fractionAt_L0a a0 (1099511627776 : Int) ((0 : Int), (0 : Int))) (.exit 0) (impl_fractionAt_L0X1 k1y0 k1y4 k1y18 k1yo2),
      decide (k1y4 ≤ (1024 : Int)) = false]) (by kernel_rfl) ⟨(decide_eq_false h1), (decide_eq_false h2), h3, (decide_eq_false h4), trivial⟩ get_impl_fractionAt (by decide)

/-! ### spec_mpSlopes -/


def spec_mpSlopes_L0a (x13 : Int) (x14 : Int) (xo3 : (List Int)) (xo9 : (List ByteArray)) (xo12 : (List ByteArray)) : St := mkSt 32 [(3, .s (.osl 3 0)), (4, .s (.osl 9 0)), (12, .s (.osl 12 0)), (13, .s (.v (.int .i64) x13)), (14, .s (.v (.int .i64) x14))] [(3, .row t_int (.int .i64) xo3 0 false), (9, .row t_string .str xo9 0 false), (12, .row t_string .str xo12 0 false)]

def spec_mpSlopes_L0X1 (y13 : Int) (y14 : Int) (y15 : Bool) (yo3 : (List Int)) (yo9 : (List ByteArray)) (yo12 : (List ByteArray)) : St := mkSt 32 [(3, .s (.osl 3 0)), (4, .s (.osl 9 0)), (12, .s (.osl 12 0)), (13, .s (.v (.int .i64) y13)), (14, .s (.v (.int .i64) y14)), (15, .s (.v .bool y15))] [(3, .row t_int (.int .i64) yo3 0 false), (9, .row t_string .str yo9 0 false), (12, .row t_string .str yo12 0 false)]

theorem spec_mpSlopes_L0a_i1 (x13 : Int) (x14 : Int) (xo3 : (List Int)) (xo9 : (List ByteArray)) (xo12 : (List ByteArray))
    (h1 : x14 < x13)
    (h2 : 0 ≤ x14)
    (h3 : x14 < (List.length xo12 : Int))
    (h4 : (x14).toNat < List.length xo12)
    (h5 : x14 < (List.length xo9 : Int))
    (h6 : (x14).toNat < List.length xo9)
    (h7 : sizeOK (List.length xo3 + List.length ([(IntKind.wrap .i64 ((((List.getD xo12 (x14).toNat (⟨#[]⟩ : ByteArray))).size : Int) - (((List.getD xo9 (x14).toNat (⟨#[]⟩ : ByteArray))).size : Int)))] : List Int)))
    {e : AEx} {st : St} (next : LoopSC cfg.P 1 (lb P_spec_mpSlopes 0) (spec_mpSlopes_L0a x13 (IntKind.wrap .i64 (x14 + (1 : Int))) (xo3 ++ ([(IntKind.wrap .i64 ((((List.getD xo12 (x14).toNat (⟨#[]⟩ : ByteArray))).size : Int) - (((List.getD xo9 (x14).toNat (⟨#[]⟩ : ByteArray))).size : Int)))] : List Int)) xo9 xo12) e st) :
    LoopSC cfg.P 1 (lb P_spec_mpSlopes 0) (spec_mpSlopes_L0a x13 x14 xo3 xo9 xo12) e st :=
  loop_iter cfgOK (f := i_spec_mpSlopes) (its := [.bool true])
    (ps := [decide (x14 < x13) = true,
      0 ≤ x14,
      x14 < (List.length xo12 : Int),
      (x14).toNat < List.length xo12,
      0 ≤ x14,
      x14 < (List.length xo9 : Int),
      (x14).toNat < List.length xo9,
      sizeOK (List.length xo3 + List.length ([(IntKind.wrap .i64 ((((List.getD xo12 (x14).toNat (⟨#[]⟩ : ByteArray))).size : Int) - (((List.getD xo9 (x14).toNat (⟨#[]⟩ : ByteArray))).size : Int)))] : List Int))]) (st1 := spec_mpSlopes_L0a x13 (IntKind.wrap .i64 (x14 + (1 : Int))) (xo3 ++ ([(IntKind.wrap .i64 ((((List.getD xo12 (x14).toNat (⟨#[]⟩ : ByteArray))).size : Int) - (((List.getD xo9 (x14).toNat (⟨#[]⟩ : ByteArray))).size : Int)))] : List Int)) xo9 xo12) (by kernel_rfl) ⟨(decide_eq_true h1), h2, h3, h4, h2, h5, h6, h7, trivial⟩ next

theorem spec_mpSlopes_L0a_x2 (x13 : Int) (x14 : Int) (xo3 : (List Int)) (xo9 : (List ByteArray)) (xo12 : (List ByteArray))
    (h1 : ¬ (x14 < x13)) :
    LoopSC cfg.P 1 (lb P_spec_mpSlopes 0) (spec_mpSlopes_L0a x13 x14 xo3 xo9 xo12) (.exit 0) (spec_mpSlopes_L0X1 x13 x14 false xo3 xo9 xo12) :=
  loop_out cfgOK (f := i_spec_mpSlopes) (its := [.bool false])
    (ps := [decide (x14 < x13) = false]) (by kernel_rfl) ⟨(decide_eq_false h1), trivial⟩ (fun h => by cases h)

theorem spec_mpSlopes_p1 (a0 : (ByteArray × ByteArray)) (c1 : (List ByteArray)) (c2 : (List ByteArray)) (k1y13 : Int) (k1y14 : Int) (k1y15 : Bool) (k1yo3 : (List Int)) (k1yo9 : (List ByteArray)) (k1yo12 : (List ByteArray))
    (h1 : SC cfg.P i_spec_trAddresses [.s (.v .str a0.2), .s (.v .str (⟨#[]⟩ : ByteArray))] (.s (.own t_string .str c1)) [])
    (h2 : SC cfg.P i_spec_trAddresses [.s (.v .str a0.1), .s (.v .str (⟨#[]⟩ : ByteArray))] (.s (.own t_string .str c2)) [])
    (h3 : LoopSC cfg.P 1 (lb P_spec_mpSlopes 0) (spec_mpSlopes_L0a ((List.length c2 : Nat) : Int) (0 : Int) ([] : List Int) c1 c2) (.exit 0) (spec_mpSlopes_L0X1 k1y13 k1y14 k1y15 k1yo3 k1yo9 k1yo12)) :
    SC cfg.P i_spec_mpSlopes [.s (.v (.pr .str .str) a0)] (.s (.own t_int (.int .i64) k1yo3)) [] :=
  SC_of_run cfgOK (its := [.res (.s (.own t_string .str c1)) [] [] [9], .res (.s (.own t_string .str c2)) [] [] [12], .loop (fun _ => (.exit 0, spec_mpSlopes_L0X1 k1y13 k1y14 k1y15 k1yo3 k1yo9 k1yo12))])
    (ps := [SC cfg.P i_spec_trAddresses [.s (.v .str a0.2), .s (.v .str (⟨#[]⟩ : ByteArray))] (.s (.own t_string .str c1)) [],
      SC cfg.P i_spec_trAddresses [.s (.v .str a0.1), .s (.v .str (⟨#[]⟩ : ByteArray))] (.s (.own t_string .str c2)) [],
      LoopSC cfg.P 1 (lb P_spec_mpSlopes 0) (spec_mpSlopes_L0a ((List.length c2 : Nat) : Int) (0 : Int) ([] : List Int) c1 c2) (.exit 0) (spec_mpSlopes_L0X1 k1y13 k1y14 k1y15 k1yo3 k1yo9 k1yo12)]) (by kernel_rfl) ⟨h1, h2, h3, trivial⟩ get_spec_mpSlopes (by decide)

end Go.AI
