/- A part of the road: what it proves stands in its last texts. -/
import Derived.Test.YtcbhdileamhklaaSIds
import Derived.Test.YtcbhdileamhklaaProg
set_option autoImplicit false
set_option maxRecDepth 100000
set_option linter.unusedVariables false
namespace Go.AI
open Go.Proofs

/-! ### impl_stepped -/


def impl_stepped_L0a (x0 : (List Int)) (x4 : Int) : St := mkSt 49 [(0, .s (.v (.sl (.int .i64)) x0)), (4, .s (.v (.int .i64) x4))] []

def impl_stepped_L0X1 (y3 : Bool) (yo35 : (List Int)) : St := mkSt 49 [(2, .s (.osl 35 0)), (3, .s (.v .bool y3))] [(35, .row t_int (.int .i64) yo35 0 false)]

def impl_stepped_L0X2 (y0 : (List Int)) (y4 : Int) (y12 : Bool) : St := mkSt 49 [(0, .s (.v (.sl (.int .i64)) y0)), (4, .s (.v (.int .i64) y4)), (12, .s (.v .bool y12))] []

theorem impl_stepped_L0a_x1 (x0 : (List Int)) (x4 : Int) (dc1a : Int) (dc1b : Int) (dc2 : (List Int))
    (h1 : x4 < ((List.length x0 : Nat) : Int))
    (h2 : 0 ≤ (IntKind.wrap .i64 (x4 - (1 : Int))))
    (h3 : (IntKind.wrap .i64 (x4 - (1 : Int))) < (List.length x0 : Int))
    (h4 : 0 ≤ x4)
    (h5 : x4 < (List.length x0 : Int))
    (h6 : SC cfg.P i_impl_rule [.s (.v (.int .i64) (List.getD x0 ((IntKind.wrap .i64 (x4 - (1 : Int)))).toNat (0 : Int))), .s (.v (.int .i64) (List.getD x0 (x4).toNat (0 : Int)))] (.tup [.v (.int .i64) dc1a, .v (.int .i64) dc1b, .v .bool true]) [])
    (h7 : (IntKind.wrap .i64 (x4 - (1 : Int))) ≤ (List.length x0 : Int))
    (h8 : SC cfg.P i_slices_Clone [.s (.v (.sl (.int .i64)) (cutL x0 (0 : Int) (IntKind.wrap .i64 (x4 - (1 : Int)))))] (.s (.own t_int (.int .i64) dc2)) [])
    (h9 : dc1a ≠ (0 : Int))
    (h10 : sizeOK (List.length dc2 + List.length ([dc1a, dc1b] : List Int)))
    (h11 : 0 ≤ (IntKind.wrap .i64 (x4 + (1 : Int))))
    (h12 : (IntKind.wrap .i64 (x4 + (1 : Int))) ≤ (List.length x0 : Int))
    (h13 : sizeOK (List.length (dc2 ++ ([dc1a, dc1b] : List Int)) + List.length (cutL x0 (IntKind.wrap .i64 (x4 + (1 : Int))) ((List.length x0 : Nat) : Int)))) :
    LoopSC cfg.P 1 (lb P_impl_stepped 0) (impl_stepped_L0a x0 x4) (.ret) (impl_stepped_L0X1 true ((dc2 ++ ([dc1a, dc1b] : List Int)) ++ (cutL x0 (IntKind.wrap .i64 (x4 + (1 : Int))) ((List.length x0 : Nat) : Int)))) :=
  loop_out cfgOK (f := i_impl_stepped) (its := [.bool true, .res (.tup [.v (.int .i64) dc1a, .v (.int .i64) dc1b, .v .bool true]) [] [] [], .res (.s (.own t_int (.int .i64) dc2)) [] [] [35], .bool true])
    (ps := [decide (x4 < ((List.length x0 : Nat) : Int)) = true,
      0 ≤ (IntKind.wrap .i64 (x4 - (1 : Int))),
      (IntKind.wrap .i64 (x4 - (1 : Int))) < (List.length x0 : Int),
      0 ≤ x4,
      x4 < (List.length x0 : Int),
      SC cfg.P i_impl_rule [.s (.v (.int .i64) (List.getD x0 ((IntKind.wrap .i64 (x4 - (1 : Int)))).toNat (0 : Int))), .s (.v (.int .i64) (List.getD x0 (x4).toNat (0 : Int)))] (.tup [.v (.int .i64) dc1a, .v (.int .i64) dc1b, .v .bool true]) [],
      0 ≤ (IntKind.wrap .i64 (x4 - (1 : Int))),
      (IntKind.wrap .i64 (x4 - (1 : Int))) ≤ (List.length x0 : Int),
      SC cfg.P i_slices_Clone [.s (.v (.sl (.int .i64)) (cutL x0 (0 : Int) (IntKind.wrap .i64 (x4 - (1 : Int)))))] (.s (.own t_int (.int .i64) dc2)) [],
      (dc1a != (0 : Int)) = true,
      sizeOK (List.length dc2 + List.length ([dc1a, dc1b] : List Int)),
      0 ≤ (IntKind.wrap .i64 (x4 + (1 : Int))),
      (IntKind.wrap .i64 (x4 + (1 : Int))) ≤ (List.length x0 : Int),
      sizeOK (List.length (dc2 ++ ([dc1a, dc1b] : List Int)) + List.length (cutL x0 (IntKind.wrap .i64 (x4 + (1 : Int))) ((List.length x0 : Nat) : Int)))]) (by kernel_rfl) ⟨(decide_eq_true h1), h2, h3, h4, h5, h6, h2, h7, h8, (bne_iff_ne.mpr h9), h10, h11, h12, h13, trivial⟩ (fun h => by cases h)

theorem impl_stepped_L0a_x2 (x0 : (List Int)) (x4 : Int) (dc1a : Int) (dc1b : Int) (dc2 : (List Int))
    (h1 : x4 < ((List.length x0 : Nat) : Int))
    (h2 : 0 ≤ (IntKind.wrap .i64 (x4 - (1 : Int))))
    (h3 : (IntKind.wrap .i64 (x4 - (1 : Int))) < (List.length x0 : Int))
    (h4 : 0 ≤ x4)
    (h5 : x4 < (List.length x0 : Int))
    (h6 : SC cfg.P i_impl_rule [.s (.v (.int .i64) (List.getD x0 ((IntKind.wrap .i64 (x4 - (1 : Int)))).toNat (0 : Int))), .s (.v (.int .i64) (List.getD x0 (x4).toNat (0 : Int)))] (.tup [.v (.int .i64) dc1a, .v (.int .i64) dc1b, .v .bool true]) [])
    (h7 : (IntKind.wrap .i64 (x4 - (1 : Int))) ≤ (List.length x0 : Int))
    (h8 : SC cfg.P i_slices_Clone [.s (.v (.sl (.int .i64)) (cutL x0 (0 : Int) (IntKind.wrap .i64 (x4 - (1 : Int)))))] (.s (.own t_int (.int .i64) dc2)) [])
    (h9 : dc1a = (0 : Int))
    (h10 : 0 ≤ (IntKind.wrap .i64 (x4 + (1 : Int))))
    (h11 : (IntKind.wrap .i64 (x4 + (1 : Int))) ≤ (List.length x0 : Int))
    (h12 : sizeOK (List.length dc2 + List.length (cutL x0 (IntKind.wrap .i64 (x4 + (1 : Int))) ((List.length x0 : Nat) : Int)))) :
    LoopSC cfg.P 1 (lb P_impl_stepped 0) (impl_stepped_L0a x0 x4) (.ret) (impl_stepped_L0X1 true (dc2 ++ (cutL x0 (IntKind.wrap .i64 (x4 + (1 : Int))) ((List.length x0 : Nat) : Int)))) :=
  loop_out cfgOK (f := i_impl_stepped) (its := [.bool true, .res (.tup [.v (.int .i64) dc1a, .v (.int .i64) dc1b, .v .bool true]) [] [] [], .res (.s (.own t_int (.int .i64) dc2)) [] [] [35], .bool false])
    (ps := [decide (x4 < ((List.length x0 : Nat) : Int)) = true,
      0 ≤ (IntKind.wrap .i64 (x4 - (1 : Int))),
      (IntKind.wrap .i64 (x4 - (1 : Int))) < (List.length x0 : Int),
      0 ≤ x4,
      x4 < (List.length x0 : Int),
      SC cfg.P i_impl_rule [.s (.v (.int .i64) (List.getD x0 ((IntKind.wrap .i64 (x4 - (1 : Int)))).toNat (0 : Int))), .s (.v (.int .i64) (List.getD x0 (x4).toNat (0 : Int)))] (.tup [.v (.int .i64) dc1a, .v (.int .i64) dc1b, .v .bool true]) [],
      0 ≤ (IntKind.wrap .i64 (x4 - (1 : Int))),
      (IntKind.wrap .i64 (x4 - (1 : Int))) ≤ (List.length x0 : Int),
      SC cfg.P i_slices_Clone [.s (.v (.sl (.int .i64)) (cutL x0 (0 : Int) (IntKind.wrap .i64 (x4 - (1 : Int)))))] (.s (.own t_int (.int .i64) dc2)) [],
      (dc1a != (0 : Int)) = false,
      0 ≤ (IntKind.wrap .i64 (x4 + (1 : Int))),
      (IntKind.wrap .i64 (x4 + (1 : Int))) ≤ (List.length x0 : Int),
      sizeOK (List.length dc2 + List.length (cutL x0 (IntKind.wrap .i64 (x4 + (1 : Int))) ((List.length x0 : Nat) : Int)))]) (by kernel_rfl) ⟨(decide_eq_true h1), h2, h3, h4, h5, h6, h2, h7, h8, (bne_eq_false_iff_eq.mpr h9), h10, h11, h12, trivial⟩ (fun h => by cases h)

theorem impl_stepped_L0a_i3 (x0 : (List Int)) (x4 : Int) (dc1a : Int) (dc1b : Int)
    (h1 : x4 < ((List.length x0 : Nat) : Int))
    (h2 : 0 ≤ (IntKind.wrap .i64 (x4 - (1 : Int))))
    (h3 : (IntKind.wrap .i64 (x4 - (1 : Int))) < (List.length x0 : Int))
    (h4 : 0 ≤ x4)
    (h5 : x4 < (List.length x0 : Int))
    (h6 : SC cfg.P i_impl_rule [.s (.v (.int .i64) (List.getD x0 ((IntKind.wrap .i64 (x4 - (1 : Int)))).toNat (0 : Int))), .s (.v (.int .i64) (List.getD x0 (x4).toNat (0 : Int)))] (.tup [.v (.int .i64) dc1a, .v (.int .i64) dc1b, .v .bool false]) [])
    {e : AEx} {st : St} (next : LoopSC cfg.P 1 (lb P_impl_stepped 0) (impl_stepped_L0a x0 (IntKind.wrap .i64 (x4 + (1 : Int)))) e st) :
    LoopSC cfg.P 1 (lb P_impl_stepped 0) (impl_stepped_L0a x0 x4) e st :=
  loop_iter cfgOK (f := i_impl_stepped) (its := [.bool true, .res (.tup [.v (.int .i64) dc1a, .v (.int .i64) dc1b, .v .bool false]) [] [] []])
    (ps := [decide (x4 < ((List.length x0 : Nat) : Int)) = true,
      0 ≤ (IntKind.wrap .i64 (x4 - (1 : Int))),
      (IntKind.wrap .i64 (x4 - (1 : Int))) < (List.length x0 : Int),
      0 ≤ x4,
      x4 < (List.length x0 : Int),
      SC cfg.P i_impl_rule [.s (.v (.int .i64) (List.getD x0 ((IntKind.wrap .i64 (x4 - (1 : Int)))).toNat (0 : Int))), .s (.v (.int .i64) (List.getD x0 (x4).toNat (0 : Int)))] (.tup [.v (.int .i64) dc1a, .v (.int .i64) dc1b, .v .bool false]) []]) (st1 := impl_stepped_L0a x0 (IntKind.wrap .i64 (x4 + (1 : Int)))) (by kernel_rfl) ⟨(decide_eq_true h1), h2, h3, h4, h5, h6, trivial⟩ next

theorem impl_stepped_L0a_x4 (x0 : (List Int)) (x4 : Int)
    (h1 : ¬ (x4 < ((List.length x0 : Nat) : Int))) :
    LoopSC cfg.P 1 (lb P_impl_stepped 0) (impl_stepped_L0a x0 x4) (.exit 0) (impl_stepped_L0X2 x0 x4 false) :=
  loop_out cfgOK (f := i_impl_stepped) (its := [.bool false])
    (ps := [decide (x4 < ((List.length x0 : Nat) : Int)) = false]) (by kernel_rfl) ⟨(decide_eq_false h1), trivial⟩ (fun h => by cases h)

theorem impl_stepped_p1 (a0 : (List Int)) (k1y3 : Bool) (k1yo35 : (List Int))
    (h1 : LoopSC cfg.P 1 (lb P_impl_stepped 0) (impl_stepped_L0a a0 (1 : Int)) (.ret) (impl_stepped_L0X1 k1y3 k1yo35)) :
    SC cfg.P i_impl_stepped [.s (.v (.sl (.int .i64)) a0)] (.tup [.own t_int (.int .i64) k1yo35, .v .bool k1y3]) [] :=
  SC_of_run cfgOK (its := [.loop (fun _ => (.ret, impl_stepped_L0X1 k1y3 k1yo35))])
    (ps := [LoopSC cfg.P 1 (lb P_impl_stepped 0) (impl_stepped_L0a a0 (1 : Int)) (.ret) (impl_stepped_L0X1 k1y3 k1yo35)]) (by kernel_rfl) ⟨h1, trivial⟩ get_impl_stepped (by decide)

theorem impl_stepped_p2 (a0 : (List Int)) (k1y0 : (List Int)) (k1y4 : Int) (k1y12 : Bool)
    (h1 : LoopSC cfg.P 1 (lb P_impl_stepped 0) (impl_stepped_L0a a0 (1 : Int)) (.exit 0) (impl_stepped_L0X2 k1y0 k1y4 k1y12)) :
    SC cfg.P i_impl_stepped [.s (.v (.sl (.int .i64)) a0)] (.tup [.own t_int (.int .i64) ([] : List Int), .v .bool false]) [] :=
  SC_of_run cfgOK (its := [.loop (fun _ => (.exit 0, impl_stepped_L0X2 k1y0 k1y4 k1y12))])
    (ps := [LoopSC cfg.P 1 (lb P_impl_stepped 0) (impl_stepped_L0a a0 (1 : Int)) (.exit 0) (impl_stepped_L0X2 k1y0 k1y4 k1y12)]) (by kernel_rfl) ⟨h1, trivial⟩ get_impl_stepped (by decide)

/-! ### spec_wdStep -/


def spec_wdStep_L0a (x0 : (List Int)) (x4 : Int) : St := mkSt 40 [(0, .s (.v (.sl (.int .i64)) x0)), (4, .s (.v (.int .i64) x4))] []

def spec_wdStep_L0X1 (y3 : Bool) (yo31 : (List Int)) : St := mkSt 40 [(2, .s (.osl 31 0)), (3, .s (.v .bool y3))] [(31, .row t_int (.int .i64) yo31 0 false)]

def spec_wdStep_L0X2 (y0 : (List Int)) (y4 : Int) (y11 : Bool) : St := mkSt 40 [(0, .s (.v (.sl (.int .i64)) y0)), (4, .s (.v (.int .i64) y4)), (11, .s (.v .bool y11))] []

theorem spec_wdStep_L0a_x1 (x0 : (List Int)) (x4 : Int) (dc1a : (List Int)) (dc2 : (List Int))
    (h1 : (IntKind.wrap .i64 (x4 + (1 : Int))) < ((List.length x0 : Nat) : Int))
    (h2 : 0 ≤ x4)
    (h3 : x4 < (List.length x0 : Int))
    (h4 : 0 ≤ (IntKind.wrap .i64 (x4 + (1 : Int))))
    (h5 : (IntKind.wrap .i64 (x4 + (1 : Int))) < (List.length x0 : Int))
    (h6 : SC cfg.P i_spec_wdRule [.s (.v (.int .i64) (List.getD x0 (x4).toNat (0 : Int))), .s (.v (.int .i64) (List.getD x0 ((IntKind.wrap .i64 (x4 + (1 : Int)))).toNat (0 : Int)))] (.tup [.v (.sl (.int .i64)) dc1a, .v .bool true]) [])
    (h7 : x4 ≤ (List.length x0 : Int))
    (h8 : SC cfg.P i_spec_l1Own [.s (.v (.sl (.int .i64)) (cutL x0 (0 : Int) x4))] (.s (.own t_int (.int .i64) dc2)) [])
    (h9 : sizeOK (List.length dc2 + List.length dc1a))
    (h10 : 0 ≤ (IntKind.wrap .i64 (x4 + (2 : Int))))
    (h11 : (IntKind.wrap .i64 (x4 + (2 : Int))) ≤ (List.length x0 : Int))
    (h12 : sizeOK (List.length (dc2 ++ dc1a) + List.length (cutL x0 (IntKind.wrap .i64 (x4 + (2 : Int))) ((List.length x0 : Nat) : Int)))) :
    LoopSC cfg.P 1 (lb P_spec_wdStep 0) (spec_wdStep_L0a x0 x4) (.ret) (spec_wdStep_L0X1 true ((dc2 ++ dc1a) ++ (cutL x0 (IntKind.wrap .i64 (x4 + (2 : Int))) ((List.length x0 : Nat) : Int)))) :=
  loop_out cfgOK (f := i_spec_wdStep) (its := [.bool true, .res (.tup [.v (.sl (.int .i64)) dc1a, .v .bool true]) [] [] [], .res (.s (.own t_int (.int .i64) dc2)) [] [] [31]])
    (ps := [decide ((IntKind.wrap .i64 (x4 + (1 : Int))) < ((List.length x0 : Nat) : Int)) = true,
      0 ≤ x4,
      x4 < (List.length x0 : Int),
      0 ≤ (IntKind.wrap .i64 (x4 + (1 : Int))),
      (IntKind.wrap .i64 (x4 + (1 : Int))) < (List.length x0 : Int),
      SC cfg.P i_spec_wdRule [.s (.v (.int .i64) (List.getD x0 (x4).toNat (0 : Int))), .s (.v (.int .i64) (List.getD x0 ((IntKind.wrap .i64 (x4 + (1 : Int)))).toNat (0 : Int)))] (.tup [.v (.sl (.int .i64)) dc1a, .v .bool true]) [],
      0 ≤ x4,
      x4 ≤ (List.length x0 : Int),
      SC cfg.P i_spec_l1Own [.s (.v (.sl (.int .i64)) (cutL x0 (0 : Int) x4))] (.s (.own t_int (.int .i64) dc2)) [],
      sizeOK (List.length dc2 + List.length dc1a),
      0 ≤ (IntKind.wrap .i64 (x4 + (2 : Int))),
      (IntKind.wrap .i64 (x4 + (2 : Int))) ≤ (List.length x0 : Int),
      sizeOK (List.length (dc2 ++ dc1a) + List.length (cutL x0 (IntKind.wrap .i64 (x4 + (2 : Int))) ((List.length x0 : Nat) : Int)))]) (by kernel_rfl) ⟨(decide_eq_true h1), h2, h3, h4, h5, h6, h2, h7, h8, h9, h10, h11, h12, trivial⟩ (fun h => by cases h)

theorem spec_wdStep_L0a_i2 (x0 : (List Int)) (x4 : Int) (dc1a : (List Int))
    (h1 : (IntKind.wrap .i64 (x4 + (1 : Int))) < ((List.length x0 : Nat) : Int))
    (h2 : 0 ≤ x4)
    (h3 : x4 < (List.length x0 : Int))
    (h4 : 0 ≤ (IntKind.wrap .i64 (x4 + (1 : Int))))
    (h5 : (IntKind.wrap .i64 (x4 + (1 : Int))) < (List.length x0 : Int))
    (h6 : SC cfg.P i_spec_wdRule [.s (.v (.int .i64) (List.getD x0 (x4).toNat (0 : Int))), .s (.v (.int .i64) (List.getD x0 ((IntKind.wrap .i64 (x4 + (1 : Int)))).toNat (0 : Int)))] (.tup [.v (.sl (.int .i64)) dc1a, .v .bool false]) [])
    {e : AEx} {st : St} (next : LoopSC cfg.P 1 (lb P_spec_wdStep 0) (spec_wdStep_L0a x0 (IntKind.wrap .i64 (x4 + (1 : Int)))) e st) :
    LoopSC cfg.P 1 (lb P_spec_wdStep 0) (spec_wdStep_L0a x0 x4) e st :=
  loop_iter cfgOK (f := i_spec_wdStep) (its := [.bool true, .res (.tup [.v (.sl (.int .i64)) dc1a, .v .bool false]) [] [] []])
    (ps := [decide ((IntKind.wrap .i64 (x4 + (1 : Int))) < ((List.length x0 : Nat) : Int)) = true,
      0 ≤ x4,
      x4 < (List.length x0 : Int),
      0 ≤ (IntKind.wrap .i64 (x4 + (1 : Int))),
      (IntKind.wrap .i64 (x4 + (1 : Int))) < (List.length x0 : Int),
      SC cfg.P i_spec_wdRule [.s (.v (.int .i64) (List.getD x0 (x4).toNat (0 : Int))), .s (.v (.int .i64) (List.getD x0 ((IntKind.wrap .i64 (x4 + (1 : Int)))).toNat (0 : Int)))] (.tup [.v (.sl (.int .i64)) dc1a, .v .bool false]) []]) (st1 := spec_wdStep_L0a x0 (IntKind.wrap .i64 (x4 + (1 : Int)))) (by kernel_rfl) ⟨(decide_eq_true h1), h2, h3, h4, h5, h6, trivial⟩ next

theorem spec_wdStep_L0a_x3 (x0 : (List Int)) (x4 : Int)
    (h1 : ¬ ((IntKind.wrap .i64 (x4 + (1 : Int))) < ((List.length x0 : Nat) : Int))) :
    LoopSC cfg.P 1 (lb P_spec_wdStep 0) (spec_wdStep_L0a x0 x4) (.exit 0) (spec_wdStep_L0X2 x0 x4 false) :=
  loop_out cfgOK (f := i_spec_wdStep) (its := [.bool false])
    (ps := [decide ((IntKind.wrap .i64 (x4 + (1 : Int))) < ((List.length x0 : Nat) : Int)) = false]) (by kernel_rfl) ⟨(decide_eq_false h1), trivial⟩ (fun h => by cases h)

theorem spec_wdStep_p1 (a0 : (List Int)) (k1y3 : Bool) (k1yo31 : (List Int))
    (h1 : LoopSC cfg.P 1 (lb P_spec_wdStep 0) (spec_wdStep_L0a a0 (0 : Int)) (.ret) (spec_wdStep_L0X1 k1y3 k1yo31)) :
    SC cfg.P i_spec_wdStep [.s (.v (.sl (.int .i64)) a0)] (.tup [.own t_int (.int .i64) k1yo31, .v .bool k1y3]) [] :=
  SC_of_run cfgOK (its := [.loop (fun _ => (.ret, spec_wdStep_L0X1 k1y3 k1yo31))])
    (ps := [LoopSC cfg.P 1 (lb P_spec_wdStep 0) (spec_wdStep_L0a a0 (0 : Int)) (.ret) (spec_wdStep_L0X1 k1y3 k1yo31)]) (by kernel_rfl) ⟨h1, trivial⟩ get_spec_wdStep (by decide)

theorem spec_wdStep_p2 (a0 : (List Int)) (k1y0 : (List Int)) (k1y4 : Int) (k1y11 : Bool)
    (h1 : LoopSC cfg.P 1 (lb P_spec_wdStep 0) (spec_wdStep_L0a a0 (0 : Int)) (.exit 0) (spec_wdStep_L0X2 k1y0 k1y4 k1y11)) :
    SC cfg.P i_spec_wdStep [.s (.v (.sl (.int .i64)) a0)] (.tup [.v (.sl (.int .i64)) k1y0, .v .bool false]) [] :=
  SC_of_run cfgOK (its := [.loop (fun _ => (.exit 0, spec_wdStep_L0X2 k1y0 k1y4 k1y11))])
    (ps := [LoopSC cfg.P 1 (lb P_spec_wdStep 0) (spec_wdStep_L0a a0 (0 : Int)) (.exit 0) (spec_wdStep_L0X2 k1y0 k1y4 k1y11)]) (by kernel_rfl) ⟨h1, trivial⟩ get_spec_wdStep (by decide)

/-! ### impl_sorted -/


def impl_sorted_L0a (x0 : (List Int)) (x3 : Int) : St := mkSt 28 [(0, .s (.v (.sl (.int .i64)) x0)), (3, .s (.v (.int .i64) x3))] []

def impl_sorted_L0X1 (y2 : Bool) : St := mkSt 28 [(2, .s (.v .bool y2))] []

def impl_sorted_L0X2 (y0 : (List Int)) (y3 : Int) (y10 : Bool) : St := mkSt 28 [(0, .s (.v (.sl (.int .i64)) y0)), (3, .s (.v (.int .i64) y3)), (10, .s (.v .bool y10))] []

theorem impl_sorted_L0a_x1 (x0 : (List Int)) (x3 : Int) (dc1a : Int) (dc1b : Int)
    (h1 : x3 < ((List.length x0 : Nat) : Int))
    (h2 : 0 ≤ (IntKind.wrap .i64 (x3 - (1 : Int))))
    (h3 : (IntKind.wrap .i64 (x3 - (1 : Int))) < (List.length x0 : Int))
    (h4 : 0 ≤ x3)
    (h5 : x3 < (List.length x0 : Int))
    (h6 : SC cfg.P i_impl_rule [.s (.v (.int .i64) (List.getD x0 ((IntKind.wrap .i64 (x3 - (1 : Int)))).toNat (0 : Int))), .s (.v (.int .i64) (List.getD x0 (x3).toNat (0 : Int)))] (.tup [.v (.int .i64) dc1a, .v (.int .i64) dc1b, .v .bool true]) []) :
    LoopSC cfg.P 1 (lb P_impl_sorted 0) (impl_sorted_L0a x0 x3) (.ret) (impl_sorted_L0X1 false) :=
  loop_out cfgOK (f := i_impl_sorted) (its := [.bool true, .res (.tup [.v (.int .i64) dc1a, .v (.int .i64) dc1b, .v .bool true]) [] [] []])
    (ps := [decide (x3 < ((List.length x0 : Nat) : Int)) = true,
      0 ≤ (IntKind.wrap .i64 (x3 - (1 : Int))),
      (IntKind.wrap .i64 (x3 - (1 : Int))) < (List.length x0 : Int),
      0 ≤ x3,
      x3 < (List.length x0 : Int),
      SC cfg.P i_impl_rule [.s (.v (.int .i64) (List.getD x0 ((IntKind.wrap .i64 (x3 - (1 : Int)))).toNat (0 : Int))), .s (.v (.int .i64) (List.getD x0 (x3).toNat (0 : Int)))] (.tup [.v (.int .i64) dc1a, .v (.int .i64) dc1b, .v .bool true]) []]) (by kernel_rfl) ⟨(decide_eq_true h1), h2, h3, h4, h5, h6, trivial⟩ (fun h => by cases h)

theorem impl_sorted_L0a_i2 (x0 : (List Int)) (x3 : Int) (dc1a : Int) (dc1b : Int)
    (h1 : x3 < ((List.length x0 : Nat) : Int))
    (h2 : 0 ≤ (IntKind.wrap .i64 (x3 - (1 : Int))))
    (h3 : (IntKind.wrap .i64 (x3 - (1 : Int))) < (List.length x0 : Int))
    (h4 : 0 ≤ x3)
    (h5 : x3 < (List.length x0 : Int))
    (h6 : SC cfg.P i_impl_rule [.s (.v (.int .i64) (List.getD x0 ((IntKind.wrap .i64 (x3 - (1 : Int)))).toNat (0 : Int))), .s (.v (.int .i64) (List.getD x0 (x3).toNat (0 : Int)))] (.tup [.v (.int .i64) dc1a, .v (.int .i64) dc1b, .v .bool false]) [])
    {e : AEx} {st : St} (next : LoopSC cfg.P 1 (lb P_impl_sorted 0) (impl_sorted_L0a x0 (IntKind.wrap .i64 (x3 + (1 : Int)))) e st) :
    LoopSC cfg.P 1 (lb P_impl_sorted 0) (impl_sorted_L0a x0 x3) e st :=
  loop_iter cfgOK (f := i_impl_sorted) (its := [.bool true, .res (.tup [.v (.int .i64) dc1a, .v (.int .i64) dc1b, .v .bool false]) [] [] []])
    (ps := [decide (x3 < ((List.length x0 : Nat) : Int)) = true,
      0 ≤ (IntKind.wrap .i64 (x3 - (1 : Int))),
      (IntKind.wrap .i64 (x3 - (1 : Int))) < (List.length x0 : Int),
      0 ≤ x3,
      x3 < (List.length x0 : Int),
      SC cfg.P i_impl_rule [.s (.v (.int .i64) (List.getD x0 ((IntKind.wrap .i64 (x3 - (1 : Int)))).toNat (0 : Int))), .s (.v (.int .i64) (List.getD x0 (x3).toNat (0 : Int)))] (.tup [.v (.int .i64) dc1a, .v (.int .i64) dc1b, .v .bool false]) []]) (st1 := impl_sorted_L0a x0 (IntKind.wrap .i64 (x3 + (1 : Int)))) (by kernel_rfl) ⟨(decide_eq_true h1), h2, h3, h4, h5, h6, trivial⟩ next

theorem impl_sorted_L0a_x3 (x0 : (List Int)) (x3 : Int)
    (h1 : ¬ (x3 < ((List.length x0 : Nat) : Int))) :
    LoopSC cfg.P 1 (lb P_impl_sorted 0) (impl_sorted_L0a x0 x3) (.exit 0) (impl_sorted_L0X2 x0 x3 false) :=
  loop_out cfgOK (f := i_impl_sorted) (its := [.bool false])
    (ps := [decide (x3 < ((List.length x0 : Nat) : Int)) = false]) (by kernel_rfl) ⟨(decide_eq_false h1), trivial⟩ (fun h => by cases h)

theorem impl_sorted_p1 (a0 : (List Int)) (k1y2 : Bool)
    (h1 : LoopSC cfg.P 1 (lb P_impl_sorted 0) (impl_sorted_L0a a0 (1 : Int)) (.ret) (impl_sorted_L0X1 k1y2)) :
    SC cfg.P i_impl_sorted [.s (.v (.sl (.int .i64)) a0)] (.s (.v .bool k1y2)) [] :=
  SC_of_run cfgOK (its := [.loop (fun _ => (.ret, impl_sorted_L0X1 k1y2))])
    (ps := [LoopSC cfg.P 1 (lb P_impl_sorted 0) (impl_sorted_L0a a0 (1 : Int)) (.ret) (impl_sorted_L0X1 k1y2)]) (by kernel_rfl) ⟨h1, trivial⟩ get_impl_sorted (by decide)

theorem impl_sorted_p2 (a0 : (List Int)) (k1y0 : (List Int)) (k1y3 : Int) (k1y10 : Bool)
    (h1 : LoopSC cfg.P 1 (lb P_impl_sorted 0) (impl_sorted_L0a a0 (1 : Int)) (.exit 0) (impl_sorted_L0X2 k1y0 k1y3 k1y10)) :
    SC cfg.P i_impl_sorted [.s (.v (.sl (.int .i64)) a0)] (.s (.v .bool true)) [] :=
  SC_of_run cfgOK (its := [.loop (fun _ => (.exit 0, impl_sorted_L0X2 k1y0 k1y3 k1y10))])
    (ps := [LoopSC cfg.P 1 (lb P_impl_sorted 0) (impl_sorted_L0a a0 (1 : Int)) (.exit 0) (impl_sorted_L0X2 k1y0 k1y3 k1y10)]) (by kernel_rfl) ⟨h1, trivial⟩ get_impl_sorted (by decide)

/-! ### spec_wdSorted -/


theorem spec_wdSorted_p1 (a0 : (List Int)) (c1a : (List Int)) (c1b : Bool)
    (h1 : SC cfg.P i_spec_wdStep [.s (.v (.sl (.int .i64)) a0)] (.tup [.v (.sl (.int .i64)) c1a, .v .bool c1b]) []) :
    SC cfg.P i_spec_wdSorted [.s (.v (.sl (.int .i64)) a0)] (.s (.v .bool (!c1b))) [] :=
  SC_of_run cfgOK (its := [.res (.tup [.v (.sl (.int .i64)) c1a, .v .bool c1b]) [] [] []])
    (ps := [SC cfg.P i_spec_wdStep [.s (.v (.sl (.int .i64)) a0)] (.tup [.v (.sl (.int .i64)) c1a, .v .bool c1b]) []]) (by kernel_rfl) ⟨h1, trivial⟩ get_spec_wdSorted (by decide)

/-! ### slices_Clone -/


-- slices_Clone: const ('app', 'Value.slice', ['none', '0', '0']) at 0 at "slices.go:357" binOp   []

/-! ### impl_rule -/


theorem impl_rule_p1 (a0 : Int) (a1 : Int)
    (h1 : a0 = (IntKind.wrap .i64 (0 - a1))) :
    SC cfg.P i_impl_rule [.s (.v (.int .i64) a0), .s (.v (.int .i64) a1)] (.tup [.v (.int .i64) (0 : Int), .v (.int .i64) (0 : Int), .v .bool true]) [] :=
  SC_of_run cfgOK (its := [.bool true])
    (ps := [(a0 == (IntKind.wrap .i64 (0 - a1))) = true]) (by kernel_rfl) ⟨(beq_iff_eq.mpr h1), trivial⟩ get_impl_rule (by decide)

theorem impl_rule_p2 (a0 : Int) (a1 : Int)
    (h1 : a0 ≠ (IntKind.wrap .i64 (0 - a1)))
    (h2 : a0 > (0 : Int))
    (h3 : a1 > (0 : Int))
    (h4 : a0 > a1) :
    SC cfg.P i_impl_rule [.s (.v (.int .i64) a0), .s (.v (.int .i64) a1)] (.tup [.v (.int .i64) a1, .v (.int .i64) (IntKind.wrap .i64 (a0 + (1 : Int))), .v .bool true]) [] :=
  SC_of_run cfgOK (its := [.bool false, .bool true, .bool true, .bool true])
    (ps := [(a0 == (IntKind.wrap .i64 (0 - a1))) = false,
      decide (a0 > (0 : Int)) = true,
      decide (a1 > (0 : Int)) = true,
      decide (a0 > a1) = true]) (by kernel_rfl) ⟨(beq_eq_false_iff_ne.mpr h1), (decide_eq_true h2), (decide_eq_true h3), (decide_eq_true h4), trivial⟩ get_impl_rule (by decide)

theorem impl_rule_p3 (a0 : Int) (a1 : Int)
    (h1 : a0 ≠ (IntKind.wrap .i64 (0 - a1)))
    (h2 : a0 > (0 : Int))
    (h3 : a1 > (0 : Int))
    (h4 : ¬ (a0 > a1))
    (h5 : a0 < (0 : Int))
    (h6 : a1 < (0 : Int))
    (h7 : (IntKind.wrap .i64 (0 - a0)) < (IntKind.wrap .i64 (0 - a1))) :
    SC cfg.P i_impl_rule [.s (.v (.int .i64) a0), .s (.v (.int .i64) a1)] (.tup [.v (.int .i64) (IntKind.wrap .i64 (a1 - (1 : Int))), .v (.int .i64) a0, .v .bool true]) [] :=
  SC_of_run cfgOK (its := [.bool false, .bool true, .bool true, .bool false, .bool true, .bool true, .bool true])
    (ps := [(a0 == (IntKind.wrap .i64 (0 - a1))) = false,
      decide (a0 > (0 : Int)) = true,
      decide (a1 > (0 : Int)) = true,
      decide (a0 > a1) = false,
      decide (a0 < (0 : Int)) = true,
      decide (a1 < (0 : Int)) = true,
      decide ((IntKind.wrap .i64 (0 - a0)) < (IntKind.wrap .i64 (0 - a1))) = true]) (by kernel_rfl) ⟨(beq_eq_false_iff_ne.mpr h1), (decide_eq_true h2), (decide_eq_true h3), (decide_eq_false h4), (decide_eq_true h5), (decide_eq_true h6), (decide_eq_true h7), trivial⟩ get_impl_rule (by decide)

theorem impl_rule_p4 (a0 : Int) (a1 : Int)
    (h1 : a0 ≠ (IntKind.wrap .i64 (0 - a1)))
    (h2 : a0 > (0 : Int))
    (h3 : a1 > (0 : Int))
    (h4 : ¬ (a0 > a1))
    (h5 : a0 < (0 : Int))
    (h6 : a1 < (0 : Int))
    (h7 : ¬ ((IntKind.wrap .i64 (0 - a0)) < (IntKind.wrap .i64 (0 - a1))))
    (h8 : (IntKind.wrap .i64 (0 - a0)) < a1) :
    SC cfg.P i_impl_rule [.s (.v (.int .i64) a0), .s (.v (.int .i64) a1)] (.tup [.v (.int .i64) (IntKind.wrap .i64 (a1 + (1 : Int))), .v (.int .i64) a0, .v .bool true]) [] :=
  SC_of_run cfgOK (its := [.bool false, .bool true, .bool true, .bool false, .bool true, .bool true, .bool false, .bool true, .bool true, .bool true])
    (ps := [(a0 == (IntKind.wrap .i64 (0 - a1))) = false,
      decide (a0 > (0 : Int)) = true,
      decide (a1 > (0 : Int)) = true,
      decide (a0 > a1) = false,
      decide (a0 < (0 : Int)) = true,
      decide (a1 < (0 : Int)) = true,
      decide ((IntKind.wrap .i64 (0 - a0)) < (IntKind.wrap .i64 (0 - a1))) = false,
      decide (a0 < (0 : Int)) = true,
      decide (a1 > (0 : Int)) = true,
      decide ((IntKind.wrap .i64 (0 - a0)) < a1) = true]) (by kernel_rfl) ⟨(beq_eq_false_iff_ne.mpr h1), (decide_eq_true h2), (decide_eq_true h3), (decide_eq_false h4), (decide_eq_true h5), (decide_eq_true h6), (decide_eq_false h7), (decide_eq_true h5), (decide_eq_true h3), (decide_eq_true h8), trivial⟩ get_impl_rule (by decide)

theorem impl_rule_p5 (a0 : Int) (a1 : Int)
    (h1 : a0 ≠ (IntKind.wrap .i64 (0 - a1)))
    (h2 : a0 > (0 : Int))
    (h3 : a1 > (0 : Int))
    (h4 : ¬ (a0 > a1))
    (h5 : a0 < (0 : Int))
    (h6 : a1 < (0 : Int))
    (h7 : ¬ ((IntKind.wrap .i64 (0 - a0)) < (IntKind.wrap .i64 (0 - a1))))
    (h8 : ¬ ((IntKind.wrap .i64 (0 - a0)) < a1))
    (h9 : (IntKind.wrap .i64 (0 - a0)) > a1) :
    SC cfg.P i_impl_rule [.s (.v (.int .i64) a0), .s (.v (.int .i64) a1)] (.tup [.v (.int .i64) a1, .v (.int .i64) (IntKind.wrap .i64 (a0 - (1 : Int))), .v .bool true]) [] :=
  SC_of_run cfgOK (its := [.bool false, .bool true, .bool true, .bool false, .bool true, .bool true, .bool false, .bool true, .bool true, .bool false, .bool true, .bool true, .bool true])
    (ps := [(a0 == (IntKind.wrap .i64 (0 - a1))) = false,
      decide (a0 > (0 : Int)) = true,
      decide (a1 > (0 : Int)) = true,
      decide (a0 > a1) = false,
      decide (a0 < (0 : Int)) = true,
      decide (a1 < (0 : Int)) = true,
      decide ((IntKind.wrap .i64 (0 - a0)) < (IntKind.wrap .i64 (0 - a1))) = false,
      decide (a0 < (0 : Int)) = true,
      decide (a1 > (0 : Int)) = true,
      decide ((IntKind.wrap .i64 (0 - a0)) < a1) = false,
      decide (a0 < (0 : Int)) = true,
      decide (a1 > (0 : Int)) = true,
      decide ((IntKind.wrap .i64 (0 - a0)) > a1) = true]) (by kernel_rfl) ⟨(beq_eq_false_iff_ne.mpr h1), (decide_eq_true h2), (decide_eq_true h3), (decide_eq_false h4), (decide_eq_true h5), (decide_eq_true h6), (decide_eq_false h7), (decide_eq_true h5), (decide_eq_true h3), (decide_eq_false h8), (decide_eq_true h5), (decide_eq_true h3), (decide_eq_true h9), trivial⟩ get_impl_rule (by decide)

theorem impl_rule_p6 (a0 : Int) (a1 : Int)
    (h1 : a0 ≠ (IntKind.wrap .i64 (0 - a1)))
    (h2 : a0 > (0 : Int))
    (h3 : a1 > (0 : Int))
    (h4 : ¬ (a0 > a1))
    (h5 : a0 < (0 : Int))
    (h6 : a1 < (0 : Int))
    (h7 : ¬ ((IntKind.wrap .i64 (0 - a0)) < (IntKind.wrap .i64 (0 - a1))))
    (h8 : ¬ ((IntKind.wrap .i64 (0 - a0)) < a1))
    (h9 : ¬ ((IntKind.wrap .i64 (0 - a0)) > a1)) :
    SC cfg.P i_impl_rule [.s (.v (.int .i64) a0), .s (.v (.int .i64) a1)] (.tup [.v (.int .i64) (0 : Int), .v (.int .i64) (0 : Int), .v .bool false]) [] :=
  SC_of_run cfgOK (its := [.bool false, .bool true, .bool true, .bool false, .bool true, .bool true, .bool false, .bool true, .bool true, .bool false, .bool true, .bool true, .bool false])
    (ps := [(a0 == (IntKind.wrap .i64 (0 - a1))) = false,
      decide (a0 > (0 : Int)) = true,
      decide (a1 > (0 : Int)) = true,
      decide (a0 > a1) = false,
      decide (a0 < (0 : Int)) = true,
      decide (a1 < (0 : Int)) = true,
      decide ((IntKind.wrap .i64 (0 - a0)) < (IntKind.wrap .i64 (0 - a1))) = false,
      decide (a0 < (0 : Int)) = true,
      decide (a1 > (0 : Int)) = true,
      decide ((IntKind.wrap .i64 (0 - a0)) < a1) = false,
      decide (a0 < (0 : Int)) = true,
      decide (a1 > (0 : Int)) = true,
      decide ((IntKind.wrap .i64 (0 - a0)) > a1) = false]) (by kernel_rfl) ⟨(beq_eq_false_iff_ne.mpr h1), (decide_eq_true h2), (decide_eq_true h3), (decide_eq_false h4), (decide_eq_true h5), (decide_eq_true h6), (decide_eq_false h7), (decide_eq_true h5), (decide_eq_true h3), (decide_eq_false h8), (decide_eq_true h5), (decide_eq_true h3), (decide_eq_false h9), trivial⟩ get_impl_rule (by decide)

theorem impl_rule_p7 (a0 : Int) (a1 : Int)
    (h1 : a0 ≠ (IntKind.wrap .i64 (0 - a1)))
    (h2 : a0 > (0 : Int))
    (h3 : a1 > (0 : Int))
    (h4 : ¬ (a0 > a1))
    (h5 : a0 < (0 : Int))
    (h6 : ¬ (a1 < (0 : Int)))
    (h7 : (IntKind.wrap .i64 (0 - a0)) < a1) :
    SC cfg.P i_impl_rule [.s (.v (.int .i64) a0), .s (.v (.int .i64) a1)] (.tup [.v (.int .i64) (IntKind.wrap .i64 (a1 + (1 : Int))), .v (.int .i64) a0, .v .bool true]) [] :=
  SC_of_run cfgOK (its := [.bool false, .bool true, .bool true, .bool false, .bool true, .bool false, .bool true, .bool true, .bool true])
    (ps := [(a0 == (IntKind.wrap .i64 (0 - a1))) = false,
      decide (a0 > (0 : Int)) = true,
      decide (a1 > (0 : Int)) = true,
      decide (a0 > a1) = false,
      decide (a0 < (0 : Int)) = true,
      decide (a1 < (0 : Int)) = false,
      decide (a0 < (0 : Int)) = true,
      decide (a1 > (0 : Int)) = true,
      decide ((IntKind.wrap .i64 (0 - a0)) < a1) = true]) (by kernel_rfl) ⟨(beq_eq_false_iff_ne.mpr h1), (decide_eq_true h2), (decide_eq_true h3), (decide_eq_false h4), (decide_eq_true h5), (decide_eq_false h6), (decide_eq_true h5), (decide_eq_true h3), (decide_eq_true h7), trivial⟩ get_impl_rule (by decide)

theorem impl_rule_p8 (a0 : Int) (a1 : Int)
    (h1 : a0 ≠ (IntKind.wrap .i64 (0 - a1)))
    (h2 : a0 > (0 : Int))
    (h3 : a1 > (0 : Int))
    (h4 : ¬ (a0 > a1))
    (h5 : a0 < (0 : Int))
    (h6 : ¬ (a1 < (0 : Int)))
    (h7 : ¬ ((IntKind.wrap .i64 (0 - a0)) < a1))
    (h8 : (IntKind.wrap .i64 (0 - a0)) > a1) :
    SC cfg.P i_impl_rule [.s (.v (.int .i64) a0), .s (.v (.int .i64) a1)] (.tup [.v (.int .i64) a1, .v (.int .i64) (IntKind.wrap .i64 (a0 - (1 : Int))), .v .bool true]) [] :=
  SC_of_run cfgOK (its := [.bool false, .bool true, .bool true, .bool false, .bool true, .bool false, .bool true, .bool true, .bool false, .bool true, .bool true, .bool true])
    (ps := [(a0 == (IntKind.wrap .i64 (0 - a1))) = false,
      decide (a0 > (0 : Int)) = true,
      decide (a1 > (0 : Int)) = true,
      decide (a0 > a1) = false,
      decide (a0 < (0 : Int)) = true,
      decide (a1 < (0 : Int)) = false,
      decide (a0 < (0 : Int)) = true,
      decide (a1 > (0 : Int)) = true,
      decide ((IntKind.wrap .i64 (0 - a0)) < a1) = false,
      decide (a0 < (0 : Int)) = true,
      decide (a1 > (0 : Int)) = true,
      decide ((IntKind.wrap .i64 (0 - a0)) > a1) = true]) (by kernel_rfl) ⟨(beq_eq_false_iff_ne.mpr h1), (decide_eq_true h2), (decide_eq_true h3), (decide_eq_false h4), (decide_eq_true h5), (decide_eq_false h6), (decide_eq_true h5), (decide_eq_true h3), (decide_eq_false h7), (decide_eq_true h5), (decide_eq_true h3), (decide_eq_true h8), trivial⟩ get_impl_rule (by decide)

theorem impl_rule_p9 (a0 : Int) (a1 : Int)
    (h1 : a0 ≠ (IntKind.wrap .i64 (0 - a1)))
    (h2 : a0 > (0 : Int))
    (h3 : a1 > (0 : Int))
    (h4 : ¬ (a0 > a1))
    (h5 : a0 < (0 : Int))
    (h6 : ¬ (a1 < (0 : Int)))
    (h7 : ¬ ((IntKind.wrap .i64 (0 - a0)) < a1))
    (h8 : ¬ ((IntKind.wrap .i64 (0 - a0)) > a1)) :
    SC cfg.P i_impl_rule [.s (.v (.int .i64) a0), .s (.v (.int .i64) a1)] (.tup [.v (.int .i64) (0 : Int), .v (.int .i64) (0 : Int), .v .bool false]) [] :=
  SC_of_run cfgOK (its := [.bool false, .bool true, .bool true, .bool false, .bool true, .bool false, .bool true, .bool true, .bool false, .bool true, .bool true, .bool false])
    (ps := [(a0 == (IntKind.wrap .i64 (0 - a1))) = false,
      decide (a0 > (0 : Int)) = true,
      decide (a1 > (0 : Int)) = true,
      decide (a0 > a1) = false,
      decide (a0 < (0 : Int)) = true,
      decide (a1 < (0 : Int)) = false,
      decide (a0 < (0 : Int)) = true,
      decide (a1 > (0 : Int)) = true,
      decide ((IntKind.wrap .i64 (0 - a0)) < a1) = false,
      decide (a0 < (0 : Int)) = true,
      decide (a1 > (0 : Int)) = true,
      decide ((IntKind.wrap .i64 (0 - a0)) > a1) = false]) (by kernel_rfl) ⟨(beq_eq_false_iff_ne.mpr h1), (decide_eq_true h2), (decide_eq_true h3), (decide_eq_false h4), (decide_eq_true h5), (decide_eq_false h6), (decide_eq_true h5), (decide_eq_true h3), (decide_eq_false h7), (decide_eq_true h5), (decide_eq_true h3), (decide_eq_false h8), trivial⟩ get_impl_rule (by decide)

theorem impl_rule_p10 (a0 : Int) (a1 : Int)
    (h1 : a0 ≠ (IntKind.wrap .i64 (0 - a1)))
    (h2 : a0 > (0 : Int))
    (h3 : a1 > (0 : Int))
    (h4 : ¬ (a0 > a1))
    (h5 : ¬ (a0 < (0 : Int))) :
    SC cfg.P i_impl_rule [.s (.v (.int .i64) a0), .s (.v (.int .i64) a1)] (.tup [.v (.int .i64) (0 : Int), .v (.int .i64) (0 : Int), .v .bool false]) [] :=
  SC_of_run cfgOK (its := [.bool false, .bool true, .bool true, .bool false, .bool false, .bool false, .bool false])
    (ps := [(a0 == (IntKind.wrap .i64 (0 - a1))) = false,
      decide (a0 > (0 : Int)) = true,
      decide (a1 > (0 : Int)) = true,
      decide (a0 > a1) = false,
      decide (a0 < (0 : Int)) = false,
      decide (a0 < (0 : Int)) = false,
      decide (a0 < (0 : Int)) = false]) (by kernel_rfl) ⟨(beq_eq_false_iff_ne.mpr h1), (decide_eq_true h2), (decide_eq_true h3), (decide_eq_false h4), (decide_eq_false h5), (decide_eq_false h5), (decide_eq_false h5), trivial⟩ get_impl_rule (by decide)

theorem impl_rule_p11 (a0 : Int) (a1 : Int)
    (h1 : a0 ≠ (IntKind.wrap .i64 (0 - a1)))
    (h2 : a0 > (0 : Int))
    (h3 : ¬ (a1 > (0 : Int)))
    (h4 : a0 < (0 : Int))
    (h5 : a1 < (0 : Int))
    (h6 : (IntKind.wrap .i64 (0 - a0)) < (IntKind.wrap .i64 (0 - a1))) :
    SC cfg.P i_impl_rule [.s (.v (.int .i64) a0), .s (.v (.int .i64) a1)] (.tup [.v (.int .i64) (IntKind.wrap .i64 (a1 - (1 : Int))), .v (.int .i64) a0, .v .bool true]) [] :=
  SC_of_run cfgOK (its := [.bool false, .bool true, .bool false, .bool true, .bool true, .bool true])
    (ps := [(a0 == (IntKind.wrap .i64 (0 - a1))) = false,
      decide (a0 > (0 : Int)) = true,
      decide (a1 > (0 : Int)) = false,
      decide (a0 < (0 : Int)) = true,
      decide (a1 < (0 : Int)) = true,
      decide ((IntKind.wrap .i64 (0 - a0)) < (IntKind.wrap .i64 (0 - a1))) = true]) (by kernel_rfl) ⟨(beq_eq_false_iff_ne.mpr h1), (decide_eq_true h2), (decide_eq_false h3), (decide_eq_true h4), (decide_eq_true h5), (decide_eq_true h6), trivial⟩ get_impl_rule (by decide)

theorem impl_rule_p12 (a0 : Int) (a1 : Int)
    (h1 : a0 ≠ (IntKind.wrap .i64 (0 - a1)))
    (h2 : a0 > (0 : Int))
    (h3 : ¬ (a1 > (0 : Int)))
    (h4 : a0 < (0 : Int))
    (h5 : a1 < (0 : Int))
    (h6 : ¬ ((IntKind.wrap .i64 (0 - a0)) < (IntKind.wrap .i64 (0 - a1)))) :
    SC cfg.P i_impl_rule [.s (.v (.int .i64) a0), .s (.v (.int .i64) a1)] (.tup [.v (.int .i64) (0 : Int), .v (.int .i64) (0 : Int), .v .bool false]) [] :=
  SC_of_run cfgOK (its := [.bool false, .bool true, .bool false, .bool true, .bool true, .bool false, .bool true, .bool false, .bool true, .bool false])
    (ps := [(a0 == (IntKind.wrap .i64 (0 - a1))) = false,
      decide (a0 > (0 : Int)) = true,
      decide (a1 > (0 : Int)) = false,
      decide (a0 < (0 : Int)) = true,
      decide (a1 < (0 : Int)) = true,
      decide ((IntKind.wrap .i64 (0 - a0)) < (IntKind.wrap .i64 (0 - a1))) = false,
      decide (a0 < (0 : Int)) = true,
      decide (a1 > (0 : Int)) = false,
      decide (a0 < (0 : Int)) = true,
      decide (a1 > (0 : Int)) = false]) (by kernel_rfl) ⟨(beq_eq_false_iff_ne.mpr h1), (decide_eq_true h2), (decide_eq_false h3), (decide_eq_true h4), (decide_eq_true h5), (decide_eq_false h6), (decide_eq_true h4), (decide_eq_false h3), (decide_eq_true h4), (decide_eq_false h3), trivial⟩ get_impl_rule (by decide)

theorem impl_rule_p13 (a0 : Int) (a1 : Int)
    (h1 : a0 ≠ (IntKind.wrap .i64 (0 - a1)))
    (h2 : a0 > (0 : Int))
    (h3 : ¬ (a1 > (0 : Int)))
    (h4 : a0 < (0 : Int))
    (h5 : ¬ (a1 < (0 : Int))) :
    SC cfg.P i_impl_rule [.s (.v (.int .i64) a0), .s (.v (.int .i64) a1)] (.tup [.v (.int .i64) (0 : Int), .v (.int .i64) (0 : Int), .v .bool false]) [] :=
  SC_of_run cfgOK (its := [.bool false, .bool true, .bool false, .bool true, .bool false, .bool true, .bool false, .bool true, .bool false])
    (ps := [(a0 == (IntKind.wrap .i64 (0 - a1))) = false,
      decide (a0 > (0 : Int)) = true,
      decide (a1 > (0 : Int)) = false,
      decide (a0 < (0 : Int)) = true,
      decide (a1 < (0 : Int)) = false,
      decide (a0 < (0 : Int)) = true,
      decide (a1 > (0 : Int)) = false,
      decide (a0 < (0 : Int)) = true,
      decide (a1 > (0 : Int)) = false]) (by kernel_rfl) ⟨(beq_eq_false_iff_ne.mpr h1), (decide_eq_true h2), (decide_eq_false h3), (decide_eq_true h4), (decide_eq_false h5), (decide_eq_true h4), (decide_eq_false h3), (decide_eq_true h4), (decide_eq_false h3), trivial⟩ get_impl_rule (by decide)

theorem impl_rule_p14 (a0 : Int) (a1 : Int)
    (h1 : a0 ≠ (IntKind.wrap .i64 (0 - a1)))
    (h2 : a0 > (0 : Int))
    (h3 : ¬ (a1 > (0 : Int)))
    (h4 : ¬ (a0 < (0 : Int))) :
    SC cfg.P i_impl_rule [.s (.v (.int .i64) a0), .s (.v (.int .i64) a1)] (.tup [.v (.int .i64) (0 : Int), .v (.int .i64) (0 : Int), .v .bool false]) [] :=
  SC_of_run cfgOK (its := [.bool false, .bool true, .bool false, .bool false, .bool false, .bool false])
    (ps := [(a0 == (IntKind.wrap .i64 (0 - a1))) = false,
      decide (a0 > (0 : Int)) = true,
      decide (a1 > (0 : Int)) = false,
      decide (a0 < (0 : Int)) = false,
      decide (a0 < (0 : Int)) = false,
      decide (a0 < (0 : Int)) = false]) (by kernel_rfl) ⟨(beq_eq_false_iff_ne.mpr h1), (decide_eq_true h2), (decide_eq_false h3), (decide_eq_false h4), (decide_eq_false h4), (decide_eq_false h4), trivial⟩ get_impl_rule (by decide)

theorem impl_rule_p15 (a0 : Int) (a1 : Int)
    (h1 : a0 ≠ (IntKind.wrap .i64 (0 - a1)))
    (h2 : ¬ (a0 > (0 : Int)))
    (h3 : a0 < (0 : Int))
    (h4 : a1 < (0 : Int))
    (h5 : (IntKind.wrap .i64 (0 - a0)) < (IntKind.wrap .i64 (0 - a1))) :
    SC cfg.P i_impl_rule [.s (.v (.int .i64) a0), .s (.v (.int .i64) a1)] (.tup [.v (.int .i64) (IntKind.wrap .i64 (a1 - (1 : Int))), .v (.int .i64) a0, .v .bool true]) [] :=
  SC_of_run cfgOK (its := [.bool false, .bool false, .bool true, .bool true, .bool true])
    (ps := [(a0 == (IntKind.wrap .i64 (0 - a1))) = false,
      decide (a0 > (0 : Int)) = false,
      decide (a0 < (0 : Int)) = true,
      decide (a1 < (0 : Int)) = true,
      decide ((IntKind.wrap .i64 (0 - a0)) < (IntKind.wrap .i64 (0 - a1))) = true]) (by kernel_rfl) ⟨(beq_eq_false_iff_ne.mpr h1), (decide_eq_false h2), (decide_eq_true h3), (decide_eq_true h4), (decide_eq_true h5), trivial⟩ get_impl_rule (by decide)

theorem impl_rule_p16 (a0 : Int) (a1 : Int)
    (h1 : a0 ≠ (IntKind.wrap .i64 (0 - a1)))
    (h2 : ¬ (a0 > (0 : Int)))
    (h3 : a0 < (0 : Int))
    (h4 : a1 < (0 : Int))
    (h5 : ¬ ((IntKind.wrap .i64 (0 - a0)) < (IntKind.wrap .i64 (0 - a1))))
    (h6 : a1 > (0 : Int))
    (h7 : (IntKind.wrap .i64 (0 - a0)) < a1) :
    SC cfg.P i_impl_rule [.s (.v (.int .i64) a0), .s (.v (.int .i64) a1)] (.tup [.v (.int .i64) (IntKind.wrap .i64 (a1 + (1 : Int))), .v (.int .i64) a0, .v .bool true]) [] :=
  SC_of_run cfgOK (its := [.bool false, .bool false, .bool true, .bool true, .bool false, .bool true, .bool true, .bool true])
    (ps := [(a0 == (IntKind.wrap .i64 (0 - a1))) = false,
      decide (a0 > (0 : Int)) = false,
      decide (a0 < (0 : Int)) = true,
      decide (a1 < (0 : Int)) = true,
      decide ((IntKind.wrap .i64 (0 - a0)) < (IntKind.wrap .i64 (0 - a1))) = false,
      decide (a0 < (0 : Int)) = true,
      decide (a1 > (0 : Int)) = true,
      decide ((IntKind.wrap .i64 (0 - a0)) < a1) = true]) (by kernel_rfl) ⟨(beq_eq_false_iff_ne.mpr h1), (decide_eq_false h2), (decide_eq_true h3), (decide_eq_true h4), (decide_eq_false h5), (decide_eq_true h3), (decide_eq_true h6), (decide_eq_true h7), trivial⟩ get_impl_rule (by decide)

theorem impl_rule_p17 (a0 : Int) (a1 : Int)
    (h1 : a0 ≠ (IntKind.wrap .i64 (0 - a1)))
    (h2 : ¬ (a0 > (0 : Int)))
    (h3 : a0 < (0 : Int))
    (h4 : a1 < (0 : Int))
    (h5 : ¬ ((IntKind.wrap .i64 (0 - a0)) < (IntKind.wrap .i64 (0 - a1))))
    (h6 : a1 > (0 : Int))
    (h7 : ¬ ((IntKind.wrap .i64 (0 - a0)) < a1))
    (h8 : (IntKind.wrap .i64 (0 - a0)) > a1) :
    SC cfg.P i_impl_rule [.s (.v (.int .i64) a0), .s (.v (.int .i64) a1)] (.tup [.v (.int .i64) a1, .v (.int .i64) (IntKind.wrap .i64 (a0 - (1 : Int))), .v .bool true]) [] :=
  SC_of_run cfgOK (its := [.bool false, .bool false, .bool true, .bool true, .bool false, .bool true, .bool true, .bool false, .bool true, .bool true, .bool true])
    (ps := [(a0 == (IntKind.wrap .i64 (0 - a1))) = false,
      decide (a0 > (0 : Int)) = false,
      decide (a0 < (0 : Int)) = true,
      decide (a1 < (0 : Int)) = true,
      decide ((IntKind.wrap .i64 (0 - a0)) < (IntKind.wrap .i64 (0 - a1))) = false,
      decide (a0 < (0 : Int)) = true,
      decide (a1 > (0 : Int)) = true,
      decide ((IntKind.wrap .i64 (0 - a0)) < a1) = false,
      decide (a0 < (0 : Int)) = true,
      decide (a1 > (0 : Int)) = true,
      decide ((IntKind.wrap .i64 (0 - a0)) > a1) = true]) (by kernel_rfl) ⟨(beq_eq_false_iff_ne.mpr h1), (decide_eq_false h2), (decide_eq_true h3), (decide_eq_true h4), (decide_eq_false h5), (decide_eq_true h3), (decide_eq_true h6), (decide_eq_false h7), (decide_eq_true h3), (decide_eq_true h6), (decide_eq_true h8), trivial⟩ get_impl_rule (by decide)

theorem impl_rule_p18 (a0 : Int) (a1 : Int)
    (h1 : a0 ≠ (IntKind.wrap .i64 (0 - a1)))
    (h2 : ¬ (a0 > (0 : Int)))
    (h3 : a0 < (0 : Int))
    (h4 : a1 < (0 : Int))
    (h5 : ¬ ((IntKind.wrap .i64 (0 - a0)) < (IntKind.wrap .i64 (0 - a1))))
    (h6 : a1 > (0 : Int))
    (h7 : ¬ ((IntKind.wrap .i64 (0 - a0)) < a1))
    (h8 : ¬ ((IntKind.wrap .i64 (0 - a0)) > a1)) :
    SC cfg.P i_impl_rule [.s (.v (.int .i64) a0), .s (.v (.int .i64) a1)] (.tup [.v (.int .i64) (0 : Int), .v (.int .i64) (0 : Int), .v .bool false]) [] :=
  SC_of_run cfgOK (its := [.bool false, .bool false, .bool true, .bool true, .bool false, .bool true, .bool true, .bool false, .bool true, .bool true, .bool false])
    (ps := [(a0 == (IntKind.wrap .i64 (0 - a1))) = false,
      decide (a0 > (0 : Int)) = false,
      decide (a0 < (0 : Int)) = true,
      decide (a1 < (0 : Int)) = true,
      decide ((IntKind.wrap .i64 (0 - a0)) < (IntKind.wrap .i64 (0 - a1))) = false,
      decide (a0 < (0 : Int)) = true,
      decide (a1 > (0 : Int)) = true,
      decide ((IntKind.wrap .i64 (0 - a0)) < a1) = false,
      decide (a0 < (0 : Int)) = true,
      decide (a1 > (0 : Int)) = true,
      decide ((IntKind.wrap .i64 (0 - a0)) > a1) = false]) (by kernel_rfl) ⟨(beq_eq_false_iff_ne.mpr h1), (decide_eq_false h2), (decide_eq_true h3), (decide_eq_true h4), (decide_eq_false h5), (decide_eq_true h3), (decide_eq_true h6), (decide_eq_false h7), (decide_eq_true h3), (decide_eq_true h6), (decide_eq_false h8), trivial⟩ get_impl_rule (by decide)

theorem impl_rule_p19 (a0 : Int) (a1 : Int)
    (h1 : a0 ≠ (IntKind.wrap .i64 (0 - a1)))
    (h2 : ¬ (a0 > (0 : Int)))
    (h3 : a0 < (0 : Int))
    (h4 : a1 < (0 : Int))
    (h5 : ¬ ((IntKind.wrap .i64 (0 - a0)) < (IntKind.wrap .i64 (0 - a1))))
    (h6 : ¬ (a1 > (0 : Int))) :
    SC cfg.P i_impl_rule [.s (.v (.int .i64) a0), .s (.v (.int .i64) a1)] (.tup [.v (.int .i64) (0 : Int), .v (.int .i64) (0 : Int), .v .bool false]) [] :=
  SC_of_run cfgOK (its := [.bool false, .bool false, .bool true, .bool true, .bool false, .bool true, .bool false, .bool true, .bool false])
    (ps := [(a0 == (IntKind.wrap .i64 (0 - a1))) = false,
      decide (a0 > (0 : Int)) = false,
      decide (a0 < (0 : Int)) = true,
      decide (a1 < (0 : Int)) = true,
      decide ((IntKind.wrap .i64 (0 - a0)) < (IntKind.wrap .i64 (0 - a1))) = false,
      decide (a0 < (0 : Int)) = true,
      decide (a1 > (0 : Int)) = false,
      decide (a0 < (0 : Int)) = true,
      decide (a1 > (0 : Int)) = false]) (by kernel_rfl) ⟨(beq_eq_false_iff_ne.mpr h1), (decide_eq_false h2), (decide_eq_true h3), (decide_eq_true h4), (decide_eq_false h5), (decide_eq_true h3), (decide_eq_false h6), (decide_eq_true h3), (decide_eq_false h6), trivial⟩ get_impl_rule (by decide)

theorem impl_rule_p20 (a0 : Int) (a1 : Int)
    (h1 : a0 ≠ (IntKind.wrap .i64 (0 - a1)))
    (h2 : ¬ (a0 > (0 : Int)))
    (h3 : a0 < (0 : Int))
    (h4 : ¬ (a1 < (0 : Int)))
    (h5 : a1 > (0 : Int))
    (h6 : (IntKind.wrap .i64 (0 - a0)) < a1) :
    SC cfg.P i_impl_rule [.s (.v (.int .i64) a0), .s (.v (.int .i64) a1)] (.tup [.v (.int .i64) (IntKind.wrap .i64 (a1 + (1 : Int))), .v (.int .i64) a0, .v .bool true]) [] :=
  SC_of_run cfgOK (its := [.bool false, .bool false, .bool true, .bool false, .bool true, .bool true, .bool true])
    (ps := [(a0 == (IntKind.wrap .i64 (0 - a1))) = false,
      decide (a0 > (0 : Int)) = false,
      decide (a0 < (0 : Int)) = true,
      decide (a1 < (0 : Int)) = false,
      decide (a0 < (0 : Int)) = true,
      decide (a1 > (0 : Int)) = true,
      decide ((IntKind.wrap .i64 (0 - a0)) < a1) = true]) (by kernel_rfl) ⟨(beq_eq_false_iff_ne.mpr h1), (decide_eq_false h2), (decide_eq_true h3), (decide_eq_false h4), (decide_eq_true h3), (decide_eq_true h5), (decide_eq_true h6), trivial⟩ get_impl_rule (by decide)

theorem impl_rule_p21 (a0 : Int) (a1 : Int)
    (h1 : a0 ≠ (IntKind.wrap .i64 (0 - a1)))
    (h2 : ¬ (a0 > (0 : Int)))
    (h3 : a0 < (0 : Int))
    (h4 : ¬ (a1 < (0 : Int)))
    (h5 : a1 > (0 : Int))
    (h6 : ¬ ((IntKind.wrap .i64 (0 - a0)) < a1))
    (h7 : (IntKind.wrap .i64 (0 - a0)) > a1) :
    SC cfg.P i_impl_rule [.s (.v (.int .i64) a0), .s (.v (.int .i64) a1)] (.tup [.v (.int .i64) a1, .v (.int .i64) (IntKind.wrap .i64 (a0 - (1 : Int))), .v .bool true]) [] :=
  SC_of_run cfgOK (its := [.bool false, .bool false, .bool true, .bool false, .bool true, .bool true, .bool false, .bool true, .bool true, .bool true])
    (ps := [(a0 == (IntKind.wrap .i64 (0 - a1))) = false,
      decide (a0 > (0 : Int)) = false,
      decide (a0 < (0 : Int)) = true,
      decide (a1 < (0 : Int)) = false,
      decide (a0 < (0 : Int)) = true,
      decide (a1 > (0 : Int)) = true,
      decide ((IntKind.wrap .i64 (0 - a0)) < a1) = false,
      decide (a0 < (0 : Int)) = true,
      decide (a1 > (0 : Int)) = true,
      decide ((IntKind.wrap .i64 (0 - a0)) > a1) = true]) (by kernel_rfl) ⟨(beq_eq_false_iff_ne.mpr h1), (decide_eq_false h2), (decide_eq_true h3), (decide_eq_false h4), (decide_eq_true h3), (decide_eq_true h5), (decide_eq_false h6), (decide_eq_true h3), (decide_eq_true h5), (decide_eq_true h7), trivial⟩ get_impl_rule (by decide)

theorem impl_rule_p22 (a0 : Int) (a1 : Int)
    (h1 : a0 ≠ (IntKind.wrap .i64 (0 - a1)))
    (h2 : ¬ (a0 > (0 : Int)))
    (h3 : a0 < (0 : Int))
    (h4 : ¬ (a1 < (0 : Int)))
    (h5 : a1 > (0 : Int))
    (h6 : ¬ ((IntKind.wrap .i64 (0 - a0)) < a1))
    (h7 : ¬ ((IntKind.wrap .i64 (0 - a0)) > a1)) :
    SC cfg.P i_impl_rule [.s (.v (.int .i64) a0), .s (.v (.int .i64) a1)] (.tup [.v (.int .i64) (0 : Int), .v (.int .i64) (0 : Int), .v .bool false]) [] :=
  SC_of_run cfgOK (its := [.bool false, .bool false, .bool true, .bool false, .bool true, .bool true, .bool false, .bool true, .bool true, .bool false])
    (ps := [(a0 == (IntKind.wrap .i64 (0 - a1))) = false,
      decide (a0 > (0 : Int)) = false,
      decide (a0 < (0 : Int)) = true,
      decide (a1 < (0 : Int)) = false,
      decide (a0 < (0 : Int)) = true,
      decide (a1 > (0 : Int)) = true,
      decide ((IntKind.wrap .i64 (0 - a0)) < a1) = false,
      decide (a0 < (0 : Int)) = true,
      decide (a1 > (0 : Int)) = true,
      decide ((IntKind.wrap .i64 (0 - a0)) > a1) = false]) (by kernel_rfl) ⟨(beq_eq_false_iff_ne.mpr h1), (decide_eq_false h2), (decide_eq_true h3), (decide_eq_false h4), (decide_eq_true h3), (decide_eq_true h5), (decide_eq_false h6), (decide_eq_true h3), (decide_eq_true h5), (decide_eq_false h7), trivial⟩ get_impl_rule (by decide)

theorem impl_rule_p23 (a0 : Int) (a1 : Int)
    (h1 : a0 ≠ (IntKind.wrap .i64 (0 - a1)))
    (h2 : ¬ (a0 > (0 : Int)))
    (h3 : a0 < (0 : Int))
    (h4 : ¬ (a1 < (0 : Int)))
    (h5 : ¬ (a1 > (0 : Int))) :
    SC cfg.P i_impl_rule [.s (.v (.int .i64) a0), .s (.v (.int .i64) a1)] (.tup [.v (.int .i64) (0 : Int), .v (.int .i64) (0 : Int), .v .bool false]) [] :=
  SC_of_run cfgOK (its := [.bool false, .bool false, .bool true, .bool false, .bool true, .bool false, .bool true, .bool false])
    (ps := [(a0 == (IntKind.wrap .i64 (0 - a1))) = false,
      decide (a0 > (0 : Int)) = false,
      decide (a0 < (0 : Int)) = true,
      decide (a1 < (0 : Int)) = false,
      decide (a0 < (0 : Int)) = true,
      decide (a1 > (0 : Int)) = false,
      decide (a0 < (0 : Int)) = true,
      decide (a1 > (0 : Int)) = false]) (by kernel_rfl) ⟨(beq_eq_false_iff_ne.mpr h1), (decide_eq_false h2), (decide_eq_true h3), (decide_eq_false h4), (decide_eq_true h3), (decide_eq_false h5), (decide_eq_true h3), (decide_eq_false h5), trivial⟩ get_impl_rule (by decide)

theorem impl_rule_p24 (a0 : Int) (a1 : Int)
    (h1 : a0 ≠ (IntKind.wrap .i64 (0 - a1)))
    (h2 : ¬ (a0 > (0 : Int)))
    (h3 : ¬ (a0 < (0 : Int))) :
    SC cfg.P i_impl_rule [.s (.v (.int .i64) a0), .s (.v (.int .i64) a1)] (.tup [.v (.int .i64) (0 : Int), .v (.int .i64) (0 : Int), .v .bool false]) [] :=
  SC_of_run cfgOK (its := [.bool false, .bool false, .bool false, .bool false, .bool false])
    (ps := [(a0 == (IntKind.wrap .i64 (0 - a1))) = false,
      decide (a0 > (0 : Int)) = false,
      decide (a0 < (0 : Int)) = false,
      decide (a0 < (0 : Int)) = false,
      decide (a0 < (0 : Int)) = false]) (by kernel_rfl) ⟨(beq_eq_false_iff_ne.mpr h1), (decide_eq_false h2), (decide_eq_false h3), (decide_eq_false h3), (decide_eq_false h3), trivial⟩ get_impl_rule (by decide)

/-! ### spec_wdRule -/


theorem spec_wdRule_p1 (a0 : Int) (a1 : Int)
    (h1 : a0 = (IntKind.wrap .i64 (0 - a1))) :
    SC cfg.P i_spec_wdRule [.s (.v (.int .i64) a0), .s (.v (.int .i64) a1)] (.tup [.own t_int (.int .i64) ([] : List Int), .v .bool true]) [] :=
  SC_of_run cfgOK (its := [.bool true])
    (ps := [(a0 == (IntKind.wrap .i64 (0 - a1))) = true]) (by kernel_rfl) ⟨(beq_iff_eq.mpr h1), trivial⟩ get_spec_wdRule (by decide)

theorem spec_wdRule_p2 (a0 : Int) (a1 : Int)
    (h1 : a0 ≠ (IntKind.wrap .i64 (0 - a1)))
    (h2 : a0 > (0 : Int))
    (h3 : a1 > (0 : Int))
    (h4 : a1 < a0) :
    SC cfg.P i_spec_wdRule [.s (.v (.int .i64) a0), .s (.v (.int .i64) a1)] (.tup [.own t_int (.int .i64) ([a1, (IntKind.wrap .i64 (a0 + (1 : Int)))] : List Int), .v .bool true]) [] :=
  SC_of_run cfgOK (its := [.bool false, .bool true, .bool true, .bool true])
    (ps := [(a0 == (IntKind.wrap .i64 (0 - a1))) = false,
      decide (a0 > (0 : Int)) = true,
      decide (a1 > (0 : Int)) = true,
      decide (a1 < a0) = true]) (by kernel_rfl) ⟨(beq_eq_false_iff_ne.mpr h1), (decide_eq_true h2), (decide_eq_true h3), (decide_eq_true h4), trivial⟩ get_spec_wdRule (by decide)

theorem spec_wdRule_p3 (a0 : Int) (a1 : Int)
    (h1 : a0 ≠ (IntKind.wrap .i64 (0 - a1)))
    (h2 : a0 > (0 : Int))
    (h3 : a1 > (0 : Int))
    (h4 : ¬ (a1 < a0))
    (h5 : a0 < (0 : Int))
    (h6 : a1 < (0 : Int))
    (h7 : (IntKind.wrap .i64 (0 - a0)) < (IntKind.wrap .i64 (0 - a1))) :
    SC cfg.P i_spec_wdRule [.s (.v (.int .i64) a0), .s (.v (.int .i64) a1)] (.tup [.own t_int (.int .i64) ([(IntKind.wrap .i64 (a1 - (1 : Int))), a0] : List Int), .v .bool true]) [] :=
  SC_of_run cfgOK (its := [.bool false, .bool true, .bool true, .bool false, .bool true, .bool true, .bool true])
    (ps := [(a0 == (IntKind.wrap .i64 (0 - a1))) = false,
      decide (a0 > (0 : Int)) = true,
      decide (a1 > (0 : Int)) = true,
      decide (a1 < a0) = false,
      decide (a0 < (0 : Int)) = true,
      decide (a1 < (0 : Int)) = true,
      decide ((IntKind.wrap .i64 (0 - a0)) < (IntKind.wrap .i64 (0 - a1))) = true]) (by kernel_rfl) ⟨(beq_eq_false_iff_ne.mpr h1), (decide_eq_true h2), (decide_eq_true h3), (decide_eq_false h4), (decide_eq_true h5), (decide_eq_true h6), (decide_eq_true h7), trivial⟩ get_spec_wdRule (by decide)

theorem spec_wdRule_p4 (a0 : Int) (a1 : Int)
    (h1 : a0 ≠ (IntKind.wrap .i64 (0 - a1)))
    (h2 : a0 > (0 : Int))
    (h3 : a1 > (0 : Int))
    (h4 : ¬ (a1 < a0))
    (h5 : a0 < (0 : Int))
    (h6 : a1 < (0 : Int))
    (h7 : ¬ ((IntKind.wrap .i64 (0 - a0)) < (IntKind.wrap .i64 (0 - a1))))
    (h8 : (IntKind.wrap .i64 (0 - a0)) < a1) :
    SC cfg.P i_spec_wdRule [.s (.v (.int .i64) a0), .s (.v (.int .i64) a1)] (.tup [.own t_int (.int .i64) ([(IntKind.wrap .i64 (a1 + (1 : Int))), a0] : List Int), .v .bool true]) [] :=
  SC_of_run cfgOK (its := [.bool false, .bool true, .bool true, .bool false, .bool true, .bool true, .bool false, .bool true, .bool true, .bool true])
    (ps := [(a0 == (IntKind.wrap .i64 (0 - a1))) = false,
      decide (a0 > (0 : Int)) = true,
      decide (a1 > (0 : Int)) = true,
      decide (a1 < a0) = false,
      decide (a0 < (0 : Int)) = true,
      decide (a1 < (0 : Int)) = true,
      decide ((IntKind.wrap .i64 (0 - a0)) < (IntKind.wrap .i64 (0 - a1))) = false,
      decide (a0 < (0 : Int)) = true,
      decide (a1 > (0 : Int)) = true,
      decide ((IntKind.wrap .i64 (0 - a0)) < a1) = true]) (by kernel_rfl) ⟨(beq_eq_false_iff_ne.mpr h1), (decide_eq_true h2), (decide_eq_true h3), (decide_eq_false h4), (decide_eq_true h5), (decide_eq_true h6), (decide_eq_false h7), (decide_eq_true h5), (decide_eq_true h3), (decide_eq_true h8), trivial⟩ get_spec_wdRule (by decide)

theorem spec_wdRule_p5 (a0 : Int) (a1 : Int)
    (h1 : a0 ≠ (IntKind.wrap .i64 (0 - a1)))
    (h2 : a0 > (0 : Int))
    (h3 : a1 > (0 : Int))
    (h4 : ¬ (a1 < a0))
    (h5 : a0 < (0 : Int))
    (h6 : a1 < (0 : Int))
    (h7 : ¬ ((IntKind.wrap .i64 (0 - a0)) < (IntKind.wrap .i64 (0 - a1))))
    (h8 : ¬ ((IntKind.wrap .i64 (0 - a0)) < a1))
    (h9 : a1 < (IntKind.wrap .i64 (0 - a0))) :
    SC cfg.P i_spec_wdRule [.s (.v (.int .i64) a0), .s (.v (.int .i64) a1)] (.tup [.own t_int (.int .i64) ([a1, (IntKind.wrap .i64 (a0 - (1 : Int)))] : List Int), .v .bool true]) [] :=
  SC_of_run cfgOK (its := [.bool false, .bool true, .bool true, .bool false, .bool true, .bool true, .bool false, .bool true, .bool true, .bool false, .bool true, .bool true, .bool true])
    (ps := [(a0 == (IntKind.wrap .i64 (0 - a1))) = false,
      decide (a0 > (0 : Int)) = true,
      decide (a1 > (0 : Int)) = true,
      decide (a1 < a0) = false,
      decide (a0 < (0 : Int)) = true,
      decide (a1 < (0 : Int)) = true,
      decide ((IntKind.wrap .i64 (0 - a0)) < (IntKind.wrap .i64 (0 - a1))) = false,
      decide (a0 < (0 : Int)) = true,
      decide (a1 > (0 : Int)) = true,
      decide ((IntKind.wrap .i64 (0 - a0)) < a1) = false,
      decide (a0 < (0 : Int)) = true,
      decide (a1 > (0 : Int)) = true,
      decide (a1 < (IntKind.wrap .i64 (0 - a0))) = true]) (by kernel_rfl) ⟨(beq_eq_false_iff_ne.mpr h1), (decide_eq_true h2), (decide_eq_true h3), (decide_eq_false h4), (decide_eq_true h5), (decide_eq_true h6), (decide_eq_false h7), (decide_eq_true h5), (decide_eq_true h3), (decide_eq_false h8), (decide_eq_true h5), (decide_eq_true h3), (decide_eq_true h9), trivial⟩ get_spec_wdRule (by decide)

theorem spec_wdRule_p6 (a0 : Int) (a1 : Int)
    (h1 : a0 ≠ (IntKind.wrap .i64 (0 - a1)))
    (h2 : a0 > (0 : Int))
    (h3 : a1 > (0 : Int))
    (h4 : ¬ (a1 < a0))
    (h5 : a0 < (0 : Int))
    (h6 : a1 < (0 : Int))
    (h7 : ¬ ((IntKind.wrap .i64 (0 - a0)) < (IntKind.wrap .i64 (0 - a1))))
    (h8 : ¬ ((IntKind.wrap .i64 (0 - a0)) < a1))
    (h9 : ¬ (a1 < (IntKind.wrap .i64 (0 - a0)))) :
    SC cfg.P i_spec_wdRule [.s (.v (.int .i64) a0), .s (.v (.int .i64) a1)] (.tup [.own t_int (.int .i64) ([] : List Int), .v .bool false]) [] :=
  SC_of_run cfgOK (its := [.bool false, .bool true, .bool true, .bool false, .bool true, .bool true, .bool false, .bool true, .bool true, .bool false, .bool true, .bool true, .bool false])
    (ps := [(a0 == (IntKind.wrap .i64 (0 - a1))) = false,
      decide (a0 > (0 : Int)) = true,
      decide (a1 > (0 : Int)) = true,
      decide (a1 < a0) = false,
      decide (a0 < (0 : Int)) = true,
      decide (a1 < (0 : Int)) = true,
      decide ((IntKind.wrap .i64 (0 - a0)) < (IntKind.wrap .i64 (0 - a1))) = false,
      decide (a0 < (0 : Int)) = true,
      decide (a1 > (0 : Int)) = true,
      decide ((IntKind.wrap .i64 (0 - a0)) < a1) = false,
      decide (a0 < (0 : Int)) = true,
      decide (a1 > (0 : Int)) = true,
      decide (a1 < (IntKind.wrap .i64 (0 - a0))) = false]) (by kernel_rfl) ⟨(beq_eq_false_iff_ne.mpr h1), (decide_eq_true h2), (decide_eq_true h3), (decide_eq_false h4), (decide_eq_true h5), (decide_eq_true h6), (decide_eq_false h7), (decide_eq_true h5), (decide_eq_true h3), (decide_eq_false h8), (decide_eq_true h5), (decide_eq_true h3), (decide_eq_false h9), trivial⟩ get_spec_wdRule (by decide)

theorem spec_wdRule_p7 (a0 : Int) (a1 : Int)
    (h1 : a0 ≠ (IntKind.wrap .i64 (0 - a1)))
    (h2 : a0 > (0 : Int))
    (h3 : a1 > (0 : Int))
    (h4 : ¬ (a1 < a0))
    (h5 : a0 < (0 : Int))
    (h6 : ¬ (a1 < (0 : Int)))
    (h7 : (IntKind.wrap .i64 (0 - a0)) < a1) :
    SC cfg.P i_spec_wdRule [.s (.v (.int .i64) a0), .s (.v (.int .i64) a1)] (.tup [.own t_int (.int .i64) ([(IntKind.wrap .i64 (a1 + (1 : Int))), a0] : List Int), .v .bool true]) [] :=
  SC_of_run cfgOK (its := [.bool false, .bool true, .bool true, .bool false, .bool true, .bool false, .bool true, .bool true, .bool true])
    (ps := [(a0 == (IntKind.wrap .i64 (0 - a1))) = false,
      decide (a0 > (0 : Int)) = true,
      decide (a1 > (0 : Int)) = true,
      decide (a1 < a0) = false,
      decide (a0 < (0 : Int)) = true,
      decide (a1 < (0 : Int)) = false,
      decide (a0 < (0 : Int)) = true,
      decide (a1 > (0 : Int)) = true,
      decide ((IntKind.wrap .i64 (0 - a0)) < a1) = true]) (by kernel_rfl) ⟨(beq_eq_false_iff_ne.mpr h1), (decide_eq_true h2), (decide_eq_true h3), (decide_eq_false h4), (decide_eq_true h5), (decide_eq_false h6), (decide_eq_true h5), (decide_eq_true h3), (decide_eq_true h7), trivial⟩ get_spec_wdRule (by decide)

theorem spec_wdRule_p8 (a0 : Int) (a1 : Int)
    (h1 : a0 ≠ (IntKind.wrap .i64 (0 - a1)))
    (h2 : a0 > (0 : Int))
    (h3 : a1 > (0 : Int))
    (h4 : ¬ (a1 < a0))
    (h5 : a0 < (0 : Int))
    (h6 : ¬ (a1 < (0 : Int)))
    (h7 : ¬ ((IntKind.wrap .i64 (0 - a0)) < a1))
    (h8 : a1 < (IntKind.wrap .i64 (0 - a0))) :
    SC cfg.P i_spec_wdRule [.s (.v (.int .i64) a0), .s (.v (.int .i64) a1)] (.tup [.own t_int (.int .i64) ([a1, (IntKind.wrap .i64 (a0 - (1 : Int)))] : List Int), .v .bool true]) [] :=
  SC_of_run cfgOK (its := [.bool false, .bool true, .bool true, .bool false, .bool true, .bool false, .bool true, .bool true, .bool false, .bool true, .bool true, .bool true])
    (ps := [(a0 == (IntKind.wrap .i64 (0 - a1))) = false,
      decide (a0 > (0 : Int)) = true,
      decide (a1 > (0 : Int)) = true,
      decide (a1 < a0) = false,
      decide (a0 < (0 : Int)) = true,
      decide (a1 < (0 : Int)) = false,
      decide (a0 < (0 : Int)) = true,
      decide (a1 > (0 : Int)) = true,
      decide ((IntKind.wrap .i64 (0 - a0)) < a1) = false,
      decide (a0 < (0 : Int)) = true,
      decide (a1 > (0 : Int)) = true,
      decide (a1 < (IntKind.wrap .i64 (0 - a0))) = true]) (by kernel_rfl) ⟨(beq_eq_false_iff_ne.mpr h1), (decide_eq_true h2), (decide_eq_true h3), (decide_eq_false h4), (decide_eq_true h5), (decide_eq_false h6), (decide_eq_true h5), (decide_eq_true h3), (decide_eq_false h7), (decide_eq_true h5), (decide_eq_true h3), (decide_eq_true h8), trivial⟩ get_spec_wdRule (by decide)

theorem spec_wdRule_p9 (a0 : Int) (a1 : Int)
    (h1 : a0 ≠ (IntKind.wrap .i64 (0 - a1)))
    (h2 : a0 > (0 : Int))
    (h3 : a1 > (0 : Int))
    (h4 : ¬ (a1 < a0))
    (h5 : a0 < (0 : Int))
    (h6 : ¬ (a1 < (0 : Int)))
    (h7 : ¬ ((IntKind.wrap .i64 (0 - a0)) < a1))
    (h8 : ¬ (a1 < (IntKind.wrap .i64 (0 - a0)))) :
    SC cfg.P i_spec_wdRule [.s (.v (.int .i64) a0), .s (.v (.int .i64) a1)] (.tup [.own t_int (.int .i64) ([] : List Int), .v .bool false]) [] :=
  SC_of_run cfgOK (its := [.bool false, .bool true, .bool true, .bool false, .bool true, .bool false, .bool true, .bool true, .bool false, .bool true, .bool true, .bool false])
    (ps := [(a0 == (IntKind.wrap .i64 (0 - a1))) = false,
      decide (a0 > (0 : Int)) = true,
      decide (a1 > (0 : Int)) = true,
      decide (a1 < a0) = false,
      decide (a0 < (0 : Int)) = true,
      decide (a1 < (0 : Int)) = false,
      decide (a0 < (0 : Int)) = true,
      decide (a1 > (0 : Int)) = true,
      decide ((IntKind.wrap .i64 (0 - a0)) < a1) = false,
      decide (a0 < (0 : Int)) = true,
      decide (a1 > (0 : Int)) = true,
      decide (a1 < (IntKind.wrap .i64 (0 - a0))) = false]) (by kernel_rfl) ⟨(beq_eq_false_iff_ne.mpr h1), (decide_eq_true h2), (decide_eq_true h3), (decide_eq_false h4), (decide_eq_true h5), (decide_eq_false h6), (decide_eq_true h5), (decide_eq_true h3), (decide_eq_false h7), (decide_eq_true h5), (decide_eq_true h3), (decide_eq_false h8), trivial⟩ get_spec_wdRule (by decide)

theorem spec_wdRule_p10 (a0 : Int) (a1 : Int)
    (h1 : a0 ≠ (IntKind.wrap .i64 (0 - a1)))
    (h2 : a0 > (0 : Int))
    (h3 : a1 > (0 : Int))
    (h4 : ¬ (a1 < a0))
    (h5 : ¬ (a0 < (0 : Int))) :
    SC cfg.P i_spec_wdRule [.s (.v (.int .i64) a0), .s (.v (.int .i64) a1)] (.tup [.own t_int (.int .i64) ([] : List Int), .v .bool false]) [] :=
  SC_of_run cfgOK (its := [.bool false, .bool true, .bool true, .bool false, .bool false, .bool false, .bool false])
    (ps := [(a0 == (IntKind.wrap .i64 (0 - a1))) = false,
      decide (a0 > (0 : Int)) = true,
      decide (a1 > (0 : Int)) = true,
      decide (a1 < a0) = false,
      decide (a0 < (0 : Int)) = false,
      decide (a0 < (0 : Int)) = false,
      decide (a0 < (0 : Int)) = false]) (by kernel_rfl) ⟨(beq_eq_false_iff_ne.mpr h1), (decide_eq_true h2), (decide_eq_true h3), (decide_eq_false h4), (decide_eq_false h5), (decide_eq_false h5), (decide_eq_false h5), trivial⟩ get_spec_wdRule (by decide)

theorem spec_wdRule_p11 (a0 : Int) (a1 : Int)
    (h1 : a0 ≠ (IntKind.wrap .i64 (0 - a1)))
    (h2 : a0 > (0 : Int))
    (h3 : ¬ (a1 > (0 : Int)))
    (h4 : a0 < (0 : Int))
    (h5 : a1 < (0 : Int))
    (h6 : (IntKind.wrap .i64 (0 - a0)) < (IntKind.wrap .i64 (0 - a1))) :
    SC cfg.P i_spec_wdRule [.s (.v (.int .i64) a0), .s (.v (.int .i64) a1)] (.tup [.own t_int (.int .i64) ([(IntKind.wrap .i64 (a1 - (1 : Int))), a0] : List Int), .v .bool true]) [] :=
  SC_of_run cfgOK (its := [.bool false, .bool true, .bool false, .bool true, .bool true, .bool true])
    (ps := [(a0 == (IntKind.wrap .i64 (0 - a1))) = false,
      decide (a0 > (0 : Int)) = true,
      decide (a1 > (0 : Int)) = false,
      decide (a0 < (0 : Int)) = true,
      decide (a1 < (0 : Int)) = true,
      decide ((IntKind.wrap .i64 (0 - a0)) < (IntKind.wrap .i64 (0 - a1))) = true]) (by kernel_rfl) ⟨(beq_eq_false_iff_ne.mpr h1), (decide_eq_true h2), (decide_eq_false h3), (decide_eq_true h4), (decide_eq_true h5), (decide_eq_true h6), trivial⟩ get_spec_wdRule (by decide)

theorem spec_wdRule_p12 (a0 : Int) (a1 : Int)
    (h1 : a0 ≠ (IntKind.wrap .i64 (0 - a1)))
    (h2 : a0 > (0 : Int))
    (h3 : ¬ (a1 > (0 : Int)))
    (h4 : a0 < (0 : Int))
    (h5 : a1 < (0 : Int))
    (h6 : ¬ ((IntKind.wrap .i64 (0 - a0)) < (IntKind.wrap .i64 (0 - a1)))) :
    SC cfg.P i_spec_wdRule [.s (.v (.int .i64) a0), .s (.v (.int .i64) a1)] (.tup [.own t_int (.int .i64) ([] : List Int), .v .bool false]) [] :=
  SC_of_run cfgOK (its := [.bool false, .bool true, .bool false, .bool true, .bool true, .bool false, .bool true, .bool false, .bool true, .bool false])
    (ps := [(a0 == (IntKind.wrap .i64 (0 - a1))) = false,
      decide (a0 > (0 : Int)) = true,
      decide (a1 > (0 : Int)) = false,
      decide (a0 < (0 : Int)) = true,
      decide (a1 < (0 : Int)) = true,
      decide ((IntKind.wrap .i64 (0 - a0)) < (IntKind.wrap .i64 (0 - a1))) = false,
      decide (a0 < (0 : Int)) = true,
      decide (a1 > (0 : Int)) = false,
      decide (a0 < (0 : Int)) = true,
      decide (a1 > (0 : Int)) = false]) (by kernel_rfl) ⟨(beq_eq_false_iff_ne.mpr h1), (decide_eq_true h2), (decide_eq_false h3), (decide_eq_true h4), (decide_eq_true h5), (decide_eq_false h6), (decide_eq_true h4), (decide_eq_false h3), (decide_eq_true h4), (decide_eq_false h3), trivial⟩ get_spec_wdRule (by decide)

theorem spec_wdRule_p13 (a0 : Int) (a1 : Int)
    (h1 : a0 ≠ (IntKind.wrap .i64 (0 - a1)))
    (h2 : a0 > (0 : Int))
    (h3 : ¬ (a1 > (0 : Int)))
    (h4 : a0 < (0 : Int))
    (h5 : ¬ (a1 < (0 : Int))) :
    SC cfg.P i_spec_wdRule [.s (.v (.int .i64) a0), .s (.v (.int .i64) a1)] (.tup [.own t_int (.int .i64) ([] : List Int), .v .bool false]) [] :=
  SC_of_run cfgOK (its := [.bool false, .bool true, .bool false, .bool true, .bool false, .bool true, .bool false, .bool true, .bool false])
    (ps := [(a0 == (IntKind.wrap .i64 (0 - a1))) = false,
      decide (a0 > (0 : Int)) = true,
      decide (a1 > (0 : Int)) = false,
      decide (a0 < (0 : Int)) = true,
      decide (a1 < (0 : Int)) = false,
      decide (a0 < (0 : Int)) = true,
      decide (a1 > (0 : Int)) = false,
      decide (a0 < (0 : Int)) = true,
      decide (a1 > (0 : Int)) = false]) (by kernel_rfl) ⟨(beq_eq_false_iff_ne.mpr h1), (decide_eq_true h2), (decide_eq_false h3), (decide_eq_true h4), (decide_eq_false h5), (decide_eq_true h4), (decide_eq_false h3), (decide_eq_true h4), (decide_eq_false h3), trivial⟩ get_spec_wdRule (by decide)

theorem spec_wdRule_p14 (a0 : Int) (a1 : Int)
    (h1 : a0 ≠ (IntKind.wrap .i64 (0 - a1)))
    (h2 : a0 > (0 : Int))
    (h3 : ¬ (a1 > (0 : Int)))
    (h4 : ¬ (a0 < (0 : Int))) :
    SC cfg.P i_spec_wdRule [.s (.v (.int .i64) a0), .s (.v (.int .i64) a1)] (.tup [.own t_int (.int .i64) ([] : List Int), .v .bool false]) [] :=
  SC_of_run cfgOK (its := [.bool false, .bool true, .bool false, .bool false, .bool false, .bool false])
    (ps := [(a0 == (IntKind.wrap .i64 (0 - a1))) = false,
      decide (a0 > (0 : Int)) = true,
      decide (a1 > (0 : Int)) = false,
      decide (a0 < (0 : Int)) = false,
      decide (a0 < (0 : Int)) = false,
      decide (a0 < (0 : Int)) = false]) (by kernel_rfl) ⟨(beq_eq_false_iff_ne.mpr h1), (decide_eq_true h2), (decide_eq_false h3), (decide_eq_false h4), (decide_eq_false h4), (decide_eq_false h4), trivial⟩ get_spec_wdRule (by decide)

theorem spec_wdRule_p15 (a0 : Int) (a1 : Int)
    (h1 : a0 ≠ (IntKind.wrap .i64 (0 - a1)))
    (h2 : ¬ (a0 > (0 : Int)))
    (h3 : a0 < (0 : Int))
    (h4 : a1 < (0 : Int))
    (h5 : (IntKind.wrap .i64 (0 - a0)) < (IntKind.wrap .i64 (0 - a1))) :
    SC cfg.P i_spec_wdRule [.s (.v (.int .i64) a0), .s (.v (.int .i64) a1)] (.tup [.own t_int (.int .i64) ([(IntKind.wrap .i64 (a1 - (1 : Int))), a0] : List Int), .v .bool true]) [] :=
  SC_of_run cfgOK (its := [.bool false, .bool false, .bool true, .bool true, .bool true])
    (ps := [(a0 == (IntKind.wrap .i64 (0 - a1))) = false,
      decide (a0 > (0 : Int)) = false,
      decide (a0 < (0 : Int)) = true,
      decide (a1 < (0 : Int)) = true,
      decide ((IntKind.wrap .i64 (0 - a0)) < (IntKind.wrap .i64 (0 - a1))) = true]) (by kernel_rfl) ⟨(beq_eq_false_iff_ne.mpr h1), (decide_eq_false h2), (decide_eq_true h3), (decide_eq_true h4), (decide_eq_true h5), trivial⟩ get_spec_wdRule (by decide)

theorem spec_wdRule_p16 (a0 : Int) (a1 : Int)
    (h1 : a0 ≠ (IntKind.wrap .i64 (0 - a1)))
    (h2 : ¬ (a0 > (0 : Int)))
    (h3 : a0 < (0 : Int))
    (h4 : a1 < (0 : Int))
    (h5 : ¬ ((IntKind.wrap .i64 (0 - a0)) < (IntKind.wrap .i64 (0 - a1))))
    (h6 : a1 > (0 : Int))
    (h7 : (IntKind.wrap .i64 (0 - a0)) < a1) :
    SC cfg.P i_spec_wdRule [.s (.v (.int .i64) a0), .s (.v (.int .i64) a1)] (.tup [.own t_int (.int .i64) ([(IntKind.wrap .i64 (a1 + (1 : Int))), a0] : List Int), .v .bool true]) [] :=
  SC_of_run cfgOK (its := [.bool false, .bool false, .bool true, .bool true, .bool false, .bool true, .bool true, .bool true])
    (ps := [(a0 == (IntKind.wrap .i64 (0 - a1))) = false,
      decide (a0 > (0 : Int)) = false,
      decide (a0 < (0 : Int)) = true,
      decide (a1 < (0 : Int)) = true,
      decide ((IntKind.wrap .i64 (0 - a0)) < (IntKind.wrap .i64 (0 - a1))) = false,
      decide (a0 < (0 : Int)) = true,
      decide (a1 > (0 : Int)) = true,
      decide ((IntKind.wrap .i64 (0 - a0)) < a1) = true]) (by kernel_rfl) ⟨(beq_eq_false_iff_ne.mpr h1), (decide_eq_false h2), (decide_eq_true h3), (decide_eq_true h4), (decide_eq_false h5), (decide_eq_true h3), (decide_eq_true h6), (decide_eq_true h7), trivial⟩ get_spec_wdRule (by decide)

theorem spec_wdRule_p17 (a0 : Int) (a1 : Int)
    (h1 : a0 ≠ (IntKind.wrap .i64 (0 - a1)))
    (h2 : ¬ (a0 > (0 : Int)))
    (h3 : a0 < (0 : Int))
    (h4 : a1 < (0 : Int))
    (h5 : ¬ ((IntKind.wrap .i64 (0 - a0)) < (IntKind.wrap .i64 (0 - a1))))
    (h6 : a1 > (0 : Int))
    (h7 : ¬ ((IntKind.wrap .i64 (0 - a0)) < a1))
    (h8 : a1 < (IntKind.wrap .i64 (0 - a0))) :
    SC cfg.P i_spec_wdRule [.s (.v (.int .i64) a0), .s (.v (.int .i64) a1)] (.tup [.own t_int (.int .i64) ([a1, (IntKind.wrap .i64 (a0 - (1 : Int)))] : List Int), .v .bool true]) [] :=
  SC_of_run cfgOK (its := [.bool false, .bool false, .bool true, .bool true, .bool false, .bool true, .bool true, .bool false, .bool true, .bool true, .bool true])
    (ps := [(a0 == (IntKind.wrap .i64 (0 - a1))) = false,
      decide (a0 > (0 : Int)) = false,
      decide (a0 < (0 : Int)) = true,
      decide (a1 < (0 : Int)) = true,
      decide ((IntKind.wrap .i64 (0 - a0)) < (IntKind.wrap .i64 (0 - a1))) = false,
      decide (a0 < (0 : Int)) = true,
      decide (a1 > (0 : Int)) = true,
      decide ((IntKind.wrap .i64 (0 - a0)) < a1) = false,
      decide (a0 < (0 : Int)) = true,
      decide (a1 > (0 : Int)) = true,
      decide (a1 < (IntKind.wrap .i64 (0 - a0))) = true]) (by kernel_rfl) ⟨(beq_eq_false_iff_ne.mpr h1), (decide_eq_false h2), (decide_eq_true h3), (decide_eq_true h4), (decide_eq_false h5), (decide_eq_true h3), (decide_eq_true h6), (decide_eq_false h7), (decide_eq_true h3), (decide_eq_true h6), (decide_eq_true h8), trivial⟩ get_spec_wdRule (by decide)

theorem spec_wdRule_p18 (a0 : Int) (a1 : Int)
    (h1 : a0 ≠ (IntKind.wrap .i64 (0 - a1)))
    (h2 : ¬ (a0 > (0 : Int)))
    (h3 : a0 < (0 : Int))
    (h4 : a1 < (0 : Int))
    (h5 : ¬ ((IntKind.wrap .i64 (0 - a0)) < (IntKind.wrap .i64 (0 - a1))))
    (h6 : a1 > (0 : Int))
    (h7 : ¬ ((IntKind.wrap .i64 (0 - a0)) < a1))
    (h8 : ¬ (a1 < (IntKind.wrap .i64 (0 - a0)))) :
    SC cfg.P i_spec_wdRule [.s (.v (.int .i64) a0), .s (.v (.int .i64) a1)] (.tup [.own t_int (.int .i64) ([] : List Int), .v .bool false]) [] :=
  SC_of_run cfgOK (its := [.bool false, .bool false, .bool true, .bool true, .bool false, .bool true, .bool true, .bool false, .bool true, .bool true, .bool false])
    (ps := [(a0 == (IntKind.wrap .i64 (0 - a1))) = false,
      decide (a0 > (0 : Int)) = false,
      decide (a0 < (0 : Int)) = true,
      decide (a1 < (0 : Int)) = true,
      decide ((IntKind.wrap .i64 (0 - a0)) < (IntKind.wrap .i64 (0 - a1))) = false,
      decide (a0 < (0 : Int)) = true,
      decide (a1 > (0 : Int)) = true,
      decide ((IntKind.wrap .i64 (0 - a0)) < a1) = false,
      decide (a0 < (0 : Int)) = true,
      decide (a1 > (0 : Int)) = true,
      decide (a1 < (IntKind.wrap .i64 (0 - a0))) = false]) (by kernel_rfl) ⟨(beq_eq_false_iff_ne.mpr h1), (decide_eq_false h2), (decide_eq_true h3), (decide_eq_true h4), (decide_eq_false h5), (decide_eq_true h3), (decide_eq_true h6), (decide_eq_false h7), (decide_eq_true h3), (decide_eq_true h6), (decide_eq_false h8), trivial⟩ get_spec_wdRule (by decide)

theorem spec_wdRule_p19 (a0 : Int) (a1 : Int)
    (h1 : a0 ≠ (IntKind.wrap .i64 (0 - a1)))
    (h2 : ¬ (a0 > (0 : Int)))
    (h3 : a0 < (0 : Int))
    (h4 : a1 < (0 : Int))
    (h5 : ¬ ((IntKind.wrap .i64 (0 - a0)) < (IntKind.wrap .i64 (0 - a1))))
    (h6 : ¬ (a1 > (0 : Int))) :
    SC cfg.P i_spec_wdRule [.s (.v (.int .i64) a0), .s (.v (.int .i64) a1)] (.tup [.own t_int (.int .i64) ([] : List Int), .v .bool false]) [] :=
  SC_of_run cfgOK (its := [.bool false, .bool false, .bool true, .bool true, .bool false, .bool true, .bool false, .bool true, .bool false])
    (ps := [(a0 == (IntKind.wrap .i64 (0 - a1))) = false,
      decide (a0 > (0 : Int)) = false,
      decide (a0 < (0 : Int)) = true,
      decide (a1 < (0 : Int)) = true,
      decide ((IntKind.wrap .i64 (0 - a0)) < (IntKind.wrap .i64 (0 - a1))) = false,
      decide (a0 < (0 : Int)) = true,
      decide (a1 > (0 : Int)) = false,
      decide (a0 < (0 : Int)) = true,
      decide (a1 > (0 : Int)) = false]) (by kernel_rfl) ⟨(beq_eq_false_iff_ne.mpr h1), (decide_eq_false h2), (decide_eq_true h3), (decide_eq_true h4), (decide_eq_false h5), (decide_eq_true h3), (decide_eq_false h6), (decide_eq_true h3), (decide_eq_false h6), trivial⟩ get_spec_wdRule (by decide)

theorem spec_wdRule_p20 (a0 : Int) (a1 : Int)
    (h1 : a0 ≠ (IntKind.wrap .i64 (0 - a1)))
    (h2 : ¬ (a0 > (0 : Int)))
    (h3 : a0 < (0 : Int))
    (h4 : ¬ (a1 < (0 : Int)))
    (h5 : a1 > (0 : Int))
    (h6 : (IntKind.wrap .i64 (0 - a0)) < a1) :
    SC cfg.P i_spec_wdRule [.s (.v (.int .i64) a0), .s (.v (.int .i64) a1)] (.tup [.own t_int (.int .i64) ([(IntKind.wrap .i64 (a1 + (1 : Int))), a0] : List Int), .v .bool true]) [] :=
  SC_of_run cfgOK (its := [.bool false, .bool false, .bool true, .bool false, .bool true, .bool true, .bool true])
    (ps := [(a0 == (IntKind.wrap .i64 (0 - a1))) = false,
      decide (a0 > (0 : Int)) = false,
      decide (a0 < (0 : Int)) = true,
      decide (a1 < (0 : Int)) = false,
      decide (a0 < (0 : Int)) = true,
      decide (a1 > (0 : Int)) = true,
      decide ((IntKind.wrap .i64 (0 - a0)) < a1) = true]) (by kernel_rfl) ⟨(beq_eq_false_iff_ne.mpr h1), (decide_eq_false h2), (decide_eq_true h3), (decide_eq_false h4), (decide_eq_true h3), (decide_eq_true h5), (decide_eq_true h6), trivial⟩ get_spec_wdRule (by decide)

theorem spec_wdRule_p21 (a0 : Int) (a1 : Int)
    (h1 : a0 ≠ (IntKind.wrap .i64 (0 - a1)))
    (h2 : ¬ (a0 > (0 : Int)))
    (h3 : a0 < (0 : Int))
    (h4 : ¬ (a1 < (0 : Int)))
    (h5 : a1 > (0 : Int))
    (h6 : ¬ ((IntKind.wrap .i64 (0 - a0)) < a1))
    (h7 : a1 < (IntKind.wrap .i64 (0 - a0))) :
    SC cfg.P i_spec_wdRule [.s (.v (.int .i64) a0), .s (.v (.int .i64) a1)] (.tup [.own t_int (.int .i64) ([a1, (IntKind.wrap .i64 (a0 - (1 : Int)))] : List Int), .v .bool true]) [] :=
  SC_of_run cfgOK (its := [.bool false, .bool false, .bool true, .bool false, .bool true, .bool true, .bool false, .bool true, .bool true, .bool true])
    (ps := [(a0 == (IntKind.wrap .i64 (0 - a1))) = false,
      decide (a0 > (0 : Int)) = false,
      decide (a0 < (0 : Int)) = true,
      decide (a1 < (0 : Int)) = false,
      decide (a0 < (0 : Int)) = true,
      decide (a1 > (0 : Int)) = true,
      decide ((IntKind.wrap .i64 (0 - a0)) < a1) = false,
      decide (a0 < (0 : Int)) = true,
      decide (a1 > (0 : Int)) = true,
      decide (a1 < (IntKind.wrap .i64 (0 - a0))) = true]) (by kernel_rfl) ⟨(beq_eq_false_iff_ne.mpr h1), (decide_eq_false h2), (decide_eq_true h3), (decide_eq_false h4), (decide_eq_true h3), (decide_eq_true h5), (decide_eq_false h6), (decide_eq_true h3), (decide_eq_true h5), (decide_eq_true h7), trivial⟩ get_spec_wdRule (by decide)

theorem spec_wdRule_p22 (a0 : Int) (a1 : Int)
    (h1 : a0 ≠ (IntKind.wrap .i64 (0 - a1)))
    (h2 : ¬ (a0 > (0 : Int)))
    (h3 : a0 < (0 : Int))
    (h4 : ¬ (a1 < (0 : Int)))
    (h5 : a1 > (0 : Int))
    (h6 : ¬ ((IntKind.wrap .i64 (0 - a0)) < a1))
    (h7 : ¬ (a1 < (IntKind.wrap .i64 (0 - a0)))) :
    SC cfg.P i_spec_wdRule [.s (.v (.int .i64) a0), .s (.v (.int .i64) a1)] (.tup [.own t_int (.int .i64) ([] : List Int), .v .bool false]) [] :=
  SC_of_run cfgOK (its := [.bool false, .bool false, .bool true, .bool false, .bool true, .bool true, .bool false, .bool true, .bool true, .bool false])
    (ps := [(a0 == (IntKind.wrap .i64 (0 - a1))) = false,
      decide (a0 > (0 : Int)) = false,
      decide (a0 < (0 : Int)) = true,
      decide (a1 < (0 : Int)) = false,
      decide (a0 < (0 : Int)) = true,
      decide (a1 > (0 : Int)) = true,
      decide ((IntKind.wrap .i64 (0 - a0)) < a1) = false,
      decide (a0 < (0 : Int)) = true,
      decide (a1 > (0 : Int)) = true,
      decide (a1 < (IntKind.wrap .i64 (0 - a0))) = false]) (by kernel_rfl) ⟨(beq_eq_false_iff_ne.mpr h1), (decide_eq_false h2), (decide_eq_true h3), (decide_eq_false h4), (decide_eq_true h3), (decide_eq_true h5), (decide_eq_false h6), (decide_eq_true h3), (decide_eq_true h5), (decide_eq_false h7), trivial⟩ get_spec_wdRule (by decide)

theorem spec_wdRule_p23 (a0 : Int) (a1 : Int)
    (h1 : a0 ≠ (IntKind.wrap .i64 (0 - a1)))
    (h2 : ¬ (a0 > (0 : Int)))
    (h3 : a0 < (0 : Int))
    (h4 : ¬ (a1 < (0 : Int)))
    (h5 : ¬ (a1 > (0 : Int))) :
    SC cfg.P i_spec_wdRule [.s (.v (.int .i64) a0), .s (.v (.int .i64) a1)] (.tup [.own t_int (.int .i64) ([] : List Int), .v .bool false]) [] :=
  SC_of_run cfgOK (its := [.bool false, .bool false, .bool true, .bool false, .bool true, .bool false, .bool true, .bool false])
    (ps := [(a0 == (IntKind.wrap .i64 (0 - a1))) = false,
      decide (a0 > (0 : Int)) = false,
      decide (a0 < (0 : Int)) = true,
      decide (a1 < (0 : Int)) = false,
      decide (a0 < (0 : Int)) = true,
      decide (a1 > (0 : Int)) = false,
      decide (a0 < (0 : Int)) = true,
      decide (a1 > (0 : Int)) = false]) (by kernel_rfl) ⟨(beq_eq_false_iff_ne.mpr h1), (decide_eq_false h2), (decide_eq_true h3), (decide_eq_false h4), (decide_eq_true h3), (decide_eq_false h5), (decide_eq_true h3), (decide_eq_false h5), trivial⟩ get_spec_wdRule (by decide)

theorem spec_wdRule_p24 (a0 : Int) (a1 : Int)
    (h1 : a0 ≠ (IntKind.wrap .i64 (0 - a1)))
    (h2 : ¬ (a0 > (0 : Int)))
    (h3 : ¬ (a0 < (0 : Int))) :
    SC cfg.P i_spec_wdRule [.s (.v (.int .i64) a0), .s (.v (.int .i64) a1)] (.tup [.own t_int (.int .i64) ([] : List Int), .v .bool false]) [] :=
  SC_of_run cfgOK (its := [.bool false, .bool false, .bool false, .bool false, .bool false])
    (ps := [(a0 == (IntKind.wrap .i64 (0 - a1))) = false,
      decide (a0 > (0 : Int)) = false,
      decide (a0 < (0 : Int)) = false,
      decide (a0 < (0 : Int)) = false,
      decide (a0 < (0 : Int)) = false]) (by kernel_rfl) ⟨(beq_eq_false_iff_ne.mpr h1), (decide_eq_false h2), (decide_eq_false h3), (decide_eq_false h3), (decide_eq_false h3), trivial⟩ get_spec_wdRule (by decide)

end Go.AI
