/- A part of the road: what it proves stands in its last texts. -/
import Derived.Test.YtcbhdileamhklaaSIds
import Derived.Test.YtcbhdileamhklaaProg
set_option autoImplicit false
set_option maxRecDepth 100000
set_option linter.unusedVariables false
namespace Go.AI
open Go.Proofs

/-! ### impl_NormalByRules -/


def impl_NormalByRules_L0a (x4 : (List Int)) (x7 : Int) : St := mkSt 26 [(4, .s (.v (.sl (.int .i64)) x4)), (7, .s (.v (.int .i64) x7))] []

def impl_NormalByRules_L0X1 (y4 : (List Int)) (y7 : Int) (y19 : Bool) : St := mkSt 26 [(4, .s (.v (.sl (.int .i64)) y4)), (7, .s (.v (.int .i64) y7)), (19, .s (.v .bool y19))] []

theorem impl_NormalByRules_L0a_i1 (x4 : (List Int)) (x7 : Int) (dc1 : (List Int)) (dc2 : Int)
    (h1 : x7 > (0 : Int))
    (h2 : SC cfg.P i_impl_dropped [.s (.v (.sl (.int .i64)) x4), .s (.v (.int .i64) x7)] (.s (.v (.sl (.int .i64)) dc1)) [])
    (h3 : SC cfg.P i_impl_droppable [.s (.v (.sl (.int .i64)) dc1)] (.s (.v (.int .i64) dc2)) [])
    {e : AEx} {st : St} (next : LoopSC cfg.P 1 (lb P_impl_NormalByRules 0) (impl_NormalByRules_L0a dc1 dc2) e st) :
    LoopSC cfg.P 1 (lb P_impl_NormalByRules 0) (impl_NormalByRules_L0a x4 x7) e st :=
  loop_iter cfgOK (f := i_impl_NormalByRules) (its := [.bool true, .res (.s (.v (.sl (.int .i64)) dc1)) [] [] [], .res (.s (.v (.int .i64) dc2)) [] [] []])
    (ps := [decide (x7 > (0 : Int)) = true,
      SC cfg.P i_impl_dropped [.s (.v (.sl (.int .i64)) x4), .s (.v (.int .i64) x7)] (.s (.v (.sl (.int .i64)) dc1)) [],
      SC cfg.P i_impl_droppable [.s (.v (.sl (.int .i64)) dc1)] (.s (.v (.int .i64) dc2)) []]) (st1 := impl_NormalByRules_L0a dc1 dc2) (by kernel_rfl) ⟨(decide_eq_true h1), h2, h3, trivial⟩ next

theorem impl_NormalByRules_L0a_x2 (x4 : (List Int)) (x7 : Int)
    (h1 : ¬ (x7 > (0 : Int))) :
    LoopSC cfg.P 1 (lb P_impl_NormalByRules 0) (impl_NormalByRules_L0a x4 x7) (.exit 0) (impl_NormalByRules_L0X1 x4 x7 false) :=
  loop_out cfgOK (f := i_impl_NormalByRules) (its := [.bool false])
    (ps := [decide (x7 > (0 : Int)) = false]) (by kernel_rfl) ⟨(decide_eq_false h1), trivial⟩ (fun h => by cases h)

theorem impl_NormalByRules_p1 (a0 : (List Int)) (c1a : (List Int)) (c1b : Int) (c2 : Int) (k1y4 : (List Int)) (k1y7 : Int) (k1y19 : Bool)
    (h1 : SC cfg.P i_impl_sort [.s (.v (.sl (.int .i64)) a0)] (.tup [.v (.sl (.int .i64)) c1a, .v (.int .i64) c1b, .v .bool true]) [])
    (h2 : SC cfg.P i_impl_droppable [.s (.v (.sl (.int .i64)) c1a)] (.s (.v (.int .i64) c2)) [])
    (h3 : LoopSC cfg.P 1 (lb P_impl_NormalByRules 0) (impl_NormalByRules_L0a c1a c2) (.exit 0) (impl_NormalByRules_L0X1 k1y4 k1y7 k1y19)) :
    SC cfg.P i_impl_NormalByRules [.s (.v (.sl (.int .i64)) a0)] (.tup [.v (.sl (.int .i64)) k1y4, .v .bool true]) [] :=
  SC_of_run cfgOK (its := [.res (.tup [.v (.sl (.int .i64)) c1a, .v (.int .i64) c1b, .v .bool true]) [] [] [], .res (.s (.v (.int .i64) c2)) [] [] [], .loop (fun _ => (.exit 0, impl_NormalByRules_L0X1 k1y4 k1y7 k1y19))])
    (ps := [SC cfg.P i_impl_sort [.s (.v (.sl (.int .i64)) a0)] (.tup [.v (.sl (.int .i64)) c1a, .v (.int .i64) c1b, .v .bool true]) [],
      SC cfg.P i_impl_droppable [.s (.v (.sl (.int .i64)) c1a)] (.s (.v (.int .i64) c2)) [],
      LoopSC cfg.P 1 (lb P_impl_NormalByRules 0) (impl_NormalByRules_L0a c1a c2) (.exit 0) (impl_NormalByRules_L0X1 k1y4 k1y7 k1y19)]) (by kernel_rfl) ⟨h1, h2, h3, trivial⟩ get_impl_NormalByRules (by decide)

theorem impl_NormalByRules_p2 (a0 : (List Int)) (c1a : (List Int)) (c1b : Int)
    (h1 : SC cfg.P i_impl_sort [.s (.v (.sl (.int .i64)) a0)] (.tup [.v (.sl (.int .i64)) c1a, .v (.int .i64) c1b, .v .bool false]) []) :
    SC cfg.P i_impl_NormalByRules [.s (.v (.sl (.int .i64)) a0)] (.tup [.own t_int (.int .i64) ([] : List Int), .v .bool false]) [] :=
  SC_of_run cfgOK (its := [.res (.tup [.v (.sl (.int .i64)) c1a, .v (.int .i64) c1b, .v .bool false]) [] [] []])
    (ps := [SC cfg.P i_impl_sort [.s (.v (.sl (.int .i64)) a0)] (.tup [.v (.sl (.int .i64)) c1a, .v (.int .i64) c1b, .v .bool false]) []]) (by kernel_rfl) ⟨h1, trivial⟩ get_impl_NormalByRules (by decide)

/-! ### spec_NormalByRules -/


theorem spec_NormalByRules_p1 (a0 : (List Int)) (c2a : (List Int)) (c2b : Int) (c4 : (List Int))
    (h1 : SC cfg.P i_spec_wdGood [.s (.v (.sl (.int .i64)) a0)] (.s (.v .bool true)) [])
    (h2 : SC cfg.P i_spec_wdSort [.s (.v (.sl (.int .i64)) a0)] (.tup [.v (.sl (.int .i64)) c2a, .v (.int .i64) c2b]) [])
    (h3 : SC cfg.P i_spec_wdGood [.s (.v (.sl (.int .i64)) c2a)] (.s (.v .bool true)) [])
    (h4 : SC cfg.P i_spec_wdNormal [.s (.v (.sl (.int .i64)) a0)] (.s (.v (.sl (.int .i64)) c4)) []) :
    SC cfg.P i_spec_NormalByRules [.s (.v (.sl (.int .i64)) a0)] (.tup [.v (.sl (.int .i64)) c4, .v .bool true]) [] :=
  SC_of_run cfgOK (its := [.res (.s (.v .bool true)) [] [] [], .res (.tup [.v (.sl (.int .i64)) c2a, .v (.int .i64) c2b]) [] [] [], .res (.s (.v .bool true)) [] [] [], .res (.s (.v (.sl (.int .i64)) c4)) [] [] []])
    (ps := [SC cfg.P i_spec_wdGood [.s (.v (.sl (.int .i64)) a0)] (.s (.v .bool true)) [],
      SC cfg.P i_spec_wdSort [.s (.v (.sl (.int .i64)) a0)] (.tup [.v (.sl (.int .i64)) c2a, .v (.int .i64) c2b]) [],
      SC cfg.P i_spec_wdGood [.s (.v (.sl (.int .i64)) c2a)] (.s (.v .bool true)) [],
      SC cfg.P i_spec_wdNormal [.s (.v (.sl (.int .i64)) a0)] (.s (.v (.sl (.int .i64)) c4)) []]) (by kernel_rfl) ⟨h1, h2, h3, h4, trivial⟩ get_spec_NormalByRules (by decide)

theorem spec_NormalByRules_p2 (a0 : (List Int)) (c2a : (List Int)) (c2b : Int)
    (h1 : SC cfg.P i_spec_wdGood [.s (.v (.sl (.int .i64)) a0)] (.s (.v .bool true)) [])
    (h2 : SC cfg.P i_spec_wdSort [.s (.v (.sl (.int .i64)) a0)] (.tup [.v (.sl (.int .i64)) c2a, .v (.int .i64) c2b]) [])
    (h3 : SC cfg.P i_spec_wdGood [.s (.v (.sl (.int .i64)) c2a)] (.s (.v .bool false)) []) :
    SC cfg.P i_spec_NormalByRules [.s (.v (.sl (.int .i64)) a0)] (.tup [.own t_int (.int .i64) ([] : List Int), .v .bool false]) [] :=
  SC_of_run cfgOK (its := [.res (.s (.v .bool true)) [] [] [], .res (.tup [.v (.sl (.int .i64)) c2a, .v (.int .i64) c2b]) [] [] [], .res (.s (.v .bool false)) [] [] []])
    (ps := [SC cfg.P i_spec_wdGood [.s (.v (.sl (.int .i64)) a0)] (.s (.v .bool true)) [],
      SC cfg.P i_spec_wdSort [.s (.v (.sl (.int .i64)) a0)] (.tup [.v (.sl (.int .i64)) c2a, .v (.int .i64) c2b]) [],
      SC cfg.P i_spec_wdGood [.s (.v (.sl (.int .i64)) c2a)] (.s (.v .bool false)) []]) (by kernel_rfl) ⟨h1, h2, h3, trivial⟩ get_spec_NormalByRules (by decide)

theorem spec_NormalByRules_p3 (a0 : (List Int))
    (h1 : SC cfg.P i_spec_wdGood [.s (.v (.sl (.int .i64)) a0)] (.s (.v .bool false)) []) :
    SC cfg.P i_spec_NormalByRules [.s (.v (.sl (.int .i64)) a0)] (.tup [.own t_int (.int .i64) ([] : List Int), .v .bool false]) [] :=
  SC_of_run cfgOK (its := [.res (.s (.v .bool false)) [] [] []])
    (ps := [SC cfg.P i_spec_wdGood [.s (.v (.sl (.int .i64)) a0)] (.s (.v .bool false)) []]) (by kernel_rfl) ⟨h1, trivial⟩ get_spec_NormalByRules (by decide)

/-! ### impl_DropStep -/


theorem impl_DropStep_p1 (a0 : (List Int)) (c3 : Int)
    (h1 : SC cfg.P i_impl_IsWord [.s (.v (.sl (.int .i64)) a0)] (.s (.v .bool true)) [])
    (h2 : SC cfg.P i_impl_sorted [.s (.v (.sl (.int .i64)) a0)] (.s (.v .bool true)) [])
    (h3 : SC cfg.P i_impl_droppable [.s (.v (.sl (.int .i64)) a0)] (.s (.v (.int .i64) c3)) [])
    (h4 : c3 = (0 : Int)) :
    SC cfg.P i_impl_DropStep [.s (.v (.sl (.int .i64)) a0)] (.tup [.own t_int (.int .i64) ([] : List Int), .v .bool false]) [] :=
  SC_of_run cfgOK (its := [.res (.s (.v .bool true)) [] [] [], .res (.s (.v .bool true)) [] [] [], .res (.s (.v (.int .i64) c3)) [] [] [], .bool true])
    (ps := [SC cfg.P i_impl_IsWord [.s (.v (.sl (.int .i64)) a0)] (.s (.v .bool true)) [],
      SC cfg.P i_impl_sorted [.s (.v (.sl (.int .i64)) a0)] (.s (.v .bool true)) [],
      SC cfg.P i_impl_droppable [.s (.v (.sl (.int .i64)) a0)] (.s (.v (.int .i64) c3)) [],
      (c3 == (0 : Int)) = true]) (by kernel_rfl) ⟨h1, h2, h3, (beq_iff_eq.mpr h4), trivial⟩ get_impl_DropStep (by decide)

theorem impl_DropStep_p2 (a0 : (List Int)) (c3 : Int) (c4 : (List Int))
    (h1 : SC cfg.P i_impl_IsWord [.s (.v (.sl (.int .i64)) a0)] (.s (.v .bool true)) [])
    (h2 : SC cfg.P i_impl_sorted [.s (.v (.sl (.int .i64)) a0)] (.s (.v .bool true)) [])
    (h3 : SC cfg.P i_impl_droppable [.s (.v (.sl (.int .i64)) a0)] (.s (.v (.int .i64) c3)) [])
    (h4 : c3 ≠ (0 : Int))
    (h5 : SC cfg.P i_impl_dropped [.s (.v (.sl (.int .i64)) a0), .s (.v (.int .i64) c3)] (.s (.v (.sl (.int .i64)) c4)) []) :
    SC cfg.P i_impl_DropStep [.s (.v (.sl (.int .i64)) a0)] (.tup [.v (.sl (.int .i64)) c4, .v .bool true]) [] :=
  SC_of_run cfgOK (its := [.res (.s (.v .bool true)) [] [] [], .res (.s (.v .bool true)) [] [] [], .res (.s (.v (.int .i64) c3)) [] [] [], .bool false, .res (.s (.v (.sl (.int .i64)) c4)) [] [] []])
    (ps := [SC cfg.P i_impl_IsWord [.s (.v (.sl (.int .i64)) a0)] (.s (.v .bool true)) [],
      SC cfg.P i_impl_sorted [.s (.v (.sl (.int .i64)) a0)] (.s (.v .bool true)) [],
      SC cfg.P i_impl_droppable [.s (.v (.sl (.int .i64)) a0)] (.s (.v (.int .i64) c3)) [],
      (c3 == (0 : Int)) = false,
      SC cfg.P i_impl_dropped [.s (.v (.sl (.int .i64)) a0), .s (.v (.int .i64) c3)] (.s (.v (.sl (.int .i64)) c4)) []]) (by kernel_rfl) ⟨h1, h2, h3, (beq_eq_false_iff_ne.mpr h4), h5, trivial⟩ get_impl_DropStep (by decide)

theorem impl_DropStep_p3 (a0 : (List Int))
    (h1 : SC cfg.P i_impl_IsWord [.s (.v (.sl (.int .i64)) a0)] (.s (.v .bool true)) [])
    (h2 : SC cfg.P i_impl_sorted [.s (.v (.sl (.int .i64)) a0)] (.s (.v .bool false)) []) :
    SC cfg.P i_impl_DropStep [.s (.v (.sl (.int .i64)) a0)] (.tup [.own t_int (.int .i64) ([] : List Int), .v .bool false]) [] :=
  SC_of_run cfgOK (its := [.res (.s (.v .bool true)) [] [] [], .res (.s (.v .bool false)) [] [] []])
    (ps := [SC cfg.P i_impl_IsWord [.s (.v (.sl (.int .i64)) a0)] (.s (.v .bool true)) [],
      SC cfg.P i_impl_sorted [.s (.v (.sl (.int .i64)) a0)] (.s (.v .bool false)) []]) (by kernel_rfl) ⟨h1, h2, trivial⟩ get_impl_DropStep (by decide)

theorem impl_DropStep_p4 (a0 : (List Int))
    (h1 : SC cfg.P i_impl_IsWord [.s (.v (.sl (.int .i64)) a0)] (.s (.v .bool false)) []) :
    SC cfg.P i_impl_DropStep [.s (.v (.sl (.int .i64)) a0)] (.tup [.own t_int (.int .i64) ([] : List Int), .v .bool false]) [] :=
  SC_of_run cfgOK (its := [.res (.s (.v .bool false)) [] [] []])
    (ps := [SC cfg.P i_impl_IsWord [.s (.v (.sl (.int .i64)) a0)] (.s (.v .bool false)) []]) (by kernel_rfl) ⟨h1, trivial⟩ get_impl_DropStep (by decide)

/-! ### spec_DropStep -/


theorem spec_DropStep_p1 (a0 : (List Int)) (c3a : (List Int))
    (h1 : SC cfg.P i_spec_wdGood [.s (.v (.sl (.int .i64)) a0)] (.s (.v .bool true)) [])
    (h2 : SC cfg.P i_spec_wdSorted [.s (.v (.sl (.int .i64)) a0)] (.s (.v .bool true)) [])
    (h3 : SC cfg.P i_spec_wdDrop [.s (.v (.sl (.int .i64)) a0)] (.tup [.v (.sl (.int .i64)) c3a, .v .bool true]) []) :
    SC cfg.P i_spec_DropStep [.s (.v (.sl (.int .i64)) a0)] (.tup [.v (.sl (.int .i64)) c3a, .v .bool true]) [] :=
  SC_of_run cfgOK (its := [.res (.s (.v .bool true)) [] [] [], .res (.s (.v .bool true)) [] [] [], .res (.tup [.v (.sl (.int .i64)) c3a, .v .bool true]) [] [] []])
    (ps := [SC cfg.P i_spec_wdGood [.s (.v (.sl (.int .i64)) a0)] (.s (.v .bool true)) [],
      SC cfg.P i_spec_wdSorted [.s (.v (.sl (.int .i64)) a0)] (.s (.v .bool true)) [],
      SC cfg.P i_spec_wdDrop [.s (.v (.sl (.int .i64)) a0)] (.tup [.v (.sl (.int .i64)) c3a, .v .bool true]) []]) (by kernel_rfl) ⟨h1, h2, h3, trivial⟩ get_spec_DropStep (by decide)

theorem spec_DropStep_p2 (a0 : (List Int)) (c3a : (List Int))
    (h1 : SC cfg.P i_spec_wdGood [.s (.v (.sl (.int .i64)) a0)] (.s (.v .bool true)) [])
    (h2 : SC cfg.P i_spec_wdSorted [.s (.v (.sl (.int .i64)) a0)] (.s (.v .bool true)) [])
    (h3 : SC cfg.P i_spec_wdDrop [.s (.v (.sl (.int .i64)) a0)] (.tup [.v (.sl (.int .i64)) c3a, .v .bool false]) []) :
    SC cfg.P i_spec_DropStep [.s (.v (.sl (.int .i64)) a0)] (.tup [.own t_int (.int .i64) ([] : List Int), .v .bool false]) [] :=
  SC_of_run cfgOK (its := [.res (.s (.v .bool true)) [] [] [], .res (.s (.v .bool true)) [] [] [], .res (.tup [.v (.sl (.int .i64)) c3a, .v .bool false]) [] [] []])
    (ps := [SC cfg.P i_spec_wdGood [.s (.v (.sl (.int .i64)) a0)] (.s (.v .bool true)) [],
      SC cfg.P i_spec_wdSorted [.s (.v (.sl (.int .i64)) a0)] (.s (.v .bool true)) [],
      SC cfg.P i_spec_wdDrop [.s (.v (.sl (.int .i64)) a0)] (.tup [.v (.sl (.int .i64)) c3a, .v .bool false]) []]) (by kernel_rfl) ⟨h1, h2, h3, trivial⟩ get_spec_DropStep (by decide)

theorem spec_DropStep_p3 (a0 : (List Int))
    (h1 : SC cfg.P i_spec_wdGood [.s (.v (.sl (.int .i64)) a0)] (.s (.v .bool true)) [])
    (h2 : SC cfg.P i_spec_wdSorted [.s (.v (.sl (.int .i64)) a0)] (.s (.v .bool false)) []) :
    SC cfg.P i_spec_DropStep [.s (.v (.sl (.int .i64)) a0)] (.tup [.own t_int (.int .i64) ([] : List Int), .v .bool false]) [] :=
  SC_of_run cfgOK (its := [.res (.s (.v .bool true)) [] [] [], .res (.s (.v .bool false)) [] [] []])
    (ps := [SC cfg.P i_spec_wdGood [.s (.v (.sl (.int .i64)) a0)] (.s (.v .bool true)) [],
      SC cfg.P i_spec_wdSorted [.s (.v (.sl (.int .i64)) a0)] (.s (.v .bool false)) []]) (by kernel_rfl) ⟨h1, h2, trivial⟩ get_spec_DropStep (by decide)

theorem spec_DropStep_p4 (a0 : (List Int))
    (h1 : SC cfg.P i_spec_wdGood [.s (.v (.sl (.int .i64)) a0)] (.s (.v .bool false)) []) :
    SC cfg.P i_spec_DropStep [.s (.v (.sl (.int .i64)) a0)] (.tup [.own t_int (.int .i64) ([] : List Int), .v .bool false]) [] :=
  SC_of_run cfgOK (its := [.res (.s (.v .bool false)) [] [] []])
    (ps := [SC cfg.P i_spec_wdGood [.s (.v (.sl (.int .i64)) a0)] (.s (.v .bool false)) []]) (by kernel_rfl) ⟨h1, trivial⟩ get_spec_DropStep (by decide)

/-! ### impl_droppable -/


def impl_droppable_L0a (x0 : (List Int)) (x3 : Int) : St := mkSt 33 [(0, .s (.v (.sl (.int .i64)) x0)), (3, .s (.v (.int .i64) x3))] []

def impl_droppable_L0X1 (y2 : Int) : St := mkSt 33 [(2, .s (.v (.int .i64) y2))] []

def impl_droppable_L0X2 (y0 : (List Int)) (y3 : Int) (y5 : Bool) : St := mkSt 33 [(0, .s (.v (.sl (.int .i64)) y0)), (3, .s (.v (.int .i64) y3)), (5, .s (.v .bool y5))] []

theorem impl_droppable_L0a_i1 (x0 : (List Int)) (x3 : Int)
    (h1 : x3 > (0 : Int))
    (h2 : SC cfg.P i_slices_Contains [.s (.v (.sl (.int .i64)) x0), .s (.v (.int .i64) x3)] (.s (.v .bool true)) [])
    (h3 : SC cfg.P i_slices_Contains [.s (.v (.sl (.int .i64)) x0), .s (.v (.int .i64) (IntKind.wrap .i64 (0 - x3)))] (.s (.v .bool true)) [])
    (h4 : SC cfg.P i_slices_Contains [.s (.v (.sl (.int .i64)) x0), .s (.v (.int .i64) (IntKind.wrap .i64 (x3 + (1 : Int))))] (.s (.v .bool true)) [])
    {e : AEx} {st : St} (next : LoopSC cfg.P 1 (lb P_impl_droppable 0) (impl_droppable_L0a x0 (IntKind.wrap .i64 (x3 - (1 : Int)))) e st) :
    LoopSC cfg.P 1 (lb P_impl_droppable 0) (impl_droppable_L0a x0 x3) e st :=
  loop_iter cfgOK (f := i_impl_droppable) (its := [.bool true, .res (.s (.v .bool true)) [] [] [], .res (.s (.v .bool true)) [] [] [], .res (.s (.v .bool true)) [] [] []])
    (ps := [decide (x3 > (0 : Int)) = true,
      SC cfg.P i_slices_Contains [.s (.v (.sl (.int .i64)) x0), .s (.v (.int .i64) x3)] (.s (.v .bool true)) [],
      SC cfg.P i_slices_Contains [.s (.v (.sl (.int .i64)) x0), .s (.v (.int .i64) (IntKind.wrap .i64 (0 - x3)))] (.s (.v .bool true)) [],
      SC cfg.P i_slices_Contains [.s (.v (.sl (.int .i64)) x0), .s (.v (.int .i64) (IntKind.wrap .i64 (x3 + (1 : Int))))] (.s (.v .bool true)) []]) (st1 := impl_droppable_L0a x0 (IntKind.wrap .i64 (x3 - (1 : Int)))) (by kernel_rfl) ⟨(decide_eq_true h1), h2, h3, h4, trivial⟩ next

theorem impl_droppable_L0a_i2 (x0 : (List Int)) (x3 : Int)
    (h1 : x3 > (0 : Int))
    (h2 : SC cfg.P i_slices_Contains [.s (.v (.sl (.int .i64)) x0), .s (.v (.int .i64) x3)] (.s (.v .bool true)) [])
    (h3 : SC cfg.P i_slices_Contains [.s (.v (.sl (.int .i64)) x0), .s (.v (.int .i64) (IntKind.wrap .i64 (0 - x3)))] (.s (.v .bool true)) [])
    (h4 : SC cfg.P i_slices_Contains [.s (.v (.sl (.int .i64)) x0), .s (.v (.int .i64) (IntKind.wrap .i64 (x3 + (1 : Int))))] (.s (.v .bool false)) [])
    (h5 : SC cfg.P i_slices_Contains [.s (.v (.sl (.int .i64)) x0), .s (.v (.int .i64) (IntKind.wrap .i64 ((IntKind.wrap .i64 (0 - x3)) - (1 : Int))))] (.s (.v .bool true)) [])
    {e : AEx} {st : St} (next : LoopSC cfg.P 1 (lb P_impl_droppable 0) (impl_droppable_L0a x0 (IntKind.wrap .i64 (x3 - (1 : Int)))) e st) :
    LoopSC cfg.P 1 (lb P_impl_droppable 0) (impl_droppable_L0a x0 x3) e st :=
  loop_iter cfgOK (f := i_impl_droppable) (its := [.bool true, .res (.s (.v .bool true)) [] [] [], .res (.s (.v .bool true)) [] [] [], .res (.s (.v .bool false)) [] [] [], .res (.s (.v .bool true)) [] [] []])
    (ps := [decide (x3 > (0 : Int)) = true,
      SC cfg.P i_slices_Contains [.s (.v (.sl (.int .i64)) x0), .s (.v (.int .i64) x3)] (.s (.v .bool true)) [],
      SC cfg.P i_slices_Contains [.s (.v (.sl (.int .i64)) x0), .s (.v (.int .i64) (IntKind.wrap .i64 (0 - x3)))] (.s (.v .bool true)) [],
      SC cfg.P i_slices_Contains [.s (.v (.sl (.int .i64)) x0), .s (.v (.int .i64) (IntKind.wrap .i64 (x3 + (1 : Int))))] (.s (.v .bool false)) [],
      SC cfg.P i_slices_Contains [.s (.v (.sl (.int .i64)) x0), .s (.v (.int .i64) (IntKind.wrap .i64 ((IntKind.wrap .i64 (0 - x3)) - (1 : Int))))] (.s (.v .bool true)) []]) (st1 := impl_droppable_L0a x0 (IntKind.wrap .i64 (x3 - (1 : Int)))) (by kernel_rfl) ⟨(decide_eq_true h1), h2, h3, h4, h5, trivial⟩ next

theorem impl_droppable_L0a_x3 (x0 : (List Int)) (x3 : Int)
    (h1 : x3 > (0 : Int))
    (h2 : SC cfg.P i_slices_Contains [.s (.v (.sl (.int .i64)) x0), .s (.v (.int .i64) x3)] (.s (.v .bool true)) [])
    (h3 : SC cfg.P i_slices_Contains [.s (.v (.sl (.int .i64)) x0), .s (.v (.int .i64) (IntKind.wrap .i64 (0 - x3)))] (.s (.v .bool true)) [])
    (h4 : SC cfg.P i_slices_Contains [.s (.v (.sl (.int .i64)) x0), .s (.v (.int .i64) (IntKind.wrap .i64 (x3 + (1 : Int))))] (.s (.v .bool false)) [])
    (h5 : SC cfg.P i_slices_Contains [.s (.v (.sl (.int .i64)) x0), .s (.v (.int .i64) (IntKind.wrap .i64 ((IntKind.wrap .i64 (0 - x3)) - (1 : Int))))] (.s (.v .bool false)) []) :
    LoopSC cfg.P 1 (lb P_impl_droppable 0) (impl_droppable_L0a x0 x3) (.ret) (impl_droppable_L0X1 x3) :=
  loop_out cfgOK (f := i_impl_droppable) (its := [.bool true, .res (.s (.v .bool true)) [] [] [], .res (.s (.v .bool true)) [] [] [], .res (.s (.v .bool false)) [] [] [], .res (.s (.v .bool false)) [] [] []])
    (ps := [decide (x3 > (0 : Int)) = true,
      SC cfg.P i_slices_Contains [.s (.v (.sl (.int .i64)) x0), .s (.v (.int .i64) x3)] (.s (.v .bool true)) [],
      SC cfg.P i_slices_Contains [.s (.v (.sl (.int .i64)) x0), .s (.v (.int .i64) (IntKind.wrap .i64 (0 - x3)))] (.s (.v .bool true)) [],
      SC cfg.P i_slices_Contains [.s (.v (.sl (.int .i64)) x0), .s (.v (.int .i64) (IntKind.wrap .i64 (x3 + (1 : Int))))] (.s (.v .bool false)) [],
      SC cfg.P i_slices_Contains [.s (.v (.sl (.int .i64)) x0), .s (.v (.int .i64) (IntKind.wrap .i64 ((IntKind.wrap .i64 (0 - x3)) - (1 : Int))))] (.s (.v .bool false)) []]) (by kernel_rfl) ⟨(decide_eq_true h1), h2, h3, h4, h5, trivial⟩ (fun h => by cases h)

theorem impl_droppable_L0a_i4 (x0 : (List Int)) (x3 : Int)
    (h1 : x3 > (0 : Int))
    (h2 : SC cfg.P i_slices_Contains [.s (.v (.sl (.int .i64)) x0), .s (.v (.int .i64) x3)] (.s (.v .bool true)) [])
    (h3 : SC cfg.P i_slices_Contains [.s (.v (.sl (.int .i64)) x0), .s (.v (.int .i64) (IntKind.wrap .i64 (0 - x3)))] (.s (.v .bool false)) [])
    {e : AEx} {st : St} (next : LoopSC cfg.P 1 (lb P_impl_droppable 0) (impl_droppable_L0a x0 (IntKind.wrap .i64 (x3 - (1 : Int)))) e st) :
    LoopSC cfg.P 1 (lb P_impl_droppable 0) (impl_droppable_L0a x0 x3) e st :=
  loop_iter cfgOK (f := i_impl_droppable) (its := [.bool true, .res (.s (.v .bool true)) [] [] [], .res (.s (.v .bool false)) [] [] []])
    (ps := [decide (x3 > (0 : Int)) = true,
      SC cfg.P i_slices_Contains [.s (.v (.sl (.int .i64)) x0), .s (.v (.int .i64) x3)] (.s (.v .bool true)) [],
      SC cfg.P i_slices_Contains [.s (.v (.sl (.int .i64)) x0), .s (.v (.int .i64) (IntKind.wrap .i64 (0 - x3)))] (.s (.v .bool false)) []]) (st1 := impl_droppable_L0a x0 (IntKind.wrap .i64 (x3 - (1 : Int)))) (by kernel_rfl) ⟨(decide_eq_true h1), h2, h3, trivial⟩ next

theorem impl_droppable_L0a_i5 (x0 : (List Int)) (x3 : Int)
    (h1 : x3 > (0 : Int))
    (h2 : SC cfg.P i_slices_Contains [.s (.v (.sl (.int .i64)) x0), .s (.v (.int .i64) x3)] (.s (.v .bool false)) [])
    {e : AEx} {st : St} (next : LoopSC cfg.P 1 (lb P_impl_droppable 0) (impl_droppable_L0a x0 (IntKind.wrap .i64 (x3 - (1 : Int)))) e st) :
    LoopSC cfg.P 1 (lb P_impl_droppable 0) (impl_droppable_L0a x0 x3) e st :=
  loop_iter cfgOK (f := i_impl_droppable) (its := [.bool true, .res (.s (.v .bool false)) [] [] []])
    (ps := [decide (x3 > (0 : Int)) = true,
      SC cfg.P i_slices_Contains [.s (.v (.sl (.int .i64)) x0), .s (.v (.int .i64) x3)] (.s (.v .bool false)) []]) (st1 := impl_droppable_L0a x0 (IntKind.wrap .i64 (x3 - (1 : Int)))) (by kernel_rfl) ⟨(decide_eq_true h1), h2, trivial⟩ next

theorem impl_droppable_L0a_x6 (x0 : (List Int)) (x3 : Int)
    (h1 : ¬ (x3 > (0 : Int))) :
    LoopSC cfg.P 1 (lb P_impl_droppable 0) (impl_droppable_L0a x0 x3) (.exit 0) (impl_droppable_L0X2 x0 x3 false) :=
  loop_out cfgOK (f := i_impl_droppable) (its := [.bool false])
    (ps := [decide (x3 > (0 : Int)) = false]) (by kernel_rfl) ⟨(decide_eq_false h1), trivial⟩ (fun h => by cases h)

theorem impl_droppable_p1 (a0 : (List Int)) (k1y2 : Int)
    (h1 : LoopSC cfg.P 1 (lb P_impl_droppable 0) (impl_droppable_L0a a0 (21 : Int)) (.ret) (impl_droppable_L0X1 k1y2)) :
    SC cfg.P i_impl_droppable [.s (.v (.sl (.int .i64)) a0)] (.s (.v (.int .i64) k1y2)) [] :=
  SC_of_run cfgOK (its := [.loop (fun _ => (.ret, impl_droppable_L0X1 k1y2))])
    (ps := [LoopSC cfg.P 1 (lb P_impl_droppable 0) (impl_droppable_L0a a0 (21 : Int)) (.ret) (impl_droppable_L0X1 k1y2)]) (by kernel_rfl) ⟨h1, trivial⟩ get_impl_droppable (by decide)

theorem impl_droppable_p2 (a0 : (List Int)) (k1y0 : (List Int)) (k1y3 : Int) (k1y5 : Bool)
    (h1 : LoopSC cfg.P 1 (lb P_impl_droppable 0) (impl_droppable_L0a a0 (21 : Int)) (.exit 0) (impl_droppable_L0X2 k1y0 k1y3 k1y5)) :
    SC cfg.P i_impl_droppable [.s (.v (.sl (.int .i64)) a0)] (.s (.v (.int .i64) (0 : Int))) [] :=
  SC_of_run cfgOK (its := [.loop (fun _ => (.exit 0, impl_droppable_L0X2 k1y0 k1y3 k1y5))])
    (ps := [LoopSC cfg.P 1 (lb P_impl_droppable 0) (impl_droppable_L0a a0 (21 : Int)) (.exit 0) (impl_droppable_L0X2 k1y0 k1y3 k1y5)]) (by kernel_rfl) ⟨h1, trivial⟩ get_impl_droppable (by decide)

/-! ### impl_dropped -/


def impl_dropped_L0a (x0 : (List Int)) (x1 : Int) (x5 : Int) (x6 : Int) (x16 : (List Int)) (x17 : Int) (x18 : Int) : St := mkSt 61 [(0, .s (.v (.sl (.int .i64)) x0)), (1, .s (.v (.int .i64) x1)), (5, .s (.v (.int .i64) x5)), (6, .s (.v (.int .i64) x6)), (16, .s (.v (.sl (.int .i64)) x16)), (17, .s (.v (.int .i64) x17)), (18, .s (.v (.int .i64) x18))] []

def impl_dropped_L0X1 (y0 : (List Int)) (y1 : Int) (y5 : Int) (y6 : Int) (y16 : (List Int)) (y17 : Int) (y18 : Int) (y19 : Bool) : St := mkSt 61 [(0, .s (.v (.sl (.int .i64)) y0)), (1, .s (.v (.int .i64) y1)), (5, .s (.v (.int .i64) y5)), (6, .s (.v (.int .i64) y6)), (16, .s (.v (.sl (.int .i64)) y16)), (17, .s (.v (.int .i64) y17)), (18, .s (.v (.int .i64) y18)), (19, .s (.v .bool y19))] []

def impl_dropped_L1a (x0 : (List Int)) (x6 : Int) (x36 : (List Int)) (x37 : Int) (x38 : Int) (xo31 : (List Int)) : St := mkSt 61 [(0, .s (.v (.sl (.int .i64)) x0)), (6, .s (.v (.int .i64) x6)), (9, .s (.osl 31 0)), (36, .s (.v (.sl (.int .i64)) x36)), (37, .s (.v (.int .i64) x37)), (38, .s (.v (.int .i64) x38))] [(31, .row t_int (.int .i64) xo31 0 false)]

def impl_dropped_L1X1 (y0 : (List Int)) (y6 : Int) (y36 : (List Int)) (y37 : Int) (y38 : Int) (y39 : Bool) (yo31 : (List Int)) : St := mkSt 61 [(0, .s (.v (.sl (.int .i64)) y0)), (6, .s (.v (.int .i64) y6)), (9, .s (.osl 31 0)), (36, .s (.v (.sl (.int .i64)) y36)), (37, .s (.v (.int .i64) y37)), (38, .s (.v (.int .i64) y38)), (39, .s (.v .bool y39))] [(31, .row t_int (.int .i64) yo31 0 false)]

theorem impl_dropped_L0a_i1 (x0 : (List Int)) (x1 : Int) (x5 : Int) (x6 : Int) (x16 : (List Int)) (x17 : Int) (x18 : Int)
    (h1 : x18 < x17)
    (h2 : 0 ≤ x18)
    (h3 : x18 < (List.length x16 : Int))
    (h4 : (List.getD x16 (x18).toNat (0 : Int)) = x1)
    {e : AEx} {st : St} (next : LoopSC cfg.P 2 (lb P_impl_dropped 0) (impl_dropped_L0a x0 x1 x18 x6 x16 x17 (IntKind.wrap .i64 (x18 + (1 : Int)))) e st) :
    LoopSC cfg.P 2 (lb P_impl_dropped 0) (impl_dropped_L0a x0 x1 x5 x6 x16 x17 x18) e st :=
  loop_iter cfgOK (f := i_impl_dropped) (its := [.bool true, .bool true])
    (ps := [decide (x18 < x17) = true,
      0 ≤ x18,
      x18 < (List.length x16 : Int),
      ((List.getD x16 (x18).toNat (0 : Int)) == x1) = true]) (st1 := impl_dropped_L0a x0 x1 x18 x6 x16 x17 (IntKind.wrap .i64 (x18 + (1 : Int)))) (by kernel_rfl) ⟨(decide_eq_true h1), h2, h3, (beq_iff_eq.mpr h4), trivial⟩ next

theorem impl_dropped_L0a_i2 (x0 : (List Int)) (x1 : Int) (x5 : Int) (x6 : Int) (x16 : (List Int)) (x17 : Int) (x18 : Int)
    (h1 : x18 < x17)
    (h2 : 0 ≤ x18)
    (h3 : x18 < (List.length x16 : Int))
    (h4 : (List.getD x16 (x18).toNat (0 : Int)) ≠ x1)
    {e : AEx} {st : St} (next : LoopSC cfg.P 2 (lb P_impl_dropped 0) (impl_dropped_L0a x0 x1 x5 x6 x16 x17 (IntKind.wrap .i64 (x18 + (1 : Int)))) e st) :
    LoopSC cfg.P 2 (lb P_impl_dropped 0) (impl_dropped_L0a x0 x1 x5 x6 x16 x17 x18) e st :=
  loop_iter cfgOK (f := i_impl_dropped) (its := [.bool true, .bool false])
    (ps := [decide (x18 < x17) = true,
      0 ≤ x18,
      x18 < (List.length x16 : Int),
      ((List.getD x16 (x18).toNat (0 : Int)) == x1) = false]) (st1 := impl_dropped_L0a x0 x1 x5 x6 x16 x17 (IntKind.wrap .i64 (x18 + (1 : Int)))) (by kernel_rfl) ⟨(decide_eq_true h1), h2, h3, (beq_eq_false_iff_ne.mpr h4), trivial⟩ next

theorem impl_dropped_L0a_x3 (x0 : (List Int)) (x1 : Int) (x5 : Int) (x6 : Int) (x16 : (List Int)) (x17 : Int) (x18 : Int)
    (h1 : ¬ (x18 < x17)) :
    LoopSC cfg.P 2 (lb P_impl_dropped 0) (impl_dropped_L0a x0 x1 x5 x6 x16 x17 x18) (.exit 0) (impl_dropped_L0X1 x0 x1 x5 x6 x16 x17 x18 false) :=
  loop_out cfgOK (f := i_impl_dropped) (its := [.bool false])
    (ps := [decide (x18 < x17) = false]) (by kernel_rfl) ⟨(decide_eq_false h1), trivial⟩ (fun h => by cases h)

theorem impl_dropped_L1a_i1 (x0 : (List Int)) (x6 : Int) (x36 : (List Int)) (x37 : Int) (x38 : Int) (xo31 : (List Int))
    (h1 : x38 < x37)
    (h2 : 0 ≤ x38)
    (h3 : x38 < (List.length x36 : Int))
    (h4 : (List.getD x36 (x38).toNat (0 : Int)) > (0 : Int))
    (h5 : sizeOK (List.length xo31 + List.length ([(IntKind.wrap .i64 ((List.getD x36 (x38).toNat (0 : Int)) - (1 : Int)))] : List Int)))
    {e : AEx} {st : St} (next : LoopSC cfg.P 2 (lb P_impl_dropped 1) (impl_dropped_L1a x0 x6 x36 x37 (IntKind.wrap .i64 (x38 + (1 : Int))) (xo31 ++ ([(IntKind.wrap .i64 ((List.getD x36 (x38).toNat (0 : Int)) - (1 : Int)))] : List Int))) e st) :
    LoopSC cfg.P 2 (lb P_impl_dropped 1) (impl_dropped_L1a x0 x6 x36 x37 x38 xo31) e st :=
  loop_iter cfgOK (f := i_impl_dropped) (its := [.bool true, .bool true])
    (ps := [decide (x38 < x37) = true,
      0 ≤ x38,
      x38 < (List.length x36 : Int),
      decide ((List.getD x36 (x38).toNat (0 : Int)) > (0 : Int)) = true,
      sizeOK (List.length xo31 + List.length ([(IntKind.wrap .i64 ((List.getD x36 (x38).toNat (0 : Int)) - (1 : Int)))] : List Int))]) (st1 := impl_dropped_L1a x0 x6 x36 x37 (IntKind.wrap .i64 (x38 + (1 : Int))) (xo31 ++ ([(IntKind.wrap .i64 ((List.getD x36 (x38).toNat (0 : Int)) - (1 : Int)))] : List Int))) (by kernel_rfl) ⟨(decide_eq_true h1), h2, h3, (decide_eq_true h4), h5, trivial⟩ next

theorem impl_dropped_L1a_i2 (x0 : (List Int)) (x6 : Int) (x36 : (List Int)) (x37 : Int) (x38 : Int) (xo31 : (List Int))
    (h1 : x38 < x37)
    (h2 : 0 ≤ x38)
    (h3 : x38 < (List.length x36 : Int))
    (h4 : ¬ ((List.getD x36 (x38).toNat (0 : Int)) > (0 : Int)))
    (h5 : sizeOK (List.length xo31 + List.length ([(IntKind.wrap .i64 ((List.getD x36 (x38).toNat (0 : Int)) + (1 : Int)))] : List Int)))
    {e : AEx} {st : St} (next : LoopSC cfg.P 2 (lb P_impl_dropped 1) (impl_dropped_L1a x0 x6 x36 x37 (IntKind.wrap .i64 (x38 + (1 : Int))) (xo31 ++ ([(IntKind.wrap .i64 ((List.getD x36 (x38).toNat (0 : Int)) + (1 : Int)))] : List Int))) e st) :
    LoopSC cfg.P 2 (lb P_impl_dropped 1) (impl_dropped_L1a x0 x6 x36 x37 x38 xo31) e st :=
  loop_iter cfgOK (f := i_impl_dropped) (its := [.bool true, .bool false])
    (ps := [decide (x38 < x37) = true,
      0 ≤ x38,
      x38 < (List.length x36 : Int),
      decide ((List.getD x36 (x38).toNat (0 : Int)) > (0 : Int)) = false,
      sizeOK (List.length xo31 + List.length ([(IntKind.wrap .i64 ((List.getD x36 (x38).toNat (0 : Int)) + (1 : Int)))] : List Int))]) (st1 := impl_dropped_L1a x0 x6 x36 x37 (IntKind.wrap .i64 (x38 + (1 : Int))) (xo31 ++ ([(IntKind.wrap .i64 ((List.getD x36 (x38).toNat (0 : Int)) + (1 : Int)))] : List Int))) (by kernel_rfl) ⟨(decide_eq_true h1), h2, h3, (decide_eq_false h4), h5, trivial⟩ next

theorem impl_dropped_L1a_x3 (x0 : (List Int)) (x6 : Int) (x36 : (List Int)) (x37 : Int) (x38 : Int) (xo31 : (List Int))
    (h1 : ¬ (x38 < x37)) :
    LoopSC cfg.P 2 (lb P_impl_dropped 1) (impl_dropped_L1a x0 x6 x36 x37 x38 xo31) (.exit 2) (impl_dropped_L1X1 x0 x6 x36 x37 x38 false xo31) :=
  loop_out cfgOK (f := i_impl_dropped) (its := [.bool false])
    (ps := [decide (x38 < x37) = false]) (by kernel_rfl) ⟨(decide_eq_false h1), trivial⟩ (fun h => by cases h)

theorem impl_dropped_p1 (a0 : (List Int)) (a1 : Int) (c1 : Int) (k1y0 : (List Int)) (k1y1 : Int) (k1y5 : Int) (k1y6 : Int) (k1y16 : (List Int)) (k1y17 : Int) (k1y18 : Int) (k1y19 : Bool) (c2 : (List Int)) (k2y0 : (List Int)) (k2y6 : Int) (k2y36 : (List Int)) (k2y37 : Int) (k2y38 : Int) (k2y39 : Bool) (k2yo31 : (List Int))
    (h1 : SC cfg.P i_slices_Index [.s (.v (.sl (.int .i64)) a0), .s (.v (.int .i64) (IntKind.wrap .i64 (0 - a1)))] (.s (.v (.int .i64) c1)) [])
    (h2 : LoopSC cfg.P 2 (lb P_impl_dropped 0) (impl_dropped_L0a a0 a1 (0 : Int) c1 a0 ((List.length a0 : Nat) : Int) (0 : Int)) (.exit 0) (impl_dropped_L0X1 k1y0 k1y1 k1y5 k1y6 k1y16 k1y17 k1y18 k1y19))
    (h3 : 0 ≤ k1y5)
    (h4 : k1y5 ≤ (List.length k1y0 : Int))
    (h5 : SC cfg.P i_slices_Clone [.s (.v (.sl (.int .i64)) (cutL k1y0 (0 : Int) k1y5))] (.s (.own t_int (.int .i64) c2)) [])
    (h6 : 0 ≤ (IntKind.wrap .i64 (k1y5 + (1 : Int))))
    (h7 : (IntKind.wrap .i64 (k1y5 + (1 : Int))) ≤ k1y6)
    (h8 : k1y6 ≤ (List.length k1y0 : Int))
    (h9 : LoopSC cfg.P 2 (lb P_impl_dropped 1) (impl_dropped_L1a k1y0 k1y6 (cutL k1y0 (IntKind.wrap .i64 (k1y5 + (1 : Int))) k1y6) ((List.length (cutL k1y0 (IntKind.wrap .i64 (k1y5 + (1 : Int))) k1y6) : Nat) : Int) (0 : Int) c2) (.exit 2) (impl_dropped_L1X1 k2y0 k2y6 k2y36 k2y37 k2y38 k2y39 k2yo31))
    (h10 : 0 ≤ (IntKind.wrap .i64 (k2y6 + (1 : Int))))
    (h11 : (IntKind.wrap .i64 (k2y6 + (1 : Int))) ≤ (List.length k2y0 : Int))
    (h12 : sizeOK (List.length k2yo31 + List.length (cutL k2y0 (IntKind.wrap .i64 (k2y6 + (1 : Int))) ((List.length k2y0 : Nat) : Int)))) :
    SC cfg.P i_impl_dropped [.s (.v (.sl (.int .i64)) a0), .s (.v (.int .i64) a1)] (.s (.own t_int (.int .i64) (k2yo31 ++ (cutL k2y0 (IntKind.wrap .i64 (k2y6 + (1 : Int))) ((List.length k2y0 : Nat) : Int))))) [] :=
  SC_of_run cfgOK (its := [.res (.s (.v (.int .i64) c1)) [] [] [], .loop (fun _ => (.exit 0, impl_dropped_L0X1 k1y0 k1y1 k1y5 k1y6 k1y16 k1y17 k1y18 k1y19)), .res (.s (.own t_int (.int .i64) c2)) [] [] [31], .loop (fun _ => (.exit 2, impl_dropped_L1X1 k2y0 k2y6 k2y36 k2y37 k2y38 k2y39 k2yo31))])
    (ps := [SC cfg.P i_slices_Index [.s (.v (.sl (.int .i64)) a0), .s (.v (.int .i64) (IntKind.wrap .i64 (0 - a1)))] (.s (.v (.int .i64) c1)) [],
      LoopSC cfg.P 2 (lb P_impl_dropped 0) (impl_dropped_L0a a0 a1 (0 : Int) c1 a0 ((List.length a0 : Nat) : Int) (0 : Int)) (.exit 0) (impl_dropped_L0X1 k1y0 k1y1 k1y5 k1y6 k1y16 k1y17 k1y18 k1y19),
      0 ≤ k1y5,
      k1y5 ≤ (List.length k1y0 : Int),
      SC cfg.P i_slices_Clone [.s (.v (.sl (.int .i64)) (cutL k1y0 (0 : Int) k1y5))] (.s (.own t_int (.int .i64) c2)) [],
      0 ≤ (IntKind.wrap .i64 (k1y5 + (1 : Int))),
      (IntKind.wrap .i64 (k1y5 + (1 : Int))) ≤ k1y6,
      k1y6 ≤ (List.length k1y0 : Int),
      LoopSC cfg.P 2 (lb P_impl_dropped 1) (impl_dropped_L1a k1y0 k1y6 (cutL k1y0 (IntKind.wrap .i64 (k1y5 + (1 : Int))) k1y6) ((List.length (cutL k1y0 (IntKind.wrap .i64 (k1y5 + (1 : Int))) k1y6) : Nat) : Int) (0 : Int) c2) (.exit 2) (impl_dropped_L1X1 k2y0 k2y6 k2y36 k2y37 k2y38 k2y39 k2yo31),
      0 ≤ (IntKind.wrap .i64 (k2y6 + (1 : Int))),
      (IntKind.wrap .i64 (k2y6 + (1 : Int))) ≤ (List.length k2y0 : Int),
      sizeOK (List.length k2yo31 + List.length (cutL k2y0 (IntKind.wrap .i64 (k2y6 + (1 : Int))) ((List.length k2y0 : Nat) : Int)))]) (by kernel_rfl) ⟨h1, h2, h3, h4, h5, h6, h7, h8, h9, h10, h11, h12, trivial⟩ get_impl_dropped (by decide)

/-! ### spec_wdNormal -/


def spec_wdNormal_L0a (x0 : (List Int)) : St := mkSt 23 [(0, .s (.v (.sl (.int .i64)) x0))] []

def spec_wdNormal_L0X1 (y2 : (List Int)) : St := mkSt 23 [(2, .s (.v (.sl (.int .i64)) y2))] []

theorem spec_wdNormal_L0a_i1 (x0 : (List Int)) (dc1a : (List Int)) (dc2a : (List Int)) (dc2b : Int)
    (h1 : SC cfg.P i_spec_wdDrop [.s (.v (.sl (.int .i64)) x0)] (.tup [.v (.sl (.int .i64)) dc1a, .v .bool true]) [])
    (h2 : SC cfg.P i_spec_wdSort [.s (.v (.sl (.int .i64)) dc1a)] (.tup [.v (.sl (.int .i64)) dc2a, .v (.int .i64) dc2b]) [])
    {e : AEx} {st : St} (next : LoopSC cfg.P 1 (lb P_spec_wdNormal 0) (spec_wdNormal_L0a dc2a) e st) :
    LoopSC cfg.P 1 (lb P_spec_wdNormal 0) (spec_wdNormal_L0a x0) e st :=
  loop_iter cfgOK (f := i_spec_wdNormal) (its := [.res (.tup [.v (.sl (.int .i64)) dc1a, .v .bool true]) [] [] [], .res (.tup [.v (.sl (.int .i64)) dc2a, .v (.int .i64) dc2b]) [] [] []])
    (ps := [SC cfg.P i_spec_wdDrop [.s (.v (.sl (.int .i64)) x0)] (.tup [.v (.sl (.int .i64)) dc1a, .v .bool true]) [],
      SC cfg.P i_spec_wdSort [.s (.v (.sl (.int .i64)) dc1a)] (.tup [.v (.sl (.int .i64)) dc2a, .v (.int .i64) dc2b]) []]) (st1 := spec_wdNormal_L0a dc2a) (by kernel_rfl) ⟨h1, h2, trivial⟩ next

theorem spec_wdNormal_L0a_x2 (x0 : (List Int)) (dc1a : (List Int))
    (h1 : SC cfg.P i_spec_wdDrop [.s (.v (.sl (.int .i64)) x0)] (.tup [.v (.sl (.int .i64)) dc1a, .v .bool false]) []) :
    LoopSC cfg.P 1 (lb P_spec_wdNormal 0) (spec_wdNormal_L0a x0) (.ret) (spec_wdNormal_L0X1 x0) :=
  loop_out cfgOK (f := i_spec_wdNormal) (its := [.res (.tup [.v (.sl (.int .i64)) dc1a, .v .bool false]) [] [] []])
    (ps := [SC cfg.P i_spec_wdDrop [.s (.v (.sl (.int .i64)) x0)] (.tup [.v (.sl (.int .i64)) dc1a, .v .bool false]) []]) (by kernel_rfl) ⟨h1, trivial⟩ (fun h => by cases h)

theorem spec_wdNormal_p1 (a0 : (List Int)) (c1a : (List Int)) (c1b : Int) (k1y2 : (List Int))
    (h1 : SC cfg.P i_spec_wdSort [.s (.v (.sl (.int .i64)) a0)] (.tup [.v (.sl (.int .i64)) c1a, .v (.int .i64) c1b]) [])
    (h2 : LoopSC cfg.P 1 (lb P_spec_wdNormal 0) (spec_wdNormal_L0a c1a) (.ret) (spec_wdNormal_L0X1 k1y2)) :
    SC cfg.P i_spec_wdNormal [.s (.v (.sl (.int .i64)) a0)] (.s (.v (.sl (.int .i64)) k1y2)) [] :=
  SC_of_run cfgOK (its := [.res (.tup [.v (.sl (.int .i64)) c1a, .v (.int .i64) c1b]) [] [] [], .loop (fun _ => (.ret, spec_wdNormal_L0X1 k1y2))])
    (ps := [SC cfg.P i_spec_wdSort [.s (.v (.sl (.int .i64)) a0)] (.tup [.v (.sl (.int .i64)) c1a, .v (.int .i64) c1b]) [],
      LoopSC cfg.P 1 (lb P_spec_wdNormal 0) (spec_wdNormal_L0a c1a) (.ret) (spec_wdNormal_L0X1 k1y2)]) (by kernel_rfl) ⟨h1, h2, trivial⟩ get_spec_wdNormal (by decide)

/-! ### spec_wdDrop -/


def spec_wdDrop_L0a (x0 : (List Int)) (x4 : Int) : St := mkSt 102 [(0, .s (.v (.sl (.int .i64)) x0)), (4, .s (.v (.int .i64) x4))] []

def spec_wdDrop_L1a (x0 : (List Int)) (x4 : Int) (x5 : Int) (x6 : Int) (x41 : (List Int)) (x42 : Int) (x43 : Int) : St := mkSt 102 [(0, .s (.v (.sl (.int .i64)) x0)), (4, .s (.v (.int .i64) x4)), (5, .s (.v (.int .i64) x5)), (6, .s (.v (.int .i64) x6)), (41, .s (.v (.sl (.int .i64)) x41)), (42, .s (.v (.int .i64) x42)), (43, .s (.v (.int .i64) x43))] []

def spec_wdDrop_L1X1 (y0 : (List Int)) (y4 : Int) (y5 : Int) (y6 : Int) (y41 : (List Int)) (y42 : Int) (y43 : Int) (y44 : Bool) : St := mkSt 102 [(0, .s (.v (.sl (.int .i64)) y0)), (4, .s (.v (.int .i64) y4)), (5, .s (.v (.int .i64) y5)), (6, .s (.v (.int .i64) y6)), (41, .s (.v (.sl (.int .i64)) y41)), (42, .s (.v (.int .i64) y42)), (43, .s (.v (.int .i64) y43)), (44, .s (.v .bool y44))] []

def spec_wdDrop_L2a (x0 : (List Int)) (x4 : Int) (x5 : Int) (x6 : Int) (x9 : Int) : St := mkSt 102 [(0, .s (.v (.sl (.int .i64)) x0)), (4, .s (.v (.int .i64) x4)), (5, .s (.v (.int .i64) x5)), (6, .s (.v (.int .i64) x6)), (9, .s (.v (.int .i64) x9))] []

def spec_wdDrop_L2X1 (y0 : (List Int)) (y4 : Int) (y5 : Int) (y6 : Int) (y9 : Int) (y57 : Bool) : St := mkSt 102 [(0, .s (.v (.sl (.int .i64)) y0)), (4, .s (.v (.int .i64) y4)), (5, .s (.v (.int .i64) y5)), (6, .s (.v (.int .i64) y6)), (9, .s (.v (.int .i64) y9)), (57, .s (.v .bool y57))] []

def spec_wdDrop_L3a (x0 : (List Int)) (x6 : Int) (x76 : (List Int)) (x77 : Int) (x78 : Int) (xo71 : (List Int)) : St := mkSt 102 [(0, .s (.v (.sl (.int .i64)) x0)), (6, .s (.v (.int .i64) x6)), (10, .s (.osl 71 0)), (76, .s (.v (.sl (.int .i64)) x76)), (77, .s (.v (.int .i64) x77)), (78, .s (.v (.int .i64) x78))] [(71, .row t_int (.int .i64) xo71 0 false)]

def spec_wdDrop_L3X1 (y0 : (List Int)) (y6 : Int) (y76 : (List Int)) (y77 : Int) (y78 : Int) (y79 : Bool) (yo71 : (List Int)) : St := mkSt 102 [(0, .s (.v (.sl (.int .i64)) y0)), (6, .s (.v (.int .i64) y6)), (10, .s (.osl 71 0)), (76, .s (.v (.sl (.int .i64)) y76)), (77, .s (.v (.int .i64) y77)), (78, .s (.v (.int .i64) y78)), (79, .s (.v .bool y79))] [(71, .row t_int (.int .i64) yo71 0 false)]

def spec_wdDrop_L0X1 (y3 : Bool) (yo71 : (List Int)) : St := mkSt 102 [(2, .s (.osl 71 0)), (3, .s (.v .bool y3))] [(71, .row t_int (.int .i64) yo71 0 false)]

def spec_wdDrop_L0X2 (y0 : (List Int)) (y4 : Int) (y14 : Bool) : St := mkSt 102 [(0, .s (.v (.sl (.int .i64)) y0)), (4, .s (.v (.int .i64) y4)), (14, .s (.v .bool y14))] []

theorem spec_wdDrop_L0a_i1 (x0 : (List Int)) (x4 : Int)
    (h1 : x4 ≥ (1 : Int))
    (h2 : SC cfg.P i_spec_l1Has [.s (.v (.sl (.int .i64)) x0), .s (.v (.int .i64) x4)] (.s (.v .bool true)) [])
    (h3 : SC cfg.P i_spec_l1Has [.s (.v (.sl (.int .i64)) x0), .s (.v (.int .i64) (IntKind.wrap .i64 (0 - x4)))] (.s (.v .bool true)) [])
    (h4 : SC cfg.P i_spec_l1Has [.s (.v (.sl (.int .i64)) x0), .s (.v (.int .i64) (IntKind.wrap .i64 (x4 + (1 : Int))))] (.s (.v .bool true)) [])
    {e : AEx} {st : St} (next : LoopSC cfg.P 1 (lb P_spec_wdDrop 0) (spec_wdDrop_L0a x0 (IntKind.wrap .i64 (x4 - (1 : Int)))) e st) :
    LoopSC cfg.P 1 (lb P_spec_wdDrop 0) (spec_wdDrop_L0a x0 x4) e st :=
  loop_iter cfgOK (f := i_spec_wdDrop) (its := [.bool true, .res (.s (.v .bool true)) [] [] [], .res (.s (.v .bool true)) [] [] [], .res (.s (.v .bool true)) [] [] []])
    (ps := [decide (x4 ≥ (1 : Int)) = true,
      SC cfg.P i_spec_l1Has [.s (.v (.sl (.int .i64)) x0), .s (.v (.int .i64) x4)] (.s (.v .bool true)) [],
      SC cfg.P i_spec_l1Has [.s (.v (.sl (.int .i64)) x0), .s (.v (.int .i64) (IntKind.wrap .i64 (0 - x4)))] (.s (.v .bool true)) [],
      SC cfg.P i_spec_l1Has [.s (.v (.sl (.int .i64)) x0), .s (.v (.int .i64) (IntKind.wrap .i64 (x4 + (1 : Int))))] (.s (.v .bool true)) []]) (st1 := spec_wdDrop_L0a x0 (IntKind.wrap .i64 (x4 - (1 : Int)))) (by kernel_rfl) ⟨(decide_eq_true h1), h2, h3, h4, trivial⟩ next

theorem spec_wdDrop_L0a_i2 (x0 : (List Int)) (x4 : Int)
    (h1 : x4 ≥ (1 : Int))
    (h2 : SC cfg.P i_spec_l1Has [.s (.v (.sl (.int .i64)) x0), .s (.v (.int .i64) x4)] (.s (.v .bool true)) [])
    (h3 : SC cfg.P i_spec_l1Has [.s (.v (.sl (.int .i64)) x0), .s (.v (.int .i64) (IntKind.wrap .i64 (0 - x4)))] (.s (.v .bool true)) [])
    (h4 : SC cfg.P i_spec_l1Has [.s (.v (.sl (.int .i64)) x0), .s (.v (.int .i64) (IntKind.wrap .i64 (x4 + (1 : Int))))] (.s (.v .bool false)) [])
    (h5 : SC cfg.P i_spec_l1Has [.s (.v (.sl (.int .i64)) x0), .s (.v (.int .i64) (IntKind.wrap .i64 ((IntKind.wrap .i64 (0 - x4)) - (1 : Int))))] (.s (.v .bool true)) [])
    {e : AEx} {st : St} (next : LoopSC cfg.P 1 (lb P_spec_wdDrop 0) (spec_wdDrop_L0a x0 (IntKind.wrap .i64 (x4 - (1 : Int)))) e st) :
    LoopSC cfg.P 1 (lb P_spec_wdDrop 0) (spec_wdDrop_L0a x0 x4) e st :=
  loop_iter cfgOK (f := i_spec_wdDrop) (its := [.bool true, .res (.s (.v .bool true)) [] [] [], .res (.s (.v .bool true)) [] [] [], .res (.s (.v .bool false)) [] [] [], .res (.s (.v .bool true)) [] [] []])
    (ps := [decide (x4 ≥ (1 : Int)) = true,
      SC cfg.P i_spec_l1Has [.s (.v (.sl (.int .i64)) x0), .s (.v (.int .i64) x4)] (.s (.v .bool true)) [],
      SC cfg.P i_spec_l1Has [.s (.v (.sl (.int .i64)) x0), .s (.v (.int .i64) (IntKind.wrap .i64 (0 - x4)))] (.s (.v .bool true)) [],
      SC cfg.P i_spec_l1Has [.s (.v (.sl (.int .i64)) x0), .s (.v (.int .i64) (IntKind.wrap .i64 (x4 + (1 : Int))))] (.s (.v .bool false)) [],
      SC cfg.P i_spec_l1Has [.s (.v (.sl (.int .i64)) x0), .s (.v (.int .i64) (IntKind.wrap .i64 ((IntKind.wrap .i64 (0 - x4)) - (1 : Int))))] (.s (.v .bool true)) []]) (st1 := spec_wdDrop_L0a x0 (IntKind.wrap .i64 (x4 - (1 : Int)))) (by kernel_rfl) ⟨(decide_eq_true h1), h2, h3, h4, h5, trivial⟩ next

theorem spec_wdDrop_L0a_x3 (x0 : (List Int)) (x4 : Int) (dk1y0 : (List Int)) (dk1y4 : Int) (dk1y5 : Int) (dk1y6 : Int) (dk1y41 : (List Int)) (dk1y42 : Int) (dk1y43 : Int) (dk1y44 : Bool) (dk2y0 : (List Int)) (dk2y4 : Int) (dk2y5 : Int) (dk2y6 : Int) (dk2y9 : Int) (dk2y57 : Bool) (dc5 : (List Int)) (dk3y0 : (List Int)) (dk3y6 : Int) (dk3y76 : (List Int)) (dk3y77 : Int) (dk3y78 : Int) (dk3y79 : Bool) (dk3yo71 : (List Int))
    (h1 : x4 ≥ (1 : Int))
    (h2 : SC cfg.P i_spec_l1Has [.s (.v (.sl (.int .i64)) x0), .s (.v (.int .i64) x4)] (.s (.v .bool true)) [])
    (h3 : SC cfg.P i_spec_l1Has [.s (.v (.sl (.int .i64)) x0), .s (.v (.int .i64) (IntKind.wrap .i64 (0 - x4)))] (.s (.v .bool true)) [])
    (h4 : SC cfg.P i_spec_l1Has [.s (.v (.sl (.int .i64)) x0), .s (.v (.int .i64) (IntKind.wrap .i64 (x4 + (1 : Int))))] (.s (.v .bool false)) [])
    (h5 : SC cfg.P i_spec_l1Has [.s (.v (.sl (.int .i64)) x0), .s (.v (.int .i64) (IntKind.wrap .i64 ((IntKind.wrap .i64 (0 - x4)) - (1 : Int))))] (.s (.v .bool false)) [])
    (h6 : LoopSC cfg.P 1 (lb P_spec_wdDrop 1) (spec_wdDrop_L1a x0 x4 (0 : Int) (0 : Int) x0 ((List.length x0 : Nat) : Int) (0 : Int)) (.exit 2) (spec_wdDrop_L1X1 dk1y0 dk1y4 dk1y5 dk1y6 dk1y41 dk1y42 dk1y43 dk1y44))
    (h7 : LoopSC cfg.P 1 (lb P_spec_wdDrop 2) (spec_wdDrop_L2a dk1y0 dk1y4 dk1y5 dk1y6 (IntKind.wrap .i64 (((List.length dk1y0 : Nat) : Int) - (1 : Int)))) (.exit 4) (spec_wdDrop_L2X1 dk2y0 dk2y4 dk2y5 dk2y6 dk2y9 dk2y57))
    (h8 : 0 ≤ dk2y5)
    (h9 : dk2y5 ≤ (List.length dk2y0 : Int))
    (h10 : SC cfg.P i_spec_l1Own [.s (.v (.sl (.int .i64)) (cutL dk2y0 (0 : Int) dk2y5))] (.s (.own t_int (.int .i64) dc5)) [])
    (h11 : 0 ≤ (IntKind.wrap .i64 (dk2y5 + (1 : Int))))
    (h12 : (IntKind.wrap .i64 (dk2y5 + (1 : Int))) ≤ dk2y6)
    (h13 : dk2y6 ≤ (List.length dk2y0 : Int))
    (h14 : LoopSC cfg.P 1 (lb P_spec_wdDrop 3) (spec_wdDrop_L3a dk2y0 dk2y6 (cutL dk2y0 (IntKind.wrap .i64 (dk2y5 + (1 : Int))) dk2y6) ((List.length (cutL dk2y0 (IntKind.wrap .i64 (dk2y5 + (1 : Int))) dk2y6) : Nat) : Int) (0 : Int) dc5) (.exit 6) (spec_wdDrop_L3X1 dk3y0 dk3y6 dk3y76 dk3y77 dk3y78 dk3y79 dk3yo71))
    (h15 : 0 ≤ (IntKind.wrap .i64 (dk3y6 + (1 : Int))))
    (h16 : (IntKind.wrap .i64 (dk3y6 + (1 : Int))) ≤ (List.length dk3y0 : Int))
    (h17 : sizeOK (List.length dk3yo71 + List.length (cutL dk3y0 (IntKind.wrap .i64 (dk3y6 + (1 : Int))) ((List.length dk3y0 : Nat) : Int)))) :
    LoopSC cfg.P 1 (lb P_spec_wdDrop 0) (spec_wdDrop_L0a x0 x4) (.ret) (spec_wdDrop_L0X1 true (dk3yo71 ++ (cutL dk3y0 (IntKind.wrap .i64 (dk3y6 + (1 : Int))) ((List.length dk3y0 : Nat) : Int)))) :=
  loop_out cfgOK (f := i_spec_wdDrop) (its := [.bool true, .res (.s (.v .bool true)) [] [] [], .res (.s (.v .bool true)) [] [] [], .res (.s (.v .bool false)) [] [] [], .res (.s (.v .bool false)) [] [] [], .loop (fun _ => (.exit 2, spec_wdDrop_L1X1 dk1y0 dk1y4 dk1y5 dk1y6 dk1y41 dk1y42 dk1y43 dk1y44)), .loop (fun _ => (.exit 4, spec_wdDrop_L2X1 dk2y0 dk2y4 dk2y5 dk2y6 dk2y9 dk2y57)), .res (.s (.own t_int (.int .i64) dc5)) [] [] [71], .loop (fun _ => (.exit 6, spec_wdDrop_L3X1 dk3y0 dk3y6 dk3y76 dk3y77 dk3y78 dk3y79 dk3yo71))])
    (ps := [decide (x4 ≥ (1 : Int)) = true,
      SC cfg.P i_spec_l1Has [.s (.v (.sl (.int .i64)) x0), .s (.v (.int .i64) x4)] (.s (.v .bool true)) [],
      SC cfg.P i_spec_l1Has [.s (.v (.sl (.int .i64)) x0), .s (.v (.int .i64) (IntKind.wrap .i64 (0 - x4)))] (.s (.v .bool true)) [],
      SC cfg.P i_spec_l1Has [.s (.v (.sl (.int .i64)) x0), .s (.v (.int .i64) (IntKind.wrap .i64 (x4 + (1 : Int))))] (.s (.v .bool false)) [],
      SC cfg.P i_spec_l1Has [.s (.v (.sl (.int .i64)) x0), .s (.v (.int .i64) (IntKind.wrap .i64 ((IntKind.wrap .i64 (0 - x4)) - (1 : Int))))] (.s (.v .bool false)) [],
      LoopSC cfg.P 1 (lb P_spec_wdDrop 1) (spec_wdDrop_L1a x0 x4 (0 : Int) (0 : Int) x0 ((List.length x0 : Nat) : Int) (0 : Int)) (.exit 2) (spec_wdDrop_L1X1 dk1y0 dk1y4 dk1y5 dk1y6 dk1y41 dk1y42 dk1y43 dk1y44),
      LoopSC cfg.P 1 (lb P_spec_wdDrop 2) (spec_wdDrop_L2a dk1y0 dk1y4 dk1y5 dk1y6 (IntKind.wrap .i64 (((List.length dk1y0 : Nat) : Int) - (1 : Int)))) (.exit 4) (spec_wdDrop_L2X1 dk2y0 dk2y4 dk2y5 dk2y6 dk2y9 dk2y57),
      0 ≤ dk2y5,
      dk2y5 ≤ (List.length dk2y0 : Int),
      SC cfg.P i_spec_l1Own [.s (.v (.sl (.int .i64)) (cutL dk2y0 (0 : Int) dk2y5))] (.s (.own t_int (.int .i64) dc5)) [],
      0 ≤ (IntKind.wrap .i64 (dk2y5 + (1 : Int))),
      (IntKind.wrap .i64 (dk2y5 + (1 : Int))) ≤ dk2y6,
      dk2y6 ≤ (List.length dk2y0 : Int),
      LoopSC cfg.P 1 (lb P_spec_wdDrop 3) (spec_wdDrop_L3a dk2y0 dk2y6 (cutL dk2y0 (IntKind.wrap .i64 (dk2y5 + (1 : Int))) dk2y6) ((List.length (cutL dk2y0 (IntKind.wrap .i64 (dk2y5 + (1 : Int))) dk2y6) : Nat) : Int) (0 : Int) dc5) (.exit 6) (spec_wdDrop_L3X1 dk3y0 dk3y6 dk3y76 dk3y77 dk3y78 dk3y79 dk3yo71),
      0 ≤ (IntKind.wrap .i64 (dk3y6 + (1 : Int))),
      (IntKind.wrap .i64 (dk3y6 + (1 : Int))) ≤ (List.length dk3y0 : Int),
      sizeOK (List.length dk3yo71 + List.length (cutL dk3y0 (IntKind.wrap .i64 (dk3y6 + (1 : Int))) ((List.length dk3y0 : Nat) : Int)))]) (by kernel_rfl) ⟨(decide_eq_true h1), h2, h3, h4, h5, h6, h7, h8, h9, h10, h11, h12, h13, h14, h15, h16, h17, trivial⟩ (fun h => by cases h)

theorem spec_wdDrop_L0a_i4 (x0 : (List Int)) (x4 : Int)
    (h1 : x4 ≥ (1 : Int))
    (h2 : SC cfg.P i_spec_l1Has [.s (.v (.sl (.int .i64)) x0), .s (.v (.int .i64) x4)] (.s (.v .bool true)) [])
    (h3 : SC cfg.P i_spec_l1Has [.s (.v (.sl (.int .i64)) x0), .s (.v (.int .i64) (IntKind.wrap .i64 (0 - x4)))] (.s (.v .bool false)) [])
    {e : AEx} {st : St} (next : LoopSC cfg.P 1 (lb P_spec_wdDrop 0) (spec_wdDrop_L0a x0 (IntKind.wrap .i64 (x4 - (1 : Int)))) e st) :
    LoopSC cfg.P 1 (lb P_spec_wdDrop 0) (spec_wdDrop_L0a x0 x4) e st :=
  loop_iter cfgOK (f := i_spec_wdDrop) (its := [.bool true, .res (.s (.v .bool true)) [] [] [], .res (.s (.v .bool false)) [] [] []])
    (ps := [decide (x4 ≥ (1 : Int)) = true,
      SC cfg.P i_spec_l1Has [.s (.v (.sl (.int .i64)) x0), .s (.v (.int .i64) x4)] (.s (.v .bool true)) [],
      SC cfg.P i_spec_l1Has [.s (.v (.sl (.int .i64)) x0), .s (.v (.int .i64) (IntKind.wrap .i64 (0 - x4)))] (.s (.v .bool false)) []]) (st1 := spec_wdDrop_L0a x0 (IntKind.wrap .i64 (x4 - (1 : Int)))) (by kernel_rfl) ⟨(decide_eq_true h1), h2, h3, trivial⟩ next

theorem spec_wdDrop_L0a_i5 (x0 : (List Int)) (x4 : Int)
    (h1 : x4 ≥ (1 : Int))
    (h2 : SC cfg.P i_spec_l1Has [.s (.v (.sl (.int .i64)) x0), .s (.v (.int .i64) x4)] (.s (.v .bool false)) [])
    {e : AEx} {st : St} (next : LoopSC cfg.P 1 (lb P_spec_wdDrop 0) (spec_wdDrop_L0a x0 (IntKind.wrap .i64 (x4 - (1 : Int)))) e st) :
    LoopSC cfg.P 1 (lb P_spec_wdDrop 0) (spec_wdDrop_L0a x0 x4) e st :=
  loop_iter cfgOK (f := i_spec_wdDrop) (its := [.bool true, .res (.s (.v .bool false)) [] [] []])
    (ps := [decide (x4 ≥ (1 : Int)) = true,
      SC cfg.P i_spec_l1Has [.s (.v (.sl (.int .i64)) x0), .s (.v (.int .i64) x4)] (.s (.v .bool false)) []]) (st1 := spec_wdDrop_L0a x0 (IntKind.wrap .i64 (x4 - (1 : Int)))) (by kernel_rfl) ⟨(decide_eq_true h1), h2, trivial⟩ next

theorem spec_wdDrop_L0a_x6 (x0 : (List Int)) (x4 : Int)
    (h1 : ¬ (x4 ≥ (1 : Int))) :
    LoopSC cfg.P 1 (lb P_spec_wdDrop 0) (spec_wdDrop_L0a x0 x4) (.exit 0) (spec_wdDrop_L0X2 x0 x4 false) :=
  loop_out cfgOK (f := i_spec_wdDrop) (its := [.bool false])
    (ps := [decide (x4 ≥ (1 : Int)) = false]) (by kernel_rfl) ⟨(decide_eq_false h1), trivial⟩ (fun h => by cases h)

theorem spec_wdDrop_L1a_i1 (x0 : (List Int)) (x4 : Int) (x5 : Int) (x6 : Int) (x41 : (List Int)) (x42 : Int) (x43 : Int)
    (h1 : x43 < x42)
    (h2 : 0 ≤ x43)
    (h3 : x43 < (List.length x41 : Int))
    (h4 : (List.getD x41 (x43).toNat (0 : Int)) = x4)
    {e : AEx} {st : St} (next : LoopSC cfg.P 1 (lb P_spec_wdDrop 1) (spec_wdDrop_L1a x0 x4 x43 x6 x41 x42 (IntKind.wrap .i64 (x43 + (1 : Int)))) e st) :
    LoopSC cfg.P 1 (lb P_spec_wdDrop 1) (spec_wdDrop_L1a x0 x4 x5 x6 x41 x42 x43) e st :=
  loop_iter cfgOK (f := i_spec_wdDrop) (its := [.bool true, .bool true])
    (ps := [decide (x43 < x42) = true,
      0 ≤ x43,
      x43 < (List.length x41 : Int),
      ((List.getD x41 (x43).toNat (0 : Int)) == x4) = true]) (st1 := spec_wdDrop_L1a x0 x4 x43 x6 x41 x42 (IntKind.wrap .i64 (x43 + (1 : Int)))) (by kernel_rfl) ⟨(decide_eq_true h1), h2, h3, (beq_iff_eq.mpr h4), trivial⟩ next

theorem spec_wdDrop_L1a_i2 (x0 : (List Int)) (x4 : Int) (x5 : Int) (x6 : Int) (x41 : (List Int)) (x42 : Int) (x43 : Int)
    (h1 : x43 < x42)
    (h2 : 0 ≤ x43)
    (h3 : x43 < (List.length x41 : Int))
    (h4 : (List.getD x41 (x43).toNat (0 : Int)) ≠ x4)
    {e : AEx} {st : St} (next : LoopSC cfg.P 1 (lb P_spec_wdDrop 1) (spec_wdDrop_L1a x0 x4 x5 x6 x41 x42 (IntKind.wrap .i64 (x43 + (1 : Int)))) e st) :
    LoopSC cfg.P 1 (lb P_spec_wdDrop 1) (spec_wdDrop_L1a x0 x4 x5 x6 x41 x42 x43) e st :=
  loop_iter cfgOK (f := i_spec_wdDrop) (its := [.bool true, .bool false])
    (ps := [decide (x43 < x42) = true,
      0 ≤ x43,
      x43 < (List.length x41 : Int),
      ((List.getD x41 (x43).toNat (0 : Int)) == x4) = false]) (st1 := spec_wdDrop_L1a x0 x4 x5 x6 x41 x42 (IntKind.wrap .i64 (x43 + (1 : Int)))) (by kernel_rfl) ⟨(decide_eq_true h1), h2, h3, (beq_eq_false_iff_ne.mpr h4), trivial⟩ next

theorem spec_wdDrop_L1a_x3 (x0 : (List Int)) (x4 : Int) (x5 : Int) (x6 : Int) (x41 : (List Int)) (x42 : Int) (x43 : Int)
    (h1 : ¬ (x43 < x42)) :
    LoopSC cfg.P 1 (lb P_spec_wdDrop 1) (spec_wdDrop_L1a x0 x4 x5 x6 x41 x42 x43) (.exit 2) (spec_wdDrop_L1X1 x0 x4 x5 x6 x41 x42 x43 false) :=
  loop_out cfgOK (f := i_spec_wdDrop) (its := [.bool false])
    (ps := [decide (x43 < x42) = false]) (by kernel_rfl) ⟨(decide_eq_false h1), trivial⟩ (fun h => by cases h)

theorem spec_wdDrop_L2a_i1 (x0 : (List Int)) (x4 : Int) (x5 : Int) (x6 : Int) (x9 : Int)
    (h1 : x9 ≥ (0 : Int))
    (h2 : 0 ≤ x9)
    (h3 : x9 < (List.length x0 : Int))
    (h4 : (List.getD x0 (x9).toNat (0 : Int)) = (IntKind.wrap .i64 (0 - x4)))
    {e : AEx} {st : St} (next : LoopSC cfg.P 1 (lb P_spec_wdDrop 2) (spec_wdDrop_L2a x0 x4 x5 x9 (IntKind.wrap .i64 (x9 - (1 : Int)))) e st) :
    LoopSC cfg.P 1 (lb P_spec_wdDrop 2) (spec_wdDrop_L2a x0 x4 x5 x6 x9) e st :=
  loop_iter cfgOK (f := i_spec_wdDrop) (its := [.bool true, .bool true])
    (ps := [decide (x9 ≥ (0 : Int)) = true,
      0 ≤ x9,
      x9 < (List.length x0 : Int),
      ((List.getD x0 (x9).toNat (0 : Int)) == (IntKind.wrap .i64 (0 - x4))) = true]) (st1 := spec_wdDrop_L2a x0 x4 x5 x9 (IntKind.wrap .i64 (x9 - (1 : Int)))) (by kernel_rfl) ⟨(decide_eq_true h1), h2, h3, (beq_iff_eq.mpr h4), trivial⟩ next

theorem spec_wdDrop_L2a_i2 (x0 : (List Int)) (x4 : Int) (x5 : Int) (x6 : Int) (x9 : Int)
    (h1 : x9 ≥ (0 : Int))
    (h2 : 0 ≤ x9)
    (h3 : x9 < (List.length x0 : Int))
    (h4 : (List.getD x0 (x9).toNat (0 : Int)) ≠ (IntKind.wrap .i64 (0 - x4)))
    {e : AEx} {st : St} (next : LoopSC cfg.P 1 (lb P_spec_wdDrop 2) (spec_wdDrop_L2a x0 x4 x5 x6 (IntKind.wrap .i64 (x9 - (1 : Int)))) e st) :
    LoopSC cfg.P 1 (lb P_spec_wdDrop 2) (spec_wdDrop_L2a x0 x4 x5 x6 x9) e st :=
  loop_iter cfgOK (f := i_spec_wdDrop) (its := [.bool true, .bool false])
    (ps := [decide (x9 ≥ (0 : Int)) = true,
      0 ≤ x9,
      x9 < (List.length x0 : Int),
      ((List.getD x0 (x9).toNat (0 : Int)) == (IntKind.wrap .i64 (0 - x4))) = false]) (st1 := spec_wdDrop_L2a x0 x4 x5 x6 (IntKind.wrap .i64 (x9 - (1 : Int)))) (by kernel_rfl) ⟨(decide_eq_true h1), h2, h3, (beq_eq_false_iff_ne.mpr h4), trivial⟩ next

theorem spec_wdDrop_L2a_x3 (x0 : (List Int)) (x4 : Int) (x5 : Int) (x6 : Int) (x9 : Int)
    (h1 : ¬ (x9 ≥ (0 : Int))) :
    LoopSC cfg.P 1 (lb P_spec_wdDrop 2) (spec_wdDrop_L2a x0 x4 x5 x6 x9) (.exit 4) (spec_wdDrop_L2X1 x0 x4 x5 x6 x9 false) :=
  loop_out cfgOK (f := i_spec_wdDrop) (its := [.bool false])
    (ps := [decide (x9 ≥ (0 : Int)) = false]) (by kernel_rfl) ⟨(decide_eq_false h1), trivial⟩ (fun h => by cases h)

theorem spec_wdDrop_L3a_i1 (x0 : (List Int)) (x6 : Int) (x76 : (List Int)) (x77 : Int) (x78 : Int) (xo71 : (List Int))
    (h1 : x78 < x77)
    (h2 : 0 ≤ x78)
    (h3 : x78 < (List.length x76 : Int))
    (h4 : (List.getD x76 (x78).toNat (0 : Int)) > (0 : Int))
    (h5 : sizeOK (List.length xo71 + List.length ([(IntKind.wrap .i64 ((List.getD x76 (x78).toNat (0 : Int)) - (1 : Int)))] : List Int)))
    {e : AEx} {st : St} (next : LoopSC cfg.P 1 (lb P_spec_wdDrop 3) (spec_wdDrop_L3a x0 x6 x76 x77 (IntKind.wrap .i64 (x78 + (1 : Int))) (xo71 ++ ([(IntKind.wrap .i64 ((List.getD x76 (x78).toNat (0 : Int)) - (1 : Int)))] : List Int))) e st) :
    LoopSC cfg.P 1 (lb P_spec_wdDrop 3) (spec_wdDrop_L3a x0 x6 x76 x77 x78 xo71) e st :=
  loop_iter cfgOK (f := i_spec_wdDrop) (its := [.bool true, .bool true])
    (ps := [decide (x78 < x77) = true,
      0 ≤ x78,
      x78 < (List.length x76 : Int),
      decide ((List.getD x76 (x78).toNat (0 : Int)) > (0 : Int)) = true,
      sizeOK (List.length xo71 + List.length ([(IntKind.wrap .i64 ((List.getD x76 (x78).toNat (0 : Int)) - (1 : Int)))] : List Int))]) (st1 := spec_wdDrop_L3a x0 x6 x76 x77 (IntKind.wrap .i64 (x78 + (1 : Int))) (xo71 ++ ([(IntKind.wrap .i64 ((List.getD x76 (x78).toNat (0 : Int)) - (1 : Int)))] : List Int))) (by kernel_rfl) ⟨(decide_eq_true h1), h2, h3, (decide_eq_true h4), h5, trivial⟩ next

theorem spec_wdDrop_L3a_i2 (x0 : (List Int)) (x6 : Int) (x76 : (List Int)) (x77 : Int) (x78 : Int) (xo71 : (List Int))
    (h1 : x78 < x77)
    (h2 : 0 ≤ x78)
    (h3 : x78 < (List.length x76 : Int))
    (h4 : ¬ ((List.getD x76 (x78).toNat (0 : Int)) > (0 : Int)))
    (h5 : sizeOK (List.length xo71 + List.length ([(IntKind.wrap .i64 ((List.getD x76 (x78).toNat (0 : Int)) + (1 : Int)))] : List Int)))
    {e : AEx} {st : St} (next : LoopSC cfg.P 1 (lb P_spec_wdDrop 3) (spec_wdDrop_L3a x0 x6 x76 x77 (IntKind.wrap .i64 (x78 + (1 : Int))) (xo71 ++ ([(IntKind.wrap .i64 ((List.getD x76 (x78).toNat (0 : Int)) + (1 : Int)))] : List Int))) e st) :
    LoopSC cfg.P 1 (lb P_spec_wdDrop 3) (spec_wdDrop_L3a x0 x6 x76 x77 x78 xo71) e st :=
  loop_iter cfgOK (f := i_spec_wdDrop) (its := [.bool true, .bool false])
    (ps := [decide (x78 < x77) = true,
      0 ≤ x78,
      x78 < (List.length x76 : Int),
      decide ((List.getD x76 (x78).toNat (0 : Int)) > (0 : Int)) = false,
      sizeOK (List.length xo71 + List.length ([(IntKind.wrap .i64 ((List.getD x76 (x78).toNat (0 : Int)) + (1 : Int)))] : List Int))]) (st1 := spec_wdDrop_L3a x0 x6 x76 x77 (IntKind.wrap .i64 (x78 + (1 : Int))) (xo71 ++ ([(IntKind.wrap .i64 ((List.getD x76 (x78).toNat (0 : Int)) + (1 : Int)))] : List Int))) (by kernel_rfl) ⟨(decide_eq_true h1), h2, h3, (decide_eq_false h4), h5, trivial⟩ next

theorem spec_wdDrop_L3a_x3 (x0 : (List Int)) (x6 : Int) (x76 : (List Int)) (x77 : Int) (x78 : Int) (xo71 : (List Int))
    (h1 : ¬ (x78 < x77)) :
    LoopSC cfg.P 1 (lb P_spec_wdDrop 3) (spec_wdDrop_L3a x0 x6 x76 x77 x78 xo71) (.exit 6) (spec_wdDrop_L3X1 x0 x6 x76 x77 x78 false xo71) :=
  loop_out cfgOK (f := i_spec_wdDrop) (its := [.bool false])
    (ps := [decide (x78 < x77) = false]) (by kernel_rfl) ⟨(decide_eq_false h1), trivial⟩ (fun h => by cases h)

theorem spec_wdDrop_p1 (a0 : (List Int)) (k1y3 : Bool) (k1yo71 : (List Int))
    (h1 : LoopSC cfg.P 1 (lb P_spec_wdDrop 0) (spec_wdDrop_L0a a0 (40 : Int)) (.ret) (spec_wdDrop_L0X1 k1y3 k1yo71)) :
    SC cfg.P i_spec_wdDrop [.s (.v (.sl (.int .i64)) a0)] (.tup [.own t_int (.int .i64) k1yo71, .v .bool k1y3]) [] :=
  SC_of_run cfgOK (its := [.loop (fun _ => (.ret, spec_wdDrop_L0X1 k1y3 k1yo71))])
    (ps := [LoopSC cfg.P 1 (lb P_spec_wdDrop 0) (spec_wdDrop_L0a a0 (40 : Int)) (.ret) (spec_wdDrop_L0X1 k1y3 k1yo71)]) (by kernel_rfl) ⟨h1, trivial⟩ get_spec_wdDrop (by decide)

theorem spec_wdDrop_p2 (a0 : (List Int)) (k1y0 : (List Int)) (k1y4 : Int) (k1y14 : Bool)
    (h1 : LoopSC cfg.P 1 (lb P_spec_wdDrop 0) (spec_wdDrop_L0a a0 (40 : Int)) (.exit 0) (spec_wdDrop_L0X2 k1y0 k1y4 k1y14)) :
    SC cfg.P i_spec_wdDrop [.s (.v (.sl (.int .i64)) a0)] (.tup [.v (.sl (.int .i64)) k1y0, .v .bool false]) [] :=
  SC_of_run cfgOK (its := [.loop (fun _ => (.exit 0, spec_wdDrop_L0X2 k1y0 k1y4 k1y14))])
    (ps := [LoopSC cfg.P 1 (lb P_spec_wdDrop 0) (spec_wdDrop_L0a a0 (40 : Int)) (.exit 0) (spec_wdDrop_L0X2 k1y0 k1y4 k1y14)]) (by kernel_rfl) ⟨h1, trivial⟩ get_spec_wdDrop (by decide)

end Go.AI
