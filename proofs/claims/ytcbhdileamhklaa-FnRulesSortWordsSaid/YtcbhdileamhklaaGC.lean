/- A part of the road: what it proves stands in its last texts. -/
import Derived.Test.YtcbhdileamhklaaSIds
import Derived.Test.YtcbhdileamhklaaProg
set_option autoImplicit false
set_option maxRecDepth 100000
set_option linter.unusedVariables false
namespace Go.AI
open Go.Proofs

/-! ### impl_SortedWord -/


theorem impl_SortedWord_p1 (a0 : (List Int)) (c1a : (List Int)) (c1b : Int) (c1c : Bool)
    (h1 : SC cfg.P i_impl_sort [.s (.v (.sl (.int .i64)) a0)] (.tup [.v (.sl (.int .i64)) c1a, .v (.int .i64) c1b, .v .bool c1c]) []) :
    SC cfg.P i_impl_SortedWord [.s (.v (.sl (.int .i64)) a0)] (.tup [.v (.sl (.int .i64)) c1a, .v .bool c1c]) [] :=
  SC_of_run cfgOK (its := [.res (.tup [.v (.sl (.int .i64)) c1a, .v (.int .i64) c1b, .v .bool c1c]) [] [] []])
    (ps := [SC cfg.P i_impl_sort [.s (.v (.sl (.int .i64)) a0)] (.tup [.v (.sl (.int .i64)) c1a, .v (.int .i64) c1b, .v .bool c1c]) []]) (by kernel_rfl) ⟨h1, trivial⟩ get_impl_SortedWord (by decide)

/-! ### spec_SortedWord -/


theorem spec_SortedWord_p1 (a0 : (List Int)) (c2a : (List Int)) (c2b : Int) (c3a : (List Int)) (c3b : Bool)
    (h1 : SC cfg.P i_spec_wdGood [.s (.v (.sl (.int .i64)) a0)] (.s (.v .bool true)) [])
    (h2 : SC cfg.P i_spec_wdSort [.s (.v (.sl (.int .i64)) a0)] (.tup [.v (.sl (.int .i64)) c2a, .v (.int .i64) c2b]) [])
    (h3 : SC cfg.P i_spec_wdIf [.s (.v (.sl (.int .i64)) c2a)] (.tup [.v (.sl (.int .i64)) c3a, .v .bool c3b]) []) :
    SC cfg.P i_spec_SortedWord [.s (.v (.sl (.int .i64)) a0)] (.tup [.v (.sl (.int .i64)) c3a, .v .bool c3b]) [] :=
  SC_of_run cfgOK (its := [.res (.s (.v .bool true)) [] [] [], .res (.tup [.v (.sl (.int .i64)) c2a, .v (.int .i64) c2b]) [] [] [], .res (.tup [.v (.sl (.int .i64)) c3a, .v .bool c3b]) [] [] []])
    (ps := [SC cfg.P i_spec_wdGood [.s (.v (.sl (.int .i64)) a0)] (.s (.v .bool true)) [],
      SC cfg.P i_spec_wdSort [.s (.v (.sl (.int .i64)) a0)] (.tup [.v (.sl (.int .i64)) c2a, .v (.int .i64) c2b]) [],
      SC cfg.P i_spec_wdIf [.s (.v (.sl (.int .i64)) c2a)] (.tup [.v (.sl (.int .i64)) c3a, .v .bool c3b]) []]) (by kernel_rfl) ⟨h1, h2, h3, trivial⟩ get_spec_SortedWord (by decide)

theorem spec_SortedWord_p2 (a0 : (List Int))
    (h1 : SC cfg.P i_spec_wdGood [.s (.v (.sl (.int .i64)) a0)] (.s (.v .bool false)) []) :
    SC cfg.P i_spec_SortedWord [.s (.v (.sl (.int .i64)) a0)] (.tup [.own t_int (.int .i64) ([] : List Int), .v .bool false]) [] :=
  SC_of_run cfgOK (its := [.res (.s (.v .bool false)) [] [] []])
    (ps := [SC cfg.P i_spec_wdGood [.s (.v (.sl (.int .i64)) a0)] (.s (.v .bool false)) []]) (by kernel_rfl) ⟨h1, trivial⟩ get_spec_SortedWord (by decide)

/-! ### impl_RuleSteps -/


theorem impl_RuleSteps_p1 (a0 : (List Int)) (c1a : (List Int)) (c1b : Int) (c1c : Bool)
    (h1 : SC cfg.P i_impl_sort [.s (.v (.sl (.int .i64)) a0)] (.tup [.v (.sl (.int .i64)) c1a, .v (.int .i64) c1b, .v .bool c1c]) []) :
    SC cfg.P i_impl_RuleSteps [.s (.v (.sl (.int .i64)) a0)] (.tup [.v (.int .i64) c1b, .v .bool c1c]) [] :=
  SC_of_run cfgOK (its := [.res (.tup [.v (.sl (.int .i64)) c1a, .v (.int .i64) c1b, .v .bool c1c]) [] [] []])
    (ps := [SC cfg.P i_impl_sort [.s (.v (.sl (.int .i64)) a0)] (.tup [.v (.sl (.int .i64)) c1a, .v (.int .i64) c1b, .v .bool c1c]) []]) (by kernel_rfl) ⟨h1, trivial⟩ get_impl_RuleSteps (by decide)

/-! ### spec_RuleSteps -/


theorem spec_RuleSteps_p1 (a0 : (List Int)) (c2a : (List Int)) (c2b : Int)
    (h1 : SC cfg.P i_spec_wdGood [.s (.v (.sl (.int .i64)) a0)] (.s (.v .bool true)) [])
    (h2 : SC cfg.P i_spec_wdSort [.s (.v (.sl (.int .i64)) a0)] (.tup [.v (.sl (.int .i64)) c2a, .v (.int .i64) c2b]) [])
    (h3 : SC cfg.P i_spec_wdGood [.s (.v (.sl (.int .i64)) c2a)] (.s (.v .bool true)) []) :
    SC cfg.P i_spec_RuleSteps [.s (.v (.sl (.int .i64)) a0)] (.tup [.v (.int .i64) c2b, .v .bool true]) [] :=
  SC_of_run cfgOK (its := [.res (.s (.v .bool true)) [] [] [], .res (.tup [.v (.sl (.int .i64)) c2a, .v (.int .i64) c2b]) [] [] [], .res (.s (.v .bool true)) [] [] []])
    (ps := [SC cfg.P i_spec_wdGood [.s (.v (.sl (.int .i64)) a0)] (.s (.v .bool true)) [],
      SC cfg.P i_spec_wdSort [.s (.v (.sl (.int .i64)) a0)] (.tup [.v (.sl (.int .i64)) c2a, .v (.int .i64) c2b]) [],
      SC cfg.P i_spec_wdGood [.s (.v (.sl (.int .i64)) c2a)] (.s (.v .bool true)) []]) (by kernel_rfl) ⟨h1, h2, h3, trivial⟩ get_spec_RuleSteps (by decide)

theorem spec_RuleSteps_p2 (a0 : (List Int)) (c2a : (List Int)) (c2b : Int)
    (h1 : SC cfg.P i_spec_wdGood [.s (.v (.sl (.int .i64)) a0)] (.s (.v .bool true)) [])
    (h2 : SC cfg.P i_spec_wdSort [.s (.v (.sl (.int .i64)) a0)] (.tup [.v (.sl (.int .i64)) c2a, .v (.int .i64) c2b]) [])
    (h3 : SC cfg.P i_spec_wdGood [.s (.v (.sl (.int .i64)) c2a)] (.s (.v .bool false)) []) :
    SC cfg.P i_spec_RuleSteps [.s (.v (.sl (.int .i64)) a0)] (.tup [.v (.int .i64) (0 : Int), .v .bool false]) [] :=
  SC_of_run cfgOK (its := [.res (.s (.v .bool true)) [] [] [], .res (.tup [.v (.sl (.int .i64)) c2a, .v (.int .i64) c2b]) [] [] [], .res (.s (.v .bool false)) [] [] []])
    (ps := [SC cfg.P i_spec_wdGood [.s (.v (.sl (.int .i64)) a0)] (.s (.v .bool true)) [],
      SC cfg.P i_spec_wdSort [.s (.v (.sl (.int .i64)) a0)] (.tup [.v (.sl (.int .i64)) c2a, .v (.int .i64) c2b]) [],
      SC cfg.P i_spec_wdGood [.s (.v (.sl (.int .i64)) c2a)] (.s (.v .bool false)) []]) (by kernel_rfl) ⟨h1, h2, h3, trivial⟩ get_spec_RuleSteps (by decide)

theorem spec_RuleSteps_p3 (a0 : (List Int))
    (h1 : SC cfg.P i_spec_wdGood [.s (.v (.sl (.int .i64)) a0)] (.s (.v .bool false)) []) :
    SC cfg.P i_spec_RuleSteps [.s (.v (.sl (.int .i64)) a0)] (.tup [.v (.int .i64) (0 : Int), .v .bool false]) [] :=
  SC_of_run cfgOK (its := [.res (.s (.v .bool false)) [] [] []])
    (ps := [SC cfg.P i_spec_wdGood [.s (.v (.sl (.int .i64)) a0)] (.s (.v .bool false)) []]) (by kernel_rfl) ⟨h1, trivial⟩ get_spec_RuleSteps (by decide)

/-! ### impl_RuleStep -/


theorem impl_RuleStep_p1 (a0 : (List Int)) (c2a : (List Int)) (c3a : (List Int)) (c3b : Bool)
    (h1 : SC cfg.P i_impl_IsWord [.s (.v (.sl (.int .i64)) a0)] (.s (.v .bool true)) [])
    (h2 : SC cfg.P i_impl_stepped [.s (.v (.sl (.int .i64)) a0)] (.tup [.v (.sl (.int .i64)) c2a, .v .bool true]) [])
    (h3 : SC cfg.P i_impl_madeWord [.s (.v (.sl (.int .i64)) c2a)] (.tup [.v (.sl (.int .i64)) c3a, .v .bool c3b]) []) :
    SC cfg.P i_impl_RuleStep [.s (.v (.sl (.int .i64)) a0)] (.tup [.v (.sl (.int .i64)) c3a, .v .bool c3b]) [] :=
  SC_of_run cfgOK (its := [.res (.s (.v .bool true)) [] [] [], .res (.tup [.v (.sl (.int .i64)) c2a, .v .bool true]) [] [] [], .res (.tup [.v (.sl (.int .i64)) c3a, .v .bool c3b]) [] [] []])
    (ps := [SC cfg.P i_impl_IsWord [.s (.v (.sl (.int .i64)) a0)] (.s (.v .bool true)) [],
      SC cfg.P i_impl_stepped [.s (.v (.sl (.int .i64)) a0)] (.tup [.v (.sl (.int .i64)) c2a, .v .bool true]) [],
      SC cfg.P i_impl_madeWord [.s (.v (.sl (.int .i64)) c2a)] (.tup [.v (.sl (.int .i64)) c3a, .v .bool c3b]) []]) (by kernel_rfl) ⟨h1, h2, h3, trivial⟩ get_impl_RuleStep (by decide)

theorem impl_RuleStep_p2 (a0 : (List Int)) (c2a : (List Int))
    (h1 : SC cfg.P i_impl_IsWord [.s (.v (.sl (.int .i64)) a0)] (.s (.v .bool true)) [])
    (h2 : SC cfg.P i_impl_stepped [.s (.v (.sl (.int .i64)) a0)] (.tup [.v (.sl (.int .i64)) c2a, .v .bool false]) []) :
    SC cfg.P i_impl_RuleStep [.s (.v (.sl (.int .i64)) a0)] (.tup [.own t_int (.int .i64) ([] : List Int), .v .bool false]) [] :=
  SC_of_run cfgOK (its := [.res (.s (.v .bool true)) [] [] [], .res (.tup [.v (.sl (.int .i64)) c2a, .v .bool false]) [] [] []])
    (ps := [SC cfg.P i_impl_IsWord [.s (.v (.sl (.int .i64)) a0)] (.s (.v .bool true)) [],
      SC cfg.P i_impl_stepped [.s (.v (.sl (.int .i64)) a0)] (.tup [.v (.sl (.int .i64)) c2a, .v .bool false]) []]) (by kernel_rfl) ⟨h1, h2, trivial⟩ get_impl_RuleStep (by decide)

theorem impl_RuleStep_p3 (a0 : (List Int))
    (h1 : SC cfg.P i_impl_IsWord [.s (.v (.sl (.int .i64)) a0)] (.s (.v .bool false)) []) :
    SC cfg.P i_impl_RuleStep [.s (.v (.sl (.int .i64)) a0)] (.tup [.own t_int (.int .i64) ([] : List Int), .v .bool false]) [] :=
  SC_of_run cfgOK (its := [.res (.s (.v .bool false)) [] [] []])
    (ps := [SC cfg.P i_impl_IsWord [.s (.v (.sl (.int .i64)) a0)] (.s (.v .bool false)) []]) (by kernel_rfl) ⟨h1, trivial⟩ get_impl_RuleStep (by decide)

/-! ### spec_RuleStep -/


theorem spec_RuleStep_p1 (a0 : (List Int)) (c2a : (List Int)) (c3a : (List Int)) (c3b : Bool)
    (h1 : SC cfg.P i_spec_wdGood [.s (.v (.sl (.int .i64)) a0)] (.s (.v .bool true)) [])
    (h2 : SC cfg.P i_spec_wdStep [.s (.v (.sl (.int .i64)) a0)] (.tup [.v (.sl (.int .i64)) c2a, .v .bool true]) [])
    (h3 : SC cfg.P i_spec_wdIf [.s (.v (.sl (.int .i64)) c2a)] (.tup [.v (.sl (.int .i64)) c3a, .v .bool c3b]) []) :
    SC cfg.P i_spec_RuleStep [.s (.v (.sl (.int .i64)) a0)] (.tup [.v (.sl (.int .i64)) c3a, .v .bool c3b]) [] :=
  SC_of_run cfgOK (its := [.res (.s (.v .bool true)) [] [] [], .res (.tup [.v (.sl (.int .i64)) c2a, .v .bool true]) [] [] [], .res (.tup [.v (.sl (.int .i64)) c3a, .v .bool c3b]) [] [] []])
    (ps := [SC cfg.P i_spec_wdGood [.s (.v (.sl (.int .i64)) a0)] (.s (.v .bool true)) [],
      SC cfg.P i_spec_wdStep [.s (.v (.sl (.int .i64)) a0)] (.tup [.v (.sl (.int .i64)) c2a, .v .bool true]) [],
      SC cfg.P i_spec_wdIf [.s (.v (.sl (.int .i64)) c2a)] (.tup [.v (.sl (.int .i64)) c3a, .v .bool c3b]) []]) (by kernel_rfl) ⟨h1, h2, h3, trivial⟩ get_spec_RuleStep (by decide)

theorem spec_RuleStep_p2 (a0 : (List Int)) (c2a : (List Int))
    (h1 : SC cfg.P i_spec_wdGood [.s (.v (.sl (.int .i64)) a0)] (.s (.v .bool true)) [])
    (h2 : SC cfg.P i_spec_wdStep [.s (.v (.sl (.int .i64)) a0)] (.tup [.v (.sl (.int .i64)) c2a, .v .bool false]) []) :
    SC cfg.P i_spec_RuleStep [.s (.v (.sl (.int .i64)) a0)] (.tup [.own t_int (.int .i64) ([] : List Int), .v .bool false]) [] :=
  SC_of_run cfgOK (its := [.res (.s (.v .bool true)) [] [] [], .res (.tup [.v (.sl (.int .i64)) c2a, .v .bool false]) [] [] []])
    (ps := [SC cfg.P i_spec_wdGood [.s (.v (.sl (.int .i64)) a0)] (.s (.v .bool true)) [],
      SC cfg.P i_spec_wdStep [.s (.v (.sl (.int .i64)) a0)] (.tup [.v (.sl (.int .i64)) c2a, .v .bool false]) []]) (by kernel_rfl) ⟨h1, h2, trivial⟩ get_spec_RuleStep (by decide)

theorem spec_RuleStep_p3 (a0 : (List Int))
    (h1 : SC cfg.P i_spec_wdGood [.s (.v (.sl (.int .i64)) a0)] (.s (.v .bool false)) []) :
    SC cfg.P i_spec_RuleStep [.s (.v (.sl (.int .i64)) a0)] (.tup [.own t_int (.int .i64) ([] : List Int), .v .bool false]) [] :=
  SC_of_run cfgOK (its := [.res (.s (.v .bool false)) [] [] []])
    (ps := [SC cfg.P i_spec_wdGood [.s (.v (.sl (.int .i64)) a0)] (.s (.v .bool false)) []]) (by kernel_rfl) ⟨h1, trivial⟩ get_spec_RuleStep (by decide)

/-! ### impl_sort -/


def impl_sort_L0a (x0 : (List Int)) (x5 : Int) : St := mkSt 28 [(0, .s (.v (.sl (.int .i64)) x0)), (5, .s (.v (.int .i64) x5))] []

def impl_sort_L0X1 (y3 : Int) (y4 : Bool) (yo2 : (List Int)) : St := mkSt 28 [(2, .s (.osl 2 0)), (3, .s (.v (.int .i64) y3)), (4, .s (.v .bool y4))] [(2, .row t_int (.int .i64) yo2 0 false)]

def impl_sort_L0X2 (y2 : (List Int)) (y3 : Int) (y4 : Bool) : St := mkSt 28 [(2, .s (.v (.sl (.int .i64)) y2)), (3, .s (.v (.int .i64) y3)), (4, .s (.v .bool y4))] []

theorem impl_sort_L0a_i1 (x0 : (List Int)) (x5 : Int) (dc1a : (List Int))
    (h1 : SC cfg.P i_impl_stepped [.s (.v (.sl (.int .i64)) x0)] (.tup [.v (.sl (.int .i64)) dc1a, .v .bool true]) [])
    (h2 : SC cfg.P i_impl_IsWord [.s (.v (.sl (.int .i64)) dc1a)] (.s (.v .bool true)) [])
    {e : AEx} {st : St} (next : LoopSC cfg.P 1 (lb P_impl_sort 0) (impl_sort_L0a dc1a (IntKind.wrap .i64 (x5 + (1 : Int)))) e st) :
    LoopSC cfg.P 1 (lb P_impl_sort 0) (impl_sort_L0a x0 x5) e st :=
  loop_iter cfgOK (f := i_impl_sort) (its := [.res (.tup [.v (.sl (.int .i64)) dc1a, .v .bool true]) [] [] [], .res (.s (.v .bool true)) [] [] []])
    (ps := [SC cfg.P i_impl_stepped [.s (.v (.sl (.int .i64)) x0)] (.tup [.v (.sl (.int .i64)) dc1a, .v .bool true]) [],
      SC cfg.P i_impl_IsWord [.s (.v (.sl (.int .i64)) dc1a)] (.s (.v .bool true)) []]) (st1 := impl_sort_L0a dc1a (IntKind.wrap .i64 (x5 + (1 : Int)))) (by kernel_rfl) ⟨h1, h2, trivial⟩ next

theorem impl_sort_L0a_x2 (x0 : (List Int)) (x5 : Int) (dc1a : (List Int))
    (h1 : SC cfg.P i_impl_stepped [.s (.v (.sl (.int .i64)) x0)] (.tup [.v (.sl (.int .i64)) dc1a, .v .bool true]) [])
    (h2 : SC cfg.P i_impl_IsWord [.s (.v (.sl (.int .i64)) dc1a)] (.s (.v .bool false)) []) :
    LoopSC cfg.P 1 (lb P_impl_sort 0) (impl_sort_L0a x0 x5) (.ret) (impl_sort_L0X1 (0 : Int) false ([] : List Int)) :=
  loop_out cfgOK (f := i_impl_sort) (its := [.res (.tup [.v (.sl (.int .i64)) dc1a, .v .bool true]) [] [] [], .res (.s (.v .bool false)) [] [] []])
    (ps := [SC cfg.P i_impl_stepped [.s (.v (.sl (.int .i64)) x0)] (.tup [.v (.sl (.int .i64)) dc1a, .v .bool true]) [],
      SC cfg.P i_impl_IsWord [.s (.v (.sl (.int .i64)) dc1a)] (.s (.v .bool false)) []]) (by kernel_rfl) ⟨h1, h2, trivial⟩ (fun h => by cases h)

theorem impl_sort_L0a_x3 (x0 : (List Int)) (x5 : Int) (dc1a : (List Int))
    (h1 : SC cfg.P i_impl_stepped [.s (.v (.sl (.int .i64)) x0)] (.tup [.v (.sl (.int .i64)) dc1a, .v .bool false]) []) :
    LoopSC cfg.P 1 (lb P_impl_sort 0) (impl_sort_L0a x0 x5) (.ret) (impl_sort_L0X2 x0 x5 true) :=
  loop_out cfgOK (f := i_impl_sort) (its := [.res (.tup [.v (.sl (.int .i64)) dc1a, .v .bool false]) [] [] []])
    (ps := [SC cfg.P i_impl_stepped [.s (.v (.sl (.int .i64)) x0)] (.tup [.v (.sl (.int .i64)) dc1a, .v .bool false]) []]) (by kernel_rfl) ⟨h1, trivial⟩ (fun h => by cases h)

theorem impl_sort_p1 (a0 : (List Int)) (c2 : (List Int)) (k1y3 : Int) (k1y4 : Bool) (k1yo2 : (List Int))
    (h1 : SC cfg.P i_impl_IsWord [.s (.v (.sl (.int .i64)) a0)] (.s (.v .bool true)) [])
    (h2 : SC cfg.P i_slices_Clone [.s (.v (.sl (.int .i64)) a0)] (.s (.v (.sl (.int .i64)) c2)) [])
    (h3 : LoopSC cfg.P 1 (lb P_impl_sort 0) (impl_sort_L0a c2 (0 : Int)) (.ret) (impl_sort_L0X1 k1y3 k1y4 k1yo2)) :
    SC cfg.P i_impl_sort [.s (.v (.sl (.int .i64)) a0)] (.tup [.own t_int (.int .i64) k1yo2, .v (.int .i64) k1y3, .v .bool k1y4]) [] :=
  SC_of_run cfgOK (its := [.res (.s (.v .bool true)) [] [] [], .res (.s (.v (.sl (.int .i64)) c2)) [] [] [], .loop (fun _ => (.ret, impl_sort_L0X1 k1y3 k1y4 k1yo2))])
    (ps := [SC cfg.P i_impl_IsWord [.s (.v (.sl (.int .i64)) a0)] (.s (.v .bool true)) [],
      SC cfg.P i_slices_Clone [.s (.v (.sl (.int .i64)) a0)] (.s (.v (.sl (.int .i64)) c2)) [],
      LoopSC cfg.P 1 (lb P_impl_sort 0) (impl_sort_L0a c2 (0 : Int)) (.ret) (impl_sort_L0X1 k1y3 k1y4 k1yo2)]) (by kernel_rfl) ⟨h1, h2, h3, trivial⟩ get_impl_sort (by decide)

theorem impl_sort_p2 (a0 : (List Int)) (c2 : (List Int)) (k1y2 : (List Int)) (k1y3 : Int) (k1y4 : Bool)
    (h1 : SC cfg.P i_impl_IsWord [.s (.v (.sl (.int .i64)) a0)] (.s (.v .bool true)) [])
    (h2 : SC cfg.P i_slices_Clone [.s (.v (.sl (.int .i64)) a0)] (.s (.v (.sl (.int .i64)) c2)) [])
    (h3 : LoopSC cfg.P 1 (lb P_impl_sort 0) (impl_sort_L0a c2 (0 : Int)) (.ret) (impl_sort_L0X2 k1y2 k1y3 k1y4)) :
    SC cfg.P i_impl_sort [.s (.v (.sl (.int .i64)) a0)] (.tup [.v (.sl (.int .i64)) k1y2, .v (.int .i64) k1y3, .v .bool k1y4]) [] :=
  SC_of_run cfgOK (its := [.res (.s (.v .bool true)) [] [] [], .res (.s (.v (.sl (.int .i64)) c2)) [] [] [], .loop (fun _ => (.ret, impl_sort_L0X2 k1y2 k1y3 k1y4))])
    (ps := [SC cfg.P i_impl_IsWord [.s (.v (.sl (.int .i64)) a0)] (.s (.v .bool true)) [],
      SC cfg.P i_slices_Clone [.s (.v (.sl (.int .i64)) a0)] (.s (.v (.sl (.int .i64)) c2)) [],
      LoopSC cfg.P 1 (lb P_impl_sort 0) (impl_sort_L0a c2 (0 : Int)) (.ret) (impl_sort_L0X2 k1y2 k1y3 k1y4)]) (by kernel_rfl) ⟨h1, h2, h3, trivial⟩ get_impl_sort (by decide)

theorem impl_sort_p3 (a0 : (List Int))
    (h1 : SC cfg.P i_impl_IsWord [.s (.v (.sl (.int .i64)) a0)] (.s (.v .bool false)) []) :
    SC cfg.P i_impl_sort [.s (.v (.sl (.int .i64)) a0)] (.tup [.own t_int (.int .i64) ([] : List Int), .v (.int .i64) (0 : Int), .v .bool false]) [] :=
  SC_of_run cfgOK (its := [.res (.s (.v .bool false)) [] [] []])
    (ps := [SC cfg.P i_impl_IsWord [.s (.v (.sl (.int .i64)) a0)] (.s (.v .bool false)) []]) (by kernel_rfl) ⟨h1, trivial⟩ get_impl_sort (by decide)

/-! ### spec_wdSort -/


def spec_wdSort_L0a (x0 : (List Int)) (x4 : Int) : St := mkSt 21 [(0, .s (.v (.sl (.int .i64)) x0)), (4, .s (.v (.int .i64) x4))] []

def spec_wdSort_L0X1 (y2 : (List Int)) (y3 : Int) : St := mkSt 21 [(2, .s (.v (.sl (.int .i64)) y2)), (3, .s (.v (.int .i64) y3))] []

theorem spec_wdSort_L0a_i1 (x0 : (List Int)) (x4 : Int) (dc1a : (List Int))
    (h1 : SC cfg.P i_spec_wdStep [.s (.v (.sl (.int .i64)) x0)] (.tup [.v (.sl (.int .i64)) dc1a, .v .bool true]) [])
    {e : AEx} {st : St} (next : LoopSC cfg.P 1 (lb P_spec_wdSort 0) (spec_wdSort_L0a dc1a (IntKind.wrap .i64 (x4 + (1 : Int)))) e st) :
    LoopSC cfg.P 1 (lb P_spec_wdSort 0) (spec_wdSort_L0a x0 x4) e st :=
  loop_iter cfgOK (f := i_spec_wdSort) (its := [.res (.tup [.v (.sl (.int .i64)) dc1a, .v .bool true]) [] [] []])
    (ps := [SC cfg.P i_spec_wdStep [.s (.v (.sl (.int .i64)) x0)] (.tup [.v (.sl (.int .i64)) dc1a, .v .bool true]) []]) (st1 := spec_wdSort_L0a dc1a (IntKind.wrap .i64 (x4 + (1 : Int)))) (by kernel_rfl) ⟨h1, trivial⟩ next

theorem spec_wdSort_L0a_x2 (x0 : (List Int)) (x4 : Int) (dc1a : (List Int))
    (h1 : SC cfg.P i_spec_wdStep [.s (.v (.sl (.int .i64)) x0)] (.tup [.v (.sl (.int .i64)) dc1a, .v .bool false]) []) :
    LoopSC cfg.P 1 (lb P_spec_wdSort 0) (spec_wdSort_L0a x0 x4) (.ret) (spec_wdSort_L0X1 x0 x4) :=
  loop_out cfgOK (f := i_spec_wdSort) (its := [.res (.tup [.v (.sl (.int .i64)) dc1a, .v .bool false]) [] [] []])
    (ps := [SC cfg.P i_spec_wdStep [.s (.v (.sl (.int .i64)) x0)] (.tup [.v (.sl (.int .i64)) dc1a, .v .bool false]) []]) (by kernel_rfl) ⟨h1, trivial⟩ (fun h => by cases h)

theorem spec_wdSort_p1 (a0 : (List Int)) (c1 : (List Int)) (k1y2 : (List Int)) (k1y3 : Int)
    (h1 : SC cfg.P i_spec_l1Own [.s (.v (.sl (.int .i64)) a0)] (.s (.v (.sl (.int .i64)) c1)) [])
    (h2 : LoopSC cfg.P 1 (lb P_spec_wdSort 0) (spec_wdSort_L0a c1 (0 : Int)) (.ret) (spec_wdSort_L0X1 k1y2 k1y3)) :
    SC cfg.P i_spec_wdSort [.s (.v (.sl (.int .i64)) a0)] (.tup [.v (.sl (.int .i64)) k1y2, .v (.int .i64) k1y3]) [] :=
  SC_of_run cfgOK (its := [.res (.s (.v (.sl (.int .i64)) c1)) [] [] [], .loop (fun _ => (.ret, spec_wdSort_L0X1 k1y2 k1y3))])
    (ps := [SC cfg.P i_spec_l1Own [.s (.v (.sl (.int .i64)) a0)] (.s (.v (.sl (.int .i64)) c1)) [],
      LoopSC cfg.P 1 (lb P_spec_wdSort 0) (spec_wdSort_L0a c1 (0 : Int)) (.ret) (spec_wdSort_L0X1 k1y2 k1y3)]) (by kernel_rfl) ⟨h1, h2, trivial⟩ get_spec_wdSort (by decide)

end Go.AI
