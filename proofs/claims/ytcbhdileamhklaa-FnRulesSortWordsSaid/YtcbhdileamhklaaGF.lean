/- A part of the road: what it proves stands in its last texts. -/
import Derived.Test.YtcbhdileamhklaaSIds
import Derived.Test.YtcbhdileamhklaaProg
set_option autoImplicit false
set_option maxRecDepth 100000
set_option linter.unusedVariables false
namespace Go.AI
open Go.Proofs

/-! ### impl_FreeReduce -/


theorem impl_FreeReduce_p1 (a0 : (List Int)) (c2 : (List Int))
    (h1 : SC cfg.P i_impl_IsWord [.s (.v (.sl (.int .i64)) a0)] (.s (.v .bool true)) [])
    (h2 : SC cfg.P i_impl_freely [.s (.v (.sl (.int .i64)) a0)] (.s (.own t_int (.int .i64) c2)) []) :
    SC cfg.P i_impl_FreeReduce [.s (.v (.sl (.int .i64)) a0)] (.tup [.own t_int (.int .i64) c2, .v .bool true]) [] :=
  SC_of_run cfgOK (its := [.res (.s (.v .bool true)) [] [] [], .res (.s (.own t_int (.int .i64) c2)) [] [] [8]])
    (ps := [SC cfg.P i_impl_IsWord [.s (.v (.sl (.int .i64)) a0)] (.s (.v .bool true)) [],
      SC cfg.P i_impl_freely [.s (.v (.sl (.int .i64)) a0)] (.s (.own t_int (.int .i64) c2)) []]) (by kernel_rfl) ⟨h1, h2, trivial⟩ get_impl_FreeReduce (by decide)

theorem impl_FreeReduce_p2 (a0 : (List Int))
    (h1 : SC cfg.P i_impl_IsWord [.s (.v (.sl (.int .i64)) a0)] (.s (.v .bool false)) []) :
    SC cfg.P i_impl_FreeReduce [.s (.v (.sl (.int .i64)) a0)] (.tup [.own t_int (.int .i64) ([] : List Int), .v .bool false]) [] :=
  SC_of_run cfgOK (its := [.res (.s (.v .bool false)) [] [] []])
    (ps := [SC cfg.P i_impl_IsWord [.s (.v (.sl (.int .i64)) a0)] (.s (.v .bool false)) []]) (by kernel_rfl) ⟨h1, trivial⟩ get_impl_FreeReduce (by decide)

/-! ### spec_FreeReduce -/


theorem spec_FreeReduce_p1 (a0 : (List Int)) (c2 : (List Int))
    (h1 : SC cfg.P i_spec_wdGood [.s (.v (.sl (.int .i64)) a0)] (.s (.v .bool true)) [])
    (h2 : SC cfg.P i_spec_wdFree [.s (.v (.sl (.int .i64)) a0)] (.s (.own t_int (.int .i64) c2)) []) :
    SC cfg.P i_spec_FreeReduce [.s (.v (.sl (.int .i64)) a0)] (.tup [.own t_int (.int .i64) c2, .v .bool true]) [] :=
  SC_of_run cfgOK (its := [.res (.s (.v .bool true)) [] [] [], .res (.s (.own t_int (.int .i64) c2)) [] [] [8]])
    (ps := [SC cfg.P i_spec_wdGood [.s (.v (.sl (.int .i64)) a0)] (.s (.v .bool true)) [],
      SC cfg.P i_spec_wdFree [.s (.v (.sl (.int .i64)) a0)] (.s (.own t_int (.int .i64) c2)) []]) (by kernel_rfl) ⟨h1, h2, trivial⟩ get_spec_FreeReduce (by decide)

theorem spec_FreeReduce_p2 (a0 : (List Int))
    (h1 : SC cfg.P i_spec_wdGood [.s (.v (.sl (.int .i64)) a0)] (.s (.v .bool false)) []) :
    SC cfg.P i_spec_FreeReduce [.s (.v (.sl (.int .i64)) a0)] (.tup [.own t_int (.int .i64) ([] : List Int), .v .bool false]) [] :=
  SC_of_run cfgOK (its := [.res (.s (.v .bool false)) [] [] []])
    (ps := [SC cfg.P i_spec_wdGood [.s (.v (.sl (.int .i64)) a0)] (.s (.v .bool false)) []]) (by kernel_rfl) ⟨h1, trivial⟩ get_spec_FreeReduce (by decide)

/-! ### impl_freely -/


def impl_freely_L0a (x6 : (List Int)) (x7 : Int) (x8 : Int) (xo3 : (List Int)) : St := mkSt 37 [(3, .s (.osl 3 0)), (6, .s (.v (.sl (.int .i64)) x6)), (7, .s (.v (.int .i64) x7)), (8, .s (.v (.int .i64) x8))] [(3, .row t_int (.int .i64) xo3 0 false)]

def impl_freely_L0X1 (y6 : (List Int)) (y7 : Int) (y8 : Int) (y9 : Bool) (yo3 : (List Int)) : St := mkSt 37 [(3, .s (.osl 3 0)), (6, .s (.v (.sl (.int .i64)) y6)), (7, .s (.v (.int .i64) y7)), (8, .s (.v (.int .i64) y8)), (9, .s (.v .bool y9))] [(3, .row t_int (.int .i64) yo3 0 false)]

theorem impl_freely_L0a_i1 (x6 : (List Int)) (x7 : Int) (x8 : Int) (xo3 : (List Int))
    (h1 : x8 < x7)
    (h2 : 0 ≤ x8)
    (h3 : x8 < (List.length x6 : Int))
    (h4 : ((List.length xo3 : Nat) : Int) > (0 : Int))
    (h5 : 0 ≤ (IntKind.wrap .i64 (((List.length xo3 : Nat) : Int) - (1 : Int))))
    (h6 : (IntKind.wrap .i64 (((List.length xo3 : Nat) : Int) - (1 : Int))) < (List.length xo3 : Int))
    (h7 : ((IntKind.wrap .i64 (((List.length xo3 : Nat) : Int) - (1 : Int)))).toNat < List.length xo3)
    (h8 : (List.getD xo3 ((IntKind.wrap .i64 (((List.length xo3 : Nat) : Int) - (1 : Int)))).toNat (0 : Int)) = (IntKind.wrap .i64 (0 - (List.getD x6 (x8).toNat (0 : Int)))))
    (h9 : (IntKind.wrap .i64 (((List.length xo3 : Nat) : Int) - (1 : Int))) ≤ (List.length xo3 : Int))
    {e : AEx} {st : St} (next : LoopSC cfg.P 1 (lb P_impl_freely 0) (impl_freely_L0a x6 x7 (IntKind.wrap .i64 (x8 + (1 : Int))) (List.take ((IntKind.wrap .i64 (((List.length xo3 : Nat) : Int) - (1 : Int)))).toNat xo3)) e st) :
    LoopSC cfg.P 1 (lb P_impl_freely 0) (impl_freely_L0a x6 x7 x8 xo3) e st :=
  loop_iter cfgOK (f := i_impl_freely) (its := [.bool true, .bool true, .bool true, .trunc])
    (ps := [decide (x8 < x7) = true,
      0 ≤ x8,
      x8 < (List.length x6 : Int),
      decide (((List.length xo3 : Nat) : Int) > (0 : Int)) = true,
      0 ≤ (IntKind.wrap .i64 (((List.length xo3 : Nat) : Int) - (1 : Int))),
      (IntKind.wrap .i64 (((List.length xo3 : Nat) : Int) - (1 : Int))) < (List.length xo3 : Int),
      ((IntKind.wrap .i64 (((List.length xo3 : Nat) : Int) - (1 : Int)))).toNat < List.length xo3,
      ((List.getD xo3 ((IntKind.wrap .i64 (((List.length xo3 : Nat) : Int) - (1 : Int)))).toNat (0 : Int)) == (IntKind.wrap .i64 (0 - (List.getD x6 (x8).toNat (0 : Int))))) = true,
      0 ≤ (IntKind.wrap .i64 (((List.length xo3 : Nat) : Int) - (1 : Int))),
      (IntKind.wrap .i64 (((List.length xo3 : Nat) : Int) - (1 : Int))) ≤ (List.length xo3 : Int)]) (st1 := impl_freely_L0a x6 x7 (IntKind.wrap .i64 (x8 + (1 : Int))) (List.take ((IntKind.wrap .i64 (((List.length xo3 : Nat) : Int) - (1 : Int)))).toNat xo3)) (by kernel_rfl) ⟨(decide_eq_true h1), h2, h3, (decide_eq_true h4), h5, h6, h7, (beq_iff_eq.mpr h8), h5, h9, trivial⟩ next

theorem impl_freely_L0a_i2 (x6 : (List Int)) (x7 : Int) (x8 : Int) (xo3 : (List Int))
    (h1 : x8 < x7)
    (h2 : 0 ≤ x8)
    (h3 : x8 < (List.length x6 : Int))
    (h4 : ((List.length xo3 : Nat) : Int) > (0 : Int))
    (h5 : 0 ≤ (IntKind.wrap .i64 (((List.length xo3 : Nat) : Int) - (1 : Int))))
    (h6 : (IntKind.wrap .i64 (((List.length xo3 : Nat) : Int) - (1 : Int))) < (List.length xo3 : Int))
    (h7 : ((IntKind.wrap .i64 (((List.length xo3 : Nat) : Int) - (1 : Int)))).toNat < List.length xo3)
    (h8 : (List.getD xo3 ((IntKind.wrap .i64 (((List.length xo3 : Nat) : Int) - (1 : Int)))).toNat (0 : Int)) ≠ (IntKind.wrap .i64 (0 - (List.getD x6 (x8).toNat (0 : Int)))))
    (h9 : sizeOK (List.length xo3 + List.length ([(List.getD x6 (x8).toNat (0 : Int))] : List Int)))
    {e : AEx} {st : St} (next : LoopSC cfg.P 1 (lb P_impl_freely 0) (impl_freely_L0a x6 x7 (IntKind.wrap .i64 (x8 + (1 : Int))) (xo3 ++ ([(List.getD x6 (x8).toNat (0 : Int))] : List Int))) e st) :
    LoopSC cfg.P 1 (lb P_impl_freely 0) (impl_freely_L0a x6 x7 x8 xo3) e st :=
  loop_iter cfgOK (f := i_impl_freely) (its := [.bool true, .bool true, .bool false])
    (ps := [decide (x8 < x7) = true,
      0 ≤ x8,
      x8 < (List.length x6 : Int),
      decide (((List.length xo3 : Nat) : Int) > (0 : Int)) = true,
      0 ≤ (IntKind.wrap .i64 (((List.length xo3 : Nat) : Int) - (1 : Int))),
      (IntKind.wrap .i64 (((List.length xo3 : Nat) : Int) - (1 : Int))) < (List.length xo3 : Int),
      ((IntKind.wrap .i64 (((List.length xo3 : Nat) : Int) - (1 : Int)))).toNat < List.length xo3,
      ((List.getD xo3 ((IntKind.wrap .i64 (((List.length xo3 : Nat) : Int) - (1 : Int)))).toNat (0 : Int)) == (IntKind.wrap .i64 (0 - (List.getD x6 (x8).toNat (0 : Int))))) = false,
      sizeOK (List.length xo3 + List.length ([(List.getD x6 (x8).toNat (0 : Int))] : List Int))]) (st1 := impl_freely_L0a x6 x7 (IntKind.wrap .i64 (x8 + (1 : Int))) (xo3 ++ ([(List.getD x6 (x8).toNat (0 : Int))] : List Int))) (by kernel_rfl) ⟨(decide_eq_true h1), h2, h3, (decide_eq_true h4), h5, h6, h7, (beq_eq_false_iff_ne.mpr h8), h9, trivial⟩ next

theorem impl_freely_L0a_i3 (x6 : (List Int)) (x7 : Int) (x8 : Int) (xo3 : (List Int))
    (h1 : x8 < x7)
    (h2 : 0 ≤ x8)
    (h3 : x8 < (List.length x6 : Int))
    (h4 : ¬ (((List.length xo3 : Nat) : Int) > (0 : Int)))
    (h5 : sizeOK (List.length xo3 + List.length ([(List.getD x6 (x8).toNat (0 : Int))] : List Int)))
    {e : AEx} {st : St} (next : LoopSC cfg.P 1 (lb P_impl_freely 0) (impl_freely_L0a x6 x7 (IntKind.wrap .i64 (x8 + (1 : Int))) (xo3 ++ ([(List.getD x6 (x8).toNat (0 : Int))] : List Int))) e st) :
    LoopSC cfg.P 1 (lb P_impl_freely 0) (impl_freely_L0a x6 x7 x8 xo3) e st :=
  loop_iter cfgOK (f := i_impl_freely) (its := [.bool true, .bool false])
    (ps := [decide (x8 < x7) = true,
      0 ≤ x8,
      x8 < (List.length x6 : Int),
      decide (((List.length xo3 : Nat) : Int) > (0 : Int)) = false,
      sizeOK (List.length xo3 + List.length ([(List.getD x6 (x8).toNat (0 : Int))] : List Int))]) (st1 := impl_freely_L0a x6 x7 (IntKind.wrap .i64 (x8 + (1 : Int))) (xo3 ++ ([(List.getD x6 (x8).toNat (0 : Int))] : List Int))) (by kernel_rfl) ⟨(decide_eq_true h1), h2, h3, (decide_eq_false h4), h5, trivial⟩ next

theorem impl_freely_L0a_x4 (x6 : (List Int)) (x7 : Int) (x8 : Int) (xo3 : (List Int))
    (h1 : ¬ (x8 < x7)) :
    LoopSC cfg.P 1 (lb P_impl_freely 0) (impl_freely_L0a x6 x7 x8 xo3) (.exit 0) (impl_freely_L0X1 x6 x7 x8 false xo3) :=
  loop_out cfgOK (f := i_impl_freely) (its := [.bool false])
    (ps := [decide (x8 < x7) = false]) (by kernel_rfl) ⟨(decide_eq_false h1), trivial⟩ (fun h => by cases h)

theorem impl_freely_p1 (a0 : (List Int)) (k1y6 : (List Int)) (k1y7 : Int) (k1y8 : Int) (k1y9 : Bool) (k1yo3 : (List Int))
    (h1 : LoopSC cfg.P 1 (lb P_impl_freely 0) (impl_freely_L0a a0 ((List.length a0 : Nat) : Int) (0 : Int) ([] : List Int)) (.exit 0) (impl_freely_L0X1 k1y6 k1y7 k1y8 k1y9 k1yo3)) :
    SC cfg.P i_impl_freely [.s (.v (.sl (.int .i64)) a0)] (.s (.own t_int (.int .i64) k1yo3)) [] :=
  SC_of_run cfgOK (its := [.loop (fun _ => (.exit 0, impl_freely_L0X1 k1y6 k1y7 k1y8 k1y9 k1yo3))])
    (ps := [LoopSC cfg.P 1 (lb P_impl_freely 0) (impl_freely_L0a a0 ((List.length a0 : Nat) : Int) (0 : Int) ([] : List Int)) (.exit 0) (impl_freely_L0X1 k1y6 k1y7 k1y8 k1y9 k1yo3)]) (by kernel_rfl) ⟨h1, trivial⟩ get_impl_freely (by decide)

/-! ### spec_wdFree -/


def spec_wdFree_L0a (x7 : (List Int)) (x8 : Int) (x9 : Int) (xo3 : (List Int)) : St := mkSt 37 [(3, .s (.osl 3 0)), (7, .s (.v (.sl (.int .i64)) x7)), (8, .s (.v (.int .i64) x8)), (9, .s (.v (.int .i64) x9))] [(3, .row t_int (.int .i64) xo3 0 false)]

def spec_wdFree_L0X1 (y7 : (List Int)) (y8 : Int) (y9 : Int) (y10 : Bool) (yo3 : (List Int)) : St := mkSt 37 [(3, .s (.osl 3 0)), (7, .s (.v (.sl (.int .i64)) y7)), (8, .s (.v (.int .i64) y8)), (9, .s (.v (.int .i64) y9)), (10, .s (.v .bool y10))] [(3, .row t_int (.int .i64) yo3 0 false)]

theorem spec_wdFree_L0a_i1 (x7 : (List Int)) (x8 : Int) (x9 : Int) (xo3 : (List Int))
    (h1 : x9 < x8)
    (h2 : 0 ≤ x9)
    (h3 : x9 < (List.length x7 : Int))
    (h4 : ((List.length xo3 : Nat) : Int) > (0 : Int))
    (h5 : 0 ≤ (IntKind.wrap .i64 (((List.length xo3 : Nat) : Int) - (1 : Int))))
    (h6 : (IntKind.wrap .i64 (((List.length xo3 : Nat) : Int) - (1 : Int))) < (List.length xo3 : Int))
    (h7 : ((IntKind.wrap .i64 (((List.length xo3 : Nat) : Int) - (1 : Int)))).toNat < List.length xo3)
    (h8 : (List.getD xo3 ((IntKind.wrap .i64 (((List.length xo3 : Nat) : Int) - (1 : Int)))).toNat (0 : Int)) = (IntKind.wrap .i64 (0 - (List.getD x7 (x9).toNat (0 : Int)))))
    (h9 : (IntKind.wrap .i64 (((List.length xo3 : Nat) : Int) - (1 : Int))) ≤ (List.length xo3 : Int))
    {e : AEx} {st : St} (next : LoopSC cfg.P 1 (lb P_spec_wdFree 0) (spec_wdFree_L0a x7 x8 (IntKind.wrap .i64 (x9 + (1 : Int))) (List.take ((IntKind.wrap .i64 (((List.length xo3 : Nat) : Int) - (1 : Int)))).toNat xo3)) e st) :
    LoopSC cfg.P 1 (lb P_spec_wdFree 0) (spec_wdFree_L0a x7 x8 x9 xo3) e st :=
  loop_iter cfgOK (f := i_spec_wdFree) (its := [.bool true, .bool true, .bool true, .trunc])
    (ps := [decide (x9 < x8) = true,
      0 ≤ x9,
      x9 < (List.length x7 : Int),
      decide (((List.length xo3 : Nat) : Int) > (0 : Int)) = true,
      0 ≤ (IntKind.wrap .i64 (((List.length xo3 : Nat) : Int) - (1 : Int))),
      (IntKind.wrap .i64 (((List.length xo3 : Nat) : Int) - (1 : Int))) < (List.length xo3 : Int),
      ((IntKind.wrap .i64 (((List.length xo3 : Nat) : Int) - (1 : Int)))).toNat < List.length xo3,
      ((List.getD xo3 ((IntKind.wrap .i64 (((List.length xo3 : Nat) : Int) - (1 : Int)))).toNat (0 : Int)) == (IntKind.wrap .i64 (0 - (List.getD x7 (x9).toNat (0 : Int))))) = true,
      0 ≤ (IntKind.wrap .i64 (((List.length xo3 : Nat) : Int) - (1 : Int))),
      (IntKind.wrap .i64 (((List.length xo3 : Nat) : Int) - (1 : Int))) ≤ (List.length xo3 : Int)]) (st1 := spec_wdFree_L0a x7 x8 (IntKind.wrap .i64 (x9 + (1 : Int))) (List.take ((IntKind.wrap .i64 (((List.length xo3 : Nat) : Int) - (1 : Int)))).toNat xo3)) (by kernel_rfl) ⟨(decide_eq_true h1), h2, h3, (decide_eq_true h4), h5, h6, h7, (beq_iff_eq.mpr h8), h5, h9, trivial⟩ next

theorem spec_wdFree_L0a_i2 (x7 : (List Int)) (x8 : Int) (x9 : Int) (xo3 : (List Int))
    (h1 : x9 < x8)
    (h2 : 0 ≤ x9)
    (h3 : x9 < (List.length x7 : Int))
    (h4 : ((List.length xo3 : Nat) : Int) > (0 : Int))
    (h5 : 0 ≤ (IntKind.wrap .i64 (((List.length xo3 : Nat) : Int) - (1 : Int))))
    (h6 : (IntKind.wrap .i64 (((List.length xo3 : Nat) : Int) - (1 : Int))) < (List.length xo3 : Int))
    (h7 : ((IntKind.wrap .i64 (((List.length xo3 : Nat) : Int) - (1 : Int)))).toNat < List.length xo3)
    (h8 : (List.getD xo3 ((IntKind.wrap .i64 (((List.length xo3 : Nat) : Int) - (1 : Int)))).toNat (0 : Int)) ≠ (IntKind.wrap .i64 (0 - (List.getD x7 (x9).toNat (0 : Int)))))
    (h9 : sizeOK (List.length xo3 + List.length ([(List.getD x7 (x9).toNat (0 : Int))] : List Int)))
    {e : AEx} {st : St} (next : LoopSC cfg.P 1 (lb P_spec_wdFree 0) (spec_wdFree_L0a x7 x8 (IntKind.wrap .i64 (x9 + (1 : Int))) (xo3 ++ ([(List.getD x7 (x9).toNat (0 : Int))] : List Int))) e st) :
    LoopSC cfg.P 1 (lb P_spec_wdFree 0) (spec_wdFree_L0a x7 x8 x9 xo3) e st :=
  loop_iter cfgOK (f := i_spec_wdFree) (its := [.bool true, .bool true, .bool false])
    (ps := [decide (x9 < x8) = true,
      0 ≤ x9,
      x9 < (List.length x7 : Int),
      decide (((List.length xo3 : Nat) : Int) > (0 : Int)) = true,
      0 ≤ (IntKind.wrap .i64 (((List.length xo3 : Nat) : Int) - (1 : Int))),
      (IntKind.wrap .i64 (((List.length xo3 : Nat) : Int) - (1 : Int))) < (List.length xo3 : Int),
      ((IntKind.wrap .i64 (((List.length xo3 : Nat) : Int) - (1 : Int)))).toNat < List.length xo3,
      ((List.getD xo3 ((IntKind.wrap .i64 (((List.length xo3 : Nat) : Int) - (1 : Int)))).toNat (0 : Int)) == (IntKind.wrap .i64 (0 - (List.getD x7 (x9).toNat (0 : Int))))) = false,
      sizeOK (List.length xo3 + List.length ([(List.getD x7 (x9).toNat (0 : Int))] : List Int))]) (st1 := spec_wdFree_L0a x7 x8 (IntKind.wrap .i64 (x9 + (1 : Int))) (xo3 ++ ([(List.getD x7 (x9).toNat (0 : Int))] : List Int))) (by kernel_rfl) ⟨(decide_eq_true h1), h2, h3, (decide_eq_true h4), h5, h6, h7, (beq_eq_false_iff_ne.mpr h8), h9, trivial⟩ next

theorem spec_wdFree_L0a_i3 (x7 : (List Int)) (x8 : Int) (x9 : Int) (xo3 : (List Int))
    (h1 : x9 < x8)
    (h2 : 0 ≤ x9)
    (h3 : x9 < (List.length x7 : Int))
    (h4 : ¬ (((List.length xo3 : Nat) : Int) > (0 : Int)))
    (h5 : sizeOK (List.length xo3 + List.length ([(List.getD x7 (x9).toNat (0 : Int))] : List Int)))
    {e : AEx} {st : St} (next : LoopSC cfg.P 1 (lb P_spec_wdFree 0) (spec_wdFree_L0a x7 x8 (IntKind.wrap .i64 (x9 + (1 : Int))) (xo3 ++ ([(List.getD x7 (x9).toNat (0 : Int))] : List Int))) e st) :
    LoopSC cfg.P 1 (lb P_spec_wdFree 0) (spec_wdFree_L0a x7 x8 x9 xo3) e st :=
  loop_iter cfgOK (f := i_spec_wdFree) (its := [.bool true, .bool false])
    (ps := [decide (x9 < x8) = true,
      0 ≤ x9,
      x9 < (List.length x7 : Int),
      decide (((List.length xo3 : Nat) : Int) > (0 : Int)) = false,
      sizeOK (List.length xo3 + List.length ([(List.getD x7 (x9).toNat (0 : Int))] : List Int))]) (st1 := spec_wdFree_L0a x7 x8 (IntKind.wrap .i64 (x9 + (1 : Int))) (xo3 ++ ([(List.getD x7 (x9).toNat (0 : Int))] : List Int))) (by kernel_rfl) ⟨(decide_eq_true h1), h2, h3, (decide_eq_false h4), h5, trivial⟩ next

theorem spec_wdFree_L0a_x4 (x7 : (List Int)) (x8 : Int) (x9 : Int) (xo3 : (List Int))
    (h1 : ¬ (x9 < x8)) :
    LoopSC cfg.P 1 (lb P_spec_wdFree 0) (spec_wdFree_L0a x7 x8 x9 xo3) (.exit 0) (spec_wdFree_L0X1 x7 x8 x9 false xo3) :=
  loop_out cfgOK (f := i_spec_wdFree) (its := [.bool false])
    (ps := [decide (x9 < x8) = false]) (by kernel_rfl) ⟨(decide_eq_false h1), trivial⟩ (fun h => by cases h)

theorem spec_wdFree_p1 (a0 : (List Int)) (k1y7 : (List Int)) (k1y8 : Int) (k1y9 : Int) (k1y10 : Bool) (k1yo3 : (List Int))
    (h1 : LoopSC cfg.P 1 (lb P_spec_wdFree 0) (spec_wdFree_L0a a0 ((List.length a0 : Nat) : Int) (0 : Int) ([] : List Int)) (.exit 0) (spec_wdFree_L0X1 k1y7 k1y8 k1y9 k1y10 k1yo3)) :
    SC cfg.P i_spec_wdFree [.s (.v (.sl (.int .i64)) a0)] (.s (.own t_int (.int .i64) k1yo3)) [] :=
  SC_of_run cfgOK (its := [.loop (fun _ => (.exit 0, spec_wdFree_L0X1 k1y7 k1y8 k1y9 k1y10 k1yo3))])
    (ps := [LoopSC cfg.P 1 (lb P_spec_wdFree 0) (spec_wdFree_L0a a0 ((List.length a0 : Nat) : Int) (0 : Int) ([] : List Int)) (.exit 0) (spec_wdFree_L0X1 k1y7 k1y8 k1y9 k1y10 k1yo3)]) (by kernel_rfl) ⟨h1, trivial⟩ get_spec_wdFree (by decide)

end Go.AI
