/- A part of the road: what it proves stands in its last texts. -/
import Derived.Test.YtcbhdileamhklaaSIds
import Derived.Test.YtcbhdileamhklaaProg
set_option autoImplicit false
set_option maxRecDepth 100000
set_option linter.unusedVariables false
namespace Go.AI
open Go.Proofs

/-! ### impl_SumsOfWord -/


theorem impl_SumsOfWord_p1 (a0 : (List Int)) (c2a : Int) (c2b : Int)
    (h1 : SC cfg.P i_impl_IsWord [.s (.v (.sl (.int .i64)) a0)] (.s (.v .bool true)) [])
    (h2 : SC cfg.P i_impl_sums [.s (.v (.sl (.int .i64)) a0)] (.tup [.v (.int .i64) c2a, .v (.int .i64) c2b]) []) :
    SC cfg.P i_impl_SumsOfWord [.s (.v (.sl (.int .i64)) a0)] (.tup [.v (.int .i64) c2a, .v (.int .i64) c2b, .v .bool true]) [] :=
  SC_of_run cfgOK (its := [.res (.s (.v .bool true)) [] [] [], .res (.tup [.v (.int .i64) c2a, .v (.int .i64) c2b]) [] [] []])
    (ps := [SC cfg.P i_impl_IsWord [.s (.v (.sl (.int .i64)) a0)] (.s (.v .bool true)) [],
      SC cfg.P i_impl_sums [.s (.v (.sl (.int .i64)) a0)] (.tup [.v (.int .i64) c2a, .v (.int .i64) c2b]) []]) (by kernel_rfl) ⟨h1, h2, trivial⟩ get_impl_SumsOfWord (by decide)

theorem impl_SumsOfWord_p2 (a0 : (List Int))
    (h1 : SC cfg.P i_impl_IsWord [.s (.v (.sl (.int .i64)) a0)] (.s (.v .bool false)) []) :
    SC cfg.P i_impl_SumsOfWord [.s (.v (.sl (.int .i64)) a0)] (.tup [.v (.int .i64) (0 : Int), .v (.int .i64) (0 : Int), .v .bool false]) [] :=
  SC_of_run cfgOK (its := [.res (.s (.v .bool false)) [] [] []])
    (ps := [SC cfg.P i_impl_IsWord [.s (.v (.sl (.int .i64)) a0)] (.s (.v .bool false)) []]) (by kernel_rfl) ⟨h1, trivial⟩ get_impl_SumsOfWord (by decide)

/-! ### impl_sums -/


def impl_sums_L0a (x4 : Int) (x5 : Int) (x9 : (List Int)) (x10 : Int) (x11 : Int) : St := mkSt 29 [(4, .s (.v (.int .i64) x4)), (5, .s (.v (.int .i64) x5)), (9, .s (.v (.sl (.int .i64)) x9)), (10, .s (.v (.int .i64) x10)), (11, .s (.v (.int .i64) x11))] []

def impl_sums_L0X1 (y4 : Int) (y5 : Int) (y9 : (List Int)) (y10 : Int) (y11 : Int) (y12 : Bool) : St := mkSt 29 [(4, .s (.v (.int .i64) y4)), (5, .s (.v (.int .i64) y5)), (9, .s (.v (.sl (.int .i64)) y9)), (10, .s (.v (.int .i64) y10)), (11, .s (.v (.int .i64) y11)), (12, .s (.v .bool y12))] []

theorem impl_sums_L0a_i1 (x4 : Int) (x5 : Int) (x9 : (List Int)) (x10 : Int) (x11 : Int) (dc1 : Int)
    (h1 : x11 < x10)
    (h2 : 0 ≤ x11)
    (h3 : x11 < (List.length x9 : Int))
    (h4 : (List.getD x9 (x11).toNat (0 : Int)) < (0 : Int))
    (h5 : SC cfg.P i_impl_size [.s (.v (.int .i64) (List.getD x9 (x11).toNat (0 : Int)))] (.s (.v (.int .i64) dc1)) [])
    (h6 : dc1 = (1 : Int))
    {e : AEx} {st : St} (next : LoopSC cfg.P 1 (lb P_impl_sums 0) (impl_sums_L0a (IntKind.wrap .i64 (x4 + (-1 : Int))) x5 x9 x10 (IntKind.wrap .i64 (x11 + (1 : Int)))) e st) :
    LoopSC cfg.P 1 (lb P_impl_sums 0) (impl_sums_L0a x4 x5 x9 x10 x11) e st :=
  loop_iter cfgOK (f := i_impl_sums) (its := [.bool true, .bool true, .res (.s (.v (.int .i64) dc1)) [] [] [], .bool true])
    (ps := [decide (x11 < x10) = true,
      0 ≤ x11,
      x11 < (List.length x9 : Int),
      decide ((List.getD x9 (x11).toNat (0 : Int)) < (0 : Int)) = true,
      SC cfg.P i_impl_size [.s (.v (.int .i64) (List.getD x9 (x11).toNat (0 : Int)))] (.s (.v (.int .i64) dc1)) [],
      (dc1 == (1 : Int)) = true]) (st1 := impl_sums_L0a (IntKind.wrap .i64 (x4 + (-1 : Int))) x5 x9 x10 (IntKind.wrap .i64 (x11 + (1 : Int)))) (by kernel_rfl) ⟨(decide_eq_true h1), h2, h3, (decide_eq_true h4), h5, (beq_iff_eq.mpr h6), trivial⟩ next

theorem impl_sums_L0a_i2 (x4 : Int) (x5 : Int) (x9 : (List Int)) (x10 : Int) (x11 : Int) (dc1 : Int)
    (h1 : x11 < x10)
    (h2 : 0 ≤ x11)
    (h3 : x11 < (List.length x9 : Int))
    (h4 : (List.getD x9 (x11).toNat (0 : Int)) < (0 : Int))
    (h5 : SC cfg.P i_impl_size [.s (.v (.int .i64) (List.getD x9 (x11).toNat (0 : Int)))] (.s (.v (.int .i64) dc1)) [])
    (h6 : dc1 ≠ (1 : Int))
    {e : AEx} {st : St} (next : LoopSC cfg.P 1 (lb P_impl_sums 0) (impl_sums_L0a x4 (IntKind.wrap .i64 (x5 + (-1 : Int))) x9 x10 (IntKind.wrap .i64 (x11 + (1 : Int)))) e st) :
    LoopSC cfg.P 1 (lb P_impl_sums 0) (impl_sums_L0a x4 x5 x9 x10 x11) e st :=
  loop_iter cfgOK (f := i_impl_sums) (its := [.bool true, .bool true, .res (.s (.v (.int .i64) dc1)) [] [] [], .bool false])
    (ps := [decide (x11 < x10) = true,
      0 ≤ x11,
      x11 < (List.length x9 : Int),
      decide ((List.getD x9 (x11).toNat (0 : Int)) < (0 : Int)) = true,
      SC cfg.P i_impl_size [.s (.v (.int .i64) (List.getD x9 (x11).toNat (0 : Int)))] (.s (.v (.int .i64) dc1)) [],
      (dc1 == (1 : Int)) = false]) (st1 := impl_sums_L0a x4 (IntKind.wrap .i64 (x5 + (-1 : Int))) x9 x10 (IntKind.wrap .i64 (x11 + (1 : Int)))) (by kernel_rfl) ⟨(decide_eq_true h1), h2, h3, (decide_eq_true h4), h5, (beq_eq_false_iff_ne.mpr h6), trivial⟩ next

theorem impl_sums_L0a_i3 (x4 : Int) (x5 : Int) (x9 : (List Int)) (x10 : Int) (x11 : Int) (dc1 : Int)
    (h1 : x11 < x10)
    (h2 : 0 ≤ x11)
    (h3 : x11 < (List.length x9 : Int))
    (h4 : ¬ ((List.getD x9 (x11).toNat (0 : Int)) < (0 : Int)))
    (h5 : SC cfg.P i_impl_size [.s (.v (.int .i64) (List.getD x9 (x11).toNat (0 : Int)))] (.s (.v (.int .i64) dc1)) [])
    (h6 : dc1 = (1 : Int))
    {e : AEx} {st : St} (next : LoopSC cfg.P 1 (lb P_impl_sums 0) (impl_sums_L0a (IntKind.wrap .i64 (x4 + (1 : Int))) x5 x9 x10 (IntKind.wrap .i64 (x11 + (1 : Int)))) e st) :
    LoopSC cfg.P 1 (lb P_impl_sums 0) (impl_sums_L0a x4 x5 x9 x10 x11) e st :=
  loop_iter cfgOK (f := i_impl_sums) (its := [.bool true, .bool false, .res (.s (.v (.int .i64) dc1)) [] [] [], .bool true])
    (ps := [decide (x11 < x10) = true,
      0 ≤ x11,
      x11 < (List.length x9 : Int),
      decide ((List.getD x9 (x11).toNat (0 : Int)) < (0 : Int)) = false,
      SC cfg.P i_impl_size [.s (.v (.int .i64) (List.getD x9 (x11).toNat (0 : Int)))] (.s (.v (.int .i64) dc1)) [],
      (dc1 == (1 : Int)) = true]) (st1 := impl_sums_L0a (IntKind.wrap .i64 (x4 + (1 : Int))) x5 x9 x10 (IntKind.wrap .i64 (x11 + (1 : Int)))) (by kernel_rfl) ⟨(decide_eq_true h1), h2, h3, (decide_eq_false h4), h5, (beq_iff_eq.mpr h6), trivial⟩ next

theorem impl_sums_L0a_i4 (x4 : Int) (x5 : Int) (x9 : (List Int)) (x10 : Int) (x11 : Int) (dc1 : Int)
    (h1 : x11 < x10)
    (h2 : 0 ≤ x11)
    (h3 : x11 < (List.length x9 : Int))
    (h4 : ¬ ((List.getD x9 (x11).toNat (0 : Int)) < (0 : Int)))
    (h5 : SC cfg.P i_impl_size [.s (.v (.int .i64) (List.getD x9 (x11).toNat (0 : Int)))] (.s (.v (.int .i64) dc1)) [])
    (h6 : dc1 ≠ (1 : Int))
    {e : AEx} {st : St} (next : LoopSC cfg.P 1 (lb P_impl_sums 0) (impl_sums_L0a x4 (IntKind.wrap .i64 (x5 + (1 : Int))) x9 x10 (IntKind.wrap .i64 (x11 + (1 : Int)))) e st) :
    LoopSC cfg.P 1 (lb P_impl_sums 0) (impl_sums_L0a x4 x5 x9 x10 x11) e st :=
  loop_iter cfgOK (f := i_impl_sums) (its := [.bool true, .bool false, .res (.s (.v (.int .i64) dc1)) [] [] [], .bool false])
    (ps := [decide (x11 < x10) = true,
      0 ≤ x11,
      x11 < (List.length x9 : Int),
      decide ((List.getD x9 (x11).toNat (0 : Int)) < (0 : Int)) = false,
      SC cfg.P i_impl_size [.s (.v (.int .i64) (List.getD x9 (x11).toNat (0 : Int)))] (.s (.v (.int .i64) dc1)) [],
      (dc1 == (1 : Int)) = false]) (st1 := impl_sums_L0a x4 (IntKind.wrap .i64 (x5 + (1 : Int))) x9 x10 (IntKind.wrap .i64 (x11 + (1 : Int)))) (by kernel_rfl) ⟨(decide_eq_true h1), h2, h3, (decide_eq_false h4), h5, (beq_eq_false_iff_ne.mpr h6), trivial⟩ next

theorem impl_sums_L0a_x5 (x4 : Int) (x5 : Int) (x9 : (List Int)) (x10 : Int) (x11 : Int)
    (h1 : ¬ (x11 < x10)) :
    LoopSC cfg.P 1 (lb P_impl_sums 0) (impl_sums_L0a x4 x5 x9 x10 x11) (.exit 0) (impl_sums_L0X1 x4 x5 x9 x10 x11 false) :=
  loop_out cfgOK (f := i_impl_sums) (its := [.bool false])
    (ps := [decide (x11 < x10) = false]) (by kernel_rfl) ⟨(decide_eq_false h1), trivial⟩ (fun h => by cases h)

theorem impl_sums_p1 (a0 : (List Int)) (k1y4 : Int) (k1y5 : Int) (k1y9 : (List Int)) (k1y10 : Int) (k1y11 : Int) (k1y12 : Bool)
    (h1 : LoopSC cfg.P 1 (lb P_impl_sums 0) (impl_sums_L0a (0 : Int) (0 : Int) a0 ((List.length a0 : Nat) : Int) (0 : Int)) (.exit 0) (impl_sums_L0X1 k1y4 k1y5 k1y9 k1y10 k1y11 k1y12)) :
    SC cfg.P i_impl_sums [.s (.v (.sl (.int .i64)) a0)] (.tup [.v (.int .i64) k1y4, .v (.int .i64) k1y5]) [] :=
  SC_of_run cfgOK (its := [.loop (fun _ => (.exit 0, impl_sums_L0X1 k1y4 k1y5 k1y9 k1y10 k1y11 k1y12))])
    (ps := [LoopSC cfg.P 1 (lb P_impl_sums 0) (impl_sums_L0a (0 : Int) (0 : Int) a0 ((List.length a0 : Nat) : Int) (0 : Int)) (.exit 0) (impl_sums_L0X1 k1y4 k1y5 k1y9 k1y10 k1y11 k1y12)]) (by kernel_rfl) ⟨h1, trivial⟩ get_impl_sums (by decide)

/-! ### impl_size -/


theorem impl_size_p1 (a0 : Int)
     :
    SC cfg.P i_impl_size [.s (.v (.int .i64) a0)] (.s (.v (.int .i64) (maxI a0 (IntKind.wrap .i64 (0 - a0))))) [] :=
  SC_of_run cfgOK (its := [])
    (ps := []) (by kernel_rfl) trivial get_impl_size (by decide)

end Go.AI
