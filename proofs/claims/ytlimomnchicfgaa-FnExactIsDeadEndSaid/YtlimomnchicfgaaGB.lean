/- A part of the road: what it proves stands in its last texts. -/
import Derived.Test.YtlimomnchicfgaaSIds
import Derived.Test.YtlimomnchicfgaaProg
set_option autoImplicit false
set_option maxRecDepth 100000
set_option linter.unusedVariables false
namespace Go.AI
open Go.Proofs

/-! ### laws_FnExactIsDeadEnd -/


theorem laws_FnExactIsDeadEnd_p1 (a0 : (ByteArray × ByteArray)) (c1 : Int)
    (h1 : SC cfg.P i_laws_szPair [.s (.v (.pr .str .str) a0), .s (.v (.int .i64) (1048576 : Int))] (.s (.v (.int .i64) c1)) [])
    (h2 : c1 < (0 : Int)) :
    SC cfg.P i_laws_FnExactIsDeadEnd [.s (.v (.pr .str .str) a0)] (.s (.v .bool true)) [] :=
  SC_of_run cfgOK (its := [.res (.s (.v (.int .i64) c1)) [] [] [], .bool true])
    (ps := [SC cfg.P i_laws_szPair [.s (.v (.pr .str .str) a0), .s (.v (.int .i64) (1048576 : Int))] (.s (.v (.int .i64) c1)) [],
      decide (c1 < (0 : Int)) = true]) (by kernel_rfl) ⟨h1, (decide_eq_true h2), trivial⟩ get_laws_FnExactIsDeadEnd (by decide)

theorem laws_FnExactIsDeadEnd_p2 (a0 : (ByteArray × ByteArray)) (c1 : Int) (c2 : (ByteArray × ByteArray)) (c3a : Bool) (c3b : Bool) (c4 : (ByteArray × ByteArray)) (c5a : Bool) (c5b : Bool)
    (h1 : SC cfg.P i_laws_szPair [.s (.v (.pr .str .str) a0), .s (.v (.int .i64) (1048576 : Int))] (.s (.v (.int .i64) c1)) [])
    (h2 : ¬ (c1 < (0 : Int)))
    (h3 : SC cfg.P i_laws_toPair [.s (.v (.pr .str .str) a0)] (.s (.v (.pr .str .str) c2)) [])
    (h4 : SC cfg.P i_spec_IsDeadEnd [.s (.v (.pr .str .str) c2)] (.tup [.v .bool c3a, .v .bool c3b]) [])
    (h5 : SC cfg.P i_laws_toPair [.s (.v (.pr .str .str) a0)] (.s (.v (.pr .str .str) c4)) [])
    (h6 : SC cfg.P i_impl_IsDeadEnd [.s (.v (.pr .str .str) c4)] (.tup [.v .bool c5a, .v .bool c5b]) [])
    (h7 : (!(c5a == c3a)) = false)
    (h8 : (!(c5b == c3b)) = false) :
    SC cfg.P i_laws_FnExactIsDeadEnd [.s (.v (.pr .str .str) a0)] (.s (.v .bool true)) [] :=
  SC_of_run cfgOK (its := [.res (.s (.v (.int .i64) c1)) [] [] [], .bool false, .res (.s (.v (.pr .str .str) c2)) [] [] [], .res (.tup [.v .bool c3a, .v .bool c3b]) [] [] [], .res (.s (.v (.pr .str .str) c4)) [] [] [], .res (.tup [.v .bool c5a, .v .bool c5b]) [] [] [], .bool false, .bool false])
    (ps := [SC cfg.P i_laws_szPair [.s (.v (.pr .str .str) a0), .s (.v (.int .i64) (1048576 : Int))] (.s (.v (.int .i64) c1)) [],
      decide (c1 < (0 : Int)) = false,
      SC cfg.P i_laws_toPair [.s (.v (.pr .str .str) a0)] (.s (.v (.pr .str .str) c2)) [],
      SC cfg.P i_spec_IsDeadEnd [.s (.v (.pr .str .str) c2)] (.tup [.v .bool c3a, .v .bool c3b]) [],
      SC cfg.P i_laws_toPair [.s (.v (.pr .str .str) a0)] (.s (.v (.pr .str .str) c4)) [],
      SC cfg.P i_impl_IsDeadEnd [.s (.v (.pr .str .str) c4)] (.tup [.v .bool c5a, .v .bool c5b]) [],
      (!(c5a == c3a)) = false,
      (!(c5b == c3b)) = false]) (by kernel_rfl) ⟨h1, (decide_eq_false h2), h3, h4, h5, h6, h7, h8, trivial⟩ get_laws_FnExactIsDeadEnd (by decide)

/-! ### spec_IsDeadEnd -/


def spec_IsDeadEnd_L0a (x12 : (List Int)) (x13 : Int) (x14 : Int) (xo1 : (ByteArray × ByteArray)) : St := mkSt 23 [(1, .s (.adr 1 none)), (12, .s (.v (.sl (.int .i64)) x12)), (13, .s (.v (.int .i64) x13)), (14, .s (.v (.int .i64) x14))] [(1, .box (.pr .str .str) xo1 false)]

def spec_IsDeadEnd_L0X1 (y2 : Bool) (y3 : Bool) : St := mkSt 23 [(2, .s (.v .bool y2)), (3, .s (.v .bool y3))] []

def spec_IsDeadEnd_L0X2 (y12 : (List Int)) (y13 : Int) (y14 : Int) (y15 : Bool) (yo1 : (ByteArray × ByteArray)) : St := mkSt 23 [(1, .s (.adr 1 none)), (12, .s (.v (.sl (.int .i64)) y12)), (13, .s (.v (.int .i64) y13)), (14, .s (.v (.int .i64) y14)), (15, .s (.v .bool y15))] [(1, .box (.pr .str .str) yo1 false)]

theorem spec_IsDeadEnd_L0a_x1 (x12 : (List Int)) (x13 : Int) (x14 : Int) (xo1 : (ByteArray × ByteArray)) (dc1 : Int)
    (h1 : x14 < x13)
    (h2 : 0 ≤ x14)
    (h3 : x14 < (List.length x12 : Int))
    (h4 : SC cfg.P i_spec_lnOf [.s (.v (.pr .str .str) xo1)] (.s (.v (.int .i64) dc1)) [])
    (h5 : (List.getD x12 (x14).toNat (0 : Int)) > dc1) :
    LoopSC cfg.P 1 (lb P_spec_IsDeadEnd 0) (spec_IsDeadEnd_L0a x12 x13 x14 xo1) (.ret) (spec_IsDeadEnd_L0X1 false true) :=
  loop_out cfgOK (f := i_spec_IsDeadEnd) (its := [.bool true, .res (.s (.v (.int .i64) dc1)) [] [] [], .bool true])
    (ps := [decide (x14 < x13) = true,
      0 ≤ x14,
      x14 < (List.length x12 : Int),
      SC cfg.P i_spec_lnOf [.s (.v (.pr .str .str) xo1)] (.s (.v (.int .i64) dc1)) [],
      decide ((List.getD x12 (x14).toNat (0 : Int)) > dc1) = true]) (by kernel_rfl) ⟨(decide_eq_true h1), h2, h3, h4, (decide_eq_true h5), trivial⟩ (fun h => by cases h)

theorem spec_IsDeadEnd_L0a_i2 (x12 : (List Int)) (x13 : Int) (x14 : Int) (xo1 : (ByteArray × ByteArray)) (dc1 : Int)
    (h1 : x14 < x13)
    (h2 : 0 ≤ x14)
    (h3 : x14 < (List.length x12 : Int))
    (h4 : SC cfg.P i_spec_lnOf [.s (.v (.pr .str .str) xo1)] (.s (.v (.int .i64) dc1)) [])
    (h5 : ¬ ((List.getD x12 (x14).toNat (0 : Int)) > dc1))
    {e : AEx} {st : St} (next : LoopSC cfg.P 1 (lb P_spec_IsDeadEnd 0) (spec_IsDeadEnd_L0a x12 x13 (IntKind.wrap .i64 (x14 + (1 : Int))) xo1) e st) :
    LoopSC cfg.P 1 (lb P_spec_IsDeadEnd 0) (spec_IsDeadEnd_L0a x12 x13 x14 xo1) e st :=
  loop_iter cfgOK (f := i_spec_IsDeadEnd) (its := [.bool true, .res (.s (.v (.int .i64) dc1)) [] [] [], .bool false])
    (ps := [decide (x14 < x13) = true,
      0 ≤ x14,
      x14 < (List.length x12 : Int),
      SC cfg.P i_spec_lnOf [.s (.v (.pr .str .str) xo1)] (.s (.v (.int .i64) dc1)) [],
      decide ((List.getD x12 (x14).toNat (0 : Int)) > dc1) = false]) (st1 := spec_IsDeadEnd_L0a x12 x13 (IntKind.wrap .i64 (x14 + (1 : Int))) xo1) (by kernel_rfl) ⟨(decide_eq_true h1), h2, h3, h4, (decide_eq_false h5), trivial⟩ next

theorem spec_IsDeadEnd_L0a_x3 (x12 : (List Int)) (x13 : Int) (x14 : Int) (xo1 : (ByteArray × ByteArray))
    (h1 : ¬ (x14 < x13)) :
    LoopSC cfg.P 1 (lb P_spec_IsDeadEnd 0) (spec_IsDeadEnd_L0a x12 x13 x14 xo1) (.exit 0) (spec_IsDeadEnd_L0X2 x12 x13 x14 false xo1) :=
  loop_out cfgOK (f := i_spec_IsDeadEnd) (its := [.bool false])
    (ps := [decide (x14 < x13) = false]) (by kernel_rfl) ⟨(decide_eq_false h1), trivial⟩ (fun h => by cases h)

theorem spec_IsDeadEnd_p1 (a0 : (ByteArray × ByteArray)) (c2 : (ByteArray × ByteArray)) (c3 : (List Int)) (k1y2 : Bool) (k1y3 : Bool)
    (h1 : SC cfg.P i_spec_prGood [.s (.v (.pr .str .str) a0)] (.s (.v .bool true)) [])
    (h2 : SC cfg.P i_spec_prReduce [.s (.v (.pr .str .str) a0), .s (.v (.sl (.int .i64)) ([] : List Int))] (.s (.v (.pr .str .str) c2)) [])
    (h3 : SC cfg.P i_spec_lnNext [.s (.v (.pr .str .str) c2)] (.s (.v (.sl (.int .i64)) c3)) [])
    (h4 : LoopSC cfg.P 1 (lb P_spec_IsDeadEnd 0) (spec_IsDeadEnd_L0a c3 ((List.length c3 : Nat) : Int) (0 : Int) c2) (.ret) (spec_IsDeadEnd_L0X1 k1y2 k1y3)) :
    SC cfg.P i_spec_IsDeadEnd [.s (.v (.pr .str .str) a0)] (.tup [.v .bool k1y2, .v .bool k1y3]) [] :=
  SC_of_run cfgOK (its := [.res (.s (.v .bool true)) [] [] [], .res (.s (.v (.pr .str .str) c2)) [] [] [], .res (.s (.v (.sl (.int .i64)) c3)) [] [] [], .loop (fun _ => (.ret, spec_IsDeadEnd_L0X1 k1y2 k1y3))])
    (ps := [SC cfg.P i_spec_prGood [.s (.v (.pr .str .str) a0)] (.s (.v .bool true)) [],
      SC cfg.P i_spec_prReduce [.s (.v (.pr .str .str) a0), .s (.v (.sl (.int .i64)) ([] : List Int))] (.s (.v (.pr .str .str) c2)) [],
      SC cfg.P i_spec_lnNext [.s (.v (.pr .str .str) c2)] (.s (.v (.sl (.int .i64)) c3)) [],
      LoopSC cfg.P 1 (lb P_spec_IsDeadEnd 0) (spec_IsDeadEnd_L0a c3 ((List.length c3 : Nat) : Int) (0 : Int) c2) (.ret) (spec_IsDeadEnd_L0X1 k1y2 k1y3)]) (by kernel_rfl) ⟨h1, h2, h3, h4, trivial⟩ get_spec_IsDeadEnd (by decide)

theorem spec_IsDeadEnd_p2 (a0 : (ByteArray × ByteArray)) (c2 : (ByteArray × ByteArray)) (c3 : (List Int)) (k1y12 : (List Int)) (k1y13 : Int) (k1y14 : Int) (k1y15 : Bool) (k1yo1 : (ByteArray × ByteArray))
    (h1 : SC cfg.P i_spec_prGood [.s (.v (.pr .str .str) a0)] (.s (.v .bool true)) [])
    (h2 : SC cfg.P i_spec_prReduce [.s (.v (.pr .str .str) a0), .s (.v (.sl (.int .i64)) ([] : List Int))] (.s (.v (.pr .str .str) c2)) [])
    (h3 : SC cfg.P i_spec_lnNext [.s (.v (.pr .str .str) c2)] (.s (.v (.sl (.int .i64)) c3)) [])
    (h4 : LoopSC cfg.P 1 (lb P_spec_IsDeadEnd 0) (spec_IsDeadEnd_L0a c3 ((List.length c3 : Nat) : Int) (0 : Int) c2) (.exit 0) (spec_IsDeadEnd_L0X2 k1y12 k1y13 k1y14 k1y15 k1yo1)) :
    SC cfg.P i_spec_IsDeadEnd [.s (.v (.pr .str .str) a0)] (.tup [.v .bool true, .v .bool true]) [] :=
  SC_of_run cfgOK (its := [.res (.s (.v .bool true)) [] [] [], .res (.s (.v (.pr .str .str) c2)) [] [] [], .res (.s (.v (.sl (.int .i64)) c3)) [] [] [], .loop (fun _ => (.exit 0, spec_IsDeadEnd_L0X2 k1y12 k1y13 k1y14 k1y15 k1yo1))])
    (ps := [SC cfg.P i_spec_prGood [.s (.v (.pr .str .str) a0)] (.s (.v .bool true)) [],
      SC cfg.P i_spec_prReduce [.s (.v (.pr .str .str) a0), .s (.v (.sl (.int .i64)) ([] : List Int))] (.s (.v (.pr .str .str) c2)) [],
      SC cfg.P i_spec_lnNext [.s (.v (.pr .str .str) c2)] (.s (.v (.sl (.int .i64)) c3)) [],
      LoopSC cfg.P 1 (lb P_spec_IsDeadEnd 0) (spec_IsDeadEnd_L0a c3 ((List.length c3 : Nat) : Int) (0 : Int) c2) (.exit 0) (spec_IsDeadEnd_L0X2 k1y12 k1y13 k1y14 k1y15 k1yo1)]) (by kernel_rfl) ⟨h1, h2, h3, h4, trivial⟩ get_spec_IsDeadEnd (by decide)

theorem spec_IsDeadEnd_p3 (a0 : (ByteArray × ByteArray))
    (h1 : SC cfg.P i_spec_prGood [.s (.v (.pr .str .str) a0)] (.s (.v .bool false)) []) :
    SC cfg.P i_spec_IsDeadEnd [.s (.v (.pr .str .str) a0)] (.tup [.v .bool false, .v .bool false]) [] :=
  SC_of_run cfgOK (its := [.res (.s (.v .bool false)) [] [] []])
    (ps := [SC cfg.P i_spec_prGood [.s (.v (.pr .str .str) a0)] (.s (.v .bool false)) []]) (by kernel_rfl) ⟨h1, trivial⟩ get_spec_IsDeadEnd (by decide)

/-! ### impl_IsDeadEnd -/


theorem impl_IsDeadEnd_p1 (a0 : (ByteArray × ByteArray)) (c1a : (List Int)) (c2a : Int) (c2b : Bool) (c3 : Int)
    (h1 : SC cfg.P i_impl_NextLengths [.s (.v (.pr .str .str) a0)] (.tup [.own t_int (.int .i64) c1a, .v .bool true]) [])
    (h2 : SC cfg.P i_impl_LengthOf [.s (.v (.pr .str .str) a0)] (.tup [.v (.int .i64) c2a, .v .bool c2b]) [])
    (h3 : SC cfg.P i_slices_Max [.s (.v (.sl (.int .i64)) c1a)] (.s (.v (.int .i64) c3)) [])
    (h4 : c3 ≤ c2a) :
    SC cfg.P i_impl_IsDeadEnd [.s (.v (.pr .str .str) a0)] (.tup [.v .bool true, .v .bool true]) [] :=
  SC_of_run cfgOK (its := [.res (.tup [.own t_int (.int .i64) c1a, .v .bool true]) [] [] [10], .res (.tup [.v (.int .i64) c2a, .v .bool c2b]) [] [] [], .res (.s (.v (.int .i64) c3)) [] [] [], .bool true])
    (ps := [SC cfg.P i_impl_NextLengths [.s (.v (.pr .str .str) a0)] (.tup [.own t_int (.int .i64) c1a, .v .bool true]) [],
      SC cfg.P i_impl_LengthOf [.s (.v (.pr .str .str) a0)] (.tup [.v (.int .i64) c2a, .v .bool c2b]) [],
      SC cfg.P i_slices_Max [.s (.v (.sl (.int .i64)) c1a)] (.s (.v (.int .i64) c3)) [],
      decide (c3 ≤ c2a) = true]) (by kernel_rfl) ⟨h1, h2, h3, (decide_eq_true h4), trivial⟩ get_impl_IsDeadEnd (by decide)

theorem impl_IsDeadEnd_p2 (a0 : (ByteArray × ByteArray)) (c1a : (List Int)) (c2a : Int) (c2b : Bool) (c3 : Int)
    (h1 : SC cfg.P i_impl_NextLengths [.s (.v (.pr .str .str) a0)] (.tup [.own t_int (.int .i64) c1a, .v .bool true]) [])
    (h2 : SC cfg.P i_impl_LengthOf [.s (.v (.pr .str .str) a0)] (.tup [.v (.int .i64) c2a, .v .bool c2b]) [])
    (h3 : SC cfg.P i_slices_Max [.s (.v (.sl (.int .i64)) c1a)] (.s (.v (.int .i64) c3)) [])
    (h4 : ¬ (c3 ≤ c2a)) :
    SC cfg.P i_impl_IsDeadEnd [.s (.v (.pr .str .str) a0)] (.tup [.v .bool false, .v .bool true]) [] :=
  SC_of_run cfgOK (its := [.res (.tup [.own t_int (.int .i64) c1a, .v .bool true]) [] [] [10], .res (.tup [.v (.int .i64) c2a, .v .bool c2b]) [] [] [], .res (.s (.v (.int .i64) c3)) [] [] [], .bool false])
    (ps := [SC cfg.P i_impl_NextLengths [.s (.v (.pr .str .str) a0)] (.tup [.own t_int (.int .i64) c1a, .v .bool true]) [],
      SC cfg.P i_impl_LengthOf [.s (.v (.pr .str .str) a0)] (.tup [.v (.int .i64) c2a, .v .bool c2b]) [],
      SC cfg.P i_slices_Max [.s (.v (.sl (.int .i64)) c1a)] (.s (.v (.int .i64) c3)) [],
      decide (c3 ≤ c2a) = false]) (by kernel_rfl) ⟨h1, h2, h3, (decide_eq_false h4), trivial⟩ get_impl_IsDeadEnd (by decide)

theorem impl_IsDeadEnd_p3 (a0 : (ByteArray × ByteArray)) (c1a : (List Int))
    (h1 : SC cfg.P i_impl_NextLengths [.s (.v (.pr .str .str) a0)] (.tup [.own t_int (.int .i64) c1a, .v .bool false]) []) :
    SC cfg.P i_impl_IsDeadEnd [.s (.v (.pr .str .str) a0)] (.tup [.v .bool false, .v .bool false]) [] :=
  SC_of_run cfgOK (its := [.res (.tup [.own t_int (.int .i64) c1a, .v .bool false]) [] [] [10]])
    (ps := [SC cfg.P i_impl_NextLengths [.s (.v (.pr .str .str) a0)] (.tup [.own t_int (.int .i64) c1a, .v .bool false]) []]) (by kernel_rfl) ⟨h1, trivial⟩ get_impl_IsDeadEnd (by decide)

/-! ### slices_Max -/


def slices_Max_L0a (x0 : (List Int)) (x3 : Int) (x4 : Int) : St := mkSt 25 [(0, .s (.v (.sl (.int .i64)) x0)), (3, .s (.v (.int .i64) x3)), (4, .s (.v (.int .i64) x4))] []

def slices_Max_L0X1 (y0 : (List Int)) (y3 : Int) (y4 : Int) (y15 : Bool) : St := mkSt 25 [(0, .s (.v (.sl (.int .i64)) y0)), (3, .s (.v (.int .i64) y3)), (4, .s (.v (.int .i64) y4)), (15, .s (.v .bool y15))] []

theorem slices_Max_L0a_i1 (x0 : (List Int)) (x3 : Int) (x4 : Int)
    (h1 : x4 < ((List.length x0 : Nat) : Int))
    (h2 : 0 ≤ x4)
    (h3 : x4 < (List.length x0 : Int))
    {e : AEx} {st : St} (next : LoopSC cfg.P 1 (lb P_slices_Max 0) (slices_Max_L0a x0 (maxI x3 (List.getD x0 (x4).toNat (0 : Int))) (IntKind.wrap .i64 (x4 + (1 : Int)))) e st) :
    LoopSC cfg.P 1 (lb P_slices_Max 0) (slices_Max_L0a x0 x3 x4) e st :=
  loop_iter cfgOK (f := i_slices_Max) (its := [.bool true])
    (ps := [decide (x4 < ((List.length x0 : Nat) : Int)) = true,
      0 ≤ x4,
      x4 < (List.length x0 : Int)]) (st1 := slices_Max_L0a x0 (maxI x3 (List.getD x0 (x4).toNat (0 : Int))) (IntKind.wrap .i64 (x4 + (1 : Int)))) (by kernel_rfl) ⟨(decide_eq_true h1), h2, h3, trivial⟩ next

theorem slices_Max_L0a_x2 (x0 : (List Int)) (x3 : Int) (x4 : Int)
    (h1 : ¬ (x4 < ((List.length x0 : Nat) : Int))) :
    LoopSC cfg.P 1 (lb P_slices_Max 0) (slices_Max_L0a x0 x3 x4) (.exit 0) (slices_Max_L0X1 x0 x3 x4 false) :=
  loop_out cfgOK (f := i_slices_Max) (its := [.bool false])
    (ps := [decide (x4 < ((List.length x0 : Nat) : Int)) = false]) (by kernel_rfl) ⟨(decide_eq_false h1), trivial⟩ (fun h => by cases h)

-- slices_Max: op makeInterface at "sort.go:97" makeInterface   [decide (((List.length a0 : Nat) : Int) < (1 : Int))=True]

theorem slices_Max_p1 (a0 : (List Int)) (k1y0 : (List Int)) (k1y3 : Int) (k1y4 : Int) (k1y15 : Bool)
    (h1 : ¬ (((List.length a0 : Nat) : Int) < (1 : Int)))
    (h2 : (0 : Int) < (List.length a0 : Int))
    (h3 : LoopSC cfg.P 1 (lb P_slices_Max 0) (slices_Max_L0a a0 (List.getD a0 ((0 : Int)).toNat (0 : Int)) (1 : Int)) (.exit 0) (slices_Max_L0X1 k1y0 k1y3 k1y4 k1y15)) :
    SC cfg.P i_slices_Max [.s (.v (.sl (.int .i64)) a0)] (.s (.v (.int .i64) k1y3)) [] :=
  SC_of_run cfgOK (its := [.bool false, .loop (fun _ => (.exit 0, slices_Max_L0X1 k1y0 k1y3 k1y4 k1y15))])
    (ps := [decide (((List.length a0 : Nat) : Int) < (1 : Int)) = false,
      0 ≤ (0 : Int),
      (0 : Int) < (List.length a0 : Int),
      LoopSC cfg.P 1 (lb P_slices_Max 0) (slices_Max_L0a a0 (List.getD a0 ((0 : Int)).toNat (0 : Int)) (1 : Int)) (.exit 0) (slices_Max_L0X1 k1y0 k1y3 k1y4 k1y15)]) (by kernel_rfl) ⟨(decide_eq_false h1), (by decide), h2, h3, trivial⟩ get_slices_Max (by decide)

end Go.AI
