/- A part of the road: what it proves stands in its last texts. -/
import Derived.Test.YtlimomnchicfgaaSIds
import Derived.Test.YtlimomnchicfgaaProg
set_option autoImplicit false
set_option maxRecDepth 100000
set_option linter.unusedVariables false
namespace Go.AI
open Go.Proofs

/-! ### laws_FnExactLengthBySpheres -/


theorem laws_FnExactLengthBySpheres_p1 (a0 : (ByteArray × ByteArray)) (a1 : Int) (c1 : Int)
    (h1 : SC cfg.P i_laws_szPair [.s (.v (.pr .str .str) a0), .s (.v (.int .i64) (1048576 : Int))] (.s (.v (.int .i64) c1)) [])
    (h2 : c1 < (0 : Int)) :
    SC cfg.P i_laws_FnExactLengthBySpheres [.s (.v (.pr .str .str) a0), .s (.v (.int .i64) a1)] (.s (.v .bool true)) [] :=
  SC_of_run cfgOK (its := [.res (.s (.v (.int .i64) c1)) [] [] [], .bool true])
    (ps := [SC cfg.P i_laws_szPair [.s (.v (.pr .str .str) a0), .s (.v (.int .i64) (1048576 : Int))] (.s (.v (.int .i64) c1)) [],
      decide (c1 < (0 : Int)) = true]) (by kernel_rfl) ⟨h1, (decide_eq_true h2), trivial⟩ get_laws_FnExactLengthBySpheres (by decide)

theorem laws_FnExactLengthBySpheres_p2 (a0 : (ByteArray × ByteArray)) (a1 : Int) (c1 : Int) (c2 : (ByteArray × ByteArray)) (c3a : Int) (c3b : Bool) (c4 : (ByteArray × ByteArray)) (c5a : Int) (c5b : Bool)
    (h1 : SC cfg.P i_laws_szPair [.s (.v (.pr .str .str) a0), .s (.v (.int .i64) (1048576 : Int))] (.s (.v (.int .i64) c1)) [])
    (h2 : ¬ (c1 < (0 : Int)))
    (h3 : SC cfg.P i_laws_toPair [.s (.v (.pr .str .str) a0)] (.s (.v (.pr .str .str) c2)) [])
    (h4 : SC cfg.P i_spec_LengthBySpheres [.s (.v (.pr .str .str) c2), .s (.v (.int .i64) a1)] (.tup [.v (.int .i64) c3a, .v .bool c3b]) [])
    (h5 : SC cfg.P i_laws_toPair [.s (.v (.pr .str .str) a0)] (.s (.v (.pr .str .str) c4)) [])
    (h6 : SC cfg.P i_impl_LengthBySpheres [.s (.v (.pr .str .str) c4), .s (.v (.int .i64) a1)] (.tup [.v (.int .i64) c5a, .v .bool c5b]) [])
    (h7 : c5a = c3a)
    (h8 : (!(c5b == c3b)) = false) :
    SC cfg.P i_laws_FnExactLengthBySpheres [.s (.v (.pr .str .str) a0), .s (.v (.int .i64) a1)] (.s (.v .bool true)) [] :=
  SC_of_run cfgOK (its := [.res (.s (.v (.int .i64) c1)) [] [] [], .bool false, .res (.s (.v (.pr .str .str) c2)) [] [] [], .res (.tup [.v (.int .i64) c3a, .v .bool c3b]) [] [] [], .res (.s (.v (.pr .str .str) c4)) [] [] [], .res (.tup [.v (.int .i64) c5a, .v .bool c5b]) [] [] [], .bool false, .bool false])
    (ps := [SC cfg.P i_laws_szPair [.s (.v (.pr .str .str) a0), .s (.v (.int .i64) (1048576 : Int))] (.s (.v (.int .i64) c1)) [],
      decide (c1 < (0 : Int)) = false,
      SC cfg.P i_laws_toPair [.s (.v (.pr .str .str) a0)] (.s (.v (.pr .str .str) c2)) [],
      SC cfg.P i_spec_LengthBySpheres [.s (.v (.pr .str .str) c2), .s (.v (.int .i64) a1)] (.tup [.v (.int .i64) c3a, .v .bool c3b]) [],
      SC cfg.P i_laws_toPair [.s (.v (.pr .str .str) a0)] (.s (.v (.pr .str .str) c4)) [],
      SC cfg.P i_impl_LengthBySpheres [.s (.v (.pr .str .str) c4), .s (.v (.int .i64) a1)] (.tup [.v (.int .i64) c5a, .v .bool c5b]) [],
      (c5a != c3a) = false,
      (!(c5b == c3b)) = false]) (by kernel_rfl) ⟨h1, (decide_eq_false h2), h3, h4, h5, h6, (bne_f h7), h8, trivial⟩ get_laws_FnExactLengthBySpheres (by decide)

/-! ### spec_LengthBySpheres -/


def spec_LengthBySpheres_L0a (x6 : ByteArray) (x21 : (List (List ByteArray))) (x22 : Int) (x23 : Int) : St := mkSt 33 [(6, .s (.v .str x6)), (21, .s (.v (.sl (.sl .str)) x21)), (22, .s (.v (.int .i64) x22)), (23, .s (.v (.int .i64) x23))] []

def spec_LengthBySpheres_L0X1 (y4 : Int) (y5 : Bool) : St := mkSt 33 [(4, .s (.v (.int .i64) y4)), (5, .s (.v .bool y5))] []

def spec_LengthBySpheres_L0X2 (y6 : ByteArray) (y21 : (List (List ByteArray))) (y22 : Int) (y23 : Int) (y24 : Bool) : St := mkSt 33 [(6, .s (.v .str y6)), (21, .s (.v (.sl (.sl .str)) y21)), (22, .s (.v (.int .i64) y22)), (23, .s (.v (.int .i64) y23)), (24, .s (.v .bool y24))] []

theorem spec_LengthBySpheres_L0a_x1 (x6 : ByteArray) (x21 : (List (List ByteArray))) (x22 : Int) (x23 : Int)
    (h1 : x23 < x22)
    (h2 : 0 ≤ x23)
    (h3 : x23 < (List.length x21 : Int))
    (h4 : SC cfg.P i_spec_lnHas [.s (.v (.sl .str) (List.getD x21 (x23).toNat ([] : List ByteArray))), .s (.v .str x6)] (.s (.v .bool true)) []) :
    LoopSC cfg.P 2 (lb P_spec_LengthBySpheres 0) (spec_LengthBySpheres_L0a x6 x21 x22 x23) (.ret) (spec_LengthBySpheres_L0X1 x23 true) :=
  loop_out cfgOK (f := i_spec_LengthBySpheres) (its := [.bool true, .res (.s (.v .bool true)) [] [] []])
    (ps := [decide (x23 < x22) = true,
      0 ≤ x23,
      x23 < (List.length x21 : Int),
      SC cfg.P i_spec_lnHas [.s (.v (.sl .str) (List.getD x21 (x23).toNat ([] : List ByteArray))), .s (.v .str x6)] (.s (.v .bool true)) []]) (by kernel_rfl) ⟨(decide_eq_true h1), h2, h3, h4, trivial⟩ (fun h => by cases h)

theorem spec_LengthBySpheres_L0a_i2 (x6 : ByteArray) (x21 : (List (List ByteArray))) (x22 : Int) (x23 : Int)
    (h1 : x23 < x22)
    (h2 : 0 ≤ x23)
    (h3 : x23 < (List.length x21 : Int))
    (h4 : SC cfg.P i_spec_lnHas [.s (.v (.sl .str) (List.getD x21 (x23).toNat ([] : List ByteArray))), .s (.v .str x6)] (.s (.v .bool false)) [])
    {e : AEx} {st : St} (next : LoopSC cfg.P 2 (lb P_spec_LengthBySpheres 0) (spec_LengthBySpheres_L0a x6 x21 x22 (IntKind.wrap .i64 (x23 + (1 : Int)))) e st) :
    LoopSC cfg.P 2 (lb P_spec_LengthBySpheres 0) (spec_LengthBySpheres_L0a x6 x21 x22 x23) e st :=
  loop_iter cfgOK (f := i_spec_LengthBySpheres) (its := [.bool true, .res (.s (.v .bool false)) [] [] []])
    (ps := [decide (x23 < x22) = true,
      0 ≤ x23,
      x23 < (List.length x21 : Int),
      SC cfg.P i_spec_lnHas [.s (.v (.sl .str) (List.getD x21 (x23).toNat ([] : List ByteArray))), .s (.v .str x6)] (.s (.v .bool false)) []]) (st1 := spec_LengthBySpheres_L0a x6 x21 x22 (IntKind.wrap .i64 (x23 + (1 : Int)))) (by kernel_rfl) ⟨(decide_eq_true h1), h2, h3, h4, trivial⟩ next

theorem spec_LengthBySpheres_L0a_x3 (x6 : ByteArray) (x21 : (List (List ByteArray))) (x22 : Int) (x23 : Int)
    (h1 : ¬ (x23 < x22)) :
    LoopSC cfg.P 2 (lb P_spec_LengthBySpheres 0) (spec_LengthBySpheres_L0a x6 x21 x22 x23) (.exit 0) (spec_LengthBySpheres_L0X2 x6 x21 x22 x23 false) :=
  loop_out cfgOK (f := i_spec_LengthBySpheres) (its := [.bool false])
    (ps := [decide (x23 < x22) = false]) (by kernel_rfl) ⟨(decide_eq_false h1), trivial⟩ (fun h => by cases h)

theorem spec_LengthBySpheres_p1 (a0 : (ByteArray × ByteArray)) (a1 : Int) (c3 : (ByteArray × ByteArray)) (c4 : ByteArray) (c5 : (List (List ByteArray))) (k1y4 : Int) (k1y5 : Bool)
    (h1 : SC cfg.P i_spec_prGood [.s (.v (.pr .str .str) a0)] (.s (.v .bool true)) [])
    (h2 : SC cfg.P i_spec_l1In [.s (.v (.int .i64) a1), .s (.v (.int .i64) (0 : Int)), .s (.v (.int .i64) (5 : Int))] (.s (.v .bool true)) [])
    (h3 : SC cfg.P i_spec_prReduce [.s (.v (.pr .str .str) a0), .s (.v (.sl (.int .i64)) ([] : List Int))] (.s (.v (.pr .str .str) c3)) [])
    (h4 : SC cfg.P i_spec_prText [.s (.v (.pr .str .str) c3)] (.s (.v .str c4)) [])
    (h5 : SC cfg.P i_spec_lnSpheres [.s (.v (.int .i64) a1)] (.s (.v (.sl (.sl .str)) c5)) [])
    (h6 : LoopSC cfg.P 2 (lb P_spec_LengthBySpheres 0) (spec_LengthBySpheres_L0a c4 c5 ((List.length c5 : Nat) : Int) (0 : Int)) (.ret) (spec_LengthBySpheres_L0X1 k1y4 k1y5)) :
    SC cfg.P i_spec_LengthBySpheres [.s (.v (.pr .str .str) a0), .s (.v (.int .i64) a1)] (.tup [.v (.int .i64) k1y4, .v .bool k1y5]) [] :=
  SC_of_run cfgOK (its := [.res (.s (.v .bool true)) [] [] [], .res (.s (.v .bool true)) [] [] [], .res (.s (.v (.pr .str .str) c3)) [] [] [], .res (.s (.v .str c4)) [] [] [], .res (.s (.v (.sl (.sl .str)) c5)) [] [] [], .loop (fun _ => (.ret, spec_LengthBySpheres_L0X1 k1y4 k1y5))])
    (ps := [SC cfg.P i_spec_prGood [.s (.v (.pr .str .str) a0)] (.s (.v .bool true)) [],
      SC cfg.P i_spec_l1In [.s (.v (.int .i64) a1), .s (.v (.int .i64) (0 : Int)), .s (.v (.int .i64) (5 : Int))] (.s (.v .bool true)) [],
      SC cfg.P i_spec_prReduce [.s (.v (.pr .str .str) a0), .s (.v (.sl (.int .i64)) ([] : List Int))] (.s (.v (.pr .str .str) c3)) [],
      SC cfg.P i_spec_prText [.s (.v (.pr .str .str) c3)] (.s (.v .str c4)) [],
      SC cfg.P i_spec_lnSpheres [.s (.v (.int .i64) a1)] (.s (.v (.sl (.sl .str)) c5)) [],
      LoopSC cfg.P 2 (lb P_spec_LengthBySpheres 0) (spec_LengthBySpheres_L0a c4 c5 ((List.length c5 : Nat) : Int) (0 : Int)) (.ret) (spec_LengthBySpheres_L0X1 k1y4 k1y5)]) (by kernel_rfl) ⟨h1, h2, h3, h4, h5, h6, trivial⟩ get_spec_LengthBySpheres (by decide)

theorem spec_LengthBySpheres_p2 (a0 : (ByteArray × ByteArray)) (a1 : Int) (c3 : (ByteArray × ByteArray)) (c4 : ByteArray) (c5 : (List (List ByteArray))) (k1y6 : ByteArray) (k1y21 : (List (List ByteArray))) (k1y22 : Int) (k1y23 : Int) (k1y24 : Bool)
    (h1 : SC cfg.P i_spec_prGood [.s (.v (.pr .str .str) a0)] (.s (.v .bool true)) [])
    (h2 : SC cfg.P i_spec_l1In [.s (.v (.int .i64) a1), .s (.v (.int .i64) (0 : Int)), .s (.v (.int .i64) (5 : Int))] (.s (.v .bool true)) [])
    (h3 : SC cfg.P i_spec_prReduce [.s (.v (.pr .str .str) a0), .s (.v (.sl (.int .i64)) ([] : List Int))] (.s (.v (.pr .str .str) c3)) [])
    (h4 : SC cfg.P i_spec_prText [.s (.v (.pr .str .str) c3)] (.s (.v .str c4)) [])
    (h5 : SC cfg.P i_spec_lnSpheres [.s (.v (.int .i64) a1)] (.s (.v (.sl (.sl .str)) c5)) [])
    (h6 : LoopSC cfg.P 2 (lb P_spec_LengthBySpheres 0) (spec_LengthBySpheres_L0a c4 c5 ((List.length c5 : Nat) : Int) (0 : Int)) (.exit 0) (spec_LengthBySpheres_L0X2 k1y6 k1y21 k1y22 k1y23 k1y24)) :
    SC cfg.P i_spec_LengthBySpheres [.s (.v (.pr .str .str) a0), .s (.v (.int .i64) a1)] (.tup [.v (.int .i64) (0 : Int), .v .bool false]) [] :=
  SC_of_run cfgOK (its := [.res (.s (.v .bool true)) [] [] [], .res (.s (.v .bool true)) [] [] [], .res (.s (.v (.pr .str .str) c3)) [] [] [], .res (.s (.v .str c4)) [] [] [], .res (.s (.v (.sl (.sl .str)) c5)) [] [] [], .loop (fun _ => (.exit 0, spec_LengthBySpheres_L0X2 k1y6 k1y21 k1y22 k1y23 k1y24))])
    (ps := [SC cfg.P i_spec_prGood [.s (.v (.pr .str .str) a0)] (.s (.v .bool true)) [],
      SC cfg.P i_spec_l1In [.s (.v (.int .i64) a1), .s (.v (.int .i64) (0 : Int)), .s (.v (.int .i64) (5 : Int))] (.s (.v .bool true)) [],
      SC cfg.P i_spec_prReduce [.s (.v (.pr .str .str) a0), .s (.v (.sl (.int .i64)) ([] : List Int))] (.s (.v (.pr .str .str) c3)) [],
      SC cfg.P i_spec_prText [.s (.v (.pr .str .str) c3)] (.s (.v .str c4)) [],
      SC cfg.P i_spec_lnSpheres [.s (.v (.int .i64) a1)] (.s (.v (.sl (.sl .str)) c5)) [],
      LoopSC cfg.P 2 (lb P_spec_LengthBySpheres 0) (spec_LengthBySpheres_L0a c4 c5 ((List.length c5 : Nat) : Int) (0 : Int)) (.exit 0) (spec_LengthBySpheres_L0X2 k1y6 k1y21 k1y22 k1y23 k1y24)]) (by kernel_rfl) ⟨h1, h2, h3, h4, h5, h6, trivial⟩ get_spec_LengthBySpheres (by decide)

theorem spec_LengthBySpheres_p3 (a0 : (ByteArray × ByteArray)) (a1 : Int)
    (h1 : SC cfg.P i_spec_prGood [.s (.v (.pr .str .str) a0)] (.s (.v .bool true)) [])
    (h2 : SC cfg.P i_spec_l1In [.s (.v (.int .i64) a1), .s (.v (.int .i64) (0 : Int)), .s (.v (.int .i64) (5 : Int))] (.s (.v .bool false)) []) :
    SC cfg.P i_spec_LengthBySpheres [.s (.v (.pr .str .str) a0), .s (.v (.int .i64) a1)] (.tup [.v (.int .i64) (0 : Int), .v .bool false]) [] :=
  SC_of_run cfgOK (its := [.res (.s (.v .bool true)) [] [] [], .res (.s (.v .bool false)) [] [] []])
    (ps := [SC cfg.P i_spec_prGood [.s (.v (.pr .str .str) a0)] (.s (.v .bool true)) [],
      SC cfg.P i_spec_l1In [.s (.v (.int .i64) a1), .s (.v (.int .i64) (0 : Int)), .s (.v (.int .i64) (5 : Int))] (.s (.v .bool false)) []]) (by kernel_rfl) ⟨h1, h2, trivial⟩ get_spec_LengthBySpheres (by decide)

theorem spec_LengthBySpheres_p4 (a0 : (ByteArray × ByteArray)) (a1 : Int)
    (h1 : SC cfg.P i_spec_prGood [.s (.v (.pr .str .str) a0)] (.s (.v .bool false)) []) :
    SC cfg.P i_spec_LengthBySpheres [.s (.v (.pr .str .str) a0), .s (.v (.int .i64) a1)] (.tup [.v (.int .i64) (0 : Int), .v .bool false]) [] :=
  SC_of_run cfgOK (its := [.res (.s (.v .bool false)) [] [] []])
    (ps := [SC cfg.P i_spec_prGood [.s (.v (.pr .str .str) a0)] (.s (.v .bool false)) []]) (by kernel_rfl) ⟨h1, trivial⟩ get_spec_LengthBySpheres (by decide)

/-! ### impl_LengthBySpheres -/


def impl_LengthBySpheres_L0a (x8 : ByteArray) (x32 : (List (List (Tr × Tr)))) (x33 : Int) (x34 : Int) : St := mkSt 52 [(8, .s (.v .str x8)), (32, .s (.v (.sl (.sl (.pr .tree .tree))) x32)), (33, .s (.v (.int .i64) x33)), (34, .s (.v (.int .i64) x34))] []

def impl_LengthBySpheres_L1a (x8 : ByteArray) (x9 : Int) (x32 : (List (List (Tr × Tr)))) (x33 : Int) (x34 : Int) (x39 : (List (Tr × Tr))) (x40 : Int) (x41 : Int) : St := mkSt 52 [(8, .s (.v .str x8)), (9, .s (.v (.int .i64) x9)), (32, .s (.v (.sl (.sl (.pr .tree .tree))) x32)), (33, .s (.v (.int .i64) x33)), (34, .s (.v (.int .i64) x34)), (39, .s (.v (.sl (.pr .tree .tree)) x39)), (40, .s (.v (.int .i64) x40)), (41, .s (.v (.int .i64) x41))] []

def impl_LengthBySpheres_L1X1 (y4 : Int) (y5 : Bool) : St := mkSt 52 [(4, .s (.v (.int .i64) y4)), (5, .s (.v .bool y5))] []

def impl_LengthBySpheres_L1X2 (y8 : ByteArray) (y9 : Int) (y32 : (List (List (Tr × Tr)))) (y33 : Int) (y34 : Int) (y39 : (List (Tr × Tr))) (y40 : Int) (y41 : Int) (y42 : Bool) : St := mkSt 52 [(8, .s (.v .str y8)), (9, .s (.v (.int .i64) y9)), (32, .s (.v (.sl (.sl (.pr .tree .tree))) y32)), (33, .s (.v (.int .i64) y33)), (34, .s (.v (.int .i64) y34)), (39, .s (.v (.sl (.pr .tree .tree)) y39)), (40, .s (.v (.int .i64) y40)), (41, .s (.v (.int .i64) y41)), (42, .s (.v .bool y42))] []

def impl_LengthBySpheres_L0X1 (y4 : Int) (y5 : Bool) : St := mkSt 52 [(4, .s (.v (.int .i64) y4)), (5, .s (.v .bool y5))] []

def impl_LengthBySpheres_L0X2 (y8 : ByteArray) (y32 : (List (List (Tr × Tr)))) (y33 : Int) (y34 : Int) (y35 : Bool) : St := mkSt 52 [(8, .s (.v .str y8)), (32, .s (.v (.sl (.sl (.pr .tree .tree))) y32)), (33, .s (.v (.int .i64) y33)), (34, .s (.v (.int .i64) y34)), (35, .s (.v .bool y35))] []

theorem impl_LengthBySpheres_L0a_x1 (x8 : ByteArray) (x32 : (List (List (Tr × Tr)))) (x33 : Int) (x34 : Int) (dk1y4 : Int) (dk1y5 : Bool)
    (h1 : x34 < x33)
    (h2 : 0 ≤ x34)
    (h3 : x34 < (List.length x32 : Int))
    (h4 : LoopSC cfg.P 2 (lb P_impl_LengthBySpheres 1) (impl_LengthBySpheres_L1a x8 x34 x32 x33 x34 (List.getD x32 (x34).toNat ([] : List (Tr × Tr))) ((List.length (List.getD x32 (x34).toNat ([] : List (Tr × Tr))) : Nat) : Int) (0 : Int)) (.ret) (impl_LengthBySpheres_L1X1 dk1y4 dk1y5)) :
    LoopSC cfg.P 2 (lb P_impl_LengthBySpheres 0) (impl_LengthBySpheres_L0a x8 x32 x33 x34) (.ret) (impl_LengthBySpheres_L0X1 dk1y4 dk1y5) :=
  loop_out cfgOK (f := i_impl_LengthBySpheres) (its := [.bool true, .loop (fun _ => (.ret, impl_LengthBySpheres_L1X1 dk1y4 dk1y5))])
    (ps := [decide (x34 < x33) = true,
      0 ≤ x34,
      x34 < (List.length x32 : Int),
      LoopSC cfg.P 2 (lb P_impl_LengthBySpheres 1) (impl_LengthBySpheres_L1a x8 x34 x32 x33 x34 (List.getD x32 (x34).toNat ([] : List (Tr × Tr))) ((List.length (List.getD x32 (x34).toNat ([] : List (Tr × Tr))) : Nat) : Int) (0 : Int)) (.ret) (impl_LengthBySpheres_L1X1 dk1y4 dk1y5)]) (by kernel_rfl) ⟨(decide_eq_true h1), h2, h3, h4, trivial⟩ (fun h => by cases h)

theorem impl_LengthBySpheres_L0a_i2 (x8 : ByteArray) (x32 : (List (List (Tr × Tr)))) (x33 : Int) (x34 : Int) (dk1y8 : ByteArray) (dk1y9 : Int) (dk1y32 : (List (List (Tr × Tr)))) (dk1y33 : Int) (dk1y34 : Int) (dk1y39 : (List (Tr × Tr))) (dk1y40 : Int) (dk1y41 : Int) (dk1y42 : Bool)
    (h1 : x34 < x33)
    (h2 : 0 ≤ x34)
    (h3 : x34 < (List.length x32 : Int))
    (h4 : LoopSC cfg.P 2 (lb P_impl_LengthBySpheres 1) (impl_LengthBySpheres_L1a x8 x34 x32 x33 x34 (List.getD x32 (x34).toNat ([] : List (Tr × Tr))) ((List.length (List.getD x32 (x34).toNat ([] : List (Tr × Tr))) : Nat) : Int) (0 : Int)) (.exit 2) (impl_LengthBySpheres_L1X2 dk1y8 dk1y9 dk1y32 dk1y33 dk1y34 dk1y39 dk1y40 dk1y41 dk1y42))
    {e : AEx} {st : St} (next : LoopSC cfg.P 2 (lb P_impl_LengthBySpheres 0) (impl_LengthBySpheres_L0a dk1y8 dk1y32 dk1y33 (IntKind.wrap .i64 (dk1y34 + (1 : Int)))) e st) :
    LoopSC cfg.P 2 (lb P_impl_LengthBySpheres 0) (impl_LengthBySpheres_L0a x8 x32 x33 x34) e st :=
  loop_iter cfgOK (f := i_impl_LengthBySpheres) (its := [.bool true, .loop (fun _ => (.exit 2, impl_LengthBySpheres_L1X2 dk1y8 dk1y9 dk1y32 dk1y33 dk1y34 dk1y39 dk1y40 dk1y41 dk1y42))])
    (ps := [decide (x34 < x33) = true,
      0 ≤ x34,
      x34 < (List.length x32 : Int),
      LoopSC cfg.P 2 (lb P_impl_LengthBySpheres 1) (impl_LengthBySpheres_L1a x8 x34 x32 x33 x34 (List.getD x32 (x34).toNat ([] : List (Tr × Tr))) ((List.length (List.getD x32 (x34).toNat ([] : List (Tr × Tr))) : Nat) : Int) (0 : Int)) (.exit 2) (impl_LengthBySpheres_L1X2 dk1y8 dk1y9 dk1y32 dk1y33 dk1y34 dk1y39 dk1y40 dk1y41 dk1y42)]) (st1 := impl_LengthBySpheres_L0a dk1y8 dk1y32 dk1y33 (IntKind.wrap .i64 (dk1y34 + (1 : Int)))) (by kernel_rfl) ⟨(decide_eq_true h1), h2, h3, h4, trivial⟩ next

theorem impl_LengthBySpheres_L0a_x3 (x8 : ByteArray) (x32 : (List (List (Tr × Tr)))) (x33 : Int) (x34 : Int)
    (h1 : ¬ (x34 < x33)) :
    LoopSC cfg.P 2 (lb P_impl_LengthBySpheres 0) (impl_LengthBySpheres_L0a x8 x32 x33 x34) (.exit 0) (impl_LengthBySpheres_L0X2 x8 x32 x33 x34 false) :=
  loop_out cfgOK (f := i_impl_LengthBySpheres) (its := [.bool false])
    (ps := [decide (x34 < x33) = false]) (by kernel_rfl) ⟨(decide_eq_false h1), trivial⟩ (fun h => by cases h)

theorem impl_LengthBySpheres_L1a_x1 (x8 : ByteArray) (x9 : Int) (x32 : (List (List (Tr × Tr)))) (x33 : Int) (x34 : Int) (x39 : (List (Tr × Tr))) (x40 : Int) (x41 : Int) (dc1 : ByteArray)
    (h1 : x41 < x40)
    (h2 : 0 ≤ x41)
    (h3 : x41 < (List.length x39 : Int))
    (h4 : SC cfg.P i_impl_pair_text [.s (.v (.pr .tree .tree) (List.getD x39 (x41).toNat (Tr.leaf, Tr.leaf)))] (.s (.v .str dc1)) [])
    (h5 : dc1 = x8) :
    LoopSC cfg.P 2 (lb P_impl_LengthBySpheres 1) (impl_LengthBySpheres_L1a x8 x9 x32 x33 x34 x39 x40 x41) (.ret) (impl_LengthBySpheres_L1X1 x9 true) :=
  loop_out cfgOK (f := i_impl_LengthBySpheres) (its := [.bool true, .res (.s (.v .str dc1)) [] [] [], .bool true])
    (ps := [decide (x41 < x40) = true,
      0 ≤ x41,
      x41 < (List.length x39 : Int),
      SC cfg.P i_impl_pair_text [.s (.v (.pr .tree .tree) (List.getD x39 (x41).toNat (Tr.leaf, Tr.leaf)))] (.s (.v .str dc1)) [],
      ((dc1).toList == (x8).toList) = true]) (by kernel_rfl) ⟨(decide_eq_true h1), h2, h3, h4, (seq_t h5), trivial⟩ (fun h => by cases h)

theorem impl_LengthBySpheres_L1a_i2 (x8 : ByteArray) (x9 : Int) (x32 : (List (List (Tr × Tr)))) (x33 : Int) (x34 : Int) (x39 : (List (Tr × Tr))) (x40 : Int) (x41 : Int) (dc1 : ByteArray)
    (h1 : x41 < x40)
    (h2 : 0 ≤ x41)
    (h3 : x41 < (List.length x39 : Int))
    (h4 : SC cfg.P i_impl_pair_text [.s (.v (.pr .tree .tree) (List.getD x39 (x41).toNat (Tr.leaf, Tr.leaf)))] (.s (.v .str dc1)) [])
    (h5 : dc1 ≠ x8)
    {e : AEx} {st : St} (next : LoopSC cfg.P 2 (lb P_impl_LengthBySpheres 1) (impl_LengthBySpheres_L1a x8 x9 x32 x33 x34 x39 x40 (IntKind.wrap .i64 (x41 + (1 : Int)))) e st) :
    LoopSC cfg.P 2 (lb P_impl_LengthBySpheres 1) (impl_LengthBySpheres_L1a x8 x9 x32 x33 x34 x39 x40 x41) e st :=
  loop_iter cfgOK (f := i_impl_LengthBySpheres) (its := [.bool true, .res (.s (.v .str dc1)) [] [] [], .bool false])
    (ps := [decide (x41 < x40) = true,
      0 ≤ x41,
      x41 < (List.length x39 : Int),
      SC cfg.P i_impl_pair_text [.s (.v (.pr .tree .tree) (List.getD x39 (x41).toNat (Tr.leaf, Tr.leaf)))] (.s (.v .str dc1)) [],
      ((dc1).toList == (x8).toList) = false]) (st1 := impl_LengthBySpheres_L1a x8 x9 x32 x33 x34 x39 x40 (IntKind.wrap .i64 (x41 + (1 : Int)))) (by kernel_rfl) ⟨(decide_eq_true h1), h2, h3, h4, (seq_f h5), trivial⟩ next

theorem impl_LengthBySpheres_L1a_x3 (x8 : ByteArray) (x9 : Int) (x32 : (List (List (Tr × Tr)))) (x33 : Int) (x34 : Int) (x39 : (List (Tr × Tr))) (x40 : Int) (x41 : Int)
    (h1 : ¬ (x41 < x40)) :
    LoopSC cfg.P 2 (lb P_impl_LengthBySpheres 1) (impl_LengthBySpheres_L1a x8 x9 x32 x33 x34 x39 x40 x41) (.exit 2) (impl_LengthBySpheres_L1X2 x8 x9 x32 x33 x34 x39 x40 x41 false) :=
  loop_out cfgOK (f := i_impl_LengthBySpheres) (its := [.bool false])
    (ps := [decide (x41 < x40) = false]) (by kernel_rfl) ⟨(decide_eq_false h1), trivial⟩ (fun h => by cases h)

theorem impl_LengthBySpheres_p1 (a0 : (ByteArray × ByteArray)) (a1 : Int) (c1a : (Tr × Tr))
    (h1 : SC cfg.P i_impl_pairOf [.s (.v (.pr .str .str) a0)] (.tup [.v (.pr .tree .tree) c1a, .v .bool true]) [])
    (h2 : a1 < (0 : Int)) :
    SC cfg.P i_impl_LengthBySpheres [.s (.v (.pr .str .str) a0), .s (.v (.int .i64) a1)] (.tup [.v (.int .i64) (0 : Int), .v .bool false]) [] :=
  SC_of_run cfgOK (its := [.res (.tup [.v (.pr .tree .tree) c1a, .v .bool true]) [] [] [], .bool true])
    (ps := [SC cfg.P i_impl_pairOf [.s (.v (.pr .str .str) a0)] (.tup [.v (.pr .tree .tree) c1a, .v .bool true]) [],
      decide (a1 < (0 : Int)) = true]) (by kernel_rfl) ⟨h1, (decide_eq_true h2), trivial⟩ get_impl_LengthBySpheres (by decide)

theorem impl_LengthBySpheres_p2 (a0 : (ByteArray × ByteArray)) (a1 : Int) (c1a : (Tr × Tr))
    (h1 : SC cfg.P i_impl_pairOf [.s (.v (.pr .str .str) a0)] (.tup [.v (.pr .tree .tree) c1a, .v .bool true]) [])
    (h2 : ¬ (a1 < (0 : Int)))
    (h3 : a1 > (5 : Int)) :
    SC cfg.P i_impl_LengthBySpheres [.s (.v (.pr .str .str) a0), .s (.v (.int .i64) a1)] (.tup [.v (.int .i64) (0 : Int), .v .bool false]) [] :=
  SC_of_run cfgOK (its := [.res (.tup [.v (.pr .tree .tree) c1a, .v .bool true]) [] [] [], .bool false, .bool true])
    (ps := [SC cfg.P i_impl_pairOf [.s (.v (.pr .str .str) a0)] (.tup [.v (.pr .tree .tree) c1a, .v .bool true]) [],
      decide (a1 < (0 : Int)) = false,
      decide (a1 > (5 : Int)) = true]) (by kernel_rfl) ⟨h1, (decide_eq_false h2), (decide_eq_true h3), trivial⟩ get_impl_LengthBySpheres (by decide)

theorem impl_LengthBySpheres_p3 (a0 : (ByteArray × ByteArray)) (a1 : Int) (c1a : (Tr × Tr)) (c2 : (Tr × Tr)) (c3 : ByteArray) (c4 : (List (List (Tr × Tr)))) (k1y4 : Int) (k1y5 : Bool)
    (h1 : SC cfg.P i_impl_pairOf [.s (.v (.pr .str .str) a0)] (.tup [.v (.pr .tree .tree) c1a, .v .bool true]) [])
    (h2 : ¬ (a1 < (0 : Int)))
    (h3 : ¬ (a1 > (5 : Int)))
    (h4 : SC cfg.P i_impl_pair_reduced [.s (.v (.pr .tree .tree) c1a)] (.s (.v (.pr .tree .tree) c2)) [])
    (h5 : SC cfg.P i_impl_pair_text [.s (.v (.pr .tree .tree) c2)] (.s (.v .str c3)) [])
    (h6 : SC cfg.P i_impl_spheres [.s (.v (.int .i64) a1)] (.s (.v (.sl (.sl (.pr .tree .tree))) c4)) [])
    (h7 : LoopSC cfg.P 2 (lb P_impl_LengthBySpheres 0) (impl_LengthBySpheres_L0a c3 c4 ((List.length c4 : Nat) : Int) (0 : Int)) (.ret) (impl_LengthBySpheres_L0X1 k1y4 k1y5)) :
    SC cfg.P i_impl_LengthBySpheres [.s (.v (.pr .str .str) a0), .s (.v (.int .i64) a1)] (.tup [.v (.int .i64) k1y4, .v .bool k1y5]) [] :=
  SC_of_run cfgOK (its := [.res (.tup [.v (.pr .tree .tree) c1a, .v .bool true]) [] [] [], .bool false, .bool false, .res (.s (.v (.pr .tree .tree) c2)) [] [] [], .res (.s (.v .str c3)) [] [] [], .res (.s (.v (.sl (.sl (.pr .tree .tree))) c4)) [] [] [], .loop (fun _ => (.ret, impl_LengthBySpheres_L0X1 k1y4 k1y5))])
    (ps := [SC cfg.P i_impl_pairOf [.s (.v (.pr .str .str) a0)] (.tup [.v (.pr .tree .tree) c1a, .v .bool true]) [],
      decide (a1 < (0 : Int)) = false,
      decide (a1 > (5 : Int)) = false,
      SC cfg.P i_impl_pair_reduced [.s (.v (.pr .tree .tree) c1a)] (.s (.v (.pr .tree .tree) c2)) [],
      SC cfg.P i_impl_pair_text [.s (.v (.pr .tree .tree) c2)] (.s (.v .str c3)) [],
      SC cfg.P i_impl_spheres [.s (.v (.int .i64) a1)] (.s (.v (.sl (.sl (.pr .tree .tree))) c4)) [],
      LoopSC cfg.P 2 (lb P_impl_LengthBySpheres 0) (impl_LengthBySpheres_L0a c3 c4 ((List.length c4 : Nat) : Int) (0 : Int)) (.ret) (impl_LengthBySpheres_L0X1 k1y4 k1y5)]) (by kernel_rfl) ⟨h1, (decide_eq_false h2), (decide_eq_false h3), h4, h5, h6, h7, trivial⟩ get_impl_LengthBySpheres (by decide)

theorem impl_LengthBySpheres_p4 (a0 : (ByteArray × ByteArray)) (a1 : Int) (c1a : (Tr × Tr)) (c2 : (Tr × Tr)) (c3 : ByteArray) (c4 : (List (List (Tr × Tr)))) (k1y8 : ByteArray) (k1y32 : (List (List (Tr × Tr)))) (k1y33 : Int) (k1y34 : Int) (k1y35 : Bool)
    (h1 : SC cfg.P i_impl_pairOf [.s (.v (.pr .str .str) a0)] (.tup [.v (.pr .tree .tree) c1a, .v .bool true]) [])
    (h2 : ¬ (a1 < (0 : Int)))
    (h3 : ¬ (a1 > (5 : Int)))
    (h4 : SC cfg.P i_impl_pair_reduced [.s (.v (.pr .tree .tree) c1a)] (.s (.v (.pr .tree .tree) c2)) [])
    (h5 : SC cfg.P i_impl_pair_text [.s (.v (.pr .tree .tree) c2)] (.s (.v .str c3)) [])
    (h6 : SC cfg.P i_impl_spheres [.s (.v (.int .i64) a1)] (.s (.v (.sl (.sl (.pr .tree .tree))) c4)) [])
    (h7 : LoopSC cfg.P 2 (lb P_impl_LengthBySpheres 0) (impl_LengthBySpheres_L0a c3 c4 ((List.length c4 : Nat) : Int) (0 : Int)) (.exit 0) (impl_LengthBySpheres_L0X2 k1y8 k1y32 k1y33 k1y34 k1y35)) :
    SC cfg.P i_impl_LengthBySpheres [.s (.v (.pr .str .str) a0), .s (.v (.int .i64) a1)] (.tup [.v (.int .i64) (0 : Int), .v .bool false]) [] :=
  SC_of_run cfgOK (its := [.res (.tup [.v (.pr .tree .tree) c1a, .v .bool true]) [] [] [], .bool false, .bool false, .res (.s (.v (.pr .tree .tree) c2)) [] [] [], .res (.s (.v .str c3)) [] [] [], .res (.s (.v (.sl (.sl (.pr .tree .tree))) c4)) [] [] [], .loop (fun _ => (.exit 0, impl_LengthBySpheres_L0X2 k1y8 k1y32 k1y33 k1y34 k1y35))])
    (ps := [SC cfg.P i_impl_pairOf [.s (.v (.pr .str .str) a0)] (.tup [.v (.pr .tree .tree) c1a, .v .bool true]) [],
      decide (a1 < (0 : Int)) = false,
      decide (a1 > (5 : Int)) = false,
      SC cfg.P i_impl_pair_reduced [.s (.v (.pr .tree .tree) c1a)] (.s (.v (.pr .tree .tree) c2)) [],
      SC cfg.P i_impl_pair_text [.s (.v (.pr .tree .tree) c2)] (.s (.v .str c3)) [],
      SC cfg.P i_impl_spheres [.s (.v (.int .i64) a1)] (.s (.v (.sl (.sl (.pr .tree .tree))) c4)) [],
      LoopSC cfg.P 2 (lb P_impl_LengthBySpheres 0) (impl_LengthBySpheres_L0a c3 c4 ((List.length c4 : Nat) : Int) (0 : Int)) (.exit 0) (impl_LengthBySpheres_L0X2 k1y8 k1y32 k1y33 k1y34 k1y35)]) (by kernel_rfl) ⟨h1, (decide_eq_false h2), (decide_eq_false h3), h4, h5, h6, h7, trivial⟩ get_impl_LengthBySpheres (by decide)

theorem impl_LengthBySpheres_p5 (a0 : (ByteArray × ByteArray)) (a1 : Int) (c1a : (Tr × Tr))
    (h1 : SC cfg.P i_impl_pairOf [.s (.v (.pr .str .str) a0)] (.tup [.v (.pr .tree .tree) c1a, .v .bool false]) []) :
    SC cfg.P i_impl_LengthBySpheres [.s (.v (.pr .str .str) a0), .s (.v (.int .i64) a1)] (.tup [.v (.int .i64) (0 : Int), .v .bool false]) [] :=
  SC_of_run cfgOK (its := [.res (.tup [.v (.pr .tree .tree) c1a, .v .bool false]) [] [] []])
    (ps := [SC cfg.P i_impl_pairOf [.s (.v (.pr .str .str) a0)] (.tup [.v (.pr .tree .tree) c1a, .v .bool false]) []]) (by kernel_rfl) ⟨h1, trivial⟩ get_impl_LengthBySpheres (by decide)

end Go.AI
