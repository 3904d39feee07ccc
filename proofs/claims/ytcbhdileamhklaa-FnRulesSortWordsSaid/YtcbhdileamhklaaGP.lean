/- A part of the road: what it proves stands in its last texts. -/
import Derived.Test.YtcbhdileamhklaaSIds
import Derived.Test.YtcbhdileamhklaaProg
set_option autoImplicit false
set_option maxRecDepth 100000
set_option linter.unusedVariables false
namespace Go.AI
open Go.Proofs

/-! ### impl_PairOfWord -/


theorem impl_PairOfWord_p1 (a0 : (List Int)) (c2a : (Tr × Tr)) (c3 : (ByteArray × ByteArray))
    (h1 : SC cfg.P i_impl_IsWord [.s (.v (.sl (.int .i64)) a0)] (.s (.v .bool true)) [])
    (h2 : SC cfg.P i_impl_pairOfWord [.s (.v (.sl (.int .i64)) a0)] (.tup [.v (.pr .tree .tree) c2a, .v .bool true]) [])
    (h3 : SC cfg.P i_impl_pair_plain [.s (.v (.pr .tree .tree) c2a)] (.s (.v (.pr .str .str) c3)) []) :
    SC cfg.P i_impl_PairOfWord [.s (.v (.sl (.int .i64)) a0)] (.tup [.v (.pr .str .str) c3, .v .bool true]) [] :=
  SC_of_run cfgOK (its := [.res (.s (.v .bool true)) [] [] [], .res (.tup [.v (.pr .tree .tree) c2a, .v .bool true]) [] [] [], .res (.s (.v (.pr .str .str) c3)) [] [] []])
    (ps := [SC cfg.P i_impl_IsWord [.s (.v (.sl (.int .i64)) a0)] (.s (.v .bool true)) [],
      SC cfg.P i_impl_pairOfWord [.s (.v (.sl (.int .i64)) a0)] (.tup [.v (.pr .tree .tree) c2a, .v .bool true]) [],
      SC cfg.P i_impl_pair_plain [.s (.v (.pr .tree .tree) c2a)] (.s (.v (.pr .str .str) c3)) []]) (by kernel_rfl) ⟨h1, h2, h3, trivial⟩ get_impl_PairOfWord (by decide)

theorem impl_PairOfWord_p2 (a0 : (List Int)) (c2a : (Tr × Tr))
    (h1 : SC cfg.P i_impl_IsWord [.s (.v (.sl (.int .i64)) a0)] (.s (.v .bool true)) [])
    (h2 : SC cfg.P i_impl_pairOfWord [.s (.v (.sl (.int .i64)) a0)] (.tup [.v (.pr .tree .tree) c2a, .v .bool false]) []) :
    SC cfg.P i_impl_PairOfWord [.s (.v (.sl (.int .i64)) a0)] (.tup [.v (.pr .str .str) ((⟨#[]⟩ : ByteArray), (⟨#[]⟩ : ByteArray)), .v .bool false]) [] :=
  SC_of_run cfgOK (its := [.res (.s (.v .bool true)) [] [] [], .res (.tup [.v (.pr .tree .tree) c2a, .v .bool false]) [] [] []])
    (ps := [SC cfg.P i_impl_IsWord [.s (.v (.sl (.int .i64)) a0)] (.s (.v .bool true)) [],
      SC cfg.P i_impl_pairOfWord [.s (.v (.sl (.int .i64)) a0)] (.tup [.v (.pr .tree .tree) c2a, .v .bool false]) []]) (by kernel_rfl) ⟨h1, h2, trivial⟩ get_impl_PairOfWord (by decide)

theorem impl_PairOfWord_p3 (a0 : (List Int))
    (h1 : SC cfg.P i_impl_IsWord [.s (.v (.sl (.int .i64)) a0)] (.s (.v .bool false)) []) :
    SC cfg.P i_impl_PairOfWord [.s (.v (.sl (.int .i64)) a0)] (.tup [.v (.pr .str .str) ((⟨#[]⟩ : ByteArray), (⟨#[]⟩ : ByteArray)), .v .bool false]) [] :=
  SC_of_run cfgOK (its := [.res (.s (.v .bool false)) [] [] []])
    (ps := [SC cfg.P i_impl_IsWord [.s (.v (.sl (.int .i64)) a0)] (.s (.v .bool false)) []]) (by kernel_rfl) ⟨h1, trivial⟩ get_impl_PairOfWord (by decide)

/-! ### impl_pairOfWord -/


def impl_pairOfWord_L0a (x0 : (List Int)) (x9 : (List Int)) (x10 : Int) (x11 : Int) (xo2 : (Tr × Tr)) (xo4 : (Tr × Tr)) : St := mkSt 37 [(0, .s (.v (.sl (.int .i64)) x0)), (2, .s (.adr 2 none)), (4, .s (.adr 4 none)), (9, .s (.v (.sl (.int .i64)) x9)), (10, .s (.v (.int .i64) x10)), (11, .s (.v (.int .i64) x11))] [(2, .box (.pr .tree .tree) xo2 false), (4, .box (.pr .tree .tree) xo4 false)]

def impl_pairOfWord_L0X1 (y3 : Bool) (yo2 : (Tr × Tr)) : St := mkSt 37 [(2, .s (.adr 2 none)), (3, .s (.v .bool y3))] [(2, .box (.pr .tree .tree) yo2 false)]

def impl_pairOfWord_L0X2 (y0 : (List Int)) (y9 : (List Int)) (y10 : Int) (y11 : Int) (y12 : Bool) (yo2 : (Tr × Tr)) (yo4 : (Tr × Tr)) : St := mkSt 37 [(0, .s (.v (.sl (.int .i64)) y0)), (2, .s (.adr 2 none)), (4, .s (.adr 4 none)), (9, .s (.v (.sl (.int .i64)) y9)), (10, .s (.v (.int .i64) y10)), (11, .s (.v (.int .i64) y11)), (12, .s (.v .bool y12))] [(2, .box (.pr .tree .tree) yo2 false), (4, .box (.pr .tree .tree) yo4 false)]

def impl_pairOfWord_L1a (x20 : (List Int)) (x21 : Int) (x22 : Int) (xo2 : (Tr × Tr)) (xo4 : (Tr × Tr)) : St := mkSt 37 [(2, .s (.adr 2 none)), (4, .s (.adr 4 none)), (20, .s (.v (.sl (.int .i64)) x20)), (21, .s (.v (.int .i64) x21)), (22, .s (.v (.int .i64) x22))] [(2, .box (.pr .tree .tree) xo2 false), (4, .box (.pr .tree .tree) xo4 false)]

def impl_pairOfWord_L1X1 (y3 : Bool) (yo2 : (Tr × Tr)) : St := mkSt 37 [(2, .s (.adr 2 none)), (3, .s (.v .bool y3))] [(2, .box (.pr .tree .tree) yo2 false)]

def impl_pairOfWord_L1X2 (y20 : (List Int)) (y21 : Int) (y22 : Int) (y23 : Bool) (yo2 : (Tr × Tr)) (yo4 : (Tr × Tr)) : St := mkSt 37 [(2, .s (.adr 2 none)), (4, .s (.adr 4 none)), (20, .s (.v (.sl (.int .i64)) y20)), (21, .s (.v (.int .i64) y21)), (22, .s (.v (.int .i64) y22)), (23, .s (.v .bool y23))] [(2, .box (.pr .tree .tree) yo2 false), (4, .box (.pr .tree .tree) yo4 false)]

theorem impl_pairOfWord_L0a_x1 (x0 : (List Int)) (x9 : (List Int)) (x10 : Int) (x11 : Int) (xo2 : (Tr × Tr)) (xo4 : (Tr × Tr)) (dc1 : Int)
    (h1 : x11 < x10)
    (h2 : 0 ≤ x11)
    (h3 : x11 < (List.length x9 : Int))
    (h4 : SC cfg.P i_impl_size [.s (.v (.int .i64) (List.getD x9 (x11).toNat (0 : Int)))] (.s (.v (.int .i64) dc1)) [])
    (h5 : dc1 > (7 : Int)) :
    LoopSC cfg.P 1 (lb P_impl_pairOfWord 0) (impl_pairOfWord_L0a x0 x9 x10 x11 xo2 xo4) (.ret) (impl_pairOfWord_L0X1 false (Tr.leaf, Tr.leaf)) :=
  loop_out cfgOK (f := i_impl_pairOfWord) (its := [.bool true, .res (.s (.v (.int .i64) dc1)) [] [] [], .bool true])
    (ps := [decide (x11 < x10) = true,
      0 ≤ x11,
      x11 < (List.length x9 : Int),
      SC cfg.P i_impl_size [.s (.v (.int .i64) (List.getD x9 (x11).toNat (0 : Int)))] (.s (.v (.int .i64) dc1)) [],
      decide (dc1 > (7 : Int)) = true]) (by kernel_rfl) ⟨(decide_eq_true h1), h2, h3, h4, (decide_eq_true h5), trivial⟩ (fun h => by cases h)

theorem impl_pairOfWord_L0a_i2 (x0 : (List Int)) (x9 : (List Int)) (x10 : Int) (x11 : Int) (xo2 : (Tr × Tr)) (xo4 : (Tr × Tr)) (dc1 : Int)
    (h1 : x11 < x10)
    (h2 : 0 ≤ x11)
    (h3 : x11 < (List.length x9 : Int))
    (h4 : SC cfg.P i_impl_size [.s (.v (.int .i64) (List.getD x9 (x11).toNat (0 : Int)))] (.s (.v (.int .i64) dc1)) [])
    (h5 : ¬ (dc1 > (7 : Int)))
    {e : AEx} {st : St} (next : LoopSC cfg.P 1 (lb P_impl_pairOfWord 0) (impl_pairOfWord_L0a x0 x9 x10 (IntKind.wrap .i64 (x11 + (1 : Int))) xo2 xo4) e st) :
    LoopSC cfg.P 1 (lb P_impl_pairOfWord 0) (impl_pairOfWord_L0a x0 x9 x10 x11 xo2 xo4) e st :=
  loop_iter cfgOK (f := i_impl_pairOfWord) (its := [.bool true, .res (.s (.v (.int .i64) dc1)) [] [] [], .bool false])
    (ps := [decide (x11 < x10) = true,
      0 ≤ x11,
      x11 < (List.length x9 : Int),
      SC cfg.P i_impl_size [.s (.v (.int .i64) (List.getD x9 (x11).toNat (0 : Int)))] (.s (.v (.int .i64) dc1)) [],
      decide (dc1 > (7 : Int)) = false]) (st1 := impl_pairOfWord_L0a x0 x9 x10 (IntKind.wrap .i64 (x11 + (1 : Int))) xo2 xo4) (by kernel_rfl) ⟨(decide_eq_true h1), h2, h3, h4, (decide_eq_false h5), trivial⟩ next

theorem impl_pairOfWord_L0a_x3 (x0 : (List Int)) (x9 : (List Int)) (x10 : Int) (x11 : Int) (xo2 : (Tr × Tr)) (xo4 : (Tr × Tr))
    (h1 : ¬ (x11 < x10)) :
    LoopSC cfg.P 1 (lb P_impl_pairOfWord 0) (impl_pairOfWord_L0a x0 x9 x10 x11 xo2 xo4) (.exit 0) (impl_pairOfWord_L0X2 x0 x9 x10 x11 false xo2 xo4) :=
  loop_out cfgOK (f := i_impl_pairOfWord) (its := [.bool false])
    (ps := [decide (x11 < x10) = false]) (by kernel_rfl) ⟨(decide_eq_false h1), trivial⟩ (fun h => by cases h)

theorem impl_pairOfWord_L1a_x1 (x20 : (List Int)) (x21 : Int) (x22 : Int) (xo2 : (Tr × Tr)) (xo4 : (Tr × Tr)) (dc1 : (Tr × Tr)) (dc2 : (Tr × Tr)) (dc3 : Int)
    (h1 : x22 < x21)
    (h2 : 0 ≤ x22)
    (h3 : x22 < (List.length x20 : Int))
    (h4 : SC cfg.P i_impl_letter [.s (.v (.int .i64) (List.getD x20 (x22).toNat (0 : Int)))] (.s (.v (.pr .tree .tree) dc1)) [])
    (h5 : SC cfg.P i_impl_pair_times [.s (.v (.pr .tree .tree) xo4), .s (.v (.pr .tree .tree) dc1)] (.s (.v (.pr .tree .tree) dc2)) [])
    (h6 : SC cfg.P i_impl_node_carets [.s (.v .tree dc2.1)] (.s (.v (.int .i64) dc3)) [])
    (h7 : dc3 > (8 : Int)) :
    LoopSC cfg.P 1 (lb P_impl_pairOfWord 1) (impl_pairOfWord_L1a x20 x21 x22 xo2 xo4) (.ret) (impl_pairOfWord_L1X1 false (Tr.leaf, Tr.leaf)) :=
  loop_out cfgOK (f := i_impl_pairOfWord) (its := [.bool true, .res (.s (.v (.pr .tree .tree) dc1)) [] [] [], .res (.s (.v (.pr .tree .tree) dc2)) [] [] [], .res (.s (.v (.int .i64) dc3)) [] [] [], .bool true])
    (ps := [decide (x22 < x21) = true,
      0 ≤ x22,
      x22 < (List.length x20 : Int),
      SC cfg.P i_impl_letter [.s (.v (.int .i64) (List.getD x20 (x22).toNat (0 : Int)))] (.s (.v (.pr .tree .tree) dc1)) [],
      SC cfg.P i_impl_pair_times [.s (.v (.pr .tree .tree) xo4), .s (.v (.pr .tree .tree) dc1)] (.s (.v (.pr .tree .tree) dc2)) [],
      SC cfg.P i_impl_node_carets [.s (.v .tree dc2.1)] (.s (.v (.int .i64) dc3)) [],
      decide (dc3 > (8 : Int)) = true]) (by kernel_rfl) ⟨(decide_eq_true h1), h2, h3, h4, h5, h6, (decide_eq_true h7), trivial⟩ (fun h => by cases h)

theorem impl_pairOfWord_L1a_i2 (x20 : (List Int)) (x21 : Int) (x22 : Int) (xo2 : (Tr × Tr)) (xo4 : (Tr × Tr)) (dc1 : (Tr × Tr)) (dc2 : (Tr × Tr)) (dc3 : Int)
    (h1 : x22 < x21)
    (h2 : 0 ≤ x22)
    (h3 : x22 < (List.length x20 : Int))
    (h4 : SC cfg.P i_impl_letter [.s (.v (.int .i64) (List.getD x20 (x22).toNat (0 : Int)))] (.s (.v (.pr .tree .tree) dc1)) [])
    (h5 : SC cfg.P i_impl_pair_times [.s (.v (.pr .tree .tree) xo4), .s (.v (.pr .tree .tree) dc1)] (.s (.v (.pr .tree .tree) dc2)) [])
    (h6 : SC cfg.P i_impl_node_carets [.s (.v .tree dc2.1)] (.s (.v (.int .i64) dc3)) [])
    (h7 : ¬ (dc3 > (8 : Int)))
    {e : AEx} {st : St} (next : LoopSC cfg.P 1 (lb P_impl_pairOfWord 1) (impl_pairOfWord_L1a x20 x21 (IntKind.wrap .i64 (x22 + (1 : Int))) xo2 dc2) e st) :
    LoopSC cfg.P 1 (lb P_impl_pairOfWord 1) (impl_pairOfWord_L1a x20 x21 x22 xo2 xo4) e st :=
  loop_iter cfgOK (f := i_impl_pairOfWord) (its := [.bool true, .res (.s (.v (.pr .tree .tree) dc1)) [] [] [], .res (.s (.v (.pr .tree .tree) dc2)) [] [] [], .res (.s (.v (.int .i64) dc3)) [] [] [], .bool false])
    (ps := [decide (x22 < x21) = true,
      0 ≤ x22,
      x22 < (List.length x20 : Int),
      SC cfg.P i_impl_letter [.s (.v (.int .i64) (List.getD x20 (x22).toNat (0 : Int)))] (.s (.v (.pr .tree .tree) dc1)) [],
      SC cfg.P i_impl_pair_times [.s (.v (.pr .tree .tree) xo4), .s (.v (.pr .tree .tree) dc1)] (.s (.v (.pr .tree .tree) dc2)) [],
      SC cfg.P i_impl_node_carets [.s (.v .tree dc2.1)] (.s (.v (.int .i64) dc3)) [],
      decide (dc3 > (8 : Int)) = false]) (st1 := impl_pairOfWord_L1a x20 x21 (IntKind.wrap .i64 (x22 + (1 : Int))) xo2 dc2) (by kernel_rfl) ⟨(decide_eq_true h1), h2, h3, h4, h5, h6, (decide_eq_false h7), trivial⟩ next

theorem impl_pairOfWord_L1a_x3 (x20 : (List Int)) (x21 : Int) (x22 : Int) (xo2 : (Tr × Tr)) (xo4 : (Tr × Tr))
    (h1 : ¬ (x22 < x21)) :
    LoopSC cfg.P 1 (lb P_impl_pairOfWord 1) (impl_pairOfWord_L1a x20 x21 x22 xo2 xo4) (.exit 2) (impl_pairOfWord_L1X2 x20 x21 x22 false xo2 xo4) :=
  loop_out cfgOK (f := i_impl_pairOfWord) (its := [.bool false])
    (ps := [decide (x22 < x21) = false]) (by kernel_rfl) ⟨(decide_eq_false h1), trivial⟩ (fun h => by cases h)

theorem impl_pairOfWord_p1 (a0 : (List Int)) (k1y3 : Bool) (k1yo2 : (Tr × Tr))
    (h1 : LoopSC cfg.P 1 (lb P_impl_pairOfWord 0) (impl_pairOfWord_L0a a0 a0 ((List.length a0 : Nat) : Int) (0 : Int) (Tr.leaf, Tr.leaf) (Tr.leaf, Tr.leaf)) (.ret) (impl_pairOfWord_L0X1 k1y3 k1yo2)) :
    SC cfg.P i_impl_pairOfWord [.s (.v (.sl (.int .i64)) a0)] (.tup [.v (.pr .tree .tree) k1yo2, .v .bool k1y3]) [] :=
  SC_of_run cfgOK (its := [.loop (fun _ => (.ret, impl_pairOfWord_L0X1 k1y3 k1yo2))])
    (ps := [LoopSC cfg.P 1 (lb P_impl_pairOfWord 0) (impl_pairOfWord_L0a a0 a0 ((List.length a0 : Nat) : Int) (0 : Int) (Tr.leaf, Tr.leaf) (Tr.leaf, Tr.leaf)) (.ret) (impl_pairOfWord_L0X1 k1y3 k1yo2)]) (by kernel_rfl) ⟨h1, trivial⟩ get_impl_pairOfWord (by decide)

theorem impl_pairOfWord_p2 (a0 : (List Int)) (k1y0 : (List Int)) (k1y9 : (List Int)) (k1y10 : Int) (k1y11 : Int) (k1y12 : Bool) (k1yo2 : (Tr × Tr)) (k1yo4 : (Tr × Tr)) (k2y3 : Bool) (k2yo2 : (Tr × Tr))
    (h1 : LoopSC cfg.P 1 (lb P_impl_pairOfWord 0) (impl_pairOfWord_L0a a0 a0 ((List.length a0 : Nat) : Int) (0 : Int) (Tr.leaf, Tr.leaf) (Tr.leaf, Tr.leaf)) (.exit 0) (impl_pairOfWord_L0X2 k1y0 k1y9 k1y10 k1y11 k1y12 k1yo2 k1yo4))
    (h2 : LoopSC cfg.P 1 (lb P_impl_pairOfWord 1) (impl_pairOfWord_L1a k1y0 ((List.length k1y0 : Nat) : Int) (0 : Int) k1yo2 k1yo4) (.ret) (impl_pairOfWord_L1X1 k2y3 k2yo2)) :
    SC cfg.P i_impl_pairOfWord [.s (.v (.sl (.int .i64)) a0)] (.tup [.v (.pr .tree .tree) k2yo2, .v .bool k2y3]) [] :=
  SC_of_run cfgOK (its := [.loop (fun _ => (.exit 0, impl_pairOfWord_L0X2 k1y0 k1y9 k1y10 k1y11 k1y12 k1yo2 k1yo4)), .loop (fun _ => (.ret, impl_pairOfWord_L1X1 k2y3 k2yo2))])
    (ps := [LoopSC cfg.P 1 (lb P_impl_pairOfWord 0) (impl_pairOfWord_L0a a0 a0 ((List.length a0 : Nat) : Int) (0 : Int) (Tr.leaf, Tr.leaf) (Tr.leaf, Tr.leaf)) (.exit 0) (impl_pairOfWord_L0X2 k1y0 k1y9 k1y10 k1y11 k1y12 k1yo2 k1yo4),
      LoopSC cfg.P 1 (lb P_impl_pairOfWord 1) (impl_pairOfWord_L1a k1y0 ((List.length k1y0 : Nat) : Int) (0 : Int) k1yo2 k1yo4) (.ret) (impl_pairOfWord_L1X1 k2y3 k2yo2)]) (by kernel_rfl) ⟨h1, h2, trivial⟩ get_impl_pairOfWord (by decide)

theorem impl_pairOfWord_p3 (a0 : (List Int)) (k1y0 : (List Int)) (k1y9 : (List Int)) (k1y10 : Int) (k1y11 : Int) (k1y12 : Bool) (k1yo2 : (Tr × Tr)) (k1yo4 : (Tr × Tr)) (k2y20 : (List Int)) (k2y21 : Int) (k2y22 : Int) (k2y23 : Bool) (k2yo2 : (Tr × Tr)) (k2yo4 : (Tr × Tr))
    (h1 : LoopSC cfg.P 1 (lb P_impl_pairOfWord 0) (impl_pairOfWord_L0a a0 a0 ((List.length a0 : Nat) : Int) (0 : Int) (Tr.leaf, Tr.leaf) (Tr.leaf, Tr.leaf)) (.exit 0) (impl_pairOfWord_L0X2 k1y0 k1y9 k1y10 k1y11 k1y12 k1yo2 k1yo4))
    (h2 : LoopSC cfg.P 1 (lb P_impl_pairOfWord 1) (impl_pairOfWord_L1a k1y0 ((List.length k1y0 : Nat) : Int) (0 : Int) k1yo2 k1yo4) (.exit 2) (impl_pairOfWord_L1X2 k2y20 k2y21 k2y22 k2y23 k2yo2 k2yo4)) :
    SC cfg.P i_impl_pairOfWord [.s (.v (.sl (.int .i64)) a0)] (.tup [.v (.pr .tree .tree) k2yo4, .v .bool true]) [] :=
  SC_of_run cfgOK (its := [.loop (fun _ => (.exit 0, impl_pairOfWord_L0X2 k1y0 k1y9 k1y10 k1y11 k1y12 k1yo2 k1yo4)), .loop (fun _ => (.exit 2, impl_pairOfWord_L1X2 k2y20 k2y21 k2y22 k2y23 k2yo2 k2yo4))])
    (ps := [LoopSC cfg.P 1 (lb P_impl_pairOfWord 0) (impl_pairOfWord_L0a a0 a0 ((List.length a0 : Nat) : Int) (0 : Int) (Tr.leaf, Tr.leaf) (Tr.leaf, Tr.leaf)) (.exit 0) (impl_pairOfWord_L0X2 k1y0 k1y9 k1y10 k1y11 k1y12 k1yo2 k1yo4),
      LoopSC cfg.P 1 (lb P_impl_pairOfWord 1) (impl_pairOfWord_L1a k1y0 ((List.length k1y0 : Nat) : Int) (0 : Int) k1yo2 k1yo4) (.exit 2) (impl_pairOfWord_L1X2 k2y20 k2y21 k2y22 k2y23 k2yo2 k2yo4)]) (by kernel_rfl) ⟨h1, h2, trivial⟩ get_impl_pairOfWord (by decide)

/-! ### impl_letter -/


theorem impl_letter_p1 (a0 : Int) (c1 : Int) (c2 : (Tr × Tr)) (c3 : (Tr × Tr))
    (h1 : SC cfg.P i_impl_size [.s (.v (.int .i64) a0)] (.s (.v (.int .i64) c1)) [])
    (h2 : SC cfg.P i_impl_generator [.s (.v (.int .i64) (IntKind.wrap .i64 (c1 - (1 : Int))))] (.s (.v (.pr .tree .tree) c2)) [])
    (h3 : a0 < (0 : Int))
    (h4 : SC cfg.P i_impl_pair_inverse [.s (.v (.pr .tree .tree) c2)] (.s (.v (.pr .tree .tree) c3)) []) :
    SC cfg.P i_impl_letter [.s (.v (.int .i64) a0)] (.s (.v (.pr .tree .tree) c3)) [] :=
  SC_of_run cfgOK (its := [.res (.s (.v (.int .i64) c1)) [] [] [], .res (.s (.v (.pr .tree .tree) c2)) [] [] [], .bool true, .res (.s (.v (.pr .tree .tree) c3)) [] [] []])
    (ps := [SC cfg.P i_impl_size [.s (.v (.int .i64) a0)] (.s (.v (.int .i64) c1)) [],
      SC cfg.P i_impl_generator [.s (.v (.int .i64) (IntKind.wrap .i64 (c1 - (1 : Int))))] (.s (.v (.pr .tree .tree) c2)) [],
      decide (a0 < (0 : Int)) = true,
      SC cfg.P i_impl_pair_inverse [.s (.v (.pr .tree .tree) c2)] (.s (.v (.pr .tree .tree) c3)) []]) (by kernel_rfl) ⟨h1, h2, (decide_eq_true h3), h4, trivial⟩ get_impl_letter (by decide)

theorem impl_letter_p2 (a0 : Int) (c1 : Int) (c2 : (Tr × Tr))
    (h1 : SC cfg.P i_impl_size [.s (.v (.int .i64) a0)] (.s (.v (.int .i64) c1)) [])
    (h2 : SC cfg.P i_impl_generator [.s (.v (.int .i64) (IntKind.wrap .i64 (c1 - (1 : Int))))] (.s (.v (.pr .tree .tree) c2)) [])
    (h3 : ¬ (a0 < (0 : Int))) :
    SC cfg.P i_impl_letter [.s (.v (.int .i64) a0)] (.s (.v (.pr .tree .tree) c2)) [] :=
  SC_of_run cfgOK (its := [.res (.s (.v (.int .i64) c1)) [] [] [], .res (.s (.v (.pr .tree .tree) c2)) [] [] [], .bool false])
    (ps := [SC cfg.P i_impl_size [.s (.v (.int .i64) a0)] (.s (.v (.int .i64) c1)) [],
      SC cfg.P i_impl_generator [.s (.v (.int .i64) (IntKind.wrap .i64 (c1 - (1 : Int))))] (.s (.v (.pr .tree .tree) c2)) [],
      decide (a0 < (0 : Int)) = false]) (by kernel_rfl) ⟨h1, h2, (decide_eq_false h3), trivial⟩ get_impl_letter (by decide)

/-! ### impl_generator -/


theorem impl_generator_p1 (a0 : Int) (c1 : Tr) (c2 : Tr) (c3 : Tr)
    (h1 : SC cfg.P i_impl_rightComb [.s (.v (.int .i64) a0)] (.s (.v .tree c1)) [])
    (h2 : SC cfg.P i_impl_node_graft [.s (.v .tree c1), .s (.v (.int .i64) a0), .s (.v .tree (Tr.node (Tr.node Tr.leaf Tr.leaf) Tr.leaf))] (.s (.v .tree c2)) [])
    (h3 : SC cfg.P i_impl_rightComb [.s (.v (.int .i64) (IntKind.wrap .i64 (a0 + (2 : Int))))] (.s (.v .tree c3)) []) :
    SC cfg.P i_impl_generator [.s (.v (.int .i64) a0)] (.s (.v (.pr .tree .tree) (c2, c3))) [] :=
  SC_of_run cfgOK (its := [.res (.s (.v .tree c1)) [] [] [], .res (.s (.v .tree c2)) [] [] [], .res (.s (.v .tree c3)) [] [] []])
    (ps := [SC cfg.P i_impl_rightComb [.s (.v (.int .i64) a0)] (.s (.v .tree c1)) [],
      SC cfg.P i_impl_node_graft [.s (.v .tree c1), .s (.v (.int .i64) a0), .s (.v .tree (Tr.node (Tr.node Tr.leaf Tr.leaf) Tr.leaf))] (.s (.v .tree c2)) [],
      SC cfg.P i_impl_rightComb [.s (.v (.int .i64) (IntKind.wrap .i64 (a0 + (2 : Int))))] (.s (.v .tree c3)) []]) (by kernel_rfl) ⟨h1, h2, h3, trivial⟩ get_impl_generator (by decide)

/-! ### impl_pair_inverse -/


theorem impl_pair_inverse_p1 (a0 : (Tr × Tr))
     :
    SC cfg.P i_impl_pair_inverse [.s (.v (.pr .tree .tree) a0)] (.s (.v (.pr .tree .tree) (a0.2, a0.1))) [] :=
  SC_of_run cfgOK (its := [])
    (ps := []) (by kernel_rfl) trivial get_impl_pair_inverse (by decide)

/-! ### impl_rightComb -/


def impl_rightComb_L0a (x3 : Tr) (x4 : Int) (x5 : Int) : St := mkSt 12 [(3, .s (.v .tree x3)), (4, .s (.v (.int .i64) x4)), (5, .s (.v (.int .i64) x5))] []

def impl_rightComb_L0X1 (y3 : Tr) (y4 : Int) (y5 : Int) (y6 : Bool) : St := mkSt 12 [(3, .s (.v .tree y3)), (4, .s (.v (.int .i64) y4)), (5, .s (.v (.int .i64) y5)), (6, .s (.v .bool y6))] []

theorem impl_rightComb_L0a_i1 (x3 : Tr) (x4 : Int) (x5 : Int)
    (h1 : x5 < x4)
    {e : AEx} {st : St} (next : LoopSC cfg.P 1 (lb P_impl_rightComb 0) (impl_rightComb_L0a (Tr.node Tr.leaf x3) x4 (IntKind.wrap .i64 (x5 + (1 : Int)))) e st) :
    LoopSC cfg.P 1 (lb P_impl_rightComb 0) (impl_rightComb_L0a x3 x4 x5) e st :=
  loop_iter cfgOK (f := i_impl_rightComb) (its := [.bool true])
    (ps := [decide (x5 < x4) = true]) (st1 := impl_rightComb_L0a (Tr.node Tr.leaf x3) x4 (IntKind.wrap .i64 (x5 + (1 : Int)))) (by kernel_rfl) ⟨(decide_eq_true h1), trivial⟩ next

theorem impl_rightComb_L0a_x2 (x3 : Tr) (x4 : Int) (x5 : Int)
    (h1 : ¬ (x5 < x4)) :
    LoopSC cfg.P 1 (lb P_impl_rightComb 0) (impl_rightComb_L0a x3 x4 x5) (.exit 0) (impl_rightComb_L0X1 x3 x4 x5 false) :=
  loop_out cfgOK (f := i_impl_rightComb) (its := [.bool false])
    (ps := [decide (x5 < x4) = false]) (by kernel_rfl) ⟨(decide_eq_false h1), trivial⟩ (fun h => by cases h)

theorem impl_rightComb_p1 (a0 : Int) (k1y3 : Tr) (k1y4 : Int) (k1y5 : Int) (k1y6 : Bool)
    (h1 : LoopSC cfg.P 1 (lb P_impl_rightComb 0) (impl_rightComb_L0a Tr.leaf a0 (0 : Int)) (.exit 0) (impl_rightComb_L0X1 k1y3 k1y4 k1y5 k1y6)) :
    SC cfg.P i_impl_rightComb [.s (.v (.int .i64) a0)] (.s (.v .tree k1y3)) [] :=
  SC_of_run cfgOK (its := [.loop (fun _ => (.exit 0, impl_rightComb_L0X1 k1y3 k1y4 k1y5 k1y6))])
    (ps := [LoopSC cfg.P 1 (lb P_impl_rightComb 0) (impl_rightComb_L0a Tr.leaf a0 (0 : Int)) (.exit 0) (impl_rightComb_L0X1 k1y3 k1y4 k1y5 k1y6)]) (by kernel_rfl) ⟨h1, trivial⟩ get_impl_rightComb (by decide)

/-! ### impl_node_graft -/


theorem impl_node_graft_p1 (a0 : Tr) (a1 : Int) (a2 : Tr) (c1 : Tr)
    (h1 : SC cfg.P i_impl_node_grown [.s (.v .tree a0), .s (.v (.int .i64) (0 : Int)), .fn i_impl_node_graft_k1 [] [.fadr (.int .i64) a1, .fadr .tree a2]] (.s (.v .tree c1)) []) :
    SC cfg.P i_impl_node_graft [.s (.v .tree a0), .s (.v (.int .i64) a1), .s (.v .tree a2)] (.s (.v .tree c1)) [] :=
  SC_of_run cfgOK (its := [.res (.s (.v .tree c1)) [] [] []])
    (ps := [SC cfg.P i_impl_node_grown [.s (.v .tree a0), .s (.v (.int .i64) (0 : Int)), .fn i_impl_node_graft_k1 [] [.fadr (.int .i64) a1, .fadr .tree a2]] (.s (.v .tree c1)) []]) (by kernel_rfl) ⟨h1, trivial⟩ get_impl_node_graft (by decide)

/-! ### impl_node_graft_k1 -/


theorem impl_node_graft_k1_p1 (a0 : Int) (b0 : Int) (b1 : Tr)
    (h1 : a0 = b0) :
    SC cfg.P i_impl_node_graft_k1 [.s (.v (.int .i64) a0), .s (.fadr (.int .i64) b0), .s (.fadr .tree b1)] (.s (.v .tree b1)) [] :=
  SC_of_run cfgOK (its := [.bool true])
    (ps := [(a0 == b0) = true]) (by kernel_rfl) ⟨(beq_iff_eq.mpr h1), trivial⟩ get_impl_node_graft_k1 (by decide)

theorem impl_node_graft_k1_p2 (a0 : Int) (b0 : Int) (b1 : Tr)
    (h1 : a0 ≠ b0) :
    SC cfg.P i_impl_node_graft_k1 [.s (.v (.int .i64) a0), .s (.fadr (.int .i64) b0), .s (.fadr .tree b1)] (.s (.v .tree Tr.leaf)) [] :=
  SC_of_run cfgOK (its := [.bool false])
    (ps := [(a0 == b0) = false]) (by kernel_rfl) ⟨(beq_eq_false_iff_ne.mpr h1), trivial⟩ get_impl_node_graft_k1 (by decide)

end Go.AI
