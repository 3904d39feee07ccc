/- A part of the road: what it proves stands in its last texts. -/
import Derived.Test.YtnhjfdkogbelaaaSIds
import Derived.Test.YtnhjfdkogbelaaaProg
set_option autoImplicit false
set_option maxRecDepth 100000
set_option linter.unusedVariables false
namespace Go.AI
open Go.Proofs

/-! ### impl_two -/


theorem impl_two_p1 (a0 : (ByteArray × ByteArray)) (a1 : (ByteArray × ByteArray)) (c1a : (Tr × Tr)) (c2a : (Tr × Tr)) (c2b : Bool)
    (h1 : SC cfg.P i_impl_pairOf [.s (.v (.pr .str .str) a0)] (.tup [.v (.pr .tree .tree) c1a, .v .bool true]) [])
    (h2 : SC cfg.P i_impl_pairOf [.s (.v (.pr .str .str) a1)] (.tup [.v (.pr .tree .tree) c2a, .v .bool c2b]) []) :
    SC cfg.P i_impl_two [.s (.v (.pr .str .str) a0), .s (.v (.pr .str .str) a1)] (.tup [.v (.pr .tree .tree) c1a, .v (.pr .tree .tree) c2a, .v .bool c2b]) [] :=
  SC_of_run cfgOK (its := [.res (.tup [.v (.pr .tree .tree) c1a, .v .bool true]) [] [] [], .res (.tup [.v (.pr .tree .tree) c2a, .v .bool c2b]) [] [] []])
    (ps := [SC cfg.P i_impl_pairOf [.s (.v (.pr .str .str) a0)] (.tup [.v (.pr .tree .tree) c1a, .v .bool true]) [],
      SC cfg.P i_impl_pairOf [.s (.v (.pr .str .str) a1)] (.tup [.v (.pr .tree .tree) c2a, .v .bool c2b]) []]) (by kernel_rfl) ⟨h1, h2, trivial⟩ get_impl_two (by decide)

theorem impl_two_p2 (a0 : (ByteArray × ByteArray)) (a1 : (ByteArray × ByteArray)) (c1a : (Tr × Tr)) (c2a : (Tr × Tr)) (c2b : Bool)
    (h1 : SC cfg.P i_impl_pairOf [.s (.v (.pr .str .str) a0)] (.tup [.v (.pr .tree .tree) c1a, .v .bool false]) [])
    (h2 : SC cfg.P i_impl_pairOf [.s (.v (.pr .str .str) a1)] (.tup [.v (.pr .tree .tree) c2a, .v .bool c2b]) []) :
    SC cfg.P i_impl_two [.s (.v (.pr .str .str) a0), .s (.v (.pr .str .str) a1)] (.tup [.v (.pr .tree .tree) c1a, .v (.pr .tree .tree) c2a, .v .bool false]) [] :=
  SC_of_run cfgOK (its := [.res (.tup [.v (.pr .tree .tree) c1a, .v .bool false]) [] [] [], .res (.tup [.v (.pr .tree .tree) c2a, .v .bool c2b]) [] [] []])
    (ps := [SC cfg.P i_impl_pairOf [.s (.v (.pr .str .str) a0)] (.tup [.v (.pr .tree .tree) c1a, .v .bool false]) [],
      SC cfg.P i_impl_pairOf [.s (.v (.pr .str .str) a1)] (.tup [.v (.pr .tree .tree) c2a, .v .bool c2b]) []]) (by kernel_rfl) ⟨h1, h2, trivial⟩ get_impl_two (by decide)

/-! ### spec_prIf -/


theorem spec_prIf_p1 (a0 : (ByteArray × ByteArray))
    (h1 : SC cfg.P i_spec_prGood [.s (.v (.pr .str .str) a0)] (.s (.v .bool true)) []) :
    SC cfg.P i_spec_prIf [.s (.v (.pr .str .str) a0)] (.tup [.v (.pr .str .str) a0, .v .bool true]) [] :=
  SC_of_run cfgOK (its := [.res (.s (.v .bool true)) [] [] []])
    (ps := [SC cfg.P i_spec_prGood [.s (.v (.pr .str .str) a0)] (.s (.v .bool true)) []]) (by kernel_rfl) ⟨h1, trivial⟩ get_spec_prIf (by decide)

theorem spec_prIf_p2 (a0 : (ByteArray × ByteArray))
    (h1 : SC cfg.P i_spec_prGood [.s (.v (.pr .str .str) a0)] (.s (.v .bool false)) []) :
    SC cfg.P i_spec_prIf [.s (.v (.pr .str .str) a0)] (.tup [.v (.pr .str .str) ((⟨#[]⟩ : ByteArray), (⟨#[]⟩ : ByteArray)), .v .bool false]) [] :=
  SC_of_run cfgOK (its := [.res (.s (.v .bool false)) [] [] []])
    (ps := [SC cfg.P i_spec_prGood [.s (.v (.pr .str .str) a0)] (.s (.v .bool false)) []]) (by kernel_rfl) ⟨h1, trivial⟩ get_spec_prIf (by decide)

/-! ### impl_pair_fits -/


theorem impl_pair_fits_p1 (a0 : (Tr × Tr)) (c1 : Int)
    (h1 : SC cfg.P i_impl_node_carets [.s (.v .tree a0.1)] (.s (.v (.int .i64) c1)) [])
    (h2 : c1 > (8 : Int)) :
    SC cfg.P i_impl_pair_fits [.s (.v (.pr .tree .tree) a0)] (.tup [.v (.pr .str .str) ((⟨#[]⟩ : ByteArray), (⟨#[]⟩ : ByteArray)), .v .bool false]) [] :=
  SC_of_run cfgOK (its := [.res (.s (.v (.int .i64) c1)) [] [] [], .bool true])
    (ps := [SC cfg.P i_impl_node_carets [.s (.v .tree a0.1)] (.s (.v (.int .i64) c1)) [],
      decide (c1 > (8 : Int)) = true]) (by kernel_rfl) ⟨h1, (decide_eq_true h2), trivial⟩ get_impl_pair_fits (by decide)

theorem impl_pair_fits_p2 (a0 : (Tr × Tr)) (c1 : Int) (c2 : (ByteArray × ByteArray))
    (h1 : SC cfg.P i_impl_node_carets [.s (.v .tree a0.1)] (.s (.v (.int .i64) c1)) [])
    (h2 : ¬ (c1 > (8 : Int)))
    (h3 : SC cfg.P i_impl_pair_plain [.s (.v (.pr .tree .tree) a0)] (.s (.v (.pr .str .str) c2)) []) :
    SC cfg.P i_impl_pair_fits [.s (.v (.pr .tree .tree) a0)] (.tup [.v (.pr .str .str) c2, .v .bool true]) [] :=
  SC_of_run cfgOK (its := [.res (.s (.v (.int .i64) c1)) [] [] [], .bool false, .res (.s (.v (.pr .str .str) c2)) [] [] []])
    (ps := [SC cfg.P i_impl_node_carets [.s (.v .tree a0.1)] (.s (.v (.int .i64) c1)) [],
      decide (c1 > (8 : Int)) = false,
      SC cfg.P i_impl_pair_plain [.s (.v (.pr .tree .tree) a0)] (.s (.v (.pr .str .str) c2)) []]) (by kernel_rfl) ⟨h1, (decide_eq_false h2), h3, trivial⟩ get_impl_pair_fits (by decide)

/-! ### impl_pair_reduced -/


def impl_pair_reduced_L0a (xo1 : (Tr × Tr)) (xo2 : (Tr × Tr)) : St := mkSt 15 [(1, .s (.adr 1 none)), (2, .s (.adr 2 none))] [(1, .box (.pr .tree .tree) xo1 false), (2, .box (.pr .tree .tree) xo2 false)]

def impl_pair_reduced_L0X1 (yo2 : (Tr × Tr)) : St := mkSt 15 [(2, .s (.adr 2 none))] [(2, .box (.pr .tree .tree) yo2 false)]

theorem impl_pair_reduced_L0a_x1 (xo1 : (Tr × Tr)) (xo2 : (Tr × Tr)) (dc1 : (List Int))
    (h1 : SC cfg.P i_impl_pair_both [.s (.v (.pr .tree .tree) xo1)] (.s (.own t_int (.int .i64) dc1)) [])
    (h2 : ((List.length dc1 : Nat) : Int) = (0 : Int)) :
    LoopSC cfg.P 1 (lb P_impl_pair_reduced 0) (impl_pair_reduced_L0a xo1 xo2) (.ret) (impl_pair_reduced_L0X1 xo1) :=
  loop_out cfgOK (f := i_impl_pair_reduced) (its := [.res (.s (.own t_int (.int .i64) dc1)) [] [] [5], .bool true])
    (ps := [SC cfg.P i_impl_pair_both [.s (.v (.pr .tree .tree) xo1)] (.s (.own t_int (.int .i64) dc1)) [],
      (((List.length dc1 : Nat) : Int) == (0 : Int)) = true]) (by kernel_rfl) ⟨h1, (beq_iff_eq.mpr h2), trivial⟩ (fun h => by cases h)

theorem impl_pair_reduced_L0a_i2 (xo1 : (Tr × Tr)) (xo2 : (Tr × Tr)) (dc1 : (List Int)) (dc2 : (Tr × Tr))
    (h1 : SC cfg.P i_impl_pair_both [.s (.v (.pr .tree .tree) xo1)] (.s (.own t_int (.int .i64) dc1)) [])
    (h2 : ((List.length dc1 : Nat) : Int) ≠ (0 : Int))
    (h3 : (0 : Int) < (List.length dc1 : Int))
    (h4 : ((0 : Int)).toNat < List.length dc1)
    (h5 : SC cfg.P i_impl_pair_drop [.s (.v (.pr .tree .tree) xo1), .s (.v (.int .i64) (List.getD dc1 ((0 : Int)).toNat (0 : Int)))] (.s (.v (.pr .tree .tree) dc2)) [])
    {e : AEx} {st : St} (next : LoopSC cfg.P 1 (lb P_impl_pair_reduced 0) (impl_pair_reduced_L0a dc2 xo2) e st) :
    LoopSC cfg.P 1 (lb P_impl_pair_reduced 0) (impl_pair_reduced_L0a xo1 xo2) e st :=
  loop_iter cfgOK (f := i_impl_pair_reduced) (its := [.res (.s (.own t_int (.int .i64) dc1)) [] [] [5], .bool false, .res (.s (.v (.pr .tree .tree) dc2)) [] [] []])
    (ps := [SC cfg.P i_impl_pair_both [.s (.v (.pr .tree .tree) xo1)] (.s (.own t_int (.int .i64) dc1)) [],
      (((List.length dc1 : Nat) : Int) == (0 : Int)) = false,
      0 ≤ (0 : Int),
      (0 : Int) < (List.length dc1 : Int),
      ((0 : Int)).toNat < List.length dc1,
      SC cfg.P i_impl_pair_drop [.s (.v (.pr .tree .tree) xo1), .s (.v (.int .i64) (List.getD dc1 ((0 : Int)).toNat (0 : Int)))] (.s (.v (.pr .tree .tree) dc2)) []]) (st1 := impl_pair_reduced_L0a dc2 xo2) (by kernel_rfl) ⟨h1, (beq_eq_false_iff_ne.mpr h2), (by decide), h3, h4, h5, trivial⟩ next

theorem impl_pair_reduced_p1 (a0 : (Tr × Tr)) (k1yo2 : (Tr × Tr))
    (h1 : LoopSC cfg.P 1 (lb P_impl_pair_reduced 0) (impl_pair_reduced_L0a a0 (Tr.leaf, Tr.leaf)) (.ret) (impl_pair_reduced_L0X1 k1yo2)) :
    SC cfg.P i_impl_pair_reduced [.s (.v (.pr .tree .tree) a0)] (.s (.v (.pr .tree .tree) k1yo2)) [] :=
  SC_of_run cfgOK (its := [.loop (fun _ => (.ret, impl_pair_reduced_L0X1 k1yo2))])
    (ps := [LoopSC cfg.P 1 (lb P_impl_pair_reduced 0) (impl_pair_reduced_L0a a0 (Tr.leaf, Tr.leaf)) (.ret) (impl_pair_reduced_L0X1 k1yo2)]) (by kernel_rfl) ⟨h1, trivial⟩ get_impl_pair_reduced (by decide)

/-! ### spec_prReduce -/


def spec_prReduce_L0a (x1 : (List Int)) (x5 : Int) (xo2 : (ByteArray × ByteArray)) (xo4 : (ByteArray × ByteArray)) (xo9 : (List Int)) : St := mkSt 44 [(1, .s (.v (.sl (.int .i64)) x1)), (2, .s (.adr 2 none)), (4, .s (.adr 4 none)), (5, .s (.v (.int .i64) x5)), (6, .s (.osl 9 0))] [(2, .box (.pr .str .str) xo2 false), (4, .box (.pr .str .str) xo4 false), (9, .row t_int (.int .i64) xo9 0 false)]

def spec_prReduce_L0b (x1 : (List Int)) (x5 : Int) (xo2 : (ByteArray × ByteArray)) (xo4 : (ByteArray × ByteArray)) (xo14 : (List Int)) : St := mkSt 44 [(1, .s (.v (.sl (.int .i64)) x1)), (2, .s (.adr 2 none)), (4, .s (.adr 4 none)), (5, .s (.v (.int .i64) x5)), (6, .s (.osl 14 0))] [(2, .box (.pr .str .str) xo2 false), (4, .box (.pr .str .str) xo4 false), (14, .row t_int (.int .i64) xo14 0 false)]

def spec_prReduce_L0X1 (y1 : (List Int)) (y5 : Int) (y12 : Bool) (yo2 : (ByteArray × ByteArray)) (yo4 : (ByteArray × ByteArray)) (yo9 : (List Int)) : St := mkSt 44 [(1, .s (.v (.sl (.int .i64)) y1)), (2, .s (.adr 2 none)), (4, .s (.adr 4 none)), (5, .s (.v (.int .i64) y5)), (6, .s (.osl 9 0)), (12, .s (.v .bool y12))] [(2, .box (.pr .str .str) yo2 false), (4, .box (.pr .str .str) yo4 false), (9, .row t_int (.int .i64) yo9 0 false)]

def spec_prReduce_L0X2 (y1 : (List Int)) (y5 : Int) (y12 : Bool) (yo2 : (ByteArray × ByteArray)) (yo4 : (ByteArray × ByteArray)) (yo14 : (List Int)) : St := mkSt 44 [(1, .s (.v (.sl (.int .i64)) y1)), (2, .s (.adr 2 none)), (4, .s (.adr 4 none)), (5, .s (.v (.int .i64) y5)), (6, .s (.osl 14 0)), (12, .s (.v .bool y12))] [(2, .box (.pr .str .str) yo2 false), (4, .box (.pr .str .str) yo4 false), (14, .row t_int (.int .i64) yo14 0 false)]

theorem spec_prReduce_L0a_i2 (x1 : (List Int)) (x5 : Int) (xo2 : (ByteArray × ByteArray)) (xo4 : (ByteArray × ByteArray)) (xo9 : (List Int)) (dc1 : ByteArray) (dc2 : ByteArray) (dc3 : (List Int))
    (h1 : ((List.length xo9 : Nat) : Int) > (0 : Int))
    (h2 : ¬ (x5 < ((List.length x1 : Nat) : Int)))
    (h3 : (0 : Int) < (List.length xo9 : Int))
    (h4 : ((0 : Int)).toNat < List.length xo9)
    (h5 : SC cfg.P i_spec_trDrop [.s (.v .str xo2.1), .s (.v (.int .i64) (List.getD xo9 ((0 : Int)).toNat (0 : Int)))] (.s (.v .str dc1)) [])
    (h6 : SC cfg.P i_spec_trDrop [.s (.v .str xo2.2), .s (.v (.int .i64) (List.getD xo9 ((0 : Int)).toNat (0 : Int)))] (.s (.v .str dc2)) [])
    (h7 : SC cfg.P i_spec_prBoth [.s (.v (.pr .str .str) (dc1, dc2))] (.s (.own t_int (.int .i64) dc3)) [])
    {e : AEx} {st : St} (next : LoopSC cfg.P 2 (lb P_spec_prReduce 0) (spec_prReduce_L0b x1 (IntKind.wrap .i64 (x5 + (1 : Int))) (dc1, dc2) xo4 dc3) e st) :
    LoopSC cfg.P 2 (lb P_spec_prReduce 0) (spec_prReduce_L0a x1 x5 xo2 xo4 xo9) e st :=
  loop_iter cfgOK (f := i_spec_prReduce) (its := [.bool true, .bool false, .res (.s (.v .str dc1)) [] [] [], .res (.s (.v .str dc2)) [] [] [], .res (.s (.own t_int (.int .i64) dc3)) [] [] [14]])
    (ps := [decide (((List.length xo9 : Nat) : Int) > (0 : Int)) = true,
      decide (x5 < ((List.length x1 : Nat) : Int)) = false,
      0 ≤ (0 : Int),
      (0 : Int) < (List.length xo9 : Int),
      ((0 : Int)).toNat < List.length xo9,
      SC cfg.P i_spec_trDrop [.s (.v .str xo2.1), .s (.v (.int .i64) (List.getD xo9 ((0 : Int)).toNat (0 : Int)))] (.s (.v .str dc1)) [],
      0 ≤ (0 : Int),
      (0 : Int) < (List.length xo9 : Int),
      ((0 : Int)).toNat < List.length xo9,
      SC cfg.P i_spec_trDrop [.s (.v .str xo2.2), .s (.v (.int .i64) (List.getD xo9 ((0 : Int)).toNat (0 : Int)))] (.s (.v .str dc2)) [],
      SC cfg.P i_spec_prBoth [.s (.v (.pr .str .str) (dc1, dc2))] (.s (.own t_int (.int .i64) dc3)) []]) (st1 := spec_prReduce_L0b x1 (IntKind.wrap .i64 (x5 + (1 : Int))) (dc1, dc2) xo4 dc3) (by kernel_rfl) ⟨(decide_eq_true h1), (decide_eq_false h2), (by decide), h3, h4, h5, (by decide), h3, h4, h6, h7, trivial⟩ next

theorem spec_prReduce_L0a_x3 (x1 : (List Int)) (x5 : Int) (xo2 : (ByteArray × ByteArray)) (xo4 : (ByteArray × ByteArray)) (xo9 : (List Int))
    (h1 : ¬ (((List.length xo9 : Nat) : Int) > (0 : Int))) :
    LoopSC cfg.P 2 (lb P_spec_prReduce 0) (spec_prReduce_L0a x1 x5 xo2 xo4 xo9) (.exit 0) (spec_prReduce_L0X1 x1 x5 false xo2 xo4 xo9) :=
  loop_out cfgOK (f := i_spec_prReduce) (its := [.bool false])
    (ps := [decide (((List.length xo9 : Nat) : Int) > (0 : Int)) = false]) (by kernel_rfl) ⟨(decide_eq_false h1), trivial⟩ (fun h => by cases h)

theorem spec_prReduce_L0b_i2 (x1 : (List Int)) (x5 : Int) (xo2 : (ByteArray × ByteArray)) (xo4 : (ByteArray × ByteArray)) (xo14 : (List Int)) (dc1 : ByteArray) (dc2 : ByteArray) (dc3 : (List Int))
    (h1 : ((List.length xo14 : Nat) : Int) > (0 : Int))
    (h2 : ¬ (x5 < ((List.length x1 : Nat) : Int)))
    (h3 : (0 : Int) < (List.length xo14 : Int))
    (h4 : ((0 : Int)).toNat < List.length xo14)
    (h5 : SC cfg.P i_spec_trDrop [.s (.v .str xo2.1), .s (.v (.int .i64) (List.getD xo14 ((0 : Int)).toNat (0 : Int)))] (.s (.v .str dc1)) [])
    (h6 : SC cfg.P i_spec_trDrop [.s (.v .str xo2.2), .s (.v (.int .i64) (List.getD xo14 ((0 : Int)).toNat (0 : Int)))] (.s (.v .str dc2)) [])
    (h7 : SC cfg.P i_spec_prBoth [.s (.v (.pr .str .str) (dc1, dc2))] (.s (.own t_int (.int .i64) dc3)) [])
    {e : AEx} {st : St} (next : LoopSC cfg.P 2 (lb P_spec_prReduce 0) (spec_prReduce_L0b x1 (IntKind.wrap .i64 (x5 + (1 : Int))) (dc1, dc2) xo4 dc3) e st) :
    LoopSC cfg.P 2 (lb P_spec_prReduce 0) (spec_prReduce_L0b x1 x5 xo2 xo4 xo14) e st :=
  loop_iter cfgOK (f := i_spec_prReduce) (its := [.bool true, .bool false, .res (.s (.v .str dc1)) [] [] [], .res (.s (.v .str dc2)) [] [] [], .res (.s (.own t_int (.int .i64) dc3)) [] [] [14]])
    (ps := [decide (((List.length xo14 : Nat) : Int) > (0 : Int)) = true,
      decide (x5 < ((List.length x1 : Nat) : Int)) = false,
      0 ≤ (0 : Int),
      (0 : Int) < (List.length xo14 : Int),
      ((0 : Int)).toNat < List.length xo14,
      SC cfg.P i_spec_trDrop [.s (.v .str xo2.1), .s (.v (.int .i64) (List.getD xo14 ((0 : Int)).toNat (0 : Int)))] (.s (.v .str dc1)) [],
      0 ≤ (0 : Int),
      (0 : Int) < (List.length xo14 : Int),
      ((0 : Int)).toNat < List.length xo14,
      SC cfg.P i_spec_trDrop [.s (.v .str xo2.2), .s (.v (.int .i64) (List.getD xo14 ((0 : Int)).toNat (0 : Int)))] (.s (.v .str dc2)) [],
      SC cfg.P i_spec_prBoth [.s (.v (.pr .str .str) (dc1, dc2))] (.s (.own t_int (.int .i64) dc3)) []]) (st1 := spec_prReduce_L0b x1 (IntKind.wrap .i64 (x5 + (1 : Int))) (dc1, dc2) xo4 dc3) (by kernel_rfl) ⟨(decide_eq_true h1), (decide_eq_false h2), (by decide), h3, h4, h5, (by decide), h3, h4, h6, h7, trivial⟩ next

theorem spec_prReduce_L0b_x3 (x1 : (List Int)) (x5 : Int) (xo2 : (ByteArray × ByteArray)) (xo4 : (ByteArray × ByteArray)) (xo14 : (List Int))
    (h1 : ¬ (((List.length xo14 : Nat) : Int) > (0 : Int))) :
    LoopSC cfg.P 2 (lb P_spec_prReduce 0) (spec_prReduce_L0b x1 x5 xo2 xo4 xo14) (.exit 0) (spec_prReduce_L0X2 x1 x5 false xo2 xo4 xo14) :=
  loop_out cfgOK (f := i_spec_prReduce) (its := [.bool false])
    (ps := [decide (((List.length xo14 : Nat) : Int) > (0 : Int)) = false]) (by kernel_rfl) ⟨(decide_eq_false h1), trivial⟩ (fun h => by cases h)

theorem spec_prReduce_p1 (a0 : (ByteArray × ByteArray)) (a1 : (List Int)) (c1 : (List Int)) (k1y1 : (List Int)) (k1y5 : Int) (k1y12 : Bool) (k1yo2 : (ByteArray × ByteArray)) (k1yo4 : (ByteArray × ByteArray)) (k1yo9 : (List Int))
    (h1 : SC cfg.P i_spec_prBoth [.s (.v (.pr .str .str) a0)] (.s (.own t_int (.int .i64) c1)) [])
    (h2 : LoopSC cfg.P 2 (lb P_spec_prReduce 0) (spec_prReduce_L0a a1 (0 : Int) a0 ((⟨#[]⟩ : ByteArray), (⟨#[]⟩ : ByteArray)) c1) (.exit 0) (spec_prReduce_L0X1 k1y1 k1y5 k1y12 k1yo2 k1yo4 k1yo9)) :
    SC cfg.P i_spec_prReduce [.s (.v (.pr .str .str) a0), .s (.v (.sl (.int .i64)) a1)] (.s (.v (.pr .str .str) k1yo2)) [] :=
  SC_of_run cfgOK (its := [.res (.s (.own t_int (.int .i64) c1)) [] [] [9], .loop (fun _ => (.exit 0, spec_prReduce_L0X1 k1y1 k1y5 k1y12 k1yo2 k1yo4 k1yo9))])
    (ps := [SC cfg.P i_spec_prBoth [.s (.v (.pr .str .str) a0)] (.s (.own t_int (.int .i64) c1)) [],
      LoopSC cfg.P 2 (lb P_spec_prReduce 0) (spec_prReduce_L0a a1 (0 : Int) a0 ((⟨#[]⟩ : ByteArray), (⟨#[]⟩ : ByteArray)) c1) (.exit 0) (spec_prReduce_L0X1 k1y1 k1y5 k1y12 k1yo2 k1yo4 k1yo9)]) (by kernel_rfl) ⟨h1, h2, trivial⟩ get_spec_prReduce (by decide)

theorem spec_prReduce_p2 (a0 : (ByteArray × ByteArray)) (a1 : (List Int)) (c1 : (List Int)) (k1y1 : (List Int)) (k1y5 : Int) (k1y12 : Bool) (k1yo2 : (ByteArray × ByteArray)) (k1yo4 : (ByteArray × ByteArray)) (k1yo14 : (List Int))
    (h1 : SC cfg.P i_spec_prBoth [.s (.v (.pr .str .str) a0)] (.s (.own t_int (.int .i64) c1)) [])
    (h2 : LoopSC cfg.P 2 (lb P_spec_prReduce 0) (spec_prReduce_L0a a1 (0 : Int) a0 ((⟨#[]⟩ : ByteArray), (⟨#[]⟩ : ByteArray)) c1) (.exit 0) (spec_prReduce_L0X2 k1y1 k1y5 k1y12 k1yo2 k1yo4 k1yo14)) :
    SC cfg.P i_spec_prReduce [.s (.v (.pr .str .str) a0), .s (.v (.sl (.int .i64)) a1)] (.s (.v (.pr .str .str) k1yo2)) [] :=
  SC_of_run cfgOK (its := [.res (.s (.own t_int (.int .i64) c1)) [] [] [9], .loop (fun _ => (.exit 0, spec_prReduce_L0X2 k1y1 k1y5 k1y12 k1yo2 k1yo4 k1yo14))])
    (ps := [SC cfg.P i_spec_prBoth [.s (.v (.pr .str .str) a0)] (.s (.own t_int (.int .i64) c1)) [],
      LoopSC cfg.P 2 (lb P_spec_prReduce 0) (spec_prReduce_L0a a1 (0 : Int) a0 ((⟨#[]⟩ : ByteArray), (⟨#[]⟩ : ByteArray)) c1) (.exit 0) (spec_prReduce_L0X2 k1y1 k1y5 k1y12 k1yo2 k1yo4 k1yo14)]) (by kernel_rfl) ⟨h1, h2, trivial⟩ get_spec_prReduce (by decide)

end Go.AI
