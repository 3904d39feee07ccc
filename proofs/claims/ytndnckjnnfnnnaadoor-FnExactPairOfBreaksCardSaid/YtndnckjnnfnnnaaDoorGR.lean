/- A part of the road: what it proves stands in its last texts. -/
import Derived.Test.YtndnckjnnfnnnaaDoorSIds
import Derived.Test.YtndnckjnnfnnnaaDoorProg
set_option autoImplicit false
set_option maxRecDepth 100000
set_option linter.unusedVariables false
namespace Go.AI
open Go.Proofs

/-! ### impl_pair_fits -/


theorem impl_pair_fits_p1 (a0 : (Tr × Tr)) (c1 : Int)
    (h1 : SC cfg.P i_impl_node_carets [.s (.v .tree a0.1)] (.s (.v (.int .i64) c1)) [])
    (h2 : c1 > (8 : Int)) :
    SC cfg.P i_impl_pair_fits [.s (.v (.pr .tree .tree) a0)] (.tup [.v (.pr .str .str) ((⟨#[]⟩ : ByteArray), (⟨#[]⟩ : ByteArray)), .v .bool false]) [] :=
  SC_of_run cfgOK (its := [.res (.s (.v (.int .i64) c1)) [] [] [], .bool true])
    (ps := [SC cfg.P i_impl_node_carets [.s (.v .tree a0.1)] (.s (.v (.int .i64) c1)) [],
      decide (c1 > (8 : Int)) = true]) (by kernel_rfl) ⟨h1, (decide_eq_true h2), trivial⟩ get_impl_pair_fits (by decide)

theorem impl_pair_fits_p2 (a0 : (Tr × Tr)) (c1 : Int) (c2 : (ByteArray × ByteArray))
    (h1 : SC cfg.P i_impl_node_carets [.s (.v .tree a0.1)] (.s (.v (.int .i64) c1)) [])
    (h2 : ¬ (c1 > (8 : Int)))
    (h3 : SC cfg.P i_impl_pair_plain [.s (.v (.pr .tree .tree) a0)] (.s (.v (.pr .str .str) c2)) []) :
    SC cfg.P i_impl_pair_fits [.s (.v (.pr .tree .tree) a0)] (.tup [.v (.pr .str .str) c2, .v .bool true]) [] :=
  SC_of_run cfgOK (its := [.res (.s (.v (.int .i64) c1)) [] [] [], .bool false, .res (.s (.v (.pr .str .str) c2)) [] [] []])
    (ps := [SC cfg.P i_impl_node_carets [.s (.v .tree a0.1)] (.s (.v (.int .i64) c1)) [],
      decide (c1 > (8 : Int)) = false,
      SC cfg.P i_impl_pair_plain [.s (.v (.pr .tree .tree) a0)] (.s (.v (.pr .str .str) c2)) []]) (by kernel_rfl) ⟨h1, (decide_eq_false h2), h3, trivial⟩ get_impl_pair_fits (by decide)

/-! ### spec_prReduce -/


def spec_prReduce_L0a (x1 : (List Int)) (x5 : Int) (xo2 : (ByteArray × ByteArray)) (xo4 : (ByteArray × ByteArray)) (xo9 : (List Int)) : St := mkSt 44 [(1, .s (.v (.sl (.int .i64)) x1)), (2, .s (.adr 2 none)), (4, .s (.adr 4 none)), (5, .s (.v (.int .i64) x5)), (6, .s (.osl 9 0))] [(2, .box (.pr .str .str) xo2 false), (4, .box (.pr .str .str) xo4 false), (9, .row t_int (.int .i64) xo9 0 false)]

def spec_prReduce_L0b (x1 : (List Int)) (x5 : Int) (xo2 : (ByteArray × ByteArray)) (xo4 : (ByteArray × ByteArray)) (xo14 : (List Int)) : St := mkSt 44 [(1, .s (.v (.sl (.int .i64)) x1)), (2, .s (.adr 2 none)), (4, .s (.adr 4 none)), (5, .s (.v (.int .i64) x5)), (6, .s (.osl 14 0))] [(2, .box (.pr .str .str) xo2 false), (4, .box (.pr .str .str) xo4 false), (14, .row t_int (.int .i64) xo14 0 false)]

def spec_prReduce_L0X1 (y1 : (List Int)) (y5 : Int) (y12 : Bool) (yo2 : (ByteArray × ByteArray)) (yo4 : (ByteArray × ByteArray)) (yo9 : (List Int)) : St := mkSt 44 [(1, .s (.v (.sl (.int .i64)) y1)), (2, .s (.adr 2 none)), (4, .s (.adr 4 none)), (5, .s (.v (.int .i64) y5)), (6, .s (.osl 9 0)), (12, .s (.v .bool y12))] [(2, .box (.pr .str .str) yo2 false), (4, .box (.pr .str .str) yo4 false), (9, .row t_int (.int .i64) yo9 0 false)]

def spec_prReduce_L0X2 (y1 : (List Int)) (y5 : Int) (y12 : Bool) (yo2 : (ByteArray × ByteArray)) (yo4 : (ByteArray × ByteArray)) (yo14 : (List Int)) : St := mkSt 44 [(1, .s (.v (.sl (.int .i64)) y1)), (2, .s (.adr 2 none)), (4, .s (.adr 4 none)), (5, .s (.v (.int .i64) y5)), (6, .s (.osl 14 0)), (12, .s (.v .bool y12))] [(2, .box (.pr .str .str) yo2 false), (4, .box (.pr .str .str) yo4 false), (14, .row t_int (.int .i64) yo14 0 false)]

theorem spec_prReduce_L0a_i1 (x1 : (List Int)) (x5 : Int) (xo2 : (ByteArray × ByteArray)) (xo4 : (ByteArray × ByteArray)) (xo9 : (List Int)) (dc1 : ByteArray) (dc2 : ByteArray) (dc3 : (List Int))
    (h1 : ((List.length xo9 : Nat) : Int) > (0 : Int))
    (h2 : x5 < ((List.length x1 : Nat) : Int))
    (h3 : 0 ≤ x5)
    (h4 : x5 < (List.length x1 : Int))
    (h5 : ((List.length xo9 : Nat) : Int) ≠ 0)
    (h6 : 0 ≤ (Int.tmod (List.getD x1 (x5).toNat (0 : Int)) ((List.length xo9 : Nat) : Int)))
    (h7 : (Int.tmod (List.getD x1 (x5).toNat (0 : Int)) ((List.length xo9 : Nat) : Int)) < (List.length xo9 : Int))
    (h8 : ((Int.tmod (List.getD x1 (x5).toNat (0 : Int)) ((List.length xo9 : Nat) : Int))).toNat < List.length xo9)
    (h9 : SC cfg.P i_spec_trDrop [.s (.v .str xo2.1), .s (.v (.int .i64) (List.getD xo9 ((Int.tmod (List.getD x1 (x5).toNat (0 : Int)) ((List.length xo9 : Nat) : Int))).toNat (0 : Int)))] (.s (.v .str dc1)) [])
    (h10 : SC cfg.P i_spec_trDrop [.s (.v .str xo2.2), .s (.v (.int .i64) (List.getD xo9 ((Int.tmod (List.getD x1 (x5).toNat (0 : Int)) ((List.length xo9 : Nat) : Int))).toNat (0 : Int)))] (.s (.v .str dc2)) [])
    (h11 : SC cfg.P i_spec_prBoth [.s (.v (.pr .str .str) (dc1, dc2))] (.s (.own t_int (.int .i64) dc3)) [])
    {e : AEx} {st : St} (next : LoopSC cfg.P 2 (lb P_spec_prReduce 0) (spec_prReduce_L0b x1 (IntKind.wrap .i64 (x5 + (1 : Int))) (dc1, dc2) xo4 dc3) e st) :
    LoopSC cfg.P 2 (lb P_spec_prReduce 0) (spec_prReduce_L0a x1 x5 xo2 xo4 xo9) e st :=
  loop_iter cfgOK (f := i_spec_prReduce) (its := [.bool true, .bool true, .res (.s (.v .str dc1)) [] [] [], .res (.s (.v .str dc2)) [] [] [], .res (.s (.own t_int (.int .i64) dc3)) [] [] [14]])
    (ps := [decide (((List.length xo9 : Nat) : Int) > (0 : Int)) = true,
      decide (x5 < ((List.length x1 : Nat) : Int)) = true,
      0 ≤ x5,
      x5 < (List.length x1 : Int),
      ((List.length xo9 : Nat) : Int) ≠ 0,
      0 ≤ (Int.tmod (List.getD x1 (x5).toNat (0 : Int)) ((List.length xo9 : Nat) : Int)),
      (Int.tmod (List.getD x1 (x5).toNat (0 : Int)) ((List.length xo9 : Nat) : Int)) < (List.length xo9 : Int),
      ((Int.tmod (List.getD x1 (x5).toNat (0 : Int)) ((List.length xo9 : Nat) : Int))).toNat < List.length xo9,
      SC cfg.P i_spec_trDrop [.s (.v .str xo2.1), .s (.v (.int .i64) (List.getD xo9 ((Int.tmod (List.getD x1 (x5).toNat (0 : Int)) ((List.length xo9 : Nat) : Int))).toNat (0 : Int)))] (.s (.v .str dc1)) [],
      0 ≤ (Int.tmod (List.getD x1 (x5).toNat (0 : Int)) ((List.length xo9 : Nat) : Int)),
      (Int.tmod (List.getD x1 (x5).toNat (0 : Int)) ((List.length xo9 : Nat) : Int)) < (List.length xo9 : Int),
      ((Int.tmod (List.getD x1 (x5).toNat (0 : Int)) ((List.length xo9 : Nat) : Int))).toNat < List.length xo9,
      SC cfg.P i_spec_trDrop [.s (.v .str xo2.2), .s (.v (.int .i64) (List.getD xo9 ((Int.tmod (List.getD x1 (x5).toNat (0 : Int)) ((List.length xo9 : Nat) : Int))).toNat (0 : Int)))] (.s (.v .str dc2)) [],
      SC cfg.P i_spec_prBoth [.s (.v (.pr .str .str) (dc1, dc2))] (.s (.own t_int (.int .i64) dc3)) []]) (st1 := spec_prReduce_L0b x1 (IntKind.wrap .i64 (x5 + (1 : Int))) (dc1, dc2) xo4 dc3) (by kernel_rfl) ⟨(decide_eq_true h1), (decide_eq_true h2), h3, h4, h5, h6, h7, h8, h9, h6, h7, h8, h10, h11, trivial⟩ next

theorem spec_prReduce_L0a_i2 (x1 : (List Int)) (x5 : Int) (xo2 : (ByteArray × ByteArray)) (xo4 : (ByteArray × ByteArray)) (xo9 : (List Int)) (dc1 : ByteArray) (dc2 : ByteArray) (dc3 : (List Int))
    (h1 : ((List.length xo9 : Nat) : Int) > (0 : Int))
    (h2 : ¬ (x5 < ((List.length x1 : Nat) : Int)))
    (h3 : (0 : Int) < (List.length xo9 : Int))
    (h4 : ((0 : Int)).toNat < List.length xo9)
    (h5 : SC cfg.P i_spec_trDrop [.s (.v .str xo2.1), .s (.v (.int .i64) (List.getD xo9 ((0 : Int)).toNat (0 : Int)))] (.s (.v .str dc1)) [])
    (h6 : SC cfg.P i_spec_trDrop [.s (.v .str xo2.2), .s (.v (.int .i64) (List.getD xo9 ((0 : Int)).toNat (0 : Int)))] (.s (.v .str dc2)) [])
    (h7 : SC cfg.P i_spec_prBoth [.s (.v (.pr .str .str) (dc1, dc2))] (.s (.own t_int (.int .i64) dc3)) [])
    {e : AEx} {st : St} (next : LoopSC cfg.P 2 (lb P_spec_prReduce 0) (spec_prReduce_L0b x1 (IntKind.wrap .i64 (x5 + (1 : Int))) (dc1, dc2) xo4 dc3) e st) :
    LoopSC cfg.P 2 (lb P_spec_prReduce 0) (spec_prReduce_L0a x1 x5 xo2 xo4 xo9) e st :=
  loop_iter cfgOK (f := i_spec_prReduce) (its := [.bool true, .bool false, .res (.s (.v .str dc1)) [] [] [], .res (.s (.v .str dc2)) [] [] [], .res (.s (.own t_int (.int .i64) dc3)) [] [] [14]])
    (ps := [decide (((List.length xo9 : Nat) : Int) > (0 : Int)) = true,
      decide (x5 < ((List.length x1 : Nat) : Int)) = false,
      0 ≤ (0 : Int),
      (0 : Int) < (List.length xo9 : Int),
      ((0 : Int)).toNat < List.length xo9,
      SC cfg.P i_spec_trDrop [.s (.v .str xo2.1), .s (.v (.int .i64) (List.getD xo9 ((0 : Int)).toNat (0 : Int)))] (.s (.v .str dc1)) [],
      0 ≤ (0 : Int),
      (0 : Int) < (List.length xo9 : Int),
      ((0 : Int)).toNat < List.length xo9,
      SC cfg.P i_spec_trDrop [.s (.v .str xo2.2), .s (.v (.int .i64) (List.getD xo9 ((0 : Int)).toNat (0 : Int)))] (.s (.v .str dc2)) [],
      SC cfg.P i_spec_prBoth [.s (.v (.pr .str .str) (dc1, dc2))] (.s (.own t_int (.int .i64) dc3)) []]) (st1 := spec_prReduce_L0b x1 (IntKind.wrap .i64 (x5 + (1 : Int))) (dc1, dc2) xo4 dc3) (by kernel_rfl) ⟨(decide_eq_true h1), (decide_eq_false h2), (by decide), h3, h4, h5, (by decide), h3, h4, h6, h7, trivial⟩ next

theorem spec_prReduce_L0a_x3 (x1 : (List Int)) (x5 : Int) (xo2 : (ByteArray × ByteArray)) (xo4 : (ByteArray × ByteArray)) (xo9 : (List Int))
    (h1 : ¬ (((List.length xo9 : Nat) : Int) > (0 : Int))) :
    LoopSC cfg.P 2 (lb P_spec_prReduce 0) (spec_prReduce_L0a x1 x5 xo2 xo4 xo9) (.exit 0) (spec_prReduce_L0X1 x1 x5 false xo2 xo4 xo9) :=
  loop_out cfgOK (f := i_spec_prReduce) (its := [.bool false])
    (ps := [decide (((List.length xo9 : Nat) : Int) > (0 : Int)) = false]) (by kernel_rfl) ⟨(decide_eq_false h1), trivial⟩ (fun h => by cases h)

theorem spec_prReduce_L0b_i1 (x1 : (List Int)) (x5 : Int) (xo2 : (ByteArray × ByteArray)) (xo4 : (ByteArray × ByteArray)) (xo14 : (List Int)) (dc1 : ByteArray) (dc2 : ByteArray) (dc3 : (List Int))
    (h1 : ((List.length xo14 : Nat) : Int) > (0 : Int))
    (h2 : x5 < ((List.length x1 : Nat) : Int))
    (h3 : 0 ≤ x5)
    (h4 : x5 < (List.length x1 : Int))
    (h5 : ((List.length xo14 : Nat) : Int) ≠ 0)
    (h6 : 0 ≤ (Int.tmod (List.getD x1 (x5).toNat (0 : Int)) ((List.length xo14 : Nat) : Int)))
    (h7 : (Int.tmod (List.getD x1 (x5).toNat (0 : Int)) ((List.length xo14 : Nat) : Int)) < (List.length xo14 : Int))
    (h8 : ((Int.tmod (List.getD x1 (x5).toNat (0 : Int)) ((List.length xo14 : Nat) : Int))).toNat < List.length xo14)
    (h9 : SC cfg.P i_spec_trDrop [.s (.v .str xo2.1), .s (.v (.int .i64) (List.getD xo14 ((Int.tmod (List.getD x1 (x5).toNat (0 : Int)) ((List.length xo14 : Nat) : Int))).toNat (0 : Int)))] (.s (.v .str dc1)) [])
    (h10 : SC cfg.P i_spec_trDrop [.s (.v .str xo2.2), .s (.v (.int .i64) (List.getD xo14 ((Int.tmod (List.getD x1 (x5).toNat (0 : Int)) ((List.length xo14 : Nat) : Int))).toNat (0 : Int)))] (.s (.v .str dc2)) [])
    (h11 : SC cfg.P i_spec_prBoth [.s (.v (.pr .str .str) (dc1, dc2))] (.s (.own t_int (.int .i64) dc3)) [])
    {e : AEx} {st : St} (next : LoopSC cfg.P 2 (lb P_spec_prReduce 0) (spec_prReduce_L0b x1 (IntKind.wrap .i64 (x5 + (1 : Int))) (dc1, dc2) xo4 dc3) e st) :
    LoopSC cfg.P 2 (lb P_spec_prReduce 0) (spec_prReduce_L0b x1 x5 xo2 xo4 xo14) e st :=
  loop_iter cfgOK (f := i_spec_prReduce) (its := [.bool true, .bool true, .res (.s (.v .str dc1)) [] [] [], .res (.s (.v .str dc2)) [] [] [], .res (.s (.own t_int (.int .i64) dc3)) [] [] [14]])
    (ps := [decide (((List.length xo14 : Nat) : Int) > (0 : Int)) = true,
      decide (x5 < ((List.length x1 : Nat) : Int)) = true,
      0 ≤ x5,
      x5 < (List.length x1 : Int),
      ((List.length xo14 : Nat) : Int) ≠ 0,
      0 ≤ (Int.tmod (List.getD x1 (x5).toNat (0 : Int)) ((List.length xo14 : Nat) : Int)),
      (Int.tmod (List.getD x1 (x5).toNat (0 : Int)) ((List.length xo14 : Nat) : Int)) < (List.length xo14 : Int),
      ((Int.tmod (List.getD x1 (x5).toNat (0 : Int)) ((List.length xo14 : Nat) : Int))).toNat < List.length xo14,
      SC cfg.P i_spec_trDrop [.s (.v .str xo2.1), .s (.v (.int .i64) (List.getD xo14 ((Int.tmod (List.getD x1 (x5).toNat (0 : Int)) ((List.length xo14 : Nat) : Int))).toNat (0 : Int)))] (.s (.v .str dc1)) [],
      0 ≤ (Int.tmod (List.getD x1 (x5).toNat (0 : Int)) ((List.length xo14 : Nat) : Int)),
      (Int.tmod (List.getD x1 (x5).toNat (0 : Int)) ((List.length xo14 : Nat) : Int)) < (List.length xo14 : Int),
      ((Int.tmod (List.getD x1 (x5).toNat (0 : Int)) ((List.length xo14 : Nat) : Int))).toNat < List.length xo14,
      SC cfg.P i_spec_trDrop [.s (.v .str xo2.2), .s (.v (.int .i64) (List.getD xo14 ((Int.tmod (List.getD x1 (x5).toNat (0 : Int)) ((List.length xo14 : Nat) : Int))).toNat (0 : Int)))] (.s (.v .str dc2)) [],
      SC cfg.P i_spec_prBoth [.s (.v (.pr .str .str) (dc1, dc2))] (.s (.own t_int (.int .i64) dc3)) []]) (st1 := spec_prReduce_L0b x1 (IntKind.wrap .i64 (x5 + (1 : Int))) (dc1, dc2) xo4 dc3) (by kernel_rfl) ⟨(decide_eq_true h1), (decide_eq_true h2), h3, h4, h5, h6, h7, h8, h9, h6, h7, h8, h10, h11, trivial⟩ next

theorem spec_prReduce_L0b_i2 (x1 : (List Int)) (x5 : Int) (xo2 : (ByteArray × ByteArray)) (xo4 : (ByteArray × ByteArray)) (xo14 : (List Int)) (dc1 : ByteArray) (dc2 : ByteArray) (dc3 : (List Int))
    (h1 : ((List.length xo14 : Nat) : Int) > (0 : Int))
    (h2 : ¬ (x5 < ((List.length x1 : Nat) : Int)))
    (h3 : (0 : Int) < (List.length xo14 : Int))
    (h4 : ((0 : Int)).toNat < List.length xo14)
    (h5 : SC cfg.P i_spec_trDrop [.s (.v .str xo2.1), .s (.v (.int .i64) (List.getD xo14 ((0 : Int)).toNat (0 : Int)))] (.s (.v .str dc1)) [])
    (h6 : SC cfg.P i_spec_trDrop [.s (.v .str xo2.2), .s (.v (.int .i64) (List.getD xo14 ((0 : Int)).toNat (0 : Int)))] (.s (.v .str dc2)) [])
    (h7 : SC cfg.P i_spec_prBoth [.s (.v (.pr .str .str) (dc1, dc2))] (.s (.own t_int (.int .i64) dc3)) [])
    {e : AEx} {st : St} (next : LoopSC cfg.P 2 (lb P_spec_prReduce 0) (spec_prReduce_L0b x1 (IntKind.wrap .i64 (x5 + (1 : Int))) (dc1, dc2) xo4 dc3) e st) :
    LoopSC cfg.P 2 (lb P_spec_prReduce 0) (spec_prReduce_L0b x1 x5 xo2 xo4 xo14) e st :=
  loop_iter cfgOK (f := i_spec_prReduce) (its := [.bool true, .bool false, .res (.s (.v .str dc1)) [] [] [], .res (.s (.v .str dc2)) [] [] [], .res (.s (.own t_int (.int .i64) dc3)) [] [] [14]])
    (ps := [decide (((List.length xo14 : Nat) : Int) > (0 : Int)) = true,
      decide (x5 < ((List.length x1 : Nat) : Int)) = false,
      0 ≤ (0 : Int),
      (0 : Int) < (List.length xo14 : Int),
      ((0 : Int)).toNat < List.length xo14,
      SC cfg.P i_spec_trDrop [.s (.v .str xo2.1), .s (.v (.int .i64) (List.getD xo14 ((0 : Int)).toNat (0 : Int)))] (.s (.v .str dc1)) [],
      0 ≤ (0 : Int),
      (0 : Int) < (List.length xo14 : Int),
      ((0 : Int)).toNat < List.length xo14,
      SC cfg.P i_spec_trDrop [.s (.v .str xo2.2), .s (.v (.int .i64) (List.getD xo14 ((0 : Int)).toNat (0 : Int)))] (.s (.v .str dc2)) [],
      SC cfg.P i_spec_prBoth [.s (.v (.pr .str .str) (dc1, dc2))] (.s (.own t_int (.int .i64) dc3)) []]) (st1 := spec_prReduce_L0b x1 (IntKind.wrap .i64 (x5 + (1 : Int))) (dc1, dc2) xo4 dc3) (by kernel_rfl) ⟨(decide_eq_true h1), (decide_eq_false h2), (by decide), h3, h4, h5, (by decide), h3, h4, h6, h7, trivial⟩ next

theorem spec_prReduce_L0b_x3 (x1 : (List Int)) (x5 : Int) (xo2 : (ByteArray × ByteArray)) (xo4 : (ByteArray × ByteArray)) (xo14 : (List Int))
    (h1 : ¬ (((List.length xo14 : Nat) : Int) > (0 : Int))) :
    LoopSC cfg.P 2 (lb P_spec_prReduce 0) (spec_prReduce_L0b x1 x5 xo2 xo4 xo14) (.exit 0) (spec_prReduce_L0X2 x1 x5 false xo2 xo4 xo14) :=
  loop_out cfgOK (f := i_spec_prReduce) (its := [.bool false])
    (ps := [decide (((List.length xo14 : Nat) : Int) > (0 : Int)) = false]) (by kernel_rfl) ⟨(decide_eq_false h1), trivial⟩ (fun h => by cases h)

theorem spec_prReduce_p1 (a0 : (ByteArray × ByteArray)) (a1 : (List Int)) (c1 : (List Int)) (k1y1 : (List Int)) (k1y5 : Int) (k1y12 : Bool) (k1yo2 : (ByteArray × ByteArray)) (k1yo4 : (ByteArray × ByteArray)) (k1yo9 : (List Int))
    (h1 : SC cfg.P i_spec_prBoth [.s (.v (.pr .str .str) a0)] (.s (.own t_int (.int .i64) c1)) [])
    (h2 : LoopSC cfg.P 2 (lb P_spec_prReduce 0) (spec_prReduce_L0a a1 (0 : Int) a0 ((⟨#[]⟩ : ByteArray), (⟨#[]⟩ : ByteArray)) c1) (.exit 0) (spec_prReduce_L0X1 k1y1 k1y5 k1y12 k1yo2 k1yo4 k1yo9)) :
    SC cfg.P i_spec_prReduce [.s (.v (.pr .str .str) a0), .s (.v (.sl (.int .i64)) a1)] (.s (.v (.pr .str .str) k1yo2)) [] :=
  SC_of_run cfgOK (its := [.res (.s (.own t_int (.int .i64) c1)) [] [] [9], .loop (fun _ => (.exit 0, spec_prReduce_L0X1 k1y1 k1y5 k1y12 k1yo2 k1yo4 k1yo9))])
    (ps := [SC cfg.P i_spec_prBoth [.s (.v (.pr .str .str) a0)] (.s (.own t_int (.int .i64) c1)) [],
      LoopSC cfg.P 2 (lb P_spec_prReduce 0) (spec_prReduce_L0a a1 (0 : Int) a0 ((⟨#[]⟩ : ByteArray), (⟨#[]⟩ : ByteArray)) c1) (.exit 0) (spec_prReduce_L0X1 k1y1 k1y5 k1y12 k1yo2 k1yo4 k1yo9)]) (by kernel_rfl) ⟨h1, h2, trivial⟩ get_spec_prReduce (by decide)

theorem spec_prReduce_p2 (a0 : (ByteArray × ByteArray)) (a1 : (List Int)) (c1 : (List Int)) (k1y1 : (List Int)) (k1y5 : Int) (k1y12 : Bool) (k1yo2 : (ByteArray × ByteArray)) (k1yo4 : (ByteArray × ByteArray)) (k1yo14 : (List Int))
    (h1 : SC cfg.P i_spec_prBoth [.s (.v (.pr .str .str) a0)] (.s (.own t_int (.int .i64) c1)) [])
    (h2 : LoopSC cfg.P 2 (lb P_spec_prReduce 0) (spec_prReduce_L0a a1 (0 : Int) a0 ((⟨#[]⟩ : ByteArray), (⟨#[]⟩ : ByteArray)) c1) (.exit 0) (spec_prReduce_L0X2 k1y1 k1y5 k1y12 k1yo2 k1yo4 k1yo14)) :
    SC cfg.P i_spec_prReduce [.s (.v (.pr .str .str) a0), .s (.v (.sl (.int .i64)) a1)] (.s (.v (.pr .str .str) k1yo2)) [] :=
  SC_of_run cfgOK (its := [.res (.s (.own t_int (.int .i64) c1)) [] [] [9], .loop (fun _ => (.exit 0, spec_prReduce_L0X2 k1y1 k1y5 k1y12 k1yo2 k1yo4 k1yo14))])
    (ps := [SC cfg.P i_spec_prBoth [.s (.v (.pr .str .str) a0)] (.s (.own t_int (.int .i64) c1)) [],
      LoopSC cfg.P 2 (lb P_spec_prReduce 0) (spec_prReduce_L0a a1 (0 : Int) a0 ((⟨#[]⟩ : ByteArray), (⟨#[]⟩ : ByteArray)) c1) (.exit 0) (spec_prReduce_L0X2 k1y1 k1y5 k1y12 k1yo2 k1yo4 k1yo14)]) (by kernel_rfl) ⟨h1, h2, trivial⟩ get_spec_prReduce (by decide)

/-! ### impl_node_carets -/


theorem impl_node_carets_p1 
     :
    SC cfg.P i_impl_node_carets [.s (.v .tree Tr.leaf)] (.s (.v (.int .i64) (0 : Int))) [] :=
  SC_of_run cfgOK (its := [.bool true])
    (ps := [Tr.leaf.isLeaf = true]) (by kernel_rfl) ⟨rfl, trivial⟩ get_impl_node_carets (by decide)

theorem impl_node_carets_p2 (a0l : Tr) (a0r : Tr) (c1 : Int) (c2 : Int)
    (h1 : SC cfg.P i_impl_node_carets [.s (.v .tree a0l)] (.s (.v (.int .i64) c1)) [])
    (h2 : SC cfg.P i_impl_node_carets [.s (.v .tree a0r)] (.s (.v (.int .i64) c2)) []) :
    SC cfg.P i_impl_node_carets [.s (.v .tree (Tr.node a0l a0r))] (.s (.v (.int .i64) (IntKind.wrap .i64 ((IntKind.wrap .i64 ((1 : Int) + c1)) + c2)))) [] :=
  SC_of_run cfgOK (its := [.bool false, .res (.s (.v (.int .i64) c1)) [] [] [], .res (.s (.v (.int .i64) c2)) [] [] []])
    (ps := [(Tr.node a0l a0r).isLeaf = false,
      SC cfg.P i_impl_node_carets [.s (.v .tree a0l)] (.s (.v (.int .i64) c1)) [],
      SC cfg.P i_impl_node_carets [.s (.v .tree a0r)] (.s (.v (.int .i64) c2)) []]) (by kernel_rfl) ⟨rfl, h1, h2, trivial⟩ get_impl_node_carets (by decide)

/-! ### impl_pair_plain -/


theorem impl_pair_plain_p1 (a0 : (Tr × Tr)) (c1 : ByteArray) (c2 : ByteArray)
    (h1 : SC cfg.P i_impl_node_text [.s (.v .tree a0.1)] (.s (.v .str c1)) [])
    (h2 : SC cfg.P i_impl_node_text [.s (.v .tree a0.2)] (.s (.v .str c2)) []) :
    SC cfg.P i_impl_pair_plain [.s (.v (.pr .tree .tree) a0)] (.s (.v (.pr .str .str) (c1, c2))) [] :=
  SC_of_run cfgOK (its := [.res (.s (.v .str c1)) [] [] [], .res (.s (.v .str c2)) [] [] []])
    (ps := [SC cfg.P i_impl_node_text [.s (.v .tree a0.1)] (.s (.v .str c1)) [],
      SC cfg.P i_impl_node_text [.s (.v .tree a0.2)] (.s (.v .str c2)) []]) (by kernel_rfl) ⟨h1, h2, trivial⟩ get_impl_pair_plain (by decide)

/-! ### spec_prBoth -/


def spec_prBoth_L0a (x13 : Int) (x14 : Int) (xo3 : (List Int)) (xo9 : (List Int)) (xo12 : (List Int)) : St := mkSt 27 [(3, .s (.osl 3 0)), (4, .s (.osl 9 0)), (12, .s (.osl 12 0)), (13, .s (.v (.int .i64) x13)), (14, .s (.v (.int .i64) x14))] [(3, .row t_int (.int .i64) xo3 0 false), (9, .row t_int (.int .i64) xo9 0 false), (12, .row t_int (.int .i64) xo12 0 false)]

def spec_prBoth_L0X1 (y13 : Int) (y14 : Int) (y15 : Bool) (yo3 : (List Int)) (yo9 : (List Int)) (yo12 : (List Int)) : St := mkSt 27 [(3, .s (.osl 3 0)), (4, .s (.osl 9 0)), (12, .s (.osl 12 0)), (13, .s (.v (.int .i64) y13)), (14, .s (.v (.int .i64) y14)), (15, .s (.v .bool y15))] [(3, .row t_int (.int .i64) yo3 0 false), (9, .row t_int (.int .i64) yo9 0 false), (12, .row t_int (.int .i64) yo12 0 false)]

theorem spec_prBoth_L0a_i1 (x13 : Int) (x14 : Int) (xo3 : (List Int)) (xo9 : (List Int)) (xo12 : (List Int))
    (h1 : x14 < x13)
    (h2 : 0 ≤ x14)
    (h3 : x14 < (List.length xo12 : Int))
    (h4 : (x14).toNat < List.length xo12)
    (h5 : SC cfg.P i_spec_l1Has [.s (.v (.sl (.int .i64)) xo9), .s (.v (.int .i64) (List.getD xo12 (x14).toNat (0 : Int)))] (.s (.v .bool true)) [])
    (h6 : sizeOK (List.length xo3 + List.length ([(List.getD xo12 (x14).toNat (0 : Int))] : List Int)))
    {e : AEx} {st : St} (next : LoopSC cfg.P 1 (lb P_spec_prBoth 0) (spec_prBoth_L0a x13 (IntKind.wrap .i64 (x14 + (1 : Int))) (xo3 ++ ([(List.getD xo12 (x14).toNat (0 : Int))] : List Int)) xo9 xo12) e st) :
    LoopSC cfg.P 1 (lb P_spec_prBoth 0) (spec_prBoth_L0a x13 x14 xo3 xo9 xo12) e st :=
  loop_iter cfgOK (f := i_spec_prBoth) (its := [.bool true, .res (.s (.v .bool true)) [] [] []])
    (ps := [decide (x14 < x13) = true,
      0 ≤ x14,
      x14 < (List.length xo12 : Int),
      (x14).toNat < List.length xo12,
      SC cfg.P i_spec_l1Has [.s (.v (.sl (.int .i64)) xo9), .s (.v (.int .i64) (List.getD xo12 (x14).toNat (0 : Int)))] (.s (.v .bool true)) [],
      sizeOK (List.length xo3 + List.length ([(List.getD xo12 (x14).toNat (0 : Int))] : List Int))]) (st1 := spec_prBoth_L0a x13 (IntKind.wrap .i64 (x14 + (1 : Int))) (xo3 ++ ([(List.getD xo12 (x14).toNat (0 : Int))] : List Int)) xo9 xo12) (by kernel_rfl) ⟨(decide_eq_true h1), h2, h3, h4, h5, h6, trivial⟩ next

theorem spec_prBoth_L0a_i2 (x13 : Int) (x14 : Int) (xo3 : (List Int)) (xo9 : (List Int)) (xo12 : (List Int))
    (h1 : x14 < x13)
    (h2 : 0 ≤ x14)
    (h3 : x14 < (List.length xo12 : Int))
    (h4 : (x14).toNat < List.length xo12)
    (h5 : SC cfg.P i_spec_l1Has [.s (.v (.sl (.int .i64)) xo9), .s (.v (.int .i64) (List.getD xo12 (x14).toNat (0 : Int)))] (.s (.v .bool false)) [])
    {e : AEx} {st : St} (next : LoopSC cfg.P 1 (lb P_spec_prBoth 0) (spec_prBoth_L0a x13 (IntKind.wrap .i64 (x14 + (1 : Int))) xo3 xo9 xo12) e st) :
    LoopSC cfg.P 1 (lb P_spec_prBoth 0) (spec_prBoth_L0a x13 x14 xo3 xo9 xo12) e st :=
  loop_iter cfgOK (f := i_spec_prBoth) (its := [.bool true, .res (.s (.v .bool false)) [] [] []])
    (ps := [decide (x14 < x13) = true,
      0 ≤ x14,
      x14 < (List.length xo12 : Int),
      (x14).toNat < List.length xo12,
      SC cfg.P i_spec_l1Has [.s (.v (.sl (.int .i64)) xo9), .s (.v (.int .i64) (List.getD xo12 (x14).toNat (0 : Int)))] (.s (.v .bool false)) []]) (st1 := spec_prBoth_L0a x13 (IntKind.wrap .i64 (x14 + (1 : Int))) xo3 xo9 xo12) (by kernel_rfl) ⟨(decide_eq_true h1), h2, h3, h4, h5, trivial⟩ next

theorem spec_prBoth_L0a_x3 (x13 : Int) (x14 : Int) (xo3 : (List Int)) (xo9 : (List Int)) (xo12 : (List Int))
    (h1 : ¬ (x14 < x13)) :
    LoopSC cfg.P 1 (lb P_spec_prBoth 0) (spec_prBoth_L0a x13 x14 xo3 xo9 xo12) (.exit 0) (spec_prBoth_L0X1 x13 x14 false xo3 xo9 xo12) :=
  loop_out cfgOK (f := i_spec_prBoth) (its := [.bool false])
    (ps := [decide (x14 < x13) = false]) (by kernel_rfl) ⟨(decide_eq_false h1), trivial⟩ (fun h => by cases h)

theorem spec_prBoth_p1 (a0 : (ByteArray × ByteArray)) (c1 : (List Int)) (c2 : (List Int)) (k1y13 : Int) (k1y14 : Int) (k1y15 : Bool) (k1yo3 : (List Int)) (k1yo9 : (List Int)) (k1yo12 : (List Int))
    (h1 : SC cfg.P i_spec_trExposed [.s (.v .str a0.2)] (.s (.own t_int (.int .i64) c1)) [])
    (h2 : SC cfg.P i_spec_trExposed [.s (.v .str a0.1)] (.s (.own t_int (.int .i64) c2)) [])
    (h3 : LoopSC cfg.P 1 (lb P_spec_prBoth 0) (spec_prBoth_L0a ((List.length c2 : Nat) : Int) (0 : Int) ([] : List Int) c1 c2) (.exit 0) (spec_prBoth_L0X1 k1y13 k1y14 k1y15 k1yo3 k1yo9 k1yo12)) :
    SC cfg.P i_spec_prBoth [.s (.v (.pr .str .str) a0)] (.s (.own t_int (.int .i64) k1yo3)) [] :=
  SC_of_run cfgOK (its := [.res (.s (.own t_int (.int .i64) c1)) [] [] [9], .res (.s (.own t_int (.int .i64) c2)) [] [] [12], .loop (fun _ => (.exit 0, spec_prBoth_L0X1 k1y13 k1y14 k1y15 k1yo3 k1yo9 k1yo12))])
    (ps := [SC cfg.P i_spec_trExposed [.s (.v .str a0.2)] (.s (.own t_int (.int .i64) c1)) [],
      SC cfg.P i_spec_trExposed [.s (.v .str a0.1)] (.s (.own t_int (.int .i64) c2)) [],
      LoopSC cfg.P 1 (lb P_spec_prBoth 0) (spec_prBoth_L0a ((List.length c2 : Nat) : Int) (0 : Int) ([] : List Int) c1 c2) (.exit 0) (spec_prBoth_L0X1 k1y13 k1y14 k1y15 k1yo3 k1yo9 k1yo12)]) (by kernel_rfl) ⟨h1, h2, h3, trivial⟩ get_spec_prBoth (by decide)

/-! ### spec_trDrop -/


def spec_trDrop_L0a (x0 : ByteArray) (x1 : Int) (x5 : Int) (x6 : Int) : St := mkSt 33 [(0, .s (.v .str x0)), (1, .s (.v (.int .i64) x1)), (5, .s (.v (.int .i64) x5)), (6, .s (.v (.int .i64) x6))] []

def spec_trDrop_L0X1 (y4 : ByteArray) : St := mkSt 33 [(4, .s (.v .str y4))] []

def spec_trDrop_L0X2 (y0 : ByteArray) (y1 : Int) (y5 : Int) (y6 : Int) (y10 : Bool) : St := mkSt 33 [(0, .s (.v .str y0)), (1, .s (.v (.int .i64) y1)), (5, .s (.v (.int .i64) y5)), (6, .s (.v (.int .i64) y6)), (10, .s (.v .bool y10))] []

theorem spec_trDrop_L0a_i1 (x0 : ByteArray) (x1 : Int) (x5 : Int) (x6 : Int)
    (h1 : x6 < ((x0).size : Int))
    (h2 : 0 ≤ x6)
    (h3 : (bt x0 x6) ≠ (46 : Int))
    {e : AEx} {st : St} (next : LoopSC cfg.P 2 (lb P_spec_trDrop 0) (spec_trDrop_L0a x0 x1 x5 (IntKind.wrap .i64 (x6 + (1 : Int)))) e st) :
    LoopSC cfg.P 2 (lb P_spec_trDrop 0) (spec_trDrop_L0a x0 x1 x5 x6) e st :=
  loop_iter cfgOK (f := i_spec_trDrop) (its := [.bool true, .bool true])
    (ps := [decide (x6 < ((x0).size : Int)) = true,
      0 ≤ x6,
      x6 < ((x0).size : Int),
      ((bt x0 x6) != (46 : Int)) = true]) (st1 := spec_trDrop_L0a x0 x1 x5 (IntKind.wrap .i64 (x6 + (1 : Int)))) (by kernel_rfl) ⟨(decide_eq_true h1), h2, h1, (bne_iff_ne.mpr h3), trivial⟩ next

theorem spec_trDrop_L0a_x2 (x0 : ByteArray) (x1 : Int) (x5 : Int) (x6 : Int)
    (h1 : x6 < ((x0).size : Int))
    (h2 : 0 ≤ x6)
    (h3 : (bt x0 x6) = (46 : Int))
    (h4 : x5 = x1)
    (h5 : 0 ≤ (IntKind.wrap .i64 (x6 - (1 : Int))))
    (h6 : (IntKind.wrap .i64 (x6 - (1 : Int))) ≤ ((x0).size : Int))
    (h7 : ((ByteArray.extract x0 ((0 : Int)).toNat ((IntKind.wrap .i64 (x6 - (1 : Int)))).toNat)).size + ((⟨#[46]⟩ : ByteArray)).size ≤ 2 ^ 62)
    (h8 : 0 ≤ (IntKind.wrap .i64 (x6 + (3 : Int))))
    (h9 : (IntKind.wrap .i64 (x6 + (3 : Int))) ≤ ((x0).size : Int))
    (h10 : (((ByteArray.extract x0 ((0 : Int)).toNat ((IntKind.wrap .i64 (x6 - (1 : Int)))).toNat) ++ (⟨#[46]⟩ : ByteArray))).size + ((ByteArray.extract x0 ((IntKind.wrap .i64 (x6 + (3 : Int)))).toNat (((x0).size : Int)).toNat)).size ≤ 2 ^ 62) :
    LoopSC cfg.P 2 (lb P_spec_trDrop 0) (spec_trDrop_L0a x0 x1 x5 x6) (.ret) (spec_trDrop_L0X1 (((ByteArray.extract x0 ((0 : Int)).toNat ((IntKind.wrap .i64 (x6 - (1 : Int)))).toNat) ++ (⟨#[46]⟩ : ByteArray)) ++ (ByteArray.extract x0 ((IntKind.wrap .i64 (x6 + (3 : Int)))).toNat (((x0).size : Int)).toNat))) :=
  loop_out cfgOK (f := i_spec_trDrop) (its := [.bool true, .bool false, .bool true])
    (ps := [decide (x6 < ((x0).size : Int)) = true,
      0 ≤ x6,
      x6 < ((x0).size : Int),
      ((bt x0 x6) != (46 : Int)) = false,
      (x5 == x1) = true,
      0 ≤ (IntKind.wrap .i64 (x6 - (1 : Int))),
      (IntKind.wrap .i64 (x6 - (1 : Int))) ≤ ((x0).size : Int),
      ((ByteArray.extract x0 ((0 : Int)).toNat ((IntKind.wrap .i64 (x6 - (1 : Int)))).toNat)).size + ((⟨#[46]⟩ : ByteArray)).size ≤ 2 ^ 62,
      0 ≤ (IntKind.wrap .i64 (x6 + (3 : Int))),
      (IntKind.wrap .i64 (x6 + (3 : Int))) ≤ ((x0).size : Int),
      (((ByteArray.extract x0 ((0 : Int)).toNat ((IntKind.wrap .i64 (x6 - (1 : Int)))).toNat) ++ (⟨#[46]⟩ : ByteArray))).size + ((ByteArray.extract x0 ((IntKind.wrap .i64 (x6 + (3 : Int)))).toNat (((x0).size : Int)).toNat)).size ≤ 2 ^ 62]) (by kernel_rfl) ⟨(decide_eq_true h1), h2, h1, (bne_eq_false_iff_eq.mpr h3), (beq_iff_eq.mpr h4), h5, h6, h7, h8, h9, h10, trivial⟩ (fun h => by cases h)

theorem spec_trDrop_L0a_i3 (x0 : ByteArray) (x1 : Int) (x5 : Int) (x6 : Int)
    (h1 : x6 < ((x0).size : Int))
    (h2 : 0 ≤ x6)
    (h3 : (bt x0 x6) = (46 : Int))
    (h4 : x5 ≠ x1)
    {e : AEx} {st : St} (next : LoopSC cfg.P 2 (lb P_spec_trDrop 0) (spec_trDrop_L0a x0 x1 (IntKind.wrap .i64 (x5 + (1 : Int))) (IntKind.wrap .i64 (x6 + (1 : Int)))) e st) :
    LoopSC cfg.P 2 (lb P_spec_trDrop 0) (spec_trDrop_L0a x0 x1 x5 x6) e st :=
  loop_iter cfgOK (f := i_spec_trDrop) (its := [.bool true, .bool false, .bool false])
    (ps := [decide (x6 < ((x0).size : Int)) = true,
      0 ≤ x6,
      x6 < ((x0).size : Int),
      ((bt x0 x6) != (46 : Int)) = false,
      (x5 == x1) = false]) (st1 := spec_trDrop_L0a x0 x1 (IntKind.wrap .i64 (x5 + (1 : Int))) (IntKind.wrap .i64 (x6 + (1 : Int)))) (by kernel_rfl) ⟨(decide_eq_true h1), h2, h1, (bne_eq_false_iff_eq.mpr h3), (beq_eq_false_iff_ne.mpr h4), trivial⟩ next

theorem spec_trDrop_L0a_x4 (x0 : ByteArray) (x1 : Int) (x5 : Int) (x6 : Int)
    (h1 : ¬ (x6 < ((x0).size : Int))) :
    LoopSC cfg.P 2 (lb P_spec_trDrop 0) (spec_trDrop_L0a x0 x1 x5 x6) (.exit 0) (spec_trDrop_L0X2 x0 x1 x5 x6 false) :=
  loop_out cfgOK (f := i_spec_trDrop) (its := [.bool false])
    (ps := [decide (x6 < ((x0).size : Int)) = false]) (by kernel_rfl) ⟨(decide_eq_false h1), trivial⟩ (fun h => by cases h)

theorem spec_trDrop_p1 (a0 : ByteArray) (a1 : Int) (k1y4 : ByteArray)
    (h1 : LoopSC cfg.P 2 (lb P_spec_trDrop 0) (spec_trDrop_L0a a0 a1 (0 : Int) (0 : Int)) (.ret) (spec_trDrop_L0X1 k1y4)) :
    SC cfg.P i_spec_trDrop [.s (.v .str a0), .s (.v (.int .i64) a1)] (.s (.v .str k1y4)) [] :=
  SC_of_run cfgOK (its := [.loop (fun _ => (.ret, spec_trDrop_L0X1 k1y4))])
    (ps := [LoopSC cfg.P 2 (lb P_spec_trDrop 0) (spec_trDrop_L0a a0 a1 (0 : Int) (0 : Int)) (.ret) (spec_trDrop_L0X1 k1y4)]) (by kernel_rfl) ⟨h1, trivial⟩ get_spec_trDrop (by decide)

theorem spec_trDrop_p2 (a0 : ByteArray) (a1 : Int) (k1y0 : ByteArray) (k1y1 : Int) (k1y5 : Int) (k1y6 : Int) (k1y10 : Bool)
    (h1 : LoopSC cfg.P 2 (lb P_spec_trDrop 0) (spec_trDrop_L0a a0 a1 (0 : Int) (0 : Int)) (.exit 0) (spec_trDrop_L0X2 k1y0 k1y1 k1y5 k1y6 k1y10)) :
    SC cfg.P i_spec_trDrop [.s (.v .str a0), .s (.v (.int .i64) a1)] (.s (.v .str k1y0)) [] :=
  SC_of_run cfgOK (its := [.loop (fun _ => (.exit 0, spec_trDrop_L0X2 k1y0 k1y1 k1y5 k1y6 k1y10))])
    (ps := [LoopSC cfg.P 2 (lb P_spec_trDrop 0) (spec_trDrop_L0a a0 a1 (0 : Int) (0 : Int)) (.exit 0) (spec_trDrop_L0X2 k1y0 k1y1 k1y5 k1y6 k1y10)]) (by kernel_rfl) ⟨h1, trivial⟩ get_spec_trDrop (by decide)

/-! ### impl_node_text -/


theorem impl_node_text_p1 
     :
    SC cfg.P i_impl_node_text [.s (.v .tree Tr.leaf)] (.s (.v .str (⟨#[46]⟩ : ByteArray))) [] :=
  SC_of_run cfgOK (its := [.bool true])
    (ps := [Tr.leaf.isLeaf = true]) (by kernel_rfl) ⟨rfl, trivial⟩ get_impl_node_text (by decide)

theorem impl_node_text_p2 (a0l : Tr) (a0r : Tr) (c1 : ByteArray) (c2 : ByteArray)
    (h1 : SC cfg.P i_impl_node_text [.s (.v .tree a0l)] (.s (.v .str c1)) [])
    (h2 : ((⟨#[40]⟩ : ByteArray)).size + (c1).size ≤ 2 ^ 62)
    (h3 : SC cfg.P i_impl_node_text [.s (.v .tree a0r)] (.s (.v .str c2)) [])
    (h4 : (((⟨#[40]⟩ : ByteArray) ++ c1)).size + (c2).size ≤ 2 ^ 62)
    (h5 : ((((⟨#[40]⟩ : ByteArray) ++ c1) ++ c2)).size + ((⟨#[41]⟩ : ByteArray)).size ≤ 2 ^ 62) :
    SC cfg.P i_impl_node_text [.s (.v .tree (Tr.node a0l a0r))] (.s (.v .str ((((⟨#[40]⟩ : ByteArray) ++ c1) ++ c2) ++ (⟨#[41]⟩ : ByteArray)))) [] :=
  SC_of_run cfgOK (its := [.bool false, .res (.s (.v .str c1)) [] [] [], .res (.s (.v .str c2)) [] [] []])
    (ps := [(Tr.node a0l a0r).isLeaf = false,
      SC cfg.P i_impl_node_text [.s (.v .tree a0l)] (.s (.v .str c1)) [],
      ((⟨#[40]⟩ : ByteArray)).size + (c1).size ≤ 2 ^ 62,
      SC cfg.P i_impl_node_text [.s (.v .tree a0r)] (.s (.v .str c2)) [],
      (((⟨#[40]⟩ : ByteArray) ++ c1)).size + (c2).size ≤ 2 ^ 62,
      ((((⟨#[40]⟩ : ByteArray) ++ c1) ++ c2)).size + ((⟨#[41]⟩ : ByteArray)).size ≤ 2 ^ 62]) (by kernel_rfl) ⟨rfl, h1, h2, h3, h4, h5, trivial⟩ get_impl_node_text (by decide)

/-! ### spec_trExposed -/


def spec_trExposed_L0a (x0 : ByteArray) (x4 : Int) (x5 : Int) (xo3 : (List Int)) : St := mkSt 41 [(0, .s (.v .str x0)), (3, .s (.osl 3 0)), (4, .s (.v (.int .i64) x4)), (5, .s (.v (.int .i64) x5))] [(3, .row t_int (.int .i64) xo3 0 false)]

def spec_trExposed_L0X1 (y0 : ByteArray) (y4 : Int) (y5 : Int) (y9 : Bool) (yo3 : (List Int)) : St := mkSt 41 [(0, .s (.v .str y0)), (3, .s (.osl 3 0)), (4, .s (.v (.int .i64) y4)), (5, .s (.v (.int .i64) y5)), (9, .s (.v .bool y9))] [(3, .row t_int (.int .i64) yo3 0 false)]

theorem spec_trExposed_L0a_i1 (x0 : ByteArray) (x4 : Int) (x5 : Int) (xo3 : (List Int))
    (h1 : x5 < ((x0).size : Int))
    (h2 : x5 > (0 : Int))
    (h3 : (IntKind.wrap .i64 (x5 + (2 : Int))) < ((x0).size : Int))
    (h4 : 0 ≤ (IntKind.wrap .i64 (x5 - (1 : Int))))
    (h5 : (IntKind.wrap .i64 (x5 - (1 : Int))) ≤ (IntKind.wrap .i64 (x5 + (3 : Int))))
    (h6 : (IntKind.wrap .i64 (x5 + (3 : Int))) ≤ ((x0).size : Int))
    (h7 : (ByteArray.extract x0 ((IntKind.wrap .i64 (x5 - (1 : Int)))).toNat ((IntKind.wrap .i64 (x5 + (3 : Int)))).toNat) = (⟨#[40, 46, 46, 41]⟩ : ByteArray))
    (h8 : sizeOK (List.length xo3 + List.length ([x4] : List Int)))
    (h9 : 0 ≤ x5)
    (h10 : (bt x0 x5) = (46 : Int))
    {e : AEx} {st : St} (next : LoopSC cfg.P 1 (lb P_spec_trExposed 0) (spec_trExposed_L0a x0 (IntKind.wrap .i64 (x4 + (1 : Int))) (IntKind.wrap .i64 (x5 + (1 : Int))) (xo3 ++ ([x4] : List Int))) e st) :
    LoopSC cfg.P 1 (lb P_spec_trExposed 0) (spec_trExposed_L0a x0 x4 x5 xo3) e st :=
  loop_iter cfgOK (f := i_spec_trExposed) (its := [.bool true, .bool true, .bool true, .bool true, .bool true])
    (ps := [decide (x5 < ((x0).size : Int)) = true,
      decide (x5 > (0 : Int)) = true,
      decide ((IntKind.wrap .i64 (x5 + (2 : Int))) < ((x0).size : Int)) = true,
      0 ≤ (IntKind.wrap .i64 (x5 - (1 : Int))),
      (IntKind.wrap .i64 (x5 - (1 : Int))) ≤ (IntKind.wrap .i64 (x5 + (3 : Int))),
      (IntKind.wrap .i64 (x5 + (3 : Int))) ≤ ((x0).size : Int),
      (((ByteArray.extract x0 ((IntKind.wrap .i64 (x5 - (1 : Int)))).toNat ((IntKind.wrap .i64 (x5 + (3 : Int)))).toNat)).toList == ((⟨#[40, 46, 46, 41]⟩ : ByteArray)).toList) = true,
      sizeOK (List.length xo3 + List.length ([x4] : List Int)),
      0 ≤ x5,
      x5 < ((x0).size : Int),
      ((bt x0 x5) == (46 : Int)) = true]) (st1 := spec_trExposed_L0a x0 (IntKind.wrap .i64 (x4 + (1 : Int))) (IntKind.wrap .i64 (x5 + (1 : Int))) (xo3 ++ ([x4] : List Int))) (by kernel_rfl) ⟨(decide_eq_true h1), (decide_eq_true h2), (decide_eq_true h3), h4, h5, h6, (seq_t h7), h8, h9, h1, (beq_iff_eq.mpr h10), trivial⟩ next

theorem spec_trExposed_L0a_i2 (x0 : ByteArray) (x4 : Int) (x5 : Int) (xo3 : (List Int))
    (h1 : x5 < ((x0).size : Int))
    (h2 : x5 > (0 : Int))
    (h3 : (IntKind.wrap .i64 (x5 + (2 : Int))) < ((x0).size : Int))
    (h4 : 0 ≤ (IntKind.wrap .i64 (x5 - (1 : Int))))
    (h5 : (IntKind.wrap .i64 (x5 - (1 : Int))) ≤ (IntKind.wrap .i64 (x5 + (3 : Int))))
    (h6 : (IntKind.wrap .i64 (x5 + (3 : Int))) ≤ ((x0).size : Int))
    (h7 : (ByteArray.extract x0 ((IntKind.wrap .i64 (x5 - (1 : Int)))).toNat ((IntKind.wrap .i64 (x5 + (3 : Int)))).toNat) = (⟨#[40, 46, 46, 41]⟩ : ByteArray))
    (h8 : sizeOK (List.length xo3 + List.length ([x4] : List Int)))
    (h9 : 0 ≤ x5)
    (h10 : (bt x0 x5) ≠ (46 : Int))
    {e : AEx} {st : St} (next : LoopSC cfg.P 1 (lb P_spec_trExposed 0) (spec_trExposed_L0a x0 x4 (IntKind.wrap .i64 (x5 + (1 : Int))) (xo3 ++ ([x4] : List Int))) e st) :
    LoopSC cfg.P 1 (lb P_spec_trExposed 0) (spec_trExposed_L0a x0 x4 x5 xo3) e st :=
  loop_iter cfgOK (f := i_spec_trExposed) (its := [.bool true, .bool true, .bool true, .bool true, .bool false])
    (ps := [decide (x5 < ((x0).size : Int)) = true,
      decide (x5 > (0 : Int)) = true,
      decide ((IntKind.wrap .i64 (x5 + (2 : Int))) < ((x0).size : Int)) = true,
      0 ≤ (IntKind.wrap .i64 (x5 - (1 : Int))),
      (IntKind.wrap .i64 (x5 - (1 : Int))) ≤ (IntKind.wrap .i64 (x5 + (3 : Int))),
      (IntKind.wrap .i64 (x5 + (3 : Int))) ≤ ((x0).size : Int),
      (((ByteArray.extract x0 ((IntKind.wrap .i64 (x5 - (1 : Int)))).toNat ((IntKind.wrap .i64 (x5 + (3 : Int)))).toNat)).toList == ((⟨#[40, 46, 46, 41]⟩ : ByteArray)).toList) = true,
      sizeOK (List.length xo3 + List.length ([x4] : List Int)),
      0 ≤ x5,
      x5 < ((x0).size : Int),
      ((bt x0 x5) == (46 : Int)) = false]) (st1 := spec_trExposed_L0a x0 x4 (IntKind.wrap .i64 (x5 + (1 : Int))) (xo3 ++ ([x4] : List Int))) (by kernel_rfl) ⟨(decide_eq_true h1), (decide_eq_true h2), (decide_eq_true h3), h4, h5, h6, (seq_t h7), h8, h9, h1, (beq_eq_false_iff_ne.mpr h10), trivial⟩ next

theorem spec_trExposed_L0a_i3 (x0 : ByteArray) (x4 : Int) (x5 : Int) (xo3 : (List Int))
    (h1 : x5 < ((x0).size : Int))
    (h2 : x5 > (0 : Int))
    (h3 : (IntKind.wrap .i64 (x5 + (2 : Int))) < ((x0).size : Int))
    (h4 : 0 ≤ (IntKind.wrap .i64 (x5 - (1 : Int))))
    (h5 : (IntKind.wrap .i64 (x5 - (1 : Int))) ≤ (IntKind.wrap .i64 (x5 + (3 : Int))))
    (h6 : (IntKind.wrap .i64 (x5 + (3 : Int))) ≤ ((x0).size : Int))
    (h7 : (ByteArray.extract x0 ((IntKind.wrap .i64 (x5 - (1 : Int)))).toNat ((IntKind.wrap .i64 (x5 + (3 : Int)))).toNat) ≠ (⟨#[40, 46, 46, 41]⟩ : ByteArray))
    (h8 : 0 ≤ x5)
    (h9 : (bt x0 x5) = (46 : Int))
    {e : AEx} {st : St} (next : LoopSC cfg.P 1 (lb P_spec_trExposed 0) (spec_trExposed_L0a x0 (IntKind.wrap .i64 (x4 + (1 : Int))) (IntKind.wrap .i64 (x5 + (1 : Int))) xo3) e st) :
    LoopSC cfg.P 1 (lb P_spec_trExposed 0) (spec_trExposed_L0a x0 x4 x5 xo3) e st :=
  loop_iter cfgOK (f := i_spec_trExposed) (its := [.bool true, .bool true, .bool true, .bool false, .bool true])
    (ps := [decide (x5 < ((x0).size : Int)) = true,
      decide (x5 > (0 : Int)) = true,
      decide ((IntKind.wrap .i64 (x5 + (2 : Int))) < ((x0).size : Int)) = true,
      0 ≤ (IntKind.wrap .i64 (x5 - (1 : Int))),
      (IntKind.wrap .i64 (x5 - (1 : Int))) ≤ (IntKind.wrap .i64 (x5 + (3 : Int))),
      (IntKind.wrap .i64 (x5 + (3 : Int))) ≤ ((x0).size : Int),
      (((ByteArray.extract x0 ((IntKind.wrap .i64 (x5 - (1 : Int)))).toNat ((IntKind.wrap .i64 (x5 + (3 : Int)))).toNat)).toList == ((⟨#[40, 46, 46, 41]⟩ : ByteArray)).toList) = false,
      0 ≤ x5,
      x5 < ((x0).size : Int),
      ((bt x0 x5) == (46 : Int)) = true]) (st1 := spec_trExposed_L0a x0 (IntKind.wrap .i64 (x4 + (1 : Int))) (IntKind.wrap .i64 (x5 + (1 : Int))) xo3) (by kernel_rfl) ⟨(decide_eq_true h1), (decide_eq_true h2), (decide_eq_true h3), h4, h5, h6, (seq_f h7), h8, h1, (beq_iff_eq.mpr h9), trivial⟩ next

theorem spec_trExposed_L0a_i4 (x0 : ByteArray) (x4 : Int) (x5 : Int) (xo3 : (List Int))
    (h1 : x5 < ((x0).size : Int))
    (h2 : x5 > (0 : Int))
    (h3 : (IntKind.wrap .i64 (x5 + (2 : Int))) < ((x0).size : Int))
    (h4 : 0 ≤ (IntKind.wrap .i64 (x5 - (1 : Int))))
    (h5 : (IntKind.wrap .i64 (x5 - (1 : Int))) ≤ (IntKind.wrap .i64 (x5 + (3 : Int))))
    (h6 : (IntKind.wrap .i64 (x5 + (3 : Int))) ≤ ((x0).size : Int))
    (h7 : (ByteArray.extract x0 ((IntKind.wrap .i64 (x5 - (1 : Int)))).toNat ((IntKind.wrap .i64 (x5 + (3 : Int)))).toNat) ≠ (⟨#[40, 46, 46, 41]⟩ : ByteArray))
    (h8 : 0 ≤ x5)
    (h9 : (bt x0 x5) ≠ (46 : Int))
    {e : AEx} {st : St} (next : LoopSC cfg.P 1 (lb P_spec_trExposed 0) (spec_trExposed_L0a x0 x4 (IntKind.wrap .i64 (x5 + (1 : Int))) xo3) e st) :
    LoopSC cfg.P 1 (lb P_spec_trExposed 0) (spec_trExposed_L0a x0 x4 x5 xo3) e st :=
  loop_iter cfgOK (f := i_spec_trExposed) (its := [.bool true, .bool true, .bool true, .bool false, .bool false])
    (ps := [decide (x5 < ((x0).size : Int)) = true,
      decide (x5 > (0 : Int)) = true,
      decide ((IntKind.wrap .i64 (x5 + (2 : Int))) < ((x0).size : Int)) = true,
      0 ≤ (IntKind.wrap .i64 (x5 - (1 : Int))),
      (IntKind.wrap .i64 (x5 - (1 : Int))) ≤ (IntKind.wrap .i64 (x5 + (3 : Int))),
      (IntKind.wrap .i64 (x5 + (3 : Int))) ≤ ((x0).size : Int),
      (((ByteArray.extract x0 ((IntKind.wrap .i64 (x5 - (1 : Int)))).toNat ((IntKind.wrap .i64 (x5 + (3 : Int)))).toNat)).toList == ((⟨#[40, 46, 46, 41]⟩ : ByteArray)).toList) = false,
      0 ≤ x5,
      x5 < ((x0).size : Int),
      ((bt x0 x5) == (46 : Int)) = false]) (st1 := spec_trExposed_L0a x0 x4 (IntKind.wrap .i64 (x5 + (1 : Int))) xo3) (by kernel_rfl) ⟨(decide_eq_true h1), (decide_eq_true h2), (decide_eq_true h3), h4, h5, h6, (seq_f h7), h8, h1, (beq_eq_false_iff_ne.mpr h9), trivial⟩ next

theorem spec_trExposed_L0a_i5 (x0 : ByteArray) (x4 : Int) (x5 : Int) (xo3 : (List Int))
    (h1 : x5 < ((x0).size : Int))
    (h2 : x5 > (0 : Int))
    (h3 : ¬ ((IntKind.wrap .i64 (x5 + (2 : Int))) < ((x0).size : Int)))
    (h4 : 0 ≤ x5)
    (h5 : (bt x0 x5) = (46 : Int))
    {e : AEx} {st : St} (next : LoopSC cfg.P 1 (lb P_spec_trExposed 0) (spec_trExposed_L0a x0 (IntKind.wrap .i64 (x4 + (1 : Int))) (IntKind.wrap .i64 (x5 + (1 : Int))) xo3) e st) :
    LoopSC cfg.P 1 (lb P_spec_trExposed 0) (spec_trExposed_L0a x0 x4 x5 xo3) e st :=
  loop_iter cfgOK (f := i_spec_trExposed) (its := [.bool true, .bool true, .bool false, .bool true])
    (ps := [decide (x5 < ((x0).size : Int)) = true,
      decide (x5 > (0 : Int)) = true,
      decide ((IntKind.wrap .i64 (x5 + (2 : Int))) < ((x0).size : Int)) = false,
      0 ≤ x5,
      x5 < ((x0).size : Int),
      ((bt x0 x5) == (46 : Int)) = true]) (st1 := spec_trExposed_L0a x0 (IntKind.wrap .i64 (x4 + (1 : Int))) (IntKind.wrap .i64 (x5 + (1 : Int))) xo3) (by kernel_rfl) ⟨(decide_eq_true h1), (decide_eq_true h2), (decide_eq_false h3), h4, h1, (beq_iff_eq.mpr h5), trivial⟩ next

theorem spec_trExposed_L0a_i6 (x0 : ByteArray) (x4 : Int) (x5 : Int) (xo3 : (List Int))
    (h1 : x5 < ((x0).size : Int))
    (h2 : x5 > (0 : Int))
    (h3 : ¬ ((IntKind.wrap .i64 (x5 + (2 : Int))) < ((x0).size : Int)))
    (h4 : 0 ≤ x5)
    (h5 : (bt x0 x5) ≠ (46 : Int))
    {e : AEx} {st : St} (next : LoopSC cfg.P 1 (lb P_spec_trExposed 0) (spec_trExposed_L0a x0 x4 (IntKind.wrap .i64 (x5 + (1 : Int))) xo3) e st) :
    LoopSC cfg.P 1 (lb P_spec_trExposed 0) (spec_trExposed_L0a x0 x4 x5 xo3) e st :=
  loop_iter cfgOK (f := i_spec_trExposed) (its := [.bool true, .bool true, .bool false, .bool false])
    (ps := [decide (x5 < ((x0).size : Int)) = true,
      decide (x5 > (0 : Int)) = true,
      decide ((IntKind.wrap .i64 (x5 + (2 : Int))) < ((x0).size : Int)) = false,
      0 ≤ x5,
      x5 < ((x0).size : Int),
      ((bt x0 x5) == (46 : Int)) = false]) (st1 := spec_trExposed_L0a x0 x4 (IntKind.wrap .i64 (x5 + (1 : Int))) xo3) (by kernel_rfl) ⟨(decide_eq_true h1), (decide_eq_true h2), (decide_eq_false h3), h4, h1, (beq_eq_false_iff_ne.mpr h5), trivial⟩ next

theorem spec_trExposed_L0a_i7 (x0 : ByteArray) (x4 : Int) (x5 : Int) (xo3 : (List Int))
    (h1 : x5 < ((x0).size : Int))
    (h2 : ¬ (x5 > (0 : Int)))
    (h3 : 0 ≤ x5)
    (h4 : (bt x0 x5) = (46 : Int))
    {e : AEx} {st : St} (next : LoopSC cfg.P 1 (lb P_spec_trExposed 0) (spec_trExposed_L0a x0 (IntKind.wrap .i64 (x4 + (1 : Int))) (IntKind.wrap .i64 (x5 + (1 : Int))) xo3) e st) :
    LoopSC cfg.P 1 (lb P_spec_trExposed 0) (spec_trExposed_L0a x0 x4 x5 xo3) e st :=
  loop_iter cfgOK (f := i_spec_trExposed) (its := [.bool true, .bool false, .bool true])
    (ps := [decide (x5 < ((x0).size : Int)) = true,
      decide (x5 > (0 : Int)) = false,
      0 ≤ x5,
      x5 < ((x0).size : Int),
      ((bt x0 x5) == (46 : Int)) = true]) (st1 := spec_trExposed_L0a x0 (IntKind.wrap .i64 (x4 + (1 : Int))) (IntKind.wrap .i64 (x5 + (1 : Int))) xo3) (by kernel_rfl) ⟨(decide_eq_true h1), (decide_eq_false h2), h3, h1, (beq_iff_eq.mpr h4), trivial⟩ next

theorem spec_trExposed_L0a_i8 (x0 : ByteArray) (x4 : Int) (x5 : Int) (xo3 : (List Int))
    (h1 : x5 < ((x0).size : Int))
    (h2 : ¬ (x5 > (0 : Int)))
    (h3 : 0 ≤ x5)
    (h4 : (bt x0 x5) ≠ (46 : Int))
    {e : AEx} {st : St} (next : LoopSC cfg.P 1 (lb P_spec_trExposed 0) (spec_trExposed_L0a x0 x4 (IntKind.wrap .i64 (x5 + (1 : Int))) xo3) e st) :
    LoopSC cfg.P 1 (lb P_spec_trExposed 0) (spec_trExposed_L0a x0 x4 x5 xo3) e st :=
  loop_iter cfgOK (f := i_spec_trExposed) (its := [.bool true, .bool false, .bool false])
    (ps := [decide (x5 < ((x0).size : Int)) = true,
      decide (x5 > (0 : Int)) = false,
      0 ≤ x5,
      x5 < ((x0).size : Int),
      ((bt x0 x5) == (46 : Int)) = false]) (st1 := spec_trExposed_L0a x0 x4 (IntKind.wrap .i64 (x5 + (1 : Int))) xo3) (by kernel_rfl) ⟨(decide_eq_true h1), (decide_eq_false h2), h3, h1, (beq_eq_false_iff_ne.mpr h4), trivial⟩ next

theorem spec_trExposed_L0a_x9 (x0 : ByteArray) (x4 : Int) (x5 : Int) (xo3 : (List Int))
    (h1 : ¬ (x5 < ((x0).size : Int))) :
    LoopSC cfg.P 1 (lb P_spec_trExposed 0) (spec_trExposed_L0a x0 x4 x5 xo3) (.exit 0) (spec_trExposed_L0X1 x0 x4 x5 false xo3) :=
  loop_out cfgOK (f := i_spec_trExposed) (its := [.bool false])
    (ps := [decide (x5 < ((x0).size : Int)) = false]) (by kernel_rfl) ⟨(decide_eq_false h1), trivial⟩ (fun h => by cases h)

theorem spec_trExposed_p1 (a0 : ByteArray) (k1y0 : ByteArray) (k1y4 : Int) (k1y5 : Int) (k1y9 : Bool) (k1yo3 : (List Int))
    (h1 : LoopSC cfg.P 1 (lb P_spec_trExposed 0) (spec_trExposed_L0a a0 (0 : Int) (0 : Int) ([] : List Int)) (.exit 0) (spec_trExposed_L0X1 k1y0 k1y4 k1y5 k1y9 k1yo3)) :
    SC cfg.P i_spec_trExposed [.s (.v .str a0)] (.s (.own t_int (.int .i64) k1yo3)) [] :=
  SC_of_run cfgOK (its := [.loop (fun _ => (.exit 0, spec_trExposed_L0X1 k1y0 k1y4 k1y5 k1y9 k1yo3))])
    (ps := [LoopSC cfg.P 1 (lb P_spec_trExposed 0) (spec_trExposed_L0a a0 (0 : Int) (0 : Int) ([] : List Int)) (.exit 0) (spec_trExposed_L0X1 k1y0 k1y4 k1y5 k1y9 k1yo3)]) (by kernel_rfl) ⟨h1, trivial⟩ get_spec_trExposed (by decide)

/-! ### spec_l1Has -/


def spec_l1Has_L0a (x1 : Int) (x7 : (List Int)) (x8 : Int) (x9 : Int) : St := mkSt 17 [(1, .s (.v (.int .i64) x1)), (7, .s (.v (.sl (.int .i64)) x7)), (8, .s (.v (.int .i64) x8)), (9, .s (.v (.int .i64) x9))] []

def spec_l1Has_L0X1 (y4 : Bool) : St := mkSt 17 [(4, .s (.v .bool y4))] []

def spec_l1Has_L0X2 (y1 : Int) (y7 : (List Int)) (y8 : Int) (y9 : Int) (y10 : Bool) : St := mkSt 17 [(1, .s (.v (.int .i64) y1)), (7, .s (.v (.sl (.int .i64)) y7)), (8, .s (.v (.int .i64) y8)), (9, .s (.v (.int .i64) y9)), (10, .s (.v .bool y10))] []

theorem spec_l1Has_L0a_x1 (x1 : Int) (x7 : (List Int)) (x8 : Int) (x9 : Int)
    (h1 : x9 < x8)
    (h2 : 0 ≤ x9)
    (h3 : x9 < (List.length x7 : Int))
    (h4 : (List.getD x7 (x9).toNat (0 : Int)) = x1) :
    LoopSC cfg.P 2 (lb P_spec_l1Has 0) (spec_l1Has_L0a x1 x7 x8 x9) (.ret) (spec_l1Has_L0X1 true) :=
  loop_out cfgOK (f := i_spec_l1Has) (its := [.bool true, .bool true])
    (ps := [decide (x9 < x8) = true,
      0 ≤ x9,
      x9 < (List.length x7 : Int),
      ((List.getD x7 (x9).toNat (0 : Int)) == x1) = true]) (by kernel_rfl) ⟨(decide_eq_true h1), h2, h3, (beq_iff_eq.mpr h4), trivial⟩ (fun h => by cases h)

theorem spec_l1Has_L0a_i2 (x1 : Int) (x7 : (List Int)) (x8 : Int) (x9 : Int)
    (h1 : x9 < x8)
    (h2 : 0 ≤ x9)
    (h3 : x9 < (List.length x7 : Int))
    (h4 : (List.getD x7 (x9).toNat (0 : Int)) ≠ x1)
    {e : AEx} {st : St} (next : LoopSC cfg.P 2 (lb P_spec_l1Has 0) (spec_l1Has_L0a x1 x7 x8 (IntKind.wrap .i64 (x9 + (1 : Int)))) e st) :
    LoopSC cfg.P 2 (lb P_spec_l1Has 0) (spec_l1Has_L0a x1 x7 x8 x9) e st :=
  loop_iter cfgOK (f := i_spec_l1Has) (its := [.bool true, .bool false])
    (ps := [decide (x9 < x8) = true,
      0 ≤ x9,
      x9 < (List.length x7 : Int),
      ((List.getD x7 (x9).toNat (0 : Int)) == x1) = false]) (st1 := spec_l1Has_L0a x1 x7 x8 (IntKind.wrap .i64 (x9 + (1 : Int)))) (by kernel_rfl) ⟨(decide_eq_true h1), h2, h3, (beq_eq_false_iff_ne.mpr h4), trivial⟩ next

theorem spec_l1Has_L0a_x3 (x1 : Int) (x7 : (List Int)) (x8 : Int) (x9 : Int)
    (h1 : ¬ (x9 < x8)) :
    LoopSC cfg.P 2 (lb P_spec_l1Has 0) (spec_l1Has_L0a x1 x7 x8 x9) (.exit 0) (spec_l1Has_L0X2 x1 x7 x8 x9 false) :=
  loop_out cfgOK (f := i_spec_l1Has) (its := [.bool false])
    (ps := [decide (x9 < x8) = false]) (by kernel_rfl) ⟨(decide_eq_false h1), trivial⟩ (fun h => by cases h)

theorem spec_l1Has_p1 (a0 : (List Int)) (a1 : Int) (k1y4 : Bool)
    (h1 : LoopSC cfg.P 2 (lb P_spec_l1Has 0) (spec_l1Has_L0a a1 a0 ((List.length a0 : Nat) : Int) (0 : Int)) (.ret) (spec_l1Has_L0X1 k1y4)) :
    SC cfg.P i_spec_l1Has [.s (.v (.sl (.int .i64)) a0), .s (.v (.int .i64) a1)] (.s (.v .bool k1y4)) [] :=
  SC_of_run cfgOK (its := [.loop (fun _ => (.ret, spec_l1Has_L0X1 k1y4))])
    (ps := [LoopSC cfg.P 2 (lb P_spec_l1Has 0) (spec_l1Has_L0a a1 a0 ((List.length a0 : Nat) : Int) (0 : Int)) (.ret) (spec_l1Has_L0X1 k1y4)]) (by kernel_rfl) ⟨h1, trivial⟩ get_spec_l1Has (by decide)

theorem spec_l1Has_p2 (a0 : (List Int)) (a1 : Int) (k1y1 : Int) (k1y7 : (List Int)) (k1y8 : Int) (k1y9 : Int) (k1y10 : Bool)
    (h1 : LoopSC cfg.P 2 (lb P_spec_l1Has 0) (spec_l1Has_L0a a1 a0 ((List.length a0 : Nat) : Int) (0 : Int)) (.exit 0) (spec_l1Has_L0X2 k1y1 k1y7 k1y8 k1y9 k1y10)) :
    SC cfg.P i_spec_l1Has [.s (.v (.sl (.int .i64)) a0), .s (.v (.int .i64) a1)] (.s (.v .bool false)) [] :=
  SC_of_run cfgOK (its := [.loop (fun _ => (.exit 0, spec_l1Has_L0X2 k1y1 k1y7 k1y8 k1y9 k1y10))])
    (ps := [LoopSC cfg.P 2 (lb P_spec_l1Has 0) (spec_l1Has_L0a a1 a0 ((List.length a0 : Nat) : Int) (0 : Int)) (.exit 0) (spec_l1Has_L0X2 k1y1 k1y7 k1y8 k1y9 k1y10)]) (by kernel_rfl) ⟨h1, trivial⟩ get_spec_l1Has (by decide)

end Go.AI
