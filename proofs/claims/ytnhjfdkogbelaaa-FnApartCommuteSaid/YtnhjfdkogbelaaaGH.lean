/- A part of the road: what it proves stands in its last texts. -/
import Derived.Test.YtnhjfdkogbelaaaSIds
import Derived.Test.YtnhjfdkogbelaaaProg
set_option autoImplicit false
set_option maxRecDepth 100000
set_option linter.unusedVariables false
namespace Go.AI
open Go.Proofs

/-! ### impl_AreApart -/


theorem impl_AreApart_p1 (a0 : (ByteArray × ByteArray)) (a1 : (ByteArray × ByteArray)) (c1a : (Tr × Tr)) (c1b : (Tr × Tr)) (c2 : (List (List (Int × Int)))) (c3 : Bool)
    (h1 : SC cfg.P i_impl_two [.s (.v (.pr .str .str) a0), .s (.v (.pr .str .str) a1)] (.tup [.v (.pr .tree .tree) c1a, .v (.pr .tree .tree) c1b, .v .bool true]) [])
    (h2 : SC cfg.P i_impl_pair_moved [.s (.v (.pr .tree .tree) c1a)] (.s (.own t_Simpl_Ratio (.sl (.pr (.int .i64) (.int .i64))) c2)) [])
    (h3 : SC cfg.P i_slices_ContainsFunc [.s (.v (.sl (.sl (.pr (.int .i64) (.int .i64)))) c2), .fn i_impl_AreApart_k1 [] [.fadr (.pr .tree .tree) c1b]] (.s (.v .bool c3)) []) :
    SC cfg.P i_impl_AreApart [.s (.v (.pr .str .str) a0), .s (.v (.pr .str .str) a1)] (.tup [.v .bool (!c3), .v .bool true]) [] :=
  SC_of_run cfgOK (its := [.res (.tup [.v (.pr .tree .tree) c1a, .v (.pr .tree .tree) c1b, .v .bool true]) [] [] [], .res (.s (.own t_Simpl_Ratio (.sl (.pr (.int .i64) (.int .i64))) c2)) [] [] [19], .res (.s (.v .bool c3)) [] [] []])
    (ps := [SC cfg.P i_impl_two [.s (.v (.pr .str .str) a0), .s (.v (.pr .str .str) a1)] (.tup [.v (.pr .tree .tree) c1a, .v (.pr .tree .tree) c1b, .v .bool true]) [],
      SC cfg.P i_impl_pair_moved [.s (.v (.pr .tree .tree) c1a)] (.s (.own t_Simpl_Ratio (.sl (.pr (.int .i64) (.int .i64))) c2)) [],
      SC cfg.P i_slices_ContainsFunc [.s (.v (.sl (.sl (.pr (.int .i64) (.int .i64)))) c2), .fn i_impl_AreApart_k1 [] [.fadr (.pr .tree .tree) c1b]] (.s (.v .bool c3)) []]) (by kernel_rfl) ⟨h1, h2, h3, trivial⟩ get_impl_AreApart (by decide)

theorem impl_AreApart_p2 (a0 : (ByteArray × ByteArray)) (a1 : (ByteArray × ByteArray)) (c1a : (Tr × Tr)) (c1b : (Tr × Tr))
    (h1 : SC cfg.P i_impl_two [.s (.v (.pr .str .str) a0), .s (.v (.pr .str .str) a1)] (.tup [.v (.pr .tree .tree) c1a, .v (.pr .tree .tree) c1b, .v .bool false]) []) :
    SC cfg.P i_impl_AreApart [.s (.v (.pr .str .str) a0), .s (.v (.pr .str .str) a1)] (.tup [.v .bool false, .v .bool false]) [] :=
  SC_of_run cfgOK (its := [.res (.tup [.v (.pr .tree .tree) c1a, .v (.pr .tree .tree) c1b, .v .bool false]) [] [] []])
    (ps := [SC cfg.P i_impl_two [.s (.v (.pr .str .str) a0), .s (.v (.pr .str .str) a1)] (.tup [.v (.pr .tree .tree) c1a, .v (.pr .tree .tree) c1b, .v .bool false]) []]) (by kernel_rfl) ⟨h1, trivial⟩ get_impl_AreApart (by decide)

/-! ### spec_AreApart -/


def spec_AreApart_L0a (x20 : Int) (x21 : Int) (xo3 : (ByteArray × ByteArray)) (xo19 : (List (List (Int × Int)))) : St := mkSt 50 [(3, .s (.adr 3 none)), (19, .s (.osl 19 0)), (20, .s (.v (.int .i64) x20)), (21, .s (.v (.int .i64) x21))] [(3, .box (.pr .str .str) xo3 false), (19, .row t_Simpl_Ratio (.sl (.pr (.int .i64) (.int .i64))) xo19 0 false)]

def spec_AreApart_L1a (x7 : (List (Int × Int))) (x20 : Int) (x21 : Int) (x27 : Int) (x28 : Int) (xo3 : (ByteArray × ByteArray)) (xo19 : (List (List (Int × Int)))) (xo26 : (List (List (Int × Int)))) : St := mkSt 50 [(3, .s (.adr 3 none)), (7, .s (.v (.sl (.pr (.int .i64) (.int .i64))) x7)), (19, .s (.osl 19 0)), (20, .s (.v (.int .i64) x20)), (21, .s (.v (.int .i64) x21)), (26, .s (.osl 26 0)), (27, .s (.v (.int .i64) x27)), (28, .s (.v (.int .i64) x28))] [(3, .box (.pr .str .str) xo3 false), (19, .row t_Simpl_Ratio (.sl (.pr (.int .i64) (.int .i64))) xo19 0 false), (26, .row t_Simpl_Ratio (.sl (.pr (.int .i64) (.int .i64))) xo26 0 false)]

def spec_AreApart_L1X1 (y4 : Bool) (y5 : Bool) : St := mkSt 50 [(4, .s (.v .bool y4)), (5, .s (.v .bool y5))] []

def spec_AreApart_L1X2 (y7 : (List (Int × Int))) (y20 : Int) (y21 : Int) (y27 : Int) (y28 : Int) (y29 : Bool) (yo3 : (ByteArray × ByteArray)) (yo19 : (List (List (Int × Int)))) (yo26 : (List (List (Int × Int)))) : St := mkSt 50 [(3, .s (.adr 3 none)), (7, .s (.v (.sl (.pr (.int .i64) (.int .i64))) y7)), (19, .s (.osl 19 0)), (20, .s (.v (.int .i64) y20)), (21, .s (.v (.int .i64) y21)), (26, .s (.osl 26 0)), (27, .s (.v (.int .i64) y27)), (28, .s (.v (.int .i64) y28)), (29, .s (.v .bool y29))] [(3, .box (.pr .str .str) yo3 false), (19, .row t_Simpl_Ratio (.sl (.pr (.int .i64) (.int .i64))) yo19 0 false), (26, .row t_Simpl_Ratio (.sl (.pr (.int .i64) (.int .i64))) yo26 0 false)]

def spec_AreApart_L0X1 (y4 : Bool) (y5 : Bool) : St := mkSt 50 [(4, .s (.v .bool y4)), (5, .s (.v .bool y5))] []

def spec_AreApart_L0X2 (y20 : Int) (y21 : Int) (y22 : Bool) (yo3 : (ByteArray × ByteArray)) (yo19 : (List (List (Int × Int)))) : St := mkSt 50 [(3, .s (.adr 3 none)), (19, .s (.osl 19 0)), (20, .s (.v (.int .i64) y20)), (21, .s (.v (.int .i64) y21)), (22, .s (.v .bool y22))] [(3, .box (.pr .str .str) yo3 false), (19, .row t_Simpl_Ratio (.sl (.pr (.int .i64) (.int .i64))) yo19 0 false)]

theorem spec_AreApart_L0a_x1 (x20 : Int) (x21 : Int) (xo3 : (ByteArray × ByteArray)) (xo19 : (List (List (Int × Int)))) (dc1 : (List (List (Int × Int)))) (dk1y4 : Bool) (dk1y5 : Bool)
    (h1 : x21 < x20)
    (h2 : 0 ≤ x21)
    (h3 : x21 < (List.length xo19 : Int))
    (h4 : (x21).toNat < List.length xo19)
    (h5 : SC cfg.P i_spec_obMoved [.s (.v (.pr .str .str) xo3)] (.s (.own t_Simpl_Ratio (.sl (.pr (.int .i64) (.int .i64))) dc1)) [])
    (h6 : LoopSC cfg.P 2 (lb P_spec_AreApart 1) (spec_AreApart_L1a (List.getD xo19 (x21).toNat ([] : List (Int × Int))) x20 x21 ((List.length dc1 : Nat) : Int) (0 : Int) xo3 xo19 dc1) (.ret) (spec_AreApart_L1X1 dk1y4 dk1y5)) :
    LoopSC cfg.P 2 (lb P_spec_AreApart 0) (spec_AreApart_L0a x20 x21 xo3 xo19) (.ret) (spec_AreApart_L0X1 dk1y4 dk1y5) :=
  loop_out cfgOK (f := i_spec_AreApart) (its := [.bool true, .res (.s (.own t_Simpl_Ratio (.sl (.pr (.int .i64) (.int .i64))) dc1)) [] [] [26], .loop (fun _ => (.ret, spec_AreApart_L1X1 dk1y4 dk1y5))])
    (ps := [decide (x21 < x20) = true,
      0 ≤ x21,
      x21 < (List.length xo19 : Int),
      (x21).toNat < List.length xo19,
      SC cfg.P i_spec_obMoved [.s (.v (.pr .str .str) xo3)] (.s (.own t_Simpl_Ratio (.sl (.pr (.int .i64) (.int .i64))) dc1)) [],
      LoopSC cfg.P 2 (lb P_spec_AreApart 1) (spec_AreApart_L1a (List.getD xo19 (x21).toNat ([] : List (Int × Int))) x20 x21 ((List.length dc1 : Nat) : Int) (0 : Int) xo3 xo19 dc1) (.ret) (spec_AreApart_L1X1 dk1y4 dk1y5)]) (by kernel_rfl) ⟨(decide_eq_true h1), h2, h3, h4, h5, h6, trivial⟩ (fun h => by cases h)

theorem spec_AreApart_L0a_i2 (x20 : Int) (x21 : Int) (xo3 : (ByteArray × ByteArray)) (xo19 : (List (List (Int × Int)))) (dc1 : (List (List (Int × Int)))) (dk1y7 : (List (Int × Int))) (dk1y20 : Int) (dk1y21 : Int) (dk1y27 : Int) (dk1y28 : Int) (dk1y29 : Bool) (dk1yo3 : (ByteArray × ByteArray)) (dk1yo19 : (List (List (Int × Int)))) (dk1yo26 : (List (List (Int × Int))))
    (h1 : x21 < x20)
    (h2 : 0 ≤ x21)
    (h3 : x21 < (List.length xo19 : Int))
    (h4 : (x21).toNat < List.length xo19)
    (h5 : SC cfg.P i_spec_obMoved [.s (.v (.pr .str .str) xo3)] (.s (.own t_Simpl_Ratio (.sl (.pr (.int .i64) (.int .i64))) dc1)) [])
    (h6 : LoopSC cfg.P 2 (lb P_spec_AreApart 1) (spec_AreApart_L1a (List.getD xo19 (x21).toNat ([] : List (Int × Int))) x20 x21 ((List.length dc1 : Nat) : Int) (0 : Int) xo3 xo19 dc1) (.exit 2) (spec_AreApart_L1X2 dk1y7 dk1y20 dk1y21 dk1y27 dk1y28 dk1y29 dk1yo3 dk1yo19 dk1yo26))
    {e : AEx} {st : St} (next : LoopSC cfg.P 2 (lb P_spec_AreApart 0) (spec_AreApart_L0a dk1y20 (IntKind.wrap .i64 (dk1y21 + (1 : Int))) dk1yo3 dk1yo19) e st) :
    LoopSC cfg.P 2 (lb P_spec_AreApart 0) (spec_AreApart_L0a x20 x21 xo3 xo19) e st :=
  loop_iter cfgOK (f := i_spec_AreApart) (its := [.bool true, .res (.s (.own t_Simpl_Ratio (.sl (.pr (.int .i64) (.int .i64))) dc1)) [] [] [26], .loop (fun _ => (.exit 2, spec_AreApart_L1X2 dk1y7 dk1y20 dk1y21 dk1y27 dk1y28 dk1y29 dk1yo3 dk1yo19 dk1yo26))])
    (ps := [decide (x21 < x20) = true,
      0 ≤ x21,
      x21 < (List.length xo19 : Int),
      (x21).toNat < List.length xo19,
      SC cfg.P i_spec_obMoved [.s (.v (.pr .str .str) xo3)] (.s (.own t_Simpl_Ratio (.sl (.pr (.int .i64) (.int .i64))) dc1)) [],
      LoopSC cfg.P 2 (lb P_spec_AreApart 1) (spec_AreApart_L1a (List.getD xo19 (x21).toNat ([] : List (Int × Int))) x20 x21 ((List.length dc1 : Nat) : Int) (0 : Int) xo3 xo19 dc1) (.exit 2) (spec_AreApart_L1X2 dk1y7 dk1y20 dk1y21 dk1y27 dk1y28 dk1y29 dk1yo3 dk1yo19 dk1yo26)]) (st1 := spec_AreApart_L0a dk1y20 (IntKind.wrap .i64 (dk1y21 + (1 : Int))) dk1yo3 dk1yo19) (by kernel_rfl) ⟨(decide_eq_true h1), h2, h3, h4, h5, h6, trivial⟩ next

theorem spec_AreApart_L0a_x3 (x20 : Int) (x21 : Int) (xo3 : (ByteArray × ByteArray)) (xo19 : (List (List (Int × Int))))
    (h1 : ¬ (x21 < x20)) :
    LoopSC cfg.P 2 (lb P_spec_AreApart 0) (spec_AreApart_L0a x20 x21 xo3 xo19) (.exit 0) (spec_AreApart_L0X2 x20 x21 false xo3 xo19) :=
  loop_out cfgOK (f := i_spec_AreApart) (its := [.bool false])
    (ps := [decide (x21 < x20) = false]) (by kernel_rfl) ⟨(decide_eq_false h1), trivial⟩ (fun h => by cases h)

theorem spec_AreApart_L1a_x1 (x7 : (List (Int × Int))) (x20 : Int) (x21 : Int) (x27 : Int) (x28 : Int) (xo3 : (ByteArray × ByteArray)) (xo19 : (List (List (Int × Int)))) (xo26 : (List (List (Int × Int))))
    (h1 : x28 < x27)
    (h2 : 0 ≤ x28)
    (h3 : x28 < (List.length xo26 : Int))
    (h4 : (x28).toNat < List.length xo26)
    (h5 : (0 : Int) < (List.length x7 : Int))
    (h6 : (1 : Int) < (List.length (List.getD xo26 (x28).toNat ([] : List (Int × Int))) : Int))
    (h7 : SC cfg.P i_spec_obLess [.s (.v (.pr (.int .i64) (.int .i64)) (List.getD x7 ((0 : Int)).toNat ((0 : Int), (0 : Int)))), .s (.v (.pr (.int .i64) (.int .i64)) (List.getD (List.getD xo26 (x28).toNat ([] : List (Int × Int))) ((1 : Int)).toNat ((0 : Int), (0 : Int))))] (.s (.v .bool true)) [])
    (h8 : (0 : Int) < (List.length (List.getD xo26 (x28).toNat ([] : List (Int × Int))) : Int))
    (h9 : (1 : Int) < (List.length x7 : Int))
    (h10 : SC cfg.P i_spec_obLess [.s (.v (.pr (.int .i64) (.int .i64)) (List.getD (List.getD xo26 (x28).toNat ([] : List (Int × Int))) ((0 : Int)).toNat ((0 : Int), (0 : Int)))), .s (.v (.pr (.int .i64) (.int .i64)) (List.getD x7 ((1 : Int)).toNat ((0 : Int), (0 : Int))))] (.s (.v .bool true)) []) :
    LoopSC cfg.P 2 (lb P_spec_AreApart 1) (spec_AreApart_L1a x7 x20 x21 x27 x28 xo3 xo19 xo26) (.ret) (spec_AreApart_L1X1 false true) :=
  loop_out cfgOK (f := i_spec_AreApart) (its := [.bool true, .res (.s (.v .bool true)) [] [] [], .res (.s (.v .bool true)) [] [] []])
    (ps := [decide (x28 < x27) = true,
      0 ≤ x28,
      x28 < (List.length xo26 : Int),
      (x28).toNat < List.length xo26,
      0 ≤ (0 : Int),
      (0 : Int) < (List.length x7 : Int),
      0 ≤ (1 : Int),
      (1 : Int) < (List.length (List.getD xo26 (x28).toNat ([] : List (Int × Int))) : Int),
      SC cfg.P i_spec_obLess [.s (.v (.pr (.int .i64) (.int .i64)) (List.getD x7 ((0 : Int)).toNat ((0 : Int), (0 : Int)))), .s (.v (.pr (.int .i64) (.int .i64)) (List.getD (List.getD xo26 (x28).toNat ([] : List (Int × Int))) ((1 : Int)).toNat ((0 : Int), (0 : Int))))] (.s (.v .bool true)) [],
      0 ≤ (0 : Int),
      (0 : Int) < (List.length (List.getD xo26 (x28).toNat ([] : List (Int × Int))) : Int),
      0 ≤ (1 : Int),
      (1 : Int) < (List.length x7 : Int),
      SC cfg.P i_spec_obLess [.s (.v (.pr (.int .i64) (.int .i64)) (List.getD (List.getD xo26 (x28).toNat ([] : List (Int × Int))) ((0 : Int)).toNat ((0 : Int), (0 : Int)))), .s (.v (.pr (.int .i64) (.int .i64)) (List.getD x7 ((1 : Int)).toNat ((0 : Int), (0 : Int))))] (.s (.v .bool true)) []]) (by kernel_rfl) ⟨(decide_eq_true h1), h2, h3, h4, (by decide), h5, (by decide), h6, h7, (by decide), h8, (by decide), h9, h10, trivial⟩ (fun h => by cases h)

theorem spec_AreApart_L1a_i2 (x7 : (List (Int × Int))) (x20 : Int) (x21 : Int) (x27 : Int) (x28 : Int) (xo3 : (ByteArray × ByteArray)) (xo19 : (List (List (Int × Int)))) (xo26 : (List (List (Int × Int))))
    (h1 : x28 < x27)
    (h2 : 0 ≤ x28)
    (h3 : x28 < (List.length xo26 : Int))
    (h4 : (x28).toNat < List.length xo26)
    (h5 : (0 : Int) < (List.length x7 : Int))
    (h6 : (1 : Int) < (List.length (List.getD xo26 (x28).toNat ([] : List (Int × Int))) : Int))
    (h7 : SC cfg.P i_spec_obLess [.s (.v (.pr (.int .i64) (.int .i64)) (List.getD x7 ((0 : Int)).toNat ((0 : Int), (0 : Int)))), .s (.v (.pr (.int .i64) (.int .i64)) (List.getD (List.getD xo26 (x28).toNat ([] : List (Int × Int))) ((1 : Int)).toNat ((0 : Int), (0 : Int))))] (.s (.v .bool true)) [])
    (h8 : (0 : Int) < (List.length (List.getD xo26 (x28).toNat ([] : List (Int × Int))) : Int))
    (h9 : (1 : Int) < (List.length x7 : Int))
    (h10 : SC cfg.P i_spec_obLess [.s (.v (.pr (.int .i64) (.int .i64)) (List.getD (List.getD xo26 (x28).toNat ([] : List (Int × Int))) ((0 : Int)).toNat ((0 : Int), (0 : Int)))), .s (.v (.pr (.int .i64) (.int .i64)) (List.getD x7 ((1 : Int)).toNat ((0 : Int), (0 : Int))))] (.s (.v .bool false)) [])
    {e : AEx} {st : St} (next : LoopSC cfg.P 2 (lb P_spec_AreApart 1) (spec_AreApart_L1a x7 x20 x21 x27 (IntKind.wrap .i64 (x28 + (1 : Int))) xo3 xo19 xo26) e st) :
    LoopSC cfg.P 2 (lb P_spec_AreApart 1) (spec_AreApart_L1a x7 x20 x21 x27 x28 xo3 xo19 xo26) e st :=
  loop_iter cfgOK (f := i_spec_AreApart) (its := [.bool true, .res (.s (.v .bool true)) [] [] [], .res (.s (.v .bool false)) [] [] []])
    (ps := [decide (x28 < x27) = true,
      0 ≤ x28,
      x28 < (List.length xo26 : Int),
      (x28).toNat < List.length xo26,
      0 ≤ (0 : Int),
      (0 : Int) < (List.length x7 : Int),
      0 ≤ (1 : Int),
      (1 : Int) < (List.length (List.getD xo26 (x28).toNat ([] : List (Int × Int))) : Int),
      SC cfg.P i_spec_obLess [.s (.v (.pr (.int .i64) (.int .i64)) (List.getD x7 ((0 : Int)).toNat ((0 : Int), (0 : Int)))), .s (.v (.pr (.int .i64) (.int .i64)) (List.getD (List.getD xo26 (x28).toNat ([] : List (Int × Int))) ((1 : Int)).toNat ((0 : Int), (0 : Int))))] (.s (.v .bool true)) [],
      0 ≤ (0 : Int),
      (0 : Int) < (List.length (List.getD xo26 (x28).toNat ([] : List (Int × Int))) : Int),
      0 ≤ (1 : Int),
      (1 : Int) < (List.length x7 : Int),
      SC cfg.P i_spec_obLess [.s (.v (.pr (.int .i64) (.int .i64)) (List.getD (List.getD xo26 (x28).toNat ([] : List (Int × Int))) ((0 : Int)).toNat ((0 : Int), (0 : Int)))), .s (.v (.pr (.int .i64) (.int .i64)) (List.getD x7 ((1 : Int)).toNat ((0 : Int), (0 : Int))))] (.s (.v .bool false)) []]) (st1 := spec_AreApart_L1a x7 x20 x21 x27 (IntKind.wrap .i64 (x28 + (1 : Int))) xo3 xo19 xo26) (by kernel_rfl) ⟨(decide_eq_true h1), h2, h3, h4, (by decide), h5, (by decide), h6, h7, (by decide), h8, (by decide), h9, h10, trivial⟩ next

theorem spec_AreApart_L1a_i3 (x7 : (List (Int × Int))) (x20 : Int) (x21 : Int) (x27 : Int) (x28 : Int) (xo3 : (ByteArray × ByteArray)) (xo19 : (List (List (Int × Int)))) (xo26 : (List (List (Int × Int))))
    (h1 : x28 < x27)
    (h2 : 0 ≤ x28)
    (h3 : x28 < (List.length xo26 : Int))
    (h4 : (x28).toNat < List.length xo26)
    (h5 : (0 : Int) < (List.length x7 : Int))
    (h6 : (1 : Int) < (List.length (List.getD xo26 (x28).toNat ([] : List (Int × Int))) : Int))
    (h7 : SC cfg.P i_spec_obLess [.s (.v (.pr (.int .i64) (.int .i64)) (List.getD x7 ((0 : Int)).toNat ((0 : Int), (0 : Int)))), .s (.v (.pr (.int .i64) (.int .i64)) (List.getD (List.getD xo26 (x28).toNat ([] : List (Int × Int))) ((1 : Int)).toNat ((0 : Int), (0 : Int))))] (.s (.v .bool false)) [])
    {e : AEx} {st : St} (next : LoopSC cfg.P 2 (lb P_spec_AreApart 1) (spec_AreApart_L1a x7 x20 x21 x27 (IntKind.wrap .i64 (x28 + (1 : Int))) xo3 xo19 xo26) e st) :
    LoopSC cfg.P 2 (lb P_spec_AreApart 1) (spec_AreApart_L1a x7 x20 x21 x27 x28 xo3 xo19 xo26) e st :=
  loop_iter cfgOK (f := i_spec_AreApart) (its := [.bool true, .res (.s (.v .bool false)) [] [] []])
    (ps := [decide (x28 < x27) = true,
      0 ≤ x28,
      x28 < (List.length xo26 : Int),
      (x28).toNat < List.length xo26,
      0 ≤ (0 : Int),
      (0 : Int) < (List.length x7 : Int),
      0 ≤ (1 : Int),
      (1 : Int) < (List.length (List.getD xo26 (x28).toNat ([] : List (Int × Int))) : Int),
      SC cfg.P i_spec_obLess [.s (.v (.pr (.int .i64) (.int .i64)) (List.getD x7 ((0 : Int)).toNat ((0 : Int), (0 : Int)))), .s (.v (.pr (.int .i64) (.int .i64)) (List.getD (List.getD xo26 (x28).toNat ([] : List (Int × Int))) ((1 : Int)).toNat ((0 : Int), (0 : Int))))] (.s (.v .bool false)) []]) (st1 := spec_AreApart_L1a x7 x20 x21 x27 (IntKind.wrap .i64 (x28 + (1 : Int))) xo3 xo19 xo26) (by kernel_rfl) ⟨(decide_eq_true h1), h2, h3, h4, (by decide), h5, (by decide), h6, h7, trivial⟩ next

theorem spec_AreApart_L1a_x4 (x7 : (List (Int × Int))) (x20 : Int) (x21 : Int) (x27 : Int) (x28 : Int) (xo3 : (ByteArray × ByteArray)) (xo19 : (List (List (Int × Int)))) (xo26 : (List (List (Int × Int))))
    (h1 : ¬ (x28 < x27)) :
    LoopSC cfg.P 2 (lb P_spec_AreApart 1) (spec_AreApart_L1a x7 x20 x21 x27 x28 xo3 xo19 xo26) (.exit 2) (spec_AreApart_L1X2 x7 x20 x21 x27 x28 false xo3 xo19 xo26) :=
  loop_out cfgOK (f := i_spec_AreApart) (its := [.bool false])
    (ps := [decide (x28 < x27) = false]) (by kernel_rfl) ⟨(decide_eq_false h1), trivial⟩ (fun h => by cases h)

theorem spec_AreApart_p1 (a0 : (ByteArray × ByteArray)) (a1 : (ByteArray × ByteArray)) (c3 : (List (List (Int × Int)))) (k1y4 : Bool) (k1y5 : Bool)
    (h1 : SC cfg.P i_spec_prGood [.s (.v (.pr .str .str) a0)] (.s (.v .bool true)) [])
    (h2 : SC cfg.P i_spec_prGood [.s (.v (.pr .str .str) a1)] (.s (.v .bool true)) [])
    (h3 : SC cfg.P i_spec_obMoved [.s (.v (.pr .str .str) a0)] (.s (.own t_Simpl_Ratio (.sl (.pr (.int .i64) (.int .i64))) c3)) [])
    (h4 : LoopSC cfg.P 2 (lb P_spec_AreApart 0) (spec_AreApart_L0a ((List.length c3 : Nat) : Int) (0 : Int) a1 c3) (.ret) (spec_AreApart_L0X1 k1y4 k1y5)) :
    SC cfg.P i_spec_AreApart [.s (.v (.pr .str .str) a0), .s (.v (.pr .str .str) a1)] (.tup [.v .bool k1y4, .v .bool k1y5]) [] :=
  SC_of_run cfgOK (its := [.res (.s (.v .bool true)) [] [] [], .res (.s (.v .bool true)) [] [] [], .res (.s (.own t_Simpl_Ratio (.sl (.pr (.int .i64) (.int .i64))) c3)) [] [] [19], .loop (fun _ => (.ret, spec_AreApart_L0X1 k1y4 k1y5))])
    (ps := [SC cfg.P i_spec_prGood [.s (.v (.pr .str .str) a0)] (.s (.v .bool true)) [],
      SC cfg.P i_spec_prGood [.s (.v (.pr .str .str) a1)] (.s (.v .bool true)) [],
      SC cfg.P i_spec_obMoved [.s (.v (.pr .str .str) a0)] (.s (.own t_Simpl_Ratio (.sl (.pr (.int .i64) (.int .i64))) c3)) [],
      LoopSC cfg.P 2 (lb P_spec_AreApart 0) (spec_AreApart_L0a ((List.length c3 : Nat) : Int) (0 : Int) a1 c3) (.ret) (spec_AreApart_L0X1 k1y4 k1y5)]) (by kernel_rfl) ⟨h1, h2, h3, h4, trivial⟩ get_spec_AreApart (by decide)

theorem spec_AreApart_p2 (a0 : (ByteArray × ByteArray)) (a1 : (ByteArray × ByteArray)) (c3 : (List (List (Int × Int)))) (k1y20 : Int) (k1y21 : Int) (k1y22 : Bool) (k1yo3 : (ByteArray × ByteArray)) (k1yo19 : (List (List (Int × Int))))
    (h1 : SC cfg.P i_spec_prGood [.s (.v (.pr .str .str) a0)] (.s (.v .bool true)) [])
    (h2 : SC cfg.P i_spec_prGood [.s (.v (.pr .str .str) a1)] (.s (.v .bool true)) [])
    (h3 : SC cfg.P i_spec_obMoved [.s (.v (.pr .str .str) a0)] (.s (.own t_Simpl_Ratio (.sl (.pr (.int .i64) (.int .i64))) c3)) [])
    (h4 : LoopSC cfg.P 2 (lb P_spec_AreApart 0) (spec_AreApart_L0a ((List.length c3 : Nat) : Int) (0 : Int) a1 c3) (.exit 0) (spec_AreApart_L0X2 k1y20 k1y21 k1y22 k1yo3 k1yo19)) :
    SC cfg.P i_spec_AreApart [.s (.v (.pr .str .str) a0), .s (.v (.pr .str .str) a1)] (.tup [.v .bool true, .v .bool true]) [] :=
  SC_of_run cfgOK (its := [.res (.s (.v .bool true)) [] [] [], .res (.s (.v .bool true)) [] [] [], .res (.s (.own t_Simpl_Ratio (.sl (.pr (.int .i64) (.int .i64))) c3)) [] [] [19], .loop (fun _ => (.exit 0, spec_AreApart_L0X2 k1y20 k1y21 k1y22 k1yo3 k1yo19))])
    (ps := [SC cfg.P i_spec_prGood [.s (.v (.pr .str .str) a0)] (.s (.v .bool true)) [],
      SC cfg.P i_spec_prGood [.s (.v (.pr .str .str) a1)] (.s (.v .bool true)) [],
      SC cfg.P i_spec_obMoved [.s (.v (.pr .str .str) a0)] (.s (.own t_Simpl_Ratio (.sl (.pr (.int .i64) (.int .i64))) c3)) [],
      LoopSC cfg.P 2 (lb P_spec_AreApart 0) (spec_AreApart_L0a ((List.length c3 : Nat) : Int) (0 : Int) a1 c3) (.exit 0) (spec_AreApart_L0X2 k1y20 k1y21 k1y22 k1yo3 k1yo19)]) (by kernel_rfl) ⟨h1, h2, h3, h4, trivial⟩ get_spec_AreApart (by decide)

theorem spec_AreApart_p3 (a0 : (ByteArray × ByteArray)) (a1 : (ByteArray × ByteArray))
    (h1 : SC cfg.P i_spec_prGood [.s (.v (.pr .str .str) a0)] (.s (.v .bool true)) [])
    (h2 : SC cfg.P i_spec_prGood [.s (.v (.pr .str .str) a1)] (.s (.v .bool false)) []) :
    SC cfg.P i_spec_AreApart [.s (.v (.pr .str .str) a0), .s (.v (.pr .str .str) a1)] (.tup [.v .bool false, .v .bool false]) [] :=
  SC_of_run cfgOK (its := [.res (.s (.v .bool true)) [] [] [], .res (.s (.v .bool false)) [] [] []])
    (ps := [SC cfg.P i_spec_prGood [.s (.v (.pr .str .str) a0)] (.s (.v .bool true)) [],
      SC cfg.P i_spec_prGood [.s (.v (.pr .str .str) a1)] (.s (.v .bool false)) []]) (by kernel_rfl) ⟨h1, h2, trivial⟩ get_spec_AreApart (by decide)

theorem spec_AreApart_p4 (a0 : (ByteArray × ByteArray)) (a1 : (ByteArray × ByteArray))
    (h1 : SC cfg.P i_spec_prGood [.s (.v (.pr .str .str) a0)] (.s (.v .bool false)) []) :
    SC cfg.P i_spec_AreApart [.s (.v (.pr .str .str) a0), .s (.v (.pr .str .str) a1)] (.tup [.v .bool false, .v .bool false]) [] :=
  SC_of_run cfgOK (its := [.res (.s (.v .bool false)) [] [] []])
    (ps := [SC cfg.P i_spec_prGood [.s (.v (.pr .str .str) a0)] (.s (.v .bool false)) []]) (by kernel_rfl) ⟨h1, trivial⟩ get_spec_AreApart (by decide)

/-! ### slices_ContainsFunc -/


theorem slices_ContainsFunc_p1 (a0 : (List (List (Int × Int)))) (a1F : FuncId) (a1g : (Tr × Tr)) (c1 : Int)
    (h1 : SC cfg.P i_slices_IndexFunc [.s (.v (.sl (.sl (.pr (.int .i64) (.int .i64)))) a0), .fn a1F [] [.fadr (.pr .tree .tree) a1g]] (.s (.v (.int .i64) c1)) [])
    (h2 : c1 ≥ (0 : Int)) :
    SC cfg.P i_slices_ContainsFunc [.s (.v (.sl (.sl (.pr (.int .i64) (.int .i64)))) a0), .fn a1F [] [.fadr (.pr .tree .tree) a1g]] (.s (.v .bool true)) [] :=
  SC_of_run cfgOK (its := [.res (.s (.v (.int .i64) c1)) [] [] [], .bool true])
    (ps := [SC cfg.P i_slices_IndexFunc [.s (.v (.sl (.sl (.pr (.int .i64) (.int .i64)))) a0), .fn a1F [] [.fadr (.pr .tree .tree) a1g]] (.s (.v (.int .i64) c1)) [],
      decide (c1 ≥ (0 : Int)) = true]) (by kernel_rfl) ⟨h1, (decide_eq_true h2), trivial⟩ get_slices_ContainsFunc (by decide)

theorem slices_ContainsFunc_p2 (a0 : (List (List (Int × Int)))) (a1F : FuncId) (a1g : (Tr × Tr)) (c1 : Int)
    (h1 : SC cfg.P i_slices_IndexFunc [.s (.v (.sl (.sl (.pr (.int .i64) (.int .i64)))) a0), .fn a1F [] [.fadr (.pr .tree .tree) a1g]] (.s (.v (.int .i64) c1)) [])
    (h2 : ¬ (c1 ≥ (0 : Int))) :
    SC cfg.P i_slices_ContainsFunc [.s (.v (.sl (.sl (.pr (.int .i64) (.int .i64)))) a0), .fn a1F [] [.fadr (.pr .tree .tree) a1g]] (.s (.v .bool false)) [] :=
  SC_of_run cfgOK (its := [.res (.s (.v (.int .i64) c1)) [] [] [], .bool false])
    (ps := [SC cfg.P i_slices_IndexFunc [.s (.v (.sl (.sl (.pr (.int .i64) (.int .i64)))) a0), .fn a1F [] [.fadr (.pr .tree .tree) a1g]] (.s (.v (.int .i64) c1)) [],
      decide (c1 ≥ (0 : Int)) = false]) (by kernel_rfl) ⟨h1, (decide_eq_false h2), trivial⟩ get_slices_ContainsFunc (by decide)

theorem slices_ContainsFuncB_p1 (a0 : (List (List (Int × Int)))) (a1F : FuncId) (a1g : (List (Int × Int))) (c1 : Int)
    (h1 : SC cfg.P i_slices_IndexFunc [.s (.v (.sl (.sl (.pr (.int .i64) (.int .i64)))) a0), .fn a1F [] [.fadr (.sl (.pr (.int .i64) (.int .i64))) a1g]] (.s (.v (.int .i64) c1)) [])
    (h2 : c1 ≥ (0 : Int)) :
    SC cfg.P i_slices_ContainsFunc [.s (.v (.sl (.sl (.pr (.int .i64) (.int .i64)))) a0), .fn a1F [] [.fadr (.sl (.pr (.int .i64) (.int .i64))) a1g]] (.s (.v .bool true)) [] :=
  SC_of_run cfgOK (its := [.res (.s (.v (.int .i64) c1)) [] [] [], .bool true])
    (ps := [SC cfg.P i_slices_IndexFunc [.s (.v (.sl (.sl (.pr (.int .i64) (.int .i64)))) a0), .fn a1F [] [.fadr (.sl (.pr (.int .i64) (.int .i64))) a1g]] (.s (.v (.int .i64) c1)) [],
      decide (c1 ≥ (0 : Int)) = true]) (by kernel_rfl) ⟨h1, (decide_eq_true h2), trivial⟩ get_slices_ContainsFunc (by decide)

theorem slices_ContainsFuncB_p2 (a0 : (List (List (Int × Int)))) (a1F : FuncId) (a1g : (List (Int × Int))) (c1 : Int)
    (h1 : SC cfg.P i_slices_IndexFunc [.s (.v (.sl (.sl (.pr (.int .i64) (.int .i64)))) a0), .fn a1F [] [.fadr (.sl (.pr (.int .i64) (.int .i64))) a1g]] (.s (.v (.int .i64) c1)) [])
    (h2 : ¬ (c1 ≥ (0 : Int))) :
    SC cfg.P i_slices_ContainsFunc [.s (.v (.sl (.sl (.pr (.int .i64) (.int .i64)))) a0), .fn a1F [] [.fadr (.sl (.pr (.int .i64) (.int .i64))) a1g]] (.s (.v .bool false)) [] :=
  SC_of_run cfgOK (its := [.res (.s (.v (.int .i64) c1)) [] [] [], .bool false])
    (ps := [SC cfg.P i_slices_IndexFunc [.s (.v (.sl (.sl (.pr (.int .i64) (.int .i64)))) a0), .fn a1F [] [.fadr (.sl (.pr (.int .i64) (.int .i64))) a1g]] (.s (.v (.int .i64) c1)) [],
      decide (c1 ≥ (0 : Int)) = false]) (by kernel_rfl) ⟨h1, (decide_eq_false h2), trivial⟩ get_slices_ContainsFunc (by decide)

/-! ### impl_AreApart_k1 -/


theorem impl_AreApart_k1_p1 (a0 : (List (Int × Int))) (b0 : (Tr × Tr)) (c1 : (List (List (Int × Int)))) (c2 : Bool)
    (h1 : SC cfg.P i_impl_pair_moved [.s (.v (.pr .tree .tree) b0)] (.s (.own t_Simpl_Ratio (.sl (.pr (.int .i64) (.int .i64))) c1)) [])
    (h2 : SC cfg.P i_slices_ContainsFunc [.s (.v (.sl (.sl (.pr (.int .i64) (.int .i64)))) c1), .fn i_impl_AreApart_k1_k1 [] [.fadr (.sl (.pr (.int .i64) (.int .i64))) a0]] (.s (.v .bool c2)) []) :
    SC cfg.P i_impl_AreApart_k1 [.s (.v (.sl (.pr (.int .i64) (.int .i64))) a0), .s (.fadr (.pr .tree .tree) b0)] (.s (.v .bool c2)) [] :=
  SC_of_run cfgOK (its := [.res (.s (.own t_Simpl_Ratio (.sl (.pr (.int .i64) (.int .i64))) c1)) [] [] [5], .res (.s (.v .bool c2)) [] [] []])
    (ps := [SC cfg.P i_impl_pair_moved [.s (.v (.pr .tree .tree) b0)] (.s (.own t_Simpl_Ratio (.sl (.pr (.int .i64) (.int .i64))) c1)) [],
      SC cfg.P i_slices_ContainsFunc [.s (.v (.sl (.sl (.pr (.int .i64) (.int .i64)))) c1), .fn i_impl_AreApart_k1_k1 [] [.fadr (.sl (.pr (.int .i64) (.int .i64))) a0]] (.s (.v .bool c2)) []]) (by kernel_rfl) ⟨h1, h2, trivial⟩ get_impl_AreApart_k1 (by decide)

/-! ### impl_AreApart_k1_k1 -/


theorem impl_AreApart_k1_k1_p1 (a0 : (List (Int × Int))) (b0 : (List (Int × Int))) (c2 : Bool)
    (h1 : (0 : Int) < (List.length b0 : Int))
    (h2 : (1 : Int) < (List.length a0 : Int))
    (h3 : SC cfg.P i_impl_Ratio_less [.s (.v (.pr (.int .i64) (.int .i64)) (List.getD b0 ((0 : Int)).toNat ((0 : Int), (0 : Int)))), .s (.v (.pr (.int .i64) (.int .i64)) (List.getD a0 ((1 : Int)).toNat ((0 : Int), (0 : Int))))] (.s (.v .bool true)) [])
    (h4 : (0 : Int) < (List.length a0 : Int))
    (h5 : (1 : Int) < (List.length b0 : Int))
    (h6 : SC cfg.P i_impl_Ratio_less [.s (.v (.pr (.int .i64) (.int .i64)) (List.getD a0 ((0 : Int)).toNat ((0 : Int), (0 : Int)))), .s (.v (.pr (.int .i64) (.int .i64)) (List.getD b0 ((1 : Int)).toNat ((0 : Int), (0 : Int))))] (.s (.v .bool c2)) []) :
    SC cfg.P i_impl_AreApart_k1_k1 [.s (.v (.sl (.pr (.int .i64) (.int .i64))) a0), .s (.fadr (.sl (.pr (.int .i64) (.int .i64))) b0)] (.s (.v .bool c2)) [] :=
  SC_of_run cfgOK (its := [.res (.s (.v .bool true)) [] [] [], .res (.s (.v .bool c2)) [] [] []])
    (ps := [0 ≤ (0 : Int),
      (0 : Int) < (List.length b0 : Int),
      0 ≤ (1 : Int),
      (1 : Int) < (List.length a0 : Int),
      SC cfg.P i_impl_Ratio_less [.s (.v (.pr (.int .i64) (.int .i64)) (List.getD b0 ((0 : Int)).toNat ((0 : Int), (0 : Int)))), .s (.v (.pr (.int .i64) (.int .i64)) (List.getD a0 ((1 : Int)).toNat ((0 : Int), (0 : Int))))] (.s (.v .bool true)) [],
      0 ≤ (0 : Int),
      (0 : Int) < (List.length a0 : Int),
      0 ≤ (1 : Int),
      (1 : Int) < (List.length b0 : Int),
      SC cfg.P i_impl_Ratio_less [.s (.v (.pr (.int .i64) (.int .i64)) (List.getD a0 ((0 : Int)).toNat ((0 : Int), (0 : Int)))), .s (.v (.pr (.int .i64) (.int .i64)) (List.getD b0 ((1 : Int)).toNat ((0 : Int), (0 : Int))))] (.s (.v .bool c2)) []]) (by kernel_rfl) ⟨(by decide), h1, (by decide), h2, h3, (by decide), h4, (by decide), h5, h6, trivial⟩ get_impl_AreApart_k1_k1 (by decide)

theorem impl_AreApart_k1_k1_p2 (a0 : (List (Int × Int))) (b0 : (List (Int × Int)))
    (h1 : (0 : Int) < (List.length b0 : Int))
    (h2 : (1 : Int) < (List.length a0 : Int))
    (h3 : SC cfg.P i_impl_Ratio_less [.s (.v (.pr (.int .i64) (.int .i64)) (List.getD b0 ((0 : Int)).toNat ((0 : Int), (0 : Int)))), .s (.v (.pr (.int .i64) (.int .i64)) (List.getD a0 ((1 : Int)).toNat ((0 : Int), (0 : Int))))] (.s (.v .bool false)) []) :
    SC cfg.P i_impl_AreApart_k1_k1 [.s (.v (.sl (.pr (.int .i64) (.int .i64))) a0), .s (.fadr (.sl (.pr (.int .i64) (.int .i64))) b0)] (.s (.v .bool false)) [] :=
  SC_of_run cfgOK (its := [.res (.s (.v .bool false)) [] [] []])
    (ps := [0 ≤ (0 : Int),
      (0 : Int) < (List.length b0 : Int),
      0 ≤ (1 : Int),
      (1 : Int) < (List.length a0 : Int),
      SC cfg.P i_impl_Ratio_less [.s (.v (.pr (.int .i64) (.int .i64)) (List.getD b0 ((0 : Int)).toNat ((0 : Int), (0 : Int)))), .s (.v (.pr (.int .i64) (.int .i64)) (List.getD a0 ((1 : Int)).toNat ((0 : Int), (0 : Int))))] (.s (.v .bool false)) []]) (by kernel_rfl) ⟨(by decide), h1, (by decide), h2, h3, trivial⟩ get_impl_AreApart_k1_k1 (by decide)

/-! ### slices_IndexFunc -/


def slices_IndexFunc_L0a (x0 : (List (List (Int × Int)))) (xF1 : FuncId) (xg1a : (Tr × Tr)) (x7 : Int) (x8 : Int) : St := mkSt 19 [(0, .s (.v (.sl (.sl (.pr (.int .i64) (.int .i64)))) x0)), (1, .fn xF1 [] [.fadr (.pr .tree .tree) xg1a]), (7, .s (.v (.int .i64) x7)), (8, .s (.v (.int .i64) x8))] []

def slices_IndexFunc_L0X1 (y4 : Int) : St := mkSt 19 [(4, .s (.v (.int .i64) y4))] []

def slices_IndexFunc_L0X2 (y0 : (List (List (Int × Int)))) (yF1 : FuncId) (yg1a : (Tr × Tr)) (y7 : Int) (y8 : Int) (y9 : Bool) : St := mkSt 19 [(0, .s (.v (.sl (.sl (.pr (.int .i64) (.int .i64)))) y0)), (1, .fn yF1 [] [.fadr (.pr .tree .tree) yg1a]), (7, .s (.v (.int .i64) y7)), (8, .s (.v (.int .i64) y8)), (9, .s (.v .bool y9))] []

def slices_IndexFunc_L0d (x0 : (List (List (Int × Int)))) (xF1 : FuncId) (xg1a : (List (Int × Int))) (x7 : Int) (x8 : Int) : St := mkSt 19 [(0, .s (.v (.sl (.sl (.pr (.int .i64) (.int .i64)))) x0)), (1, .fn xF1 [] [.fadr (.sl (.pr (.int .i64) (.int .i64))) xg1a]), (7, .s (.v (.int .i64) x7)), (8, .s (.v (.int .i64) x8))] []

def slices_IndexFunc_L0X3 (y0 : (List (List (Int × Int)))) (yF1 : FuncId) (yg1a : (List (Int × Int))) (y7 : Int) (y8 : Int) (y9 : Bool) : St := mkSt 19 [(0, .s (.v (.sl (.sl (.pr (.int .i64) (.int .i64)))) y0)), (1, .fn yF1 [] [.fadr (.sl (.pr (.int .i64) (.int .i64))) yg1a]), (7, .s (.v (.int .i64) y7)), (8, .s (.v (.int .i64) y8)), (9, .s (.v .bool y9))] []

theorem slices_IndexFunc_L0a_x1 (x0 : (List (List (Int × Int)))) (xF1 : FuncId) (xg1a : (Tr × Tr)) (x7 : Int) (x8 : Int)
    (h1 : x8 < x7)
    (h2 : 0 ≤ x8)
    (h3 : x8 < (List.length x0 : Int))
    (h4 : SC cfg.P xF1 [.s (.v (.sl (.pr (.int .i64) (.int .i64))) (List.getD x0 (x8).toNat ([] : List (Int × Int)))), .s (.fadr (.pr .tree .tree) xg1a)] (.s (.v .bool true)) []) :
    LoopSC cfg.P 2 (lb P_slices_IndexFunc 0) (slices_IndexFunc_L0a x0 xF1 xg1a x7 x8) (.ret) (slices_IndexFunc_L0X1 x8) :=
  loop_out cfgOK (f := i_slices_IndexFunc) (its := [.bool true, .res (.s (.v .bool true)) [] [] []])
    (ps := [decide (x8 < x7) = true,
      0 ≤ x8,
      x8 < (List.length x0 : Int),
      SC cfg.P xF1 [.s (.v (.sl (.pr (.int .i64) (.int .i64))) (List.getD x0 (x8).toNat ([] : List (Int × Int)))), .s (.fadr (.pr .tree .tree) xg1a)] (.s (.v .bool true)) []]) (by kernel_rfl) ⟨(decide_eq_true h1), h2, h3, h4, trivial⟩ (fun h => by cases h)

theorem slices_IndexFunc_L0a_i2 (x0 : (List (List (Int × Int)))) (xF1 : FuncId) (xg1a : (Tr × Tr)) (x7 : Int) (x8 : Int)
    (h1 : x8 < x7)
    (h2 : 0 ≤ x8)
    (h3 : x8 < (List.length x0 : Int))
    (h4 : SC cfg.P xF1 [.s (.v (.sl (.pr (.int .i64) (.int .i64))) (List.getD x0 (x8).toNat ([] : List (Int × Int)))), .s (.fadr (.pr .tree .tree) xg1a)] (.s (.v .bool false)) [])
    {e : AEx} {st : St} (next : LoopSC cfg.P 2 (lb P_slices_IndexFunc 0) (slices_IndexFunc_L0a x0 xF1 xg1a x7 (IntKind.wrap .i64 (x8 + (1 : Int)))) e st) :
    LoopSC cfg.P 2 (lb P_slices_IndexFunc 0) (slices_IndexFunc_L0a x0 xF1 xg1a x7 x8) e st :=
  loop_iter cfgOK (f := i_slices_IndexFunc) (its := [.bool true, .res (.s (.v .bool false)) [] [] []])
    (ps := [decide (x8 < x7) = true,
      0 ≤ x8,
      x8 < (List.length x0 : Int),
      SC cfg.P xF1 [.s (.v (.sl (.pr (.int .i64) (.int .i64))) (List.getD x0 (x8).toNat ([] : List (Int × Int)))), .s (.fadr (.pr .tree .tree) xg1a)] (.s (.v .bool false)) []]) (st1 := slices_IndexFunc_L0a x0 xF1 xg1a x7 (IntKind.wrap .i64 (x8 + (1 : Int)))) (by kernel_rfl) ⟨(decide_eq_true h1), h2, h3, h4, trivial⟩ next

theorem slices_IndexFunc_L0a_x3 (x0 : (List (List (Int × Int)))) (xF1 : FuncId) (xg1a : (Tr × Tr)) (x7 : Int) (x8 : Int)
    (h1 : ¬ (x8 < x7)) :
    LoopSC cfg.P 2 (lb P_slices_IndexFunc 0) (slices_IndexFunc_L0a x0 xF1 xg1a x7 x8) (.exit 0) (slices_IndexFunc_L0X2 x0 xF1 xg1a x7 x8 false) :=
  loop_out cfgOK (f := i_slices_IndexFunc) (its := [.bool false])
    (ps := [decide (x8 < x7) = false]) (by kernel_rfl) ⟨(decide_eq_false h1), trivial⟩ (fun h => by cases h)

theorem slices_IndexFunc_L0d_x1 (x0 : (List (List (Int × Int)))) (xF1 : FuncId) (xg1a : (List (Int × Int))) (x7 : Int) (x8 : Int)
    (h1 : x8 < x7)
    (h2 : 0 ≤ x8)
    (h3 : x8 < (List.length x0 : Int))
    (h4 : SC cfg.P xF1 [.s (.v (.sl (.pr (.int .i64) (.int .i64))) (List.getD x0 (x8).toNat ([] : List (Int × Int)))), .s (.fadr (.sl (.pr (.int .i64) (.int .i64))) xg1a)] (.s (.v .bool true)) []) :
    LoopSC cfg.P 2 (lb P_slices_IndexFunc 0) (slices_IndexFunc_L0d x0 xF1 xg1a x7 x8) (.ret) (slices_IndexFunc_L0X1 x8) :=
  loop_out cfgOK (f := i_slices_IndexFunc) (its := [.bool true, .res (.s (.v .bool true)) [] [] []])
    (ps := [decide (x8 < x7) = true,
      0 ≤ x8,
      x8 < (List.length x0 : Int),
      SC cfg.P xF1 [.s (.v (.sl (.pr (.int .i64) (.int .i64))) (List.getD x0 (x8).toNat ([] : List (Int × Int)))), .s (.fadr (.sl (.pr (.int .i64) (.int .i64))) xg1a)] (.s (.v .bool true)) []]) (by kernel_rfl) ⟨(decide_eq_true h1), h2, h3, h4, trivial⟩ (fun h => by cases h)

theorem slices_IndexFunc_L0d_i2 (x0 : (List (List (Int × Int)))) (xF1 : FuncId) (xg1a : (List (Int × Int))) (x7 : Int) (x8 : Int)
    (h1 : x8 < x7)
    (h2 : 0 ≤ x8)
    (h3 : x8 < (List.length x0 : Int))
    (h4 : SC cfg.P xF1 [.s (.v (.sl (.pr (.int .i64) (.int .i64))) (List.getD x0 (x8).toNat ([] : List (Int × Int)))), .s (.fadr (.sl (.pr (.int .i64) (.int .i64))) xg1a)] (.s (.v .bool false)) [])
    {e : AEx} {st : St} (next : LoopSC cfg.P 2 (lb P_slices_IndexFunc 0) (slices_IndexFunc_L0d x0 xF1 xg1a x7 (IntKind.wrap .i64 (x8 + (1 : Int)))) e st) :
    LoopSC cfg.P 2 (lb P_slices_IndexFunc 0) (slices_IndexFunc_L0d x0 xF1 xg1a x7 x8) e st :=
  loop_iter cfgOK (f := i_slices_IndexFunc) (its := [.bool true, .res (.s (.v .bool false)) [] [] []])
    (ps := [decide (x8 < x7) = true,
      0 ≤ x8,
      x8 < (List.length x0 : Int),
      SC cfg.P xF1 [.s (.v (.sl (.pr (.int .i64) (.int .i64))) (List.getD x0 (x8).toNat ([] : List (Int × Int)))), .s (.fadr (.sl (.pr (.int .i64) (.int .i64))) xg1a)] (.s (.v .bool false)) []]) (st1 := slices_IndexFunc_L0d x0 xF1 xg1a x7 (IntKind.wrap .i64 (x8 + (1 : Int)))) (by kernel_rfl) ⟨(decide_eq_true h1), h2, h3, h4, trivial⟩ next

theorem slices_IndexFunc_L0d_x3 (x0 : (List (List (Int × Int)))) (xF1 : FuncId) (xg1a : (List (Int × Int))) (x7 : Int) (x8 : Int)
    (h1 : ¬ (x8 < x7)) :
    LoopSC cfg.P 2 (lb P_slices_IndexFunc 0) (slices_IndexFunc_L0d x0 xF1 xg1a x7 x8) (.exit 0) (slices_IndexFunc_L0X3 x0 xF1 xg1a x7 x8 false) :=
  loop_out cfgOK (f := i_slices_IndexFunc) (its := [.bool false])
    (ps := [decide (x8 < x7) = false]) (by kernel_rfl) ⟨(decide_eq_false h1), trivial⟩ (fun h => by cases h)

theorem slices_IndexFunc_p1 (a0 : (List (List (Int × Int)))) (a1F : FuncId) (a1g : (Tr × Tr)) (k1y4 : Int)
    (h1 : LoopSC cfg.P 2 (lb P_slices_IndexFunc 0) (slices_IndexFunc_L0a a0 a1F a1g ((List.length a0 : Nat) : Int) (0 : Int)) (.ret) (slices_IndexFunc_L0X1 k1y4)) :
    SC cfg.P i_slices_IndexFunc [.s (.v (.sl (.sl (.pr (.int .i64) (.int .i64)))) a0), .fn a1F [] [.fadr (.pr .tree .tree) a1g]] (.s (.v (.int .i64) k1y4)) [] :=
  SC_of_run cfgOK (its := [.loop (fun _ => (.ret, slices_IndexFunc_L0X1 k1y4))])
    (ps := [LoopSC cfg.P 2 (lb P_slices_IndexFunc 0) (slices_IndexFunc_L0a a0 a1F a1g ((List.length a0 : Nat) : Int) (0 : Int)) (.ret) (slices_IndexFunc_L0X1 k1y4)]) (by kernel_rfl) ⟨h1, trivial⟩ get_slices_IndexFunc (by decide)

theorem slices_IndexFunc_p2 (a0 : (List (List (Int × Int)))) (a1F : FuncId) (a1g : (Tr × Tr)) (k1y0 : (List (List (Int × Int)))) (k1yF1 : FuncId) (k1yg1a : (Tr × Tr)) (k1y7 : Int) (k1y8 : Int) (k1y9 : Bool)
    (h1 : LoopSC cfg.P 2 (lb P_slices_IndexFunc 0) (slices_IndexFunc_L0a a0 a1F a1g ((List.length a0 : Nat) : Int) (0 : Int)) (.exit 0) (slices_IndexFunc_L0X2 k1y0 k1yF1 k1yg1a k1y7 k1y8 k1y9)) :
    SC cfg.P i_slices_IndexFunc [.s (.v (.sl (.sl (.pr (.int .i64) (.int .i64)))) a0), .fn a1F [] [.fadr (.pr .tree .tree) a1g]] (.s (.v (.int .i64) (-1 : Int))) [] :=
  SC_of_run cfgOK (its := [.loop (fun _ => (.exit 0, slices_IndexFunc_L0X2 k1y0 k1yF1 k1yg1a k1y7 k1y8 k1y9))])
    (ps := [LoopSC cfg.P 2 (lb P_slices_IndexFunc 0) (slices_IndexFunc_L0a a0 a1F a1g ((List.length a0 : Nat) : Int) (0 : Int)) (.exit 0) (slices_IndexFunc_L0X2 k1y0 k1yF1 k1yg1a k1y7 k1y8 k1y9)]) (by kernel_rfl) ⟨h1, trivial⟩ get_slices_IndexFunc (by decide)

theorem slices_IndexFuncB_p1 (a0 : (List (List (Int × Int)))) (a1F : FuncId) (a1g : (List (Int × Int))) (k1y4 : Int)
    (h1 : LoopSC cfg.P 2 (lb P_slices_IndexFunc 0) (slices_IndexFunc_L0d a0 a1F a1g ((List.length a0 : Nat) : Int) (0 : Int)) (.ret) (slices_IndexFunc_L0X1 k1y4)) :
    SC cfg.P i_slices_IndexFunc [.s (.v (.sl (.sl (.pr (.int .i64) (.int .i64)))) a0), .fn a1F [] [.fadr (.sl (.pr (.int .i64) (.int .i64))) a1g]] (.s (.v (.int .i64) k1y4)) [] :=
  SC_of_run cfgOK (its := [.loop (fun _ => (.ret, slices_IndexFunc_L0X1 k1y4))])
    (ps := [LoopSC cfg.P 2 (lb P_slices_IndexFunc 0) (slices_IndexFunc_L0d a0 a1F a1g ((List.length a0 : Nat) : Int) (0 : Int)) (.ret) (slices_IndexFunc_L0X1 k1y4)]) (by kernel_rfl) ⟨h1, trivial⟩ get_slices_IndexFunc (by decide)

theorem slices_IndexFuncB_p2 (a0 : (List (List (Int × Int)))) (a1F : FuncId) (a1g : (List (Int × Int))) (k1y0 : (List (List (Int × Int)))) (k1yF1 : FuncId) (k1yg1a : (List (Int × Int))) (k1y7 : Int) (k1y8 : Int) (k1y9 : Bool)
    (h1 : LoopSC cfg.P 2 (lb P_slices_IndexFunc 0) (slices_IndexFunc_L0d a0 a1F a1g ((List.length a0 : Nat) : Int) (0 : Int)) (.exit 0) (slices_IndexFunc_L0X3 k1y0 k1yF1 k1yg1a k1y7 k1y8 k1y9)) :
    SC cfg.P i_slices_IndexFunc [.s (.v (.sl (.sl (.pr (.int .i64) (.int .i64)))) a0), .fn a1F [] [.fadr (.sl (.pr (.int .i64) (.int .i64))) a1g]] (.s (.v (.int .i64) (-1 : Int))) [] :=
  SC_of_run cfgOK (its := [.loop (fun _ => (.exit 0, slices_IndexFunc_L0X3 k1y0 k1yF1 k1yg1a k1y7 k1y8 k1y9))])
    (ps := [LoopSC cfg.P 2 (lb P_slices_IndexFunc 0) (slices_IndexFunc_L0d a0 a1F a1g ((List.length a0 : Nat) : Int) (0 : Int)) (.exit 0) (slices_IndexFunc_L0X3 k1y0 k1yF1 k1yg1a k1y7 k1y8 k1y9)]) (by kernel_rfl) ⟨h1, trivial⟩ get_slices_IndexFunc (by decide)

end Go.AI
