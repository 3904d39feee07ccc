/- A part of the road: what it proves stands in its last texts. -/
import Derived.Test.YtnhjfdkogbelaaaSIds
import Derived.Test.YtnhjfdkogbelaaaProg
set_option autoImplicit false
set_option maxRecDepth 100000
set_option linter.unusedVariables false
namespace Go.AI
open Go.Proofs

/-! ### impl_pair_moved -/


def impl_pair_moved_L0a (x5 : Int) (xo3 : (List (List (Int × Int)))) (xo7 : (List (List (Int × Int)))) : St := mkSt 32 [(3, .s (.osl 3 0)), (4, .s (.osl 7 0)), (5, .s (.v (.int .i64) x5))] [(3, .row t_Simpl_Ratio (.sl (.pr (.int .i64) (.int .i64))) xo3 0 false), (7, .row t_Simpl_Ratio (.sl (.pr (.int .i64) (.int .i64))) xo7 0 false)]

def impl_pair_moved_L0X1 (y5 : Int) (y11 : Bool) (yo3 : (List (List (Int × Int)))) (yo7 : (List (List (Int × Int)))) : St := mkSt 32 [(3, .s (.osl 3 0)), (4, .s (.osl 7 0)), (5, .s (.v (.int .i64) y5)), (11, .s (.v .bool y11))] [(3, .row t_Simpl_Ratio (.sl (.pr (.int .i64) (.int .i64))) yo3 0 false), (7, .row t_Simpl_Ratio (.sl (.pr (.int .i64) (.int .i64))) yo7 0 false)]

theorem impl_pair_moved_L0a_i1 (x5 : Int) (xo3 : (List (List (Int × Int)))) (xo7 : (List (List (Int × Int))))
    (h1 : x5 < ((List.length xo7 : Nat) : Int))
    (h2 : 0 ≤ (IntKind.wrap .i64 (x5 - (1 : Int))))
    (h3 : (IntKind.wrap .i64 (x5 - (1 : Int))) < (List.length xo7 : Int))
    (h4 : ((IntKind.wrap .i64 (x5 - (1 : Int)))).toNat < List.length xo7)
    (h5 : (1 : Int) < (List.length (List.getD xo7 ((IntKind.wrap .i64 (x5 - (1 : Int)))).toNat ([] : List (Int × Int))) : Int))
    (h6 : 0 ≤ x5)
    (h7 : x5 < (List.length xo7 : Int))
    (h8 : (x5).toNat < List.length xo7)
    (h9 : (0 : Int) < (List.length (List.getD xo7 (x5).toNat ([] : List (Int × Int))) : Int))
    (h10 : sizeOK (List.length xo3 + List.length ([([(List.getD (List.getD xo7 ((IntKind.wrap .i64 (x5 - (1 : Int)))).toNat ([] : List (Int × Int))) ((1 : Int)).toNat ((0 : Int), (0 : Int))), (List.getD (List.getD xo7 (x5).toNat ([] : List (Int × Int))) ((0 : Int)).toNat ((0 : Int), (0 : Int)))] : List (Int × Int))] : List (List (Int × Int)))))
    {e : AEx} {st : St} (next : LoopSC cfg.P 1 (lb P_impl_pair_moved 0) (impl_pair_moved_L0a (IntKind.wrap .i64 (x5 + (1 : Int))) (xo3 ++ ([([(List.getD (List.getD xo7 ((IntKind.wrap .i64 (x5 - (1 : Int)))).toNat ([] : List (Int × Int))) ((1 : Int)).toNat ((0 : Int), (0 : Int))), (List.getD (List.getD xo7 (x5).toNat ([] : List (Int × Int))) ((0 : Int)).toNat ((0 : Int), (0 : Int)))] : List (Int × Int))] : List (List (Int × Int)))) xo7) e st) :
    LoopSC cfg.P 1 (lb P_impl_pair_moved 0) (impl_pair_moved_L0a x5 xo3 xo7) e st :=
  loop_iter cfgOK (f := i_impl_pair_moved) (its := [.bool true])
    (ps := [decide (x5 < ((List.length xo7 : Nat) : Int)) = true,
      0 ≤ (IntKind.wrap .i64 (x5 - (1 : Int))),
      (IntKind.wrap .i64 (x5 - (1 : Int))) < (List.length xo7 : Int),
      ((IntKind.wrap .i64 (x5 - (1 : Int)))).toNat < List.length xo7,
      0 ≤ (1 : Int),
      (1 : Int) < (List.length (List.getD xo7 ((IntKind.wrap .i64 (x5 - (1 : Int)))).toNat ([] : List (Int × Int))) : Int),
      0 ≤ x5,
      x5 < (List.length xo7 : Int),
      (x5).toNat < List.length xo7,
      0 ≤ (0 : Int),
      (0 : Int) < (List.length (List.getD xo7 (x5).toNat ([] : List (Int × Int))) : Int),
      sizeOK (List.length xo3 + List.length ([([(List.getD (List.getD xo7 ((IntKind.wrap .i64 (x5 - (1 : Int)))).toNat ([] : List (Int × Int))) ((1 : Int)).toNat ((0 : Int), (0 : Int))), (List.getD (List.getD xo7 (x5).toNat ([] : List (Int × Int))) ((0 : Int)).toNat ((0 : Int), (0 : Int)))] : List (Int × Int))] : List (List (Int × Int))))]) (st1 := impl_pair_moved_L0a (IntKind.wrap .i64 (x5 + (1 : Int))) (xo3 ++ ([([(List.getD (List.getD xo7 ((IntKind.wrap .i64 (x5 - (1 : Int)))).toNat ([] : List (Int × Int))) ((1 : Int)).toNat ((0 : Int), (0 : Int))), (List.getD (List.getD xo7 (x5).toNat ([] : List (Int × Int))) ((0 : Int)).toNat ((0 : Int), (0 : Int)))] : List (Int × Int))] : List (List (Int × Int)))) xo7) (by kernel_rfl) ⟨(decide_eq_true h1), h2, h3, h4, (by decide), h5, h6, h7, h8, (by decide), h9, h10, trivial⟩ next

theorem impl_pair_moved_L0a_x2 (x5 : Int) (xo3 : (List (List (Int × Int)))) (xo7 : (List (List (Int × Int))))
    (h1 : ¬ (x5 < ((List.length xo7 : Nat) : Int))) :
    LoopSC cfg.P 1 (lb P_impl_pair_moved 0) (impl_pair_moved_L0a x5 xo3 xo7) (.exit 0) (impl_pair_moved_L0X1 x5 false xo3 xo7) :=
  loop_out cfgOK (f := i_impl_pair_moved) (its := [.bool false])
    (ps := [decide (x5 < ((List.length xo7 : Nat) : Int)) = false]) (by kernel_rfl) ⟨(decide_eq_false h1), trivial⟩ (fun h => by cases h)

theorem impl_pair_moved_p1 (a0 : (Tr × Tr)) (c1 : (List (List (Int × Int)))) (k1y5 : Int) (k1y11 : Bool) (k1yo3 : (List (List (Int × Int)))) (k1yo7 : (List (List (Int × Int))))
    (h1 : SC cfg.P i_impl_pair_fixed [.s (.v (.pr .tree .tree) a0)] (.s (.own t_Simpl_Ratio (.sl (.pr (.int .i64) (.int .i64))) c1)) [])
    (h2 : LoopSC cfg.P 1 (lb P_impl_pair_moved 0) (impl_pair_moved_L0a (1 : Int) ([] : List (List (Int × Int))) c1) (.exit 0) (impl_pair_moved_L0X1 k1y5 k1y11 k1yo3 k1yo7)) :
    SC cfg.P i_impl_pair_moved [.s (.v (.pr .tree .tree) a0)] (.s (.own t_Simpl_Ratio (.sl (.pr (.int .i64) (.int .i64))) k1yo3)) [] :=
  SC_of_run cfgOK (its := [.res (.s (.own t_Simpl_Ratio (.sl (.pr (.int .i64) (.int .i64))) c1)) [] [] [7], .loop (fun _ => (.exit 0, impl_pair_moved_L0X1 k1y5 k1y11 k1yo3 k1yo7))])
    (ps := [SC cfg.P i_impl_pair_fixed [.s (.v (.pr .tree .tree) a0)] (.s (.own t_Simpl_Ratio (.sl (.pr (.int .i64) (.int .i64))) c1)) [],
      LoopSC cfg.P 1 (lb P_impl_pair_moved 0) (impl_pair_moved_L0a (1 : Int) ([] : List (List (Int × Int))) c1) (.exit 0) (impl_pair_moved_L0X1 k1y5 k1y11 k1yo3 k1yo7)]) (by kernel_rfl) ⟨h1, h2, trivial⟩ get_impl_pair_moved (by decide)

/-! ### spec_obMoved -/


def spec_obMoved_L0a (x5 : Int) (xo3 : (List (List (Int × Int)))) (xo7 : (List (List (Int × Int)))) : St := mkSt 32 [(3, .s (.osl 3 0)), (4, .s (.osl 7 0)), (5, .s (.v (.int .i64) x5))] [(3, .row t_Simpl_Ratio (.sl (.pr (.int .i64) (.int .i64))) xo3 0 false), (7, .row t_Simpl_Ratio (.sl (.pr (.int .i64) (.int .i64))) xo7 0 false)]

def spec_obMoved_L0X1 (y5 : Int) (y11 : Bool) (yo3 : (List (List (Int × Int)))) (yo7 : (List (List (Int × Int)))) : St := mkSt 32 [(3, .s (.osl 3 0)), (4, .s (.osl 7 0)), (5, .s (.v (.int .i64) y5)), (11, .s (.v .bool y11))] [(3, .row t_Simpl_Ratio (.sl (.pr (.int .i64) (.int .i64))) yo3 0 false), (7, .row t_Simpl_Ratio (.sl (.pr (.int .i64) (.int .i64))) yo7 0 false)]

theorem spec_obMoved_L0a_i1 (x5 : Int) (xo3 : (List (List (Int × Int)))) (xo7 : (List (List (Int × Int))))
    (h1 : x5 < ((List.length xo7 : Nat) : Int))
    (h2 : 0 ≤ (IntKind.wrap .i64 (x5 - (1 : Int))))
    (h3 : (IntKind.wrap .i64 (x5 - (1 : Int))) < (List.length xo7 : Int))
    (h4 : ((IntKind.wrap .i64 (x5 - (1 : Int)))).toNat < List.length xo7)
    (h5 : (1 : Int) < (List.length (List.getD xo7 ((IntKind.wrap .i64 (x5 - (1 : Int)))).toNat ([] : List (Int × Int))) : Int))
    (h6 : 0 ≤ x5)
    (h7 : x5 < (List.length xo7 : Int))
    (h8 : (x5).toNat < List.length xo7)
    (h9 : (0 : Int) < (List.length (List.getD xo7 (x5).toNat ([] : List (Int × Int))) : Int))
    (h10 : sizeOK (List.length xo3 + List.length ([([(List.getD (List.getD xo7 ((IntKind.wrap .i64 (x5 - (1 : Int)))).toNat ([] : List (Int × Int))) ((1 : Int)).toNat ((0 : Int), (0 : Int))), (List.getD (List.getD xo7 (x5).toNat ([] : List (Int × Int))) ((0 : Int)).toNat ((0 : Int), (0 : Int)))] : List (Int × Int))] : List (List (Int × Int)))))
    {e : AEx} {st : St} (next : LoopSC cfg.P 1 (lb P_spec_obMoved 0) (spec_obMoved_L0a (IntKind.wrap .i64 (x5 + (1 : Int))) (xo3 ++ ([([(List.getD (List.getD xo7 ((IntKind.wrap .i64 (x5 - (1 : Int)))).toNat ([] : List (Int × Int))) ((1 : Int)).toNat ((0 : Int), (0 : Int))), (List.getD (List.getD xo7 (x5).toNat ([] : List (Int × Int))) ((0 : Int)).toNat ((0 : Int), (0 : Int)))] : List (Int × Int))] : List (List (Int × Int)))) xo7) e st) :
    LoopSC cfg.P 1 (lb P_spec_obMoved 0) (spec_obMoved_L0a x5 xo3 xo7) e st :=
  loop_iter cfgOK (f := i_spec_obMoved) (its := [.bool true])
    (ps := [decide (x5 < ((List.length xo7 : Nat) : Int)) = true,
      0 ≤ (IntKind.wrap .i64 (x5 - (1 : Int))),
      (IntKind.wrap .i64 (x5 - (1 : Int))) < (List.length xo7 : Int),
      ((IntKind.wrap .i64 (x5 - (1 : Int)))).toNat < List.length xo7,
      0 ≤ (1 : Int),
      (1 : Int) < (List.length (List.getD xo7 ((IntKind.wrap .i64 (x5 - (1 : Int)))).toNat ([] : List (Int × Int))) : Int),
      0 ≤ x5,
      x5 < (List.length xo7 : Int),
      (x5).toNat < List.length xo7,
      0 ≤ (0 : Int),
      (0 : Int) < (List.length (List.getD xo7 (x5).toNat ([] : List (Int × Int))) : Int),
      sizeOK (List.length xo3 + List.length ([([(List.getD (List.getD xo7 ((IntKind.wrap .i64 (x5 - (1 : Int)))).toNat ([] : List (Int × Int))) ((1 : Int)).toNat ((0 : Int), (0 : Int))), (List.getD (List.getD xo7 (x5).toNat ([] : List (Int × Int))) ((0 : Int)).toNat ((0 : Int), (0 : Int)))] : List (Int × Int))] : List (List (Int × Int))))]) (st1 := spec_obMoved_L0a (IntKind.wrap .i64 (x5 + (1 : Int))) (xo3 ++ ([([(List.getD (List.getD xo7 ((IntKind.wrap .i64 (x5 - (1 : Int)))).toNat ([] : List (Int × Int))) ((1 : Int)).toNat ((0 : Int), (0 : Int))), (List.getD (List.getD xo7 (x5).toNat ([] : List (Int × Int))) ((0 : Int)).toNat ((0 : Int), (0 : Int)))] : List (Int × Int))] : List (List (Int × Int)))) xo7) (by kernel_rfl) ⟨(decide_eq_true h1), h2, h3, h4, (by decide), h5, h6, h7, h8, (by decide), h9, h10, trivial⟩ next

theorem spec_obMoved_L0a_x2 (x5 : Int) (xo3 : (List (List (Int × Int)))) (xo7 : (List (List (Int × Int))))
    (h1 : ¬ (x5 < ((List.length xo7 : Nat) : Int))) :
    LoopSC cfg.P 1 (lb P_spec_obMoved 0) (spec_obMoved_L0a x5 xo3 xo7) (.exit 0) (spec_obMoved_L0X1 x5 false xo3 xo7) :=
  loop_out cfgOK (f := i_spec_obMoved) (its := [.bool false])
    (ps := [decide (x5 < ((List.length xo7 : Nat) : Int)) = false]) (by kernel_rfl) ⟨(decide_eq_false h1), trivial⟩ (fun h => by cases h)

theorem spec_obMoved_p1 (a0 : (ByteArray × ByteArray)) (c1 : (List (List (Int × Int)))) (k1y5 : Int) (k1y11 : Bool) (k1yo3 : (List (List (Int × Int)))) (k1yo7 : (List (List (Int × Int))))
    (h1 : SC cfg.P i_spec_obFixed [.s (.v (.pr .str .str) a0)] (.s (.own t_Simpl_Ratio (.sl (.pr (.int .i64) (.int .i64))) c1)) [])
    (h2 : LoopSC cfg.P 1 (lb P_spec_obMoved 0) (spec_obMoved_L0a (1 : Int) ([] : List (List (Int × Int))) c1) (.exit 0) (spec_obMoved_L0X1 k1y5 k1y11 k1yo3 k1yo7)) :
    SC cfg.P i_spec_obMoved [.s (.v (.pr .str .str) a0)] (.s (.own t_Simpl_Ratio (.sl (.pr (.int .i64) (.int .i64))) k1yo3)) [] :=
  SC_of_run cfgOK (its := [.res (.s (.own t_Simpl_Ratio (.sl (.pr (.int .i64) (.int .i64))) c1)) [] [] [7], .loop (fun _ => (.exit 0, spec_obMoved_L0X1 k1y5 k1y11 k1yo3 k1yo7))])
    (ps := [SC cfg.P i_spec_obFixed [.s (.v (.pr .str .str) a0)] (.s (.own t_Simpl_Ratio (.sl (.pr (.int .i64) (.int .i64))) c1)) [],
      LoopSC cfg.P 1 (lb P_spec_obMoved 0) (spec_obMoved_L0a (1 : Int) ([] : List (List (Int × Int))) c1) (.exit 0) (spec_obMoved_L0X1 k1y5 k1y11 k1yo3 k1yo7)]) (by kernel_rfl) ⟨h1, h2, trivial⟩ get_spec_obMoved (by decide)

/-! ### impl_pair_fixed -/


/-! ### spec_obFixed -/


def spec_obFixed_L0a (x4 : (List ByteArray)) (x21 : (List ByteArray)) (x22 : Int) (x23 : Int) (xo3 : (List (List (Int × Int)))) : St := mkSt 156 [(3, .s (.osl 3 0)), (4, .s (.v (.sl .str) x4)), (21, .s (.v (.sl .str) x21)), (22, .s (.v (.int .i64) x22)), (23, .s (.v (.int .i64) x23))] [(3, .row t_Simpl_Ratio (.sl (.pr (.int .i64) (.int .i64))) xo3 0 false)]

def spec_obFixed_L0X1 (y4 : (List ByteArray)) (y21 : (List ByteArray)) (y22 : Int) (y23 : Int) (y24 : Bool) (yo3 : (List (List (Int × Int)))) : St := mkSt 156 [(3, .s (.osl 3 0)), (4, .s (.v (.sl .str) y4)), (21, .s (.v (.sl .str) y21)), (22, .s (.v (.int .i64) y22)), (23, .s (.v (.int .i64) y23)), (24, .s (.v .bool y24))] [(3, .row t_Simpl_Ratio (.sl (.pr (.int .i64) (.int .i64))) yo3 0 false)]

theorem spec_obFixed_L0a_i2 (x4 : (List ByteArray)) (x21 : (List ByteArray)) (x22 : Int) (x23 : Int) (xo3 : (List (List (Int × Int)))) (dc1 : (Int × Int)) (dc2 : (Int × Int)) (dc3 : (Int × Int)) (dc4 : (Int × Int))
    (h1 : x23 < x22)
    (h2 : 0 ≤ x23)
    (h3 : x23 < (List.length x21 : Int))
    (h4 : SC cfg.P i_spec_mpOf [.s (.v .str (List.getD x21 (x23).toNat (⟨#[]⟩ : ByteArray)))] (.s (.v (.pr (.int .i64) (.int .i64)) dc1)) [])
    (h5 : x23 < (List.length x4 : Int))
    (h6 : SC cfg.P i_spec_mpOf [.s (.v .str (List.getD x4 (x23).toNat (⟨#[]⟩ : ByteArray)))] (.s (.v (.pr (.int .i64) (.int .i64)) dc2)) [])
    (h7 : SC cfg.P i_spec_obRatio [.s (.v (.int .i64) dc1.1), .s (.v (.int .i64) dc1.2)] (.s (.v (.pr (.int .i64) (.int .i64)) dc3)) [])
    (h8 : 0 ≤ (((List.getD x21 (x23).toNat (⟨#[]⟩ : ByteArray))).size : Int))
    (h9 : dc1.2 ≠ 0)
    (h10 : SC cfg.P i_spec_obRatio [.s (.v (.int .i64) (IntKind.wrap .i64 ((IntKind.wrap .i64 (dc1.1 * (IntKind.wrap .i64 (Int.tdiv (IntKind.wrap .i64 ((1 : Int) * 2 ^ (min ((((List.getD x21 (x23).toNat (⟨#[]⟩ : ByteArray))).size : Int)).toNat (IntKind.bits .i64)))) dc1.2)))) + (1 : Int)))), .s (.v (.int .i64) (IntKind.wrap .i64 ((1 : Int) * 2 ^ (min ((((List.getD x21 (x23).toNat (⟨#[]⟩ : ByteArray))).size : Int)).toNat (IntKind.bits .i64)))))] (.s (.v (.pr (.int .i64) (.int .i64)) dc4)) [])
    (h11 : (((List.getD x21 (x23).toNat (⟨#[]⟩ : ByteArray))).size : Int) = (((List.getD x4 (x23).toNat (⟨#[]⟩ : ByteArray))).size : Int))
    (h12 : ((dc1.1 == dc2.1) && (dc1.2 == dc2.2)) = true)
    (h13 : ((List.length ([dc3, dc4] : List (Int × Int)) : Nat) : Int) ≠ (0 : Int))
    (h14 : (IntKind.wrap .i64 (((List.length xo3 : Nat) : Int) - (1 : Int))) ≥ (0 : Int))
    (h15 : 0 ≤ (IntKind.wrap .i64 (((List.length xo3 : Nat) : Int) - (1 : Int))))
    (h16 : (IntKind.wrap .i64 (((List.length xo3 : Nat) : Int) - (1 : Int))) < (List.length xo3 : Int))
    (h17 : ((IntKind.wrap .i64 (((List.length xo3 : Nat) : Int) - (1 : Int)))).toNat < List.length xo3)
    (h18 : (1 : Int) < (List.length (List.getD xo3 ((IntKind.wrap .i64 (((List.length xo3 : Nat) : Int) - (1 : Int)))).toNat ([] : List (Int × Int))) : Int))
    (h19 : (0 : Int) < (List.length ([dc3, dc4] : List (Int × Int)) : Int))
    (h20 : ((0 : Int)).toNat < List.length ([dc3, dc4] : List (Int × Int)))
    (h21 : (((List.getD (List.getD xo3 ((IntKind.wrap .i64 (((List.length xo3 : Nat) : Int) - (1 : Int)))).toNat ([] : List (Int × Int))) ((1 : Int)).toNat ((0 : Int), (0 : Int))).1 == (List.getD ([dc3, dc4] : List (Int × Int)) ((0 : Int)).toNat ((0 : Int), (0 : Int))).1) && ((List.getD (List.getD xo3 ((IntKind.wrap .i64 (((List.length xo3 : Nat) : Int) - (1 : Int)))).toNat ([] : List (Int × Int))) ((1 : Int)).toNat ((0 : Int), (0 : Int))).2 == (List.getD ([dc3, dc4] : List (Int × Int)) ((0 : Int)).toNat ((0 : Int), (0 : Int))).2)) = true)
    (h22 : (0 : Int) < (List.length (List.getD xo3 ((IntKind.wrap .i64 (((List.length xo3 : Nat) : Int) - (1 : Int)))).toNat ([] : List (Int × Int))) : Int))
    (h23 : (1 : Int) < (List.length ([dc3, dc4] : List (Int × Int)) : Int))
    (h24 : ((1 : Int)).toNat < List.length ([dc3, dc4] : List (Int × Int)))
    {e : AEx} {st : St} (next : LoopSC cfg.P 1 (lb P_spec_obFixed 0) (spec_obFixed_L0a x4 x21 x22 (IntKind.wrap .i64 (x23 + (1 : Int))) (List.set xo3 ((IntKind.wrap .i64 (((List.length xo3 : Nat) : Int) - (1 : Int)))).toNat ([(List.getD (List.getD xo3 ((IntKind.wrap .i64 (((List.length xo3 : Nat) : Int) - (1 : Int)))).toNat ([] : List (Int × Int))) ((0 : Int)).toNat ((0 : Int), (0 : Int))), (List.getD ([dc3, dc4] : List (Int × Int)) ((1 : Int)).toNat ((0 : Int), (0 : Int)))] : List (Int × Int)))) e st) :
    LoopSC cfg.P 1 (lb P_spec_obFixed 0) (spec_obFixed_L0a x4 x21 x22 x23 xo3) e st :=
  loop_iter cfgOK (f := i_spec_obFixed) (its := [.bool true, .res (.s (.v (.pr (.int .i64) (.int .i64)) dc1)) [] [] [], .res (.s (.v (.pr (.int .i64) (.int .i64)) dc2)) [] [] [], .res (.s (.v (.pr (.int .i64) (.int .i64)) dc3)) [] [] [], .res (.s (.v (.pr (.int .i64) (.int .i64)) dc4)) [] [] [], .bool true, .bool true, .bool false, .bool true, .bool true])
    (ps := [decide (x23 < x22) = true,
      0 ≤ x23,
      x23 < (List.length x21 : Int),
      SC cfg.P i_spec_mpOf [.s (.v .str (List.getD x21 (x23).toNat (⟨#[]⟩ : ByteArray)))] (.s (.v (.pr (.int .i64) (.int .i64)) dc1)) [],
      0 ≤ x23,
      x23 < (List.length x4 : Int),
      SC cfg.P i_spec_mpOf [.s (.v .str (List.getD x4 (x23).toNat (⟨#[]⟩ : ByteArray)))] (.s (.v (.pr (.int .i64) (.int .i64)) dc2)) [],
      SC cfg.P i_spec_obRatio [.s (.v (.int .i64) dc1.1), .s (.v (.int .i64) dc1.2)] (.s (.v (.pr (.int .i64) (.int .i64)) dc3)) [],
      0 ≤ (((List.getD x21 (x23).toNat (⟨#[]⟩ : ByteArray))).size : Int),
      dc1.2 ≠ 0,
      0 ≤ (((List.getD x21 (x23).toNat (⟨#[]⟩ : ByteArray))).size : Int),
      SC cfg.P i_spec_obRatio [.s (.v (.int .i64) (IntKind.wrap .i64 ((IntKind.wrap .i64 (dc1.1 * (IntKind.wrap .i64 (Int.tdiv (IntKind.wrap .i64 ((1 : Int) * 2 ^ (min ((((List.getD x21 (x23).toNat (⟨#[]⟩ : ByteArray))).size : Int)).toNat (IntKind.bits .i64)))) dc1.2)))) + (1 : Int)))), .s (.v (.int .i64) (IntKind.wrap .i64 ((1 : Int) * 2 ^ (min ((((List.getD x21 (x23).toNat (⟨#[]⟩ : ByteArray))).size : Int)).toNat (IntKind.bits .i64)))))] (.s (.v (.pr (.int .i64) (.int .i64)) dc4)) [],
      0 ≤ x23,
      x23 < (List.length x4 : Int),
      ((((List.getD x21 (x23).toNat (⟨#[]⟩ : ByteArray))).size : Int) == (((List.getD x4 (x23).toNat (⟨#[]⟩ : ByteArray))).size : Int)) = true,
      ((dc1.1 == dc2.1) && (dc1.2 == dc2.2)) = true,
      (((List.length ([dc3, dc4] : List (Int × Int)) : Nat) : Int) == (0 : Int)) = false,
      decide ((IntKind.wrap .i64 (((List.length xo3 : Nat) : Int) - (1 : Int))) ≥ (0 : Int)) = true,
      0 ≤ (IntKind.wrap .i64 (((List.length xo3 : Nat) : Int) - (1 : Int))),
      (IntKind.wrap .i64 (((List.length xo3 : Nat) : Int) - (1 : Int))) < (List.length xo3 : Int),
      ((IntKind.wrap .i64 (((List.length xo3 : Nat) : Int) - (1 : Int)))).toNat < List.length xo3,
      0 ≤ (1 : Int),
      (1 : Int) < (List.length (List.getD xo3 ((IntKind.wrap .i64 (((List.length xo3 : Nat) : Int) - (1 : Int)))).toNat ([] : List (Int × Int))) : Int),
      0 ≤ (0 : Int),
      (0 : Int) < (List.length ([dc3, dc4] : List (Int × Int)) : Int),
      ((0 : Int)).toNat < List.length ([dc3, dc4] : List (Int × Int)),
      (((List.getD (List.getD xo3 ((IntKind.wrap .i64 (((List.length xo3 : Nat) : Int) - (1 : Int)))).toNat ([] : List (Int × Int))) ((1 : Int)).toNat ((0 : Int), (0 : Int))).1 == (List.getD ([dc3, dc4] : List (Int × Int)) ((0 : Int)).toNat ((0 : Int), (0 : Int))).1) && ((List.getD (List.getD xo3 ((IntKind.wrap .i64 (((List.length xo3 : Nat) : Int) - (1 : Int)))).toNat ([] : List (Int × Int))) ((1 : Int)).toNat ((0 : Int), (0 : Int))).2 == (List.getD ([dc3, dc4] : List (Int × Int)) ((0 : Int)).toNat ((0 : Int), (0 : Int))).2)) = true,
      0 ≤ (IntKind.wrap .i64 (((List.length xo3 : Nat) : Int) - (1 : Int))),
      (IntKind.wrap .i64 (((List.length xo3 : Nat) : Int) - (1 : Int))) < (List.length xo3 : Int),
      ((IntKind.wrap .i64 (((List.length xo3 : Nat) : Int) - (1 : Int)))).toNat < List.length xo3,
      0 ≤ (0 : Int),
      (0 : Int) < (List.length (List.getD xo3 ((IntKind.wrap .i64 (((List.length xo3 : Nat) : Int) - (1 : Int)))).toNat ([] : List (Int × Int))) : Int),
      0 ≤ (1 : Int),
      (1 : Int) < (List.length ([dc3, dc4] : List (Int × Int)) : Int),
      ((1 : Int)).toNat < List.length ([dc3, dc4] : List (Int × Int)),
      0 ≤ (IntKind.wrap .i64 (((List.length xo3 : Nat) : Int) - (1 : Int))),
      (IntKind.wrap .i64 (((List.length xo3 : Nat) : Int) - (1 : Int))) < (List.length xo3 : Int),
      ((IntKind.wrap .i64 (((List.length xo3 : Nat) : Int) - (1 : Int)))).toNat < List.length xo3]) (st1 := spec_obFixed_L0a x4 x21 x22 (IntKind.wrap .i64 (x23 + (1 : Int))) (List.set xo3 ((IntKind.wrap .i64 (((List.length xo3 : Nat) : Int) - (1 : Int)))).toNat ([(List.getD (List.getD xo3 ((IntKind.wrap .i64 (((List.length xo3 : Nat) : Int) - (1 : Int)))).toNat ([] : List (Int × Int))) ((0 : Int)).toNat ((0 : Int), (0 : Int))), (List.getD ([dc3, dc4] : List (Int × Int)) ((1 : Int)).toNat ((0 : Int), (0 : Int)))] : List (Int × Int)))) (by kernel_rfl) ⟨(decide_eq_true h1), h2, h3, h4, h2, h5, h6, h7, h8, h9, h8, h10, h2, h5, (beq_iff_eq.mpr h11), h12, (beq_eq_false_iff_ne.mpr h13), (decide_eq_true h14), h15, h16, h17, (by decide), h18, (by decide), h19, h20, h21, h15, h16, h17, (by decide), h22, (by decide), h23, h24, h15, h16, h17, trivial⟩ next

theorem spec_obFixed_L0a_i3 (x4 : (List ByteArray)) (x21 : (List ByteArray)) (x22 : Int) (x23 : Int) (xo3 : (List (List (Int × Int)))) (dc1 : (Int × Int)) (dc2 : (Int × Int)) (dc3 : (Int × Int)) (dc4 : (Int × Int))
    (h1 : x23 < x22)
    (h2 : 0 ≤ x23)
    (h3 : x23 < (List.length x21 : Int))
    (h4 : SC cfg.P i_spec_mpOf [.s (.v .str (List.getD x21 (x23).toNat (⟨#[]⟩ : ByteArray)))] (.s (.v (.pr (.int .i64) (.int .i64)) dc1)) [])
    (h5 : x23 < (List.length x4 : Int))
    (h6 : SC cfg.P i_spec_mpOf [.s (.v .str (List.getD x4 (x23).toNat (⟨#[]⟩ : ByteArray)))] (.s (.v (.pr (.int .i64) (.int .i64)) dc2)) [])
    (h7 : SC cfg.P i_spec_obRatio [.s (.v (.int .i64) dc1.1), .s (.v (.int .i64) dc1.2)] (.s (.v (.pr (.int .i64) (.int .i64)) dc3)) [])
    (h8 : 0 ≤ (((List.getD x21 (x23).toNat (⟨#[]⟩ : ByteArray))).size : Int))
    (h9 : dc1.2 ≠ 0)
    (h10 : SC cfg.P i_spec_obRatio [.s (.v (.int .i64) (IntKind.wrap .i64 ((IntKind.wrap .i64 (dc1.1 * (IntKind.wrap .i64 (Int.tdiv (IntKind.wrap .i64 ((1 : Int) * 2 ^ (min ((((List.getD x21 (x23).toNat (⟨#[]⟩ : ByteArray))).size : Int)).toNat (IntKind.bits .i64)))) dc1.2)))) + (1 : Int)))), .s (.v (.int .i64) (IntKind.wrap .i64 ((1 : Int) * 2 ^ (min ((((List.getD x21 (x23).toNat (⟨#[]⟩ : ByteArray))).size : Int)).toNat (IntKind.bits .i64)))))] (.s (.v (.pr (.int .i64) (.int .i64)) dc4)) [])
    (h11 : (((List.getD x21 (x23).toNat (⟨#[]⟩ : ByteArray))).size : Int) = (((List.getD x4 (x23).toNat (⟨#[]⟩ : ByteArray))).size : Int))
    (h12 : ((dc1.1 == dc2.1) && (dc1.2 == dc2.2)) = true)
    (h13 : ((List.length ([dc3, dc4] : List (Int × Int)) : Nat) : Int) ≠ (0 : Int))
    (h14 : (IntKind.wrap .i64 (((List.length xo3 : Nat) : Int) - (1 : Int))) ≥ (0 : Int))
    (h15 : 0 ≤ (IntKind.wrap .i64 (((List.length xo3 : Nat) : Int) - (1 : Int))))
    (h16 : (IntKind.wrap .i64 (((List.length xo3 : Nat) : Int) - (1 : Int))) < (List.length xo3 : Int))
    (h17 : ((IntKind.wrap .i64 (((List.length xo3 : Nat) : Int) - (1 : Int)))).toNat < List.length xo3)
    (h18 : (1 : Int) < (List.length (List.getD xo3 ((IntKind.wrap .i64 (((List.length xo3 : Nat) : Int) - (1 : Int)))).toNat ([] : List (Int × Int))) : Int))
    (h19 : (0 : Int) < (List.length ([dc3, dc4] : List (Int × Int)) : Int))
    (h20 : ((0 : Int)).toNat < List.length ([dc3, dc4] : List (Int × Int)))
    (h21 : (((List.getD (List.getD xo3 ((IntKind.wrap .i64 (((List.length xo3 : Nat) : Int) - (1 : Int)))).toNat ([] : List (Int × Int))) ((1 : Int)).toNat ((0 : Int), (0 : Int))).1 == (List.getD ([dc3, dc4] : List (Int × Int)) ((0 : Int)).toNat ((0 : Int), (0 : Int))).1) && ((List.getD (List.getD xo3 ((IntKind.wrap .i64 (((List.length xo3 : Nat) : Int) - (1 : Int)))).toNat ([] : List (Int × Int))) ((1 : Int)).toNat ((0 : Int), (0 : Int))).2 == (List.getD ([dc3, dc4] : List (Int × Int)) ((0 : Int)).toNat ((0 : Int), (0 : Int))).2)) = false)
    (h22 : sizeOK (List.length xo3 + List.length ([([dc3, dc4] : List (Int × Int))] : List (List (Int × Int)))))
    {e : AEx} {st : St} (next : LoopSC cfg.P 1 (lb P_spec_obFixed 0) (spec_obFixed_L0a x4 x21 x22 (IntKind.wrap .i64 (x23 + (1 : Int))) (xo3 ++ ([([dc3, dc4] : List (Int × Int))] : List (List (Int × Int))))) e st) :
    LoopSC cfg.P 1 (lb P_spec_obFixed 0) (spec_obFixed_L0a x4 x21 x22 x23 xo3) e st :=
  loop_iter cfgOK (f := i_spec_obFixed) (its := [.bool true, .res (.s (.v (.pr (.int .i64) (.int .i64)) dc1)) [] [] [], .res (.s (.v (.pr (.int .i64) (.int .i64)) dc2)) [] [] [], .res (.s (.v (.pr (.int .i64) (.int .i64)) dc3)) [] [] [], .res (.s (.v (.pr (.int .i64) (.int .i64)) dc4)) [] [] [], .bool true, .bool true, .bool false, .bool true, .bool false])
    (ps := [decide (x23 < x22) = true,
      0 ≤ x23,
      x23 < (List.length x21 : Int),
      SC cfg.P i_spec_mpOf [.s (.v .str (List.getD x21 (x23).toNat (⟨#[]⟩ : ByteArray)))] (.s (.v (.pr (.int .i64) (.int .i64)) dc1)) [],
      0 ≤ x23,
      x23 < (List.length x4 : Int),
      SC cfg.P i_spec_mpOf [.s (.v .str (List.getD x4 (x23).toNat (⟨#[]⟩ : ByteArray)))] (.s (.v (.pr (.int .i64) (.int .i64)) dc2)) [],
      SC cfg.P i_spec_obRatio [.s (.v (.int .i64) dc1.1), .s (.v (.int .i64) dc1.2)] (.s (.v (.pr (.int .i64) (.int .i64)) dc3)) [],
      0 ≤ (((List.getD x21 (x23).toNat (⟨#[]⟩ : ByteArray))).size : Int),
      dc1.2 ≠ 0,
      0 ≤ (((List.getD x21 (x23).toNat (⟨#[]⟩ : ByteArray))).size : Int),
      SC cfg.P i_spec_obRatio [.s (.v (.int .i64) (IntKind.wrap .i64 ((IntKind.wrap .i64 (dc1.1 * (IntKind.wrap .i64 (Int.tdiv (IntKind.wrap .i64 ((1 : Int) * 2 ^ (min ((((List.getD x21 (x23).toNat (⟨#[]⟩ : ByteArray))).size : Int)).toNat (IntKind.bits .i64)))) dc1.2)))) + (1 : Int)))), .s (.v (.int .i64) (IntKind.wrap .i64 ((1 : Int) * 2 ^ (min ((((List.getD x21 (x23).toNat (⟨#[]⟩ : ByteArray))).size : Int)).toNat (IntKind.bits .i64)))))] (.s (.v (.pr (.int .i64) (.int .i64)) dc4)) [],
      0 ≤ x23,
      x23 < (List.length x4 : Int),
      ((((List.getD x21 (x23).toNat (⟨#[]⟩ : ByteArray))).size : Int) == (((List.getD x4 (x23).toNat (⟨#[]⟩ : ByteArray))).size : Int)) = true,
      ((dc1.1 == dc2.1) && (dc1.2 == dc2.2)) = true,
      (((List.length ([dc3, dc4] : List (Int × Int)) : Nat) : Int) == (0 : Int)) = false,
      decide ((IntKind.wrap .i64 (((List.length xo3 : Nat) : Int) - (1 : Int))) ≥ (0 : Int)) = true,
      0 ≤ (IntKind.wrap .i64 (((List.length xo3 : Nat) : Int) - (1 : Int))),
      (IntKind.wrap .i64 (((List.length xo3 : Nat) : Int) - (1 : Int))) < (List.length xo3 : Int),
      ((IntKind.wrap .i64 (((List.length xo3 : Nat) : Int) - (1 : Int)))).toNat < List.length xo3,
      0 ≤ (1 : Int),
      (1 : Int) < (List.length (List.getD xo3 ((IntKind.wrap .i64 (((List.length xo3 : Nat) : Int) - (1 : Int)))).toNat ([] : List (Int × Int))) : Int),
      0 ≤ (0 : Int),
      (0 : Int) < (List.length ([dc3, dc4] : List (Int × Int)) : Int),
      ((0 : Int)).toNat < List.length ([dc3, dc4] : List (Int × Int)),
      (((List.getD (List.getD xo3 ((IntKind.wrap .i64 (((List.length xo3 : Nat) : Int) - (1 : Int)))).toNat ([] : List (Int × Int))) ((1 : Int)).toNat ((0 : Int), (0 : Int))).1 == (List.getD ([dc3, dc4] : List (Int × Int)) ((0 : Int)).toNat ((0 : Int), (0 : Int))).1) && ((List.getD (List.getD xo3 ((IntKind.wrap .i64 (((List.length xo3 : Nat) : Int) - (1 : Int)))).toNat ([] : List (Int × Int))) ((1 : Int)).toNat ((0 : Int), (0 : Int))).2 == (List.getD ([dc3, dc4] : List (Int × Int)) ((0 : Int)).toNat ((0 : Int), (0 : Int))).2)) = false,
      sizeOK (List.length xo3 + List.length ([([dc3, dc4] : List (Int × Int))] : List (List (Int × Int))))]) (st1 := spec_obFixed_L0a x4 x21 x22 (IntKind.wrap .i64 (x23 + (1 : Int))) (xo3 ++ ([([dc3, dc4] : List (Int × Int))] : List (List (Int × Int))))) (by kernel_rfl) ⟨(decide_eq_true h1), h2, h3, h4, h2, h5, h6, h7, h8, h9, h8, h10, h2, h5, (beq_iff_eq.mpr h11), h12, (beq_eq_false_iff_ne.mpr h13), (decide_eq_true h14), h15, h16, h17, (by decide), h18, (by decide), h19, h20, h21, h22, trivial⟩ next

theorem spec_obFixed_L0a_i4 (x4 : (List ByteArray)) (x21 : (List ByteArray)) (x22 : Int) (x23 : Int) (xo3 : (List (List (Int × Int)))) (dc1 : (Int × Int)) (dc2 : (Int × Int)) (dc3 : (Int × Int)) (dc4 : (Int × Int))
    (h1 : x23 < x22)
    (h2 : 0 ≤ x23)
    (h3 : x23 < (List.length x21 : Int))
    (h4 : SC cfg.P i_spec_mpOf [.s (.v .str (List.getD x21 (x23).toNat (⟨#[]⟩ : ByteArray)))] (.s (.v (.pr (.int .i64) (.int .i64)) dc1)) [])
    (h5 : x23 < (List.length x4 : Int))
    (h6 : SC cfg.P i_spec_mpOf [.s (.v .str (List.getD x4 (x23).toNat (⟨#[]⟩ : ByteArray)))] (.s (.v (.pr (.int .i64) (.int .i64)) dc2)) [])
    (h7 : SC cfg.P i_spec_obRatio [.s (.v (.int .i64) dc1.1), .s (.v (.int .i64) dc1.2)] (.s (.v (.pr (.int .i64) (.int .i64)) dc3)) [])
    (h8 : 0 ≤ (((List.getD x21 (x23).toNat (⟨#[]⟩ : ByteArray))).size : Int))
    (h9 : dc1.2 ≠ 0)
    (h10 : SC cfg.P i_spec_obRatio [.s (.v (.int .i64) (IntKind.wrap .i64 ((IntKind.wrap .i64 (dc1.1 * (IntKind.wrap .i64 (Int.tdiv (IntKind.wrap .i64 ((1 : Int) * 2 ^ (min ((((List.getD x21 (x23).toNat (⟨#[]⟩ : ByteArray))).size : Int)).toNat (IntKind.bits .i64)))) dc1.2)))) + (1 : Int)))), .s (.v (.int .i64) (IntKind.wrap .i64 ((1 : Int) * 2 ^ (min ((((List.getD x21 (x23).toNat (⟨#[]⟩ : ByteArray))).size : Int)).toNat (IntKind.bits .i64)))))] (.s (.v (.pr (.int .i64) (.int .i64)) dc4)) [])
    (h11 : (((List.getD x21 (x23).toNat (⟨#[]⟩ : ByteArray))).size : Int) = (((List.getD x4 (x23).toNat (⟨#[]⟩ : ByteArray))).size : Int))
    (h12 : ((dc1.1 == dc2.1) && (dc1.2 == dc2.2)) = true)
    (h13 : ((List.length ([dc3, dc4] : List (Int × Int)) : Nat) : Int) ≠ (0 : Int))
    (h14 : ¬ ((IntKind.wrap .i64 (((List.length xo3 : Nat) : Int) - (1 : Int))) ≥ (0 : Int)))
    (h15 : sizeOK (List.length xo3 + List.length ([([dc3, dc4] : List (Int × Int))] : List (List (Int × Int)))))
    {e : AEx} {st : St} (next : LoopSC cfg.P 1 (lb P_spec_obFixed 0) (spec_obFixed_L0a x4 x21 x22 (IntKind.wrap .i64 (x23 + (1 : Int))) (xo3 ++ ([([dc3, dc4] : List (Int × Int))] : List (List (Int × Int))))) e st) :
    LoopSC cfg.P 1 (lb P_spec_obFixed 0) (spec_obFixed_L0a x4 x21 x22 x23 xo3) e st :=
  loop_iter cfgOK (f := i_spec_obFixed) (its := [.bool true, .res (.s (.v (.pr (.int .i64) (.int .i64)) dc1)) [] [] [], .res (.s (.v (.pr (.int .i64) (.int .i64)) dc2)) [] [] [], .res (.s (.v (.pr (.int .i64) (.int .i64)) dc3)) [] [] [], .res (.s (.v (.pr (.int .i64) (.int .i64)) dc4)) [] [] [], .bool true, .bool true, .bool false, .bool false])
    (ps := [decide (x23 < x22) = true,
      0 ≤ x23,
      x23 < (List.length x21 : Int),
      SC cfg.P i_spec_mpOf [.s (.v .str (List.getD x21 (x23).toNat (⟨#[]⟩ : ByteArray)))] (.s (.v (.pr (.int .i64) (.int .i64)) dc1)) [],
      0 ≤ x23,
      x23 < (List.length x4 : Int),
      SC cfg.P i_spec_mpOf [.s (.v .str (List.getD x4 (x23).toNat (⟨#[]⟩ : ByteArray)))] (.s (.v (.pr (.int .i64) (.int .i64)) dc2)) [],
      SC cfg.P i_spec_obRatio [.s (.v (.int .i64) dc1.1), .s (.v (.int .i64) dc1.2)] (.s (.v (.pr (.int .i64) (.int .i64)) dc3)) [],
      0 ≤ (((List.getD x21 (x23).toNat (⟨#[]⟩ : ByteArray))).size : Int),
      dc1.2 ≠ 0,
      0 ≤ (((List.getD x21 (x23).toNat (⟨#[]⟩ : ByteArray))).size : Int),
      SC cfg.P i_spec_obRatio [.s (.v (.int .i64) (IntKind.wrap .i64 ((IntKind.wrap .i64 (dc1.1 * (IntKind.wrap .i64 (Int.tdiv (IntKind.wrap .i64 ((1 : Int) * 2 ^ (min ((((List.getD x21 (x23).toNat (⟨#[]⟩ : ByteArray))).size : Int)).toNat (IntKind.bits .i64)))) dc1.2)))) + (1 : Int)))), .s (.v (.int .i64) (IntKind.wrap .i64 ((1 : Int) * 2 ^ (min ((((List.getD x21 (x23).toNat (⟨#[]⟩ : ByteArray))).size : Int)).toNat (IntKind.bits .i64)))))] (.s (.v (.pr (.int .i64) (.int .i64)) dc4)) [],
      0 ≤ x23,
      x23 < (List.length x4 : Int),
      ((((List.getD x21 (x23).toNat (⟨#[]⟩ : ByteArray))).size : Int) == (((List.getD x4 (x23).toNat (⟨#[]⟩ : ByteArray))).size : Int)) = true,
      ((dc1.1 == dc2.1) && (dc1.2 == dc2.2)) = true,
      (((List.length ([dc3, dc4] : List (Int × Int)) : Nat) : Int) == (0 : Int)) = false,
      decide ((IntKind.wrap .i64 (((List.length xo3 : Nat) : Int) - (1 : Int))) ≥ (0 : Int)) = false,
      sizeOK (List.length xo3 + List.length ([([dc3, dc4] : List (Int × Int))] : List (List (Int × Int))))]) (st1 := spec_obFixed_L0a x4 x21 x22 (IntKind.wrap .i64 (x23 + (1 : Int))) (xo3 ++ ([([dc3, dc4] : List (Int × Int))] : List (List (Int × Int))))) (by kernel_rfl) ⟨(decide_eq_true h1), h2, h3, h4, h2, h5, h6, h7, h8, h9, h8, h10, h2, h5, (beq_iff_eq.mpr h11), h12, (beq_eq_false_iff_ne.mpr h13), (decide_eq_false h14), h15, trivial⟩ next

theorem spec_obFixed_L0a_i5 (x4 : (List ByteArray)) (x21 : (List ByteArray)) (x22 : Int) (x23 : Int) (xo3 : (List (List (Int × Int)))) (dc1 : (Int × Int)) (dc2 : (Int × Int)) (dc3 : (Int × Int)) (dc4 : (Int × Int))
    (h1 : x23 < x22)
    (h2 : 0 ≤ x23)
    (h3 : x23 < (List.length x21 : Int))
    (h4 : SC cfg.P i_spec_mpOf [.s (.v .str (List.getD x21 (x23).toNat (⟨#[]⟩ : ByteArray)))] (.s (.v (.pr (.int .i64) (.int .i64)) dc1)) [])
    (h5 : x23 < (List.length x4 : Int))
    (h6 : SC cfg.P i_spec_mpOf [.s (.v .str (List.getD x4 (x23).toNat (⟨#[]⟩ : ByteArray)))] (.s (.v (.pr (.int .i64) (.int .i64)) dc2)) [])
    (h7 : SC cfg.P i_spec_obRatio [.s (.v (.int .i64) dc1.1), .s (.v (.int .i64) dc1.2)] (.s (.v (.pr (.int .i64) (.int .i64)) dc3)) [])
    (h8 : 0 ≤ (((List.getD x21 (x23).toNat (⟨#[]⟩ : ByteArray))).size : Int))
    (h9 : dc1.2 ≠ 0)
    (h10 : SC cfg.P i_spec_obRatio [.s (.v (.int .i64) (IntKind.wrap .i64 ((IntKind.wrap .i64 (dc1.1 * (IntKind.wrap .i64 (Int.tdiv (IntKind.wrap .i64 ((1 : Int) * 2 ^ (min ((((List.getD x21 (x23).toNat (⟨#[]⟩ : ByteArray))).size : Int)).toNat (IntKind.bits .i64)))) dc1.2)))) + (1 : Int)))), .s (.v (.int .i64) (IntKind.wrap .i64 ((1 : Int) * 2 ^ (min ((((List.getD x21 (x23).toNat (⟨#[]⟩ : ByteArray))).size : Int)).toNat (IntKind.bits .i64)))))] (.s (.v (.pr (.int .i64) (.int .i64)) dc4)) [])
    (h11 : (((List.getD x21 (x23).toNat (⟨#[]⟩ : ByteArray))).size : Int) = (((List.getD x4 (x23).toNat (⟨#[]⟩ : ByteArray))).size : Int))
    (h12 : ((dc1.1 == dc2.1) && (dc1.2 == dc2.2)) = false)
    (h13 : ((List.length ([] : List (Int × Int)) : Nat) : Int) = (0 : Int))
    {e : AEx} {st : St} (next : LoopSC cfg.P 1 (lb P_spec_obFixed 0) (spec_obFixed_L0a x4 x21 x22 (IntKind.wrap .i64 (x23 + (1 : Int))) xo3) e st) :
    LoopSC cfg.P 1 (lb P_spec_obFixed 0) (spec_obFixed_L0a x4 x21 x22 x23 xo3) e st :=
  loop_iter cfgOK (f := i_spec_obFixed) (its := [.bool true, .res (.s (.v (.pr (.int .i64) (.int .i64)) dc1)) [] [] [], .res (.s (.v (.pr (.int .i64) (.int .i64)) dc2)) [] [] [], .res (.s (.v (.pr (.int .i64) (.int .i64)) dc3)) [] [] [], .res (.s (.v (.pr (.int .i64) (.int .i64)) dc4)) [] [] [], .bool true, .bool false, .bool true])
    (ps := [decide (x23 < x22) = true,
      0 ≤ x23,
      x23 < (List.length x21 : Int),
      SC cfg.P i_spec_mpOf [.s (.v .str (List.getD x21 (x23).toNat (⟨#[]⟩ : ByteArray)))] (.s (.v (.pr (.int .i64) (.int .i64)) dc1)) [],
      0 ≤ x23,
      x23 < (List.length x4 : Int),
      SC cfg.P i_spec_mpOf [.s (.v .str (List.getD x4 (x23).toNat (⟨#[]⟩ : ByteArray)))] (.s (.v (.pr (.int .i64) (.int .i64)) dc2)) [],
      SC cfg.P i_spec_obRatio [.s (.v (.int .i64) dc1.1), .s (.v (.int .i64) dc1.2)] (.s (.v (.pr (.int .i64) (.int .i64)) dc3)) [],
      0 ≤ (((List.getD x21 (x23).toNat (⟨#[]⟩ : ByteArray))).size : Int),
      dc1.2 ≠ 0,
      0 ≤ (((List.getD x21 (x23).toNat (⟨#[]⟩ : ByteArray))).size : Int),
      SC cfg.P i_spec_obRatio [.s (.v (.int .i64) (IntKind.wrap .i64 ((IntKind.wrap .i64 (dc1.1 * (IntKind.wrap .i64 (Int.tdiv (IntKind.wrap .i64 ((1 : Int) * 2 ^ (min ((((List.getD x21 (x23).toNat (⟨#[]⟩ : ByteArray))).size : Int)).toNat (IntKind.bits .i64)))) dc1.2)))) + (1 : Int)))), .s (.v (.int .i64) (IntKind.wrap .i64 ((1 : Int) * 2 ^ (min ((((List.getD x21 (x23).toNat (⟨#[]⟩ : ByteArray))).size : Int)).toNat (IntKind.bits .i64)))))] (.s (.v (.pr (.int .i64) (.int .i64)) dc4)) [],
      0 ≤ x23,
      x23 < (List.length x4 : Int),
      ((((List.getD x21 (x23).toNat (⟨#[]⟩ : ByteArray))).size : Int) == (((List.getD x4 (x23).toNat (⟨#[]⟩ : ByteArray))).size : Int)) = true,
      ((dc1.1 == dc2.1) && (dc1.2 == dc2.2)) = false,
      (((List.length ([] : List (Int × Int)) : Nat) : Int) == (0 : Int)) = true]) (st1 := spec_obFixed_L0a x4 x21 x22 (IntKind.wrap .i64 (x23 + (1 : Int))) xo3) (by kernel_rfl) ⟨(decide_eq_true h1), h2, h3, h4, h2, h5, h6, h7, h8, h9, h8, h10, h2, h5, (beq_iff_eq.mpr h11), h12, (beq_iff_eq.mpr h13), trivial⟩ next

theorem spec_obFixed_L0a_i9 (x4 : (List ByteArray)) (x21 : (List ByteArray)) (x22 : Int) (x23 : Int) (xo3 : (List (List (Int × Int)))) (dc1 : (Int × Int)) (dc2 : (Int × Int)) (dc3 : (Int × Int)) (dc4 : (Int × Int)) (dc5 : (Int × Int))
    (h1 : x23 < x22)
    (h2 : 0 ≤ x23)
    (h3 : x23 < (List.length x21 : Int))
    (h4 : SC cfg.P i_spec_mpOf [.s (.v .str (List.getD x21 (x23).toNat (⟨#[]⟩ : ByteArray)))] (.s (.v (.pr (.int .i64) (.int .i64)) dc1)) [])
    (h5 : x23 < (List.length x4 : Int))
    (h6 : SC cfg.P i_spec_mpOf [.s (.v .str (List.getD x4 (x23).toNat (⟨#[]⟩ : ByteArray)))] (.s (.v (.pr (.int .i64) (.int .i64)) dc2)) [])
    (h7 : SC cfg.P i_spec_obRatio [.s (.v (.int .i64) dc1.1), .s (.v (.int .i64) dc1.2)] (.s (.v (.pr (.int .i64) (.int .i64)) dc3)) [])
    (h8 : 0 ≤ (((List.getD x21 (x23).toNat (⟨#[]⟩ : ByteArray))).size : Int))
    (h9 : dc1.2 ≠ 0)
    (h10 : SC cfg.P i_spec_obRatio [.s (.v (.int .i64) (IntKind.wrap .i64 ((IntKind.wrap .i64 (dc1.1 * (IntKind.wrap .i64 (Int.tdiv (IntKind.wrap .i64 ((1 : Int) * 2 ^ (min ((((List.getD x21 (x23).toNat (⟨#[]⟩ : ByteArray))).size : Int)).toNat (IntKind.bits .i64)))) dc1.2)))) + (1 : Int)))), .s (.v (.int .i64) (IntKind.wrap .i64 ((1 : Int) * 2 ^ (min ((((List.getD x21 (x23).toNat (⟨#[]⟩ : ByteArray))).size : Int)).toNat (IntKind.bits .i64)))))] (.s (.v (.pr (.int .i64) (.int .i64)) dc4)) [])
    (h11 : (((List.getD x21 (x23).toNat (⟨#[]⟩ : ByteArray))).size : Int) ≠ (((List.getD x4 (x23).toNat (⟨#[]⟩ : ByteArray))).size : Int))
    (h12 : 0 ≤ (((List.getD x4 (x23).toNat (⟨#[]⟩ : ByteArray))).size : Int))
    (h13 : SC cfg.P i_spec_obRatio [.s (.v (.int .i64) (IntKind.wrap .i64 ((IntKind.wrap .i64 ((IntKind.wrap .i64 ((IntKind.wrap .i64 (dc1.1 * (IntKind.wrap .i64 ((1 : Int) * 2 ^ (min ((((List.getD x21 (x23).toNat (⟨#[]⟩ : ByteArray))).size : Int)).toNat (IntKind.bits .i64)))))) * dc2.2)) - (IntKind.wrap .i64 ((IntKind.wrap .i64 (dc2.1 * (IntKind.wrap .i64 ((1 : Int) * 2 ^ (min ((((List.getD x4 (x23).toNat (⟨#[]⟩ : ByteArray))).size : Int)).toNat (IntKind.bits .i64)))))) * dc1.2)))) * (1 : Int)))), .s (.v (.int .i64) (IntKind.wrap .i64 ((IntKind.wrap .i64 ((IntKind.wrap .i64 ((IntKind.wrap .i64 ((1 : Int) * 2 ^ (min ((((List.getD x21 (x23).toNat (⟨#[]⟩ : ByteArray))).size : Int)).toNat (IntKind.bits .i64)))) - (IntKind.wrap .i64 ((1 : Int) * 2 ^ (min ((((List.getD x4 (x23).toNat (⟨#[]⟩ : ByteArray))).size : Int)).toNat (IntKind.bits .i64)))))) * dc1.2)) * dc2.2)))] (.s (.v (.pr (.int .i64) (.int .i64)) dc5)) [])
    (h14 : SC cfg.P i_spec_obLess [.s (.v (.pr (.int .i64) (.int .i64)) dc5), .s (.v (.pr (.int .i64) (.int .i64)) dc3)] (.s (.v .bool true)) [])
    (h15 : ((List.length ([] : List (Int × Int)) : Nat) : Int) = (0 : Int))
    {e : AEx} {st : St} (next : LoopSC cfg.P 1 (lb P_spec_obFixed 0) (spec_obFixed_L0a x4 x21 x22 (IntKind.wrap .i64 (x23 + (1 : Int))) xo3) e st) :
    LoopSC cfg.P 1 (lb P_spec_obFixed 0) (spec_obFixed_L0a x4 x21 x22 x23 xo3) e st :=
  loop_iter cfgOK (f := i_spec_obFixed) (its := [.bool true, .res (.s (.v (.pr (.int .i64) (.int .i64)) dc1)) [] [] [], .res (.s (.v (.pr (.int .i64) (.int .i64)) dc2)) [] [] [], .res (.s (.v (.pr (.int .i64) (.int .i64)) dc3)) [] [] [], .res (.s (.v (.pr (.int .i64) (.int .i64)) dc4)) [] [] [], .bool false, .res (.s (.v (.pr (.int .i64) (.int .i64)) dc5)) [] [] [], .res (.s (.v .bool true)) [] [] [], .bool true])
    (ps := [decide (x23 < x22) = true,
      0 ≤ x23,
      x23 < (List.length x21 : Int),
      SC cfg.P i_spec_mpOf [.s (.v .str (List.getD x21 (x23).toNat (⟨#[]⟩ : ByteArray)))] (.s (.v (.pr (.int .i64) (.int .i64)) dc1)) [],
      0 ≤ x23,
      x23 < (List.length x4 : Int),
      SC cfg.P i_spec_mpOf [.s (.v .str (List.getD x4 (x23).toNat (⟨#[]⟩ : ByteArray)))] (.s (.v (.pr (.int .i64) (.int .i64)) dc2)) [],
      SC cfg.P i_spec_obRatio [.s (.v (.int .i64) dc1.1), .s (.v (.int .i64) dc1.2)] (.s (.v (.pr (.int .i64) (.int .i64)) dc3)) [],
      0 ≤ (((List.getD x21 (x23).toNat (⟨#[]⟩ : ByteArray))).size : Int),
      dc1.2 ≠ 0,
      0 ≤ (((List.getD x21 (x23).toNat (⟨#[]⟩ : ByteArray))).size : Int),
      SC cfg.P i_spec_obRatio [.s (.v (.int .i64) (IntKind.wrap .i64 ((IntKind.wrap .i64 (dc1.1 * (IntKind.wrap .i64 (Int.tdiv (IntKind.wrap .i64 ((1 : Int) * 2 ^ (min ((((List.getD x21 (x23).toNat (⟨#[]⟩ : ByteArray))).size : Int)).toNat (IntKind.bits .i64)))) dc1.2)))) + (1 : Int)))), .s (.v (.int .i64) (IntKind.wrap .i64 ((1 : Int) * 2 ^ (min ((((List.getD x21 (x23).toNat (⟨#[]⟩ : ByteArray))).size : Int)).toNat (IntKind.bits .i64)))))] (.s (.v (.pr (.int .i64) (.int .i64)) dc4)) [],
      0 ≤ x23,
      x23 < (List.length x4 : Int),
      ((((List.getD x21 (x23).toNat (⟨#[]⟩ : ByteArray))).size : Int) == (((List.getD x4 (x23).toNat (⟨#[]⟩ : ByteArray))).size : Int)) = false,
      0 ≤ (((List.getD x21 (x23).toNat (⟨#[]⟩ : ByteArray))).size : Int),
      0 ≤ x23,
      x23 < (List.length x4 : Int),
      0 ≤ (((List.getD x4 (x23).toNat (⟨#[]⟩ : ByteArray))).size : Int),
      SC cfg.P i_spec_obRatio [.s (.v (.int .i64) (IntKind.wrap .i64 ((IntKind.wrap .i64 ((IntKind.wrap .i64 ((IntKind.wrap .i64 (dc1.1 * (IntKind.wrap .i64 ((1 : Int) * 2 ^ (min ((((List.getD x21 (x23).toNat (⟨#[]⟩ : ByteArray))).size : Int)).toNat (IntKind.bits .i64)))))) * dc2.2)) - (IntKind.wrap .i64 ((IntKind.wrap .i64 (dc2.1 * (IntKind.wrap .i64 ((1 : Int) * 2 ^ (min ((((List.getD x4 (x23).toNat (⟨#[]⟩ : ByteArray))).size : Int)).toNat (IntKind.bits .i64)))))) * dc1.2)))) * (1 : Int)))), .s (.v (.int .i64) (IntKind.wrap .i64 ((IntKind.wrap .i64 ((IntKind.wrap .i64 ((IntKind.wrap .i64 ((1 : Int) * 2 ^ (min ((((List.getD x21 (x23).toNat (⟨#[]⟩ : ByteArray))).size : Int)).toNat (IntKind.bits .i64)))) - (IntKind.wrap .i64 ((1 : Int) * 2 ^ (min ((((List.getD x4 (x23).toNat (⟨#[]⟩ : ByteArray))).size : Int)).toNat (IntKind.bits .i64)))))) * dc1.2)) * dc2.2)))] (.s (.v (.pr (.int .i64) (.int .i64)) dc5)) [],
      SC cfg.P i_spec_obLess [.s (.v (.pr (.int .i64) (.int .i64)) dc5), .s (.v (.pr (.int .i64) (.int .i64)) dc3)] (.s (.v .bool true)) [],
      (((List.length ([] : List (Int × Int)) : Nat) : Int) == (0 : Int)) = true]) (st1 := spec_obFixed_L0a x4 x21 x22 (IntKind.wrap .i64 (x23 + (1 : Int))) xo3) (by kernel_rfl) ⟨(decide_eq_true h1), h2, h3, h4, h2, h5, h6, h7, h8, h9, h8, h10, h2, h5, (beq_eq_false_iff_ne.mpr h11), h8, h2, h5, h12, h13, h14, (beq_iff_eq.mpr h15), trivial⟩ next

theorem spec_obFixed_L0a_i13 (x4 : (List ByteArray)) (x21 : (List ByteArray)) (x22 : Int) (x23 : Int) (xo3 : (List (List (Int × Int)))) (dc1 : (Int × Int)) (dc2 : (Int × Int)) (dc3 : (Int × Int)) (dc4 : (Int × Int)) (dc5 : (Int × Int))
    (h1 : x23 < x22)
    (h2 : 0 ≤ x23)
    (h3 : x23 < (List.length x21 : Int))
    (h4 : SC cfg.P i_spec_mpOf [.s (.v .str (List.getD x21 (x23).toNat (⟨#[]⟩ : ByteArray)))] (.s (.v (.pr (.int .i64) (.int .i64)) dc1)) [])
    (h5 : x23 < (List.length x4 : Int))
    (h6 : SC cfg.P i_spec_mpOf [.s (.v .str (List.getD x4 (x23).toNat (⟨#[]⟩ : ByteArray)))] (.s (.v (.pr (.int .i64) (.int .i64)) dc2)) [])
    (h7 : SC cfg.P i_spec_obRatio [.s (.v (.int .i64) dc1.1), .s (.v (.int .i64) dc1.2)] (.s (.v (.pr (.int .i64) (.int .i64)) dc3)) [])
    (h8 : 0 ≤ (((List.getD x21 (x23).toNat (⟨#[]⟩ : ByteArray))).size : Int))
    (h9 : dc1.2 ≠ 0)
    (h10 : SC cfg.P i_spec_obRatio [.s (.v (.int .i64) (IntKind.wrap .i64 ((IntKind.wrap .i64 (dc1.1 * (IntKind.wrap .i64 (Int.tdiv (IntKind.wrap .i64 ((1 : Int) * 2 ^ (min ((((List.getD x21 (x23).toNat (⟨#[]⟩ : ByteArray))).size : Int)).toNat (IntKind.bits .i64)))) dc1.2)))) + (1 : Int)))), .s (.v (.int .i64) (IntKind.wrap .i64 ((1 : Int) * 2 ^ (min ((((List.getD x21 (x23).toNat (⟨#[]⟩ : ByteArray))).size : Int)).toNat (IntKind.bits .i64)))))] (.s (.v (.pr (.int .i64) (.int .i64)) dc4)) [])
    (h11 : (((List.getD x21 (x23).toNat (⟨#[]⟩ : ByteArray))).size : Int) ≠ (((List.getD x4 (x23).toNat (⟨#[]⟩ : ByteArray))).size : Int))
    (h12 : 0 ≤ (((List.getD x4 (x23).toNat (⟨#[]⟩ : ByteArray))).size : Int))
    (h13 : SC cfg.P i_spec_obRatio [.s (.v (.int .i64) (IntKind.wrap .i64 ((IntKind.wrap .i64 ((IntKind.wrap .i64 ((IntKind.wrap .i64 (dc1.1 * (IntKind.wrap .i64 ((1 : Int) * 2 ^ (min ((((List.getD x21 (x23).toNat (⟨#[]⟩ : ByteArray))).size : Int)).toNat (IntKind.bits .i64)))))) * dc2.2)) - (IntKind.wrap .i64 ((IntKind.wrap .i64 (dc2.1 * (IntKind.wrap .i64 ((1 : Int) * 2 ^ (min ((((List.getD x4 (x23).toNat (⟨#[]⟩ : ByteArray))).size : Int)).toNat (IntKind.bits .i64)))))) * dc1.2)))) * (1 : Int)))), .s (.v (.int .i64) (IntKind.wrap .i64 ((IntKind.wrap .i64 ((IntKind.wrap .i64 ((IntKind.wrap .i64 ((1 : Int) * 2 ^ (min ((((List.getD x21 (x23).toNat (⟨#[]⟩ : ByteArray))).size : Int)).toNat (IntKind.bits .i64)))) - (IntKind.wrap .i64 ((1 : Int) * 2 ^ (min ((((List.getD x4 (x23).toNat (⟨#[]⟩ : ByteArray))).size : Int)).toNat (IntKind.bits .i64)))))) * dc1.2)) * dc2.2)))] (.s (.v (.pr (.int .i64) (.int .i64)) dc5)) [])
    (h14 : SC cfg.P i_spec_obLess [.s (.v (.pr (.int .i64) (.int .i64)) dc5), .s (.v (.pr (.int .i64) (.int .i64)) dc3)] (.s (.v .bool false)) [])
    (h15 : SC cfg.P i_spec_obLess [.s (.v (.pr (.int .i64) (.int .i64)) dc4), .s (.v (.pr (.int .i64) (.int .i64)) dc5)] (.s (.v .bool true)) [])
    (h16 : ((List.length ([] : List (Int × Int)) : Nat) : Int) = (0 : Int))
    {e : AEx} {st : St} (next : LoopSC cfg.P 1 (lb P_spec_obFixed 0) (spec_obFixed_L0a x4 x21 x22 (IntKind.wrap .i64 (x23 + (1 : Int))) xo3) e st) :
    LoopSC cfg.P 1 (lb P_spec_obFixed 0) (spec_obFixed_L0a x4 x21 x22 x23 xo3) e st :=
  loop_iter cfgOK (f := i_spec_obFixed) (its := [.bool true, .res (.s (.v (.pr (.int .i64) (.int .i64)) dc1)) [] [] [], .res (.s (.v (.pr (.int .i64) (.int .i64)) dc2)) [] [] [], .res (.s (.v (.pr (.int .i64) (.int .i64)) dc3)) [] [] [], .res (.s (.v (.pr (.int .i64) (.int .i64)) dc4)) [] [] [], .bool false, .res (.s (.v (.pr (.int .i64) (.int .i64)) dc5)) [] [] [], .res (.s (.v .bool false)) [] [] [], .res (.s (.v .bool true)) [] [] [], .bool true])
    (ps := [decide (x23 < x22) = true,
      0 ≤ x23,
      x23 < (List.length x21 : Int),
      SC cfg.P i_spec_mpOf [.s (.v .str (List.getD x21 (x23).toNat (⟨#[]⟩ : ByteArray)))] (.s (.v (.pr (.int .i64) (.int .i64)) dc1)) [],
      0 ≤ x23,
      x23 < (List.length x4 : Int),
      SC cfg.P i_spec_mpOf [.s (.v .str (List.getD x4 (x23).toNat (⟨#[]⟩ : ByteArray)))] (.s (.v (.pr (.int .i64) (.int .i64)) dc2)) [],
      SC cfg.P i_spec_obRatio [.s (.v (.int .i64) dc1.1), .s (.v (.int .i64) dc1.2)] (.s (.v (.pr (.int .i64) (.int .i64)) dc3)) [],
      0 ≤ (((List.getD x21 (x23).toNat (⟨#[]⟩ : ByteArray))).size : Int),
      dc1.2 ≠ 0,
      0 ≤ (((List.getD x21 (x23).toNat (⟨#[]⟩ : ByteArray))).size : Int),
      SC cfg.P i_spec_obRatio [.s (.v (.int .i64) (IntKind.wrap .i64 ((IntKind.wrap .i64 (dc1.1 * (IntKind.wrap .i64 (Int.tdiv (IntKind.wrap .i64 ((1 : Int) * 2 ^ (min ((((List.getD x21 (x23).toNat (⟨#[]⟩ : ByteArray))).size : Int)).toNat (IntKind.bits .i64)))) dc1.2)))) + (1 : Int)))), .s (.v (.int .i64) (IntKind.wrap .i64 ((1 : Int) * 2 ^ (min ((((List.getD x21 (x23).toNat (⟨#[]⟩ : ByteArray))).size : Int)).toNat (IntKind.bits .i64)))))] (.s (.v (.pr (.int .i64) (.int .i64)) dc4)) [],
      0 ≤ x23,
      x23 < (List.length x4 : Int),
      ((((List.getD x21 (x23).toNat (⟨#[]⟩ : ByteArray))).size : Int) == (((List.getD x4 (x23).toNat (⟨#[]⟩ : ByteArray))).size : Int)) = false,
      0 ≤ (((List.getD x21 (x23).toNat (⟨#[]⟩ : ByteArray))).size : Int),
      0 ≤ x23,
      x23 < (List.length x4 : Int),
      0 ≤ (((List.getD x4 (x23).toNat (⟨#[]⟩ : ByteArray))).size : Int),
      SC cfg.P i_spec_obRatio [.s (.v (.int .i64) (IntKind.wrap .i64 ((IntKind.wrap .i64 ((IntKind.wrap .i64 ((IntKind.wrap .i64 (dc1.1 * (IntKind.wrap .i64 ((1 : Int) * 2 ^ (min ((((List.getD x21 (x23).toNat (⟨#[]⟩ : ByteArray))).size : Int)).toNat (IntKind.bits .i64)))))) * dc2.2)) - (IntKind.wrap .i64 ((IntKind.wrap .i64 (dc2.1 * (IntKind.wrap .i64 ((1 : Int) * 2 ^ (min ((((List.getD x4 (x23).toNat (⟨#[]⟩ : ByteArray))).size : Int)).toNat (IntKind.bits .i64)))))) * dc1.2)))) * (1 : Int)))), .s (.v (.int .i64) (IntKind.wrap .i64 ((IntKind.wrap .i64 ((IntKind.wrap .i64 ((IntKind.wrap .i64 ((1 : Int) * 2 ^ (min ((((List.getD x21 (x23).toNat (⟨#[]⟩ : ByteArray))).size : Int)).toNat (IntKind.bits .i64)))) - (IntKind.wrap .i64 ((1 : Int) * 2 ^ (min ((((List.getD x4 (x23).toNat (⟨#[]⟩ : ByteArray))).size : Int)).toNat (IntKind.bits .i64)))))) * dc1.2)) * dc2.2)))] (.s (.v (.pr (.int .i64) (.int .i64)) dc5)) [],
      SC cfg.P i_spec_obLess [.s (.v (.pr (.int .i64) (.int .i64)) dc5), .s (.v (.pr (.int .i64) (.int .i64)) dc3)] (.s (.v .bool false)) [],
      SC cfg.P i_spec_obLess [.s (.v (.pr (.int .i64) (.int .i64)) dc4), .s (.v (.pr (.int .i64) (.int .i64)) dc5)] (.s (.v .bool true)) [],
      (((List.length ([] : List (Int × Int)) : Nat) : Int) == (0 : Int)) = true]) (st1 := spec_obFixed_L0a x4 x21 x22 (IntKind.wrap .i64 (x23 + (1 : Int))) xo3) (by kernel_rfl) ⟨(decide_eq_true h1), h2, h3, h4, h2, h5, h6, h7, h8, h9, h8, h10, h2, h5, (beq_eq_false_iff_ne.mpr h11), h8, h2, h5, h12, h13, h14, h15, (beq_iff_eq.mpr h16), trivial⟩ next

theorem spec_obFixed_L0a_i18 (x4 : (List ByteArray)) (x21 : (List ByteArray)) (x22 : Int) (x23 : Int) (xo3 : (List (List (Int × Int)))) (dc1 : (Int × Int)) (dc2 : (Int × Int)) (dc3 : (Int × Int)) (dc4 : (Int × Int)) (dc5 : (Int × Int))
    (h1 : x23 < x22)
    (h2 : 0 ≤ x23)
    (h3 : x23 < (List.length x21 : Int))
    (h4 : SC cfg.P i_spec_mpOf [.s (.v .str (List.getD x21 (x23).toNat (⟨#[]⟩ : ByteArray)))] (.s (.v (.pr (.int .i64) (.int .i64)) dc1)) [])
    (h5 : x23 < (List.length x4 : Int))
    (h6 : SC cfg.P i_spec_mpOf [.s (.v .str (List.getD x4 (x23).toNat (⟨#[]⟩ : ByteArray)))] (.s (.v (.pr (.int .i64) (.int .i64)) dc2)) [])
    (h7 : SC cfg.P i_spec_obRatio [.s (.v (.int .i64) dc1.1), .s (.v (.int .i64) dc1.2)] (.s (.v (.pr (.int .i64) (.int .i64)) dc3)) [])
    (h8 : 0 ≤ (((List.getD x21 (x23).toNat (⟨#[]⟩ : ByteArray))).size : Int))
    (h9 : dc1.2 ≠ 0)
    (h10 : SC cfg.P i_spec_obRatio [.s (.v (.int .i64) (IntKind.wrap .i64 ((IntKind.wrap .i64 (dc1.1 * (IntKind.wrap .i64 (Int.tdiv (IntKind.wrap .i64 ((1 : Int) * 2 ^ (min ((((List.getD x21 (x23).toNat (⟨#[]⟩ : ByteArray))).size : Int)).toNat (IntKind.bits .i64)))) dc1.2)))) + (1 : Int)))), .s (.v (.int .i64) (IntKind.wrap .i64 ((1 : Int) * 2 ^ (min ((((List.getD x21 (x23).toNat (⟨#[]⟩ : ByteArray))).size : Int)).toNat (IntKind.bits .i64)))))] (.s (.v (.pr (.int .i64) (.int .i64)) dc4)) [])
    (h11 : (((List.getD x21 (x23).toNat (⟨#[]⟩ : ByteArray))).size : Int) ≠ (((List.getD x4 (x23).toNat (⟨#[]⟩ : ByteArray))).size : Int))
    (h12 : 0 ≤ (((List.getD x4 (x23).toNat (⟨#[]⟩ : ByteArray))).size : Int))
    (h13 : SC cfg.P i_spec_obRatio [.s (.v (.int .i64) (IntKind.wrap .i64 ((IntKind.wrap .i64 ((IntKind.wrap .i64 ((IntKind.wrap .i64 (dc1.1 * (IntKind.wrap .i64 ((1 : Int) * 2 ^ (min ((((List.getD x21 (x23).toNat (⟨#[]⟩ : ByteArray))).size : Int)).toNat (IntKind.bits .i64)))))) * dc2.2)) - (IntKind.wrap .i64 ((IntKind.wrap .i64 (dc2.1 * (IntKind.wrap .i64 ((1 : Int) * 2 ^ (min ((((List.getD x4 (x23).toNat (⟨#[]⟩ : ByteArray))).size : Int)).toNat (IntKind.bits .i64)))))) * dc1.2)))) * (1 : Int)))), .s (.v (.int .i64) (IntKind.wrap .i64 ((IntKind.wrap .i64 ((IntKind.wrap .i64 ((IntKind.wrap .i64 ((1 : Int) * 2 ^ (min ((((List.getD x21 (x23).toNat (⟨#[]⟩ : ByteArray))).size : Int)).toNat (IntKind.bits .i64)))) - (IntKind.wrap .i64 ((1 : Int) * 2 ^ (min ((((List.getD x4 (x23).toNat (⟨#[]⟩ : ByteArray))).size : Int)).toNat (IntKind.bits .i64)))))) * dc1.2)) * dc2.2)))] (.s (.v (.pr (.int .i64) (.int .i64)) dc5)) [])
    (h14 : SC cfg.P i_spec_obLess [.s (.v (.pr (.int .i64) (.int .i64)) dc5), .s (.v (.pr (.int .i64) (.int .i64)) dc3)] (.s (.v .bool false)) [])
    (h15 : SC cfg.P i_spec_obLess [.s (.v (.pr (.int .i64) (.int .i64)) dc4), .s (.v (.pr (.int .i64) (.int .i64)) dc5)] (.s (.v .bool false)) [])
    (h16 : ((List.length ([dc5, dc5] : List (Int × Int)) : Nat) : Int) ≠ (0 : Int))
    (h17 : (IntKind.wrap .i64 (((List.length xo3 : Nat) : Int) - (1 : Int))) ≥ (0 : Int))
    (h18 : 0 ≤ (IntKind.wrap .i64 (((List.length xo3 : Nat) : Int) - (1 : Int))))
    (h19 : (IntKind.wrap .i64 (((List.length xo3 : Nat) : Int) - (1 : Int))) < (List.length xo3 : Int))
    (h20 : ((IntKind.wrap .i64 (((List.length xo3 : Nat) : Int) - (1 : Int)))).toNat < List.length xo3)
    (h21 : (1 : Int) < (List.length (List.getD xo3 ((IntKind.wrap .i64 (((List.length xo3 : Nat) : Int) - (1 : Int)))).toNat ([] : List (Int × Int))) : Int))
    (h22 : (0 : Int) < (List.length ([dc5, dc5] : List (Int × Int)) : Int))
    (h23 : ((0 : Int)).toNat < List.length ([dc5, dc5] : List (Int × Int)))
    (h24 : (((List.getD (List.getD xo3 ((IntKind.wrap .i64 (((List.length xo3 : Nat) : Int) - (1 : Int)))).toNat ([] : List (Int × Int))) ((1 : Int)).toNat ((0 : Int), (0 : Int))).1 == (List.getD ([dc5, dc5] : List (Int × Int)) ((0 : Int)).toNat ((0 : Int), (0 : Int))).1) && ((List.getD (List.getD xo3 ((IntKind.wrap .i64 (((List.length xo3 : Nat) : Int) - (1 : Int)))).toNat ([] : List (Int × Int))) ((1 : Int)).toNat ((0 : Int), (0 : Int))).2 == (List.getD ([dc5, dc5] : List (Int × Int)) ((0 : Int)).toNat ((0 : Int), (0 : Int))).2)) = true)
    (h25 : (0 : Int) < (List.length (List.getD xo3 ((IntKind.wrap .i64 (((List.length xo3 : Nat) : Int) - (1 : Int)))).toNat ([] : List (Int × Int))) : Int))
    (h26 : (1 : Int) < (List.length ([dc5, dc5] : List (Int × Int)) : Int))
    (h27 : ((1 : Int)).toNat < List.length ([dc5, dc5] : List (Int × Int)))
    {e : AEx} {st : St} (next : LoopSC cfg.P 1 (lb P_spec_obFixed 0) (spec_obFixed_L0a x4 x21 x22 (IntKind.wrap .i64 (x23 + (1 : Int))) (List.set xo3 ((IntKind.wrap .i64 (((List.length xo3 : Nat) : Int) - (1 : Int)))).toNat ([(List.getD (List.getD xo3 ((IntKind.wrap .i64 (((List.length xo3 : Nat) : Int) - (1 : Int)))).toNat ([] : List (Int × Int))) ((0 : Int)).toNat ((0 : Int), (0 : Int))), (List.getD ([dc5, dc5] : List (Int × Int)) ((1 : Int)).toNat ((0 : Int), (0 : Int)))] : List (Int × Int)))) e st) :
    LoopSC cfg.P 1 (lb P_spec_obFixed 0) (spec_obFixed_L0a x4 x21 x22 x23 xo3) e st :=
  loop_iter cfgOK (f := i_spec_obFixed) (its := [.bool true, .res (.s (.v (.pr (.int .i64) (.int .i64)) dc1)) [] [] [], .res (.s (.v (.pr (.int .i64) (.int .i64)) dc2)) [] [] [], .res (.s (.v (.pr (.int .i64) (.int .i64)) dc3)) [] [] [], .res (.s (.v (.pr (.int .i64) (.int .i64)) dc4)) [] [] [], .bool false, .res (.s (.v (.pr (.int .i64) (.int .i64)) dc5)) [] [] [], .res (.s (.v .bool false)) [] [] [], .res (.s (.v .bool false)) [] [] [], .bool false, .bool true, .bool true])
    (ps := [decide (x23 < x22) = true,
      0 ≤ x23,
      x23 < (List.length x21 : Int),
      SC cfg.P i_spec_mpOf [.s (.v .str (List.getD x21 (x23).toNat (⟨#[]⟩ : ByteArray)))] (.s (.v (.pr (.int .i64) (.int .i64)) dc1)) [],
      0 ≤ x23,
      x23 < (List.length x4 : Int),
      SC cfg.P i_spec_mpOf [.s (.v .str (List.getD x4 (x23).toNat (⟨#[]⟩ : ByteArray)))] (.s (.v (.pr (.int .i64) (.int .i64)) dc2)) [],
      SC cfg.P i_spec_obRatio [.s (.v (.int .i64) dc1.1), .s (.v (.int .i64) dc1.2)] (.s (.v (.pr (.int .i64) (.int .i64)) dc3)) [],
      0 ≤ (((List.getD x21 (x23).toNat (⟨#[]⟩ : ByteArray))).size : Int),
      dc1.2 ≠ 0,
      0 ≤ (((List.getD x21 (x23).toNat (⟨#[]⟩ : ByteArray))).size : Int),
      SC cfg.P i_spec_obRatio [.s (.v (.int .i64) (IntKind.wrap .i64 ((IntKind.wrap .i64 (dc1.1 * (IntKind.wrap .i64 (Int.tdiv (IntKind.wrap .i64 ((1 : Int) * 2 ^ (min ((((List.getD x21 (x23).toNat (⟨#[]⟩ : ByteArray))).size : Int)).toNat (IntKind.bits .i64)))) dc1.2)))) + (1 : Int)))), .s (.v (.int .i64) (IntKind.wrap .i64 ((1 : Int) * 2 ^ (min ((((List.getD x21 (x23).toNat (⟨#[]⟩ : ByteArray))).size : Int)).toNat (IntKind.bits .i64)))))] (.s (.v (.pr (.int .i64) (.int .i64)) dc4)) [],
      0 ≤ x23,
      x23 < (List.length x4 : Int),
      ((((List.getD x21 (x23).toNat (⟨#[]⟩ : ByteArray))).size : Int) == (((List.getD x4 (x23).toNat (⟨#[]⟩ : ByteArray))).size : Int)) = false,
      0 ≤ (((List.getD x21 (x23).toNat (⟨#[]⟩ : ByteArray))).size : Int),
      0 ≤ x23,
      x23 < (List.length x4 : Int),
      0 ≤ (((List.getD x4 (x23).toNat (⟨#[]⟩ : ByteArray))).size : Int),
      SC cfg.P i_spec_obRatio [.s (.v (.int .i64) (IntKind.wrap .i64 ((IntKind.wrap .i64 ((IntKind.wrap .i64 ((IntKind.wrap .i64 (dc1.1 * (IntKind.wrap .i64 ((1 : Int) * 2 ^ (min ((((List.getD x21 (x23).toNat (⟨#[]⟩ : ByteArray))).size : Int)).toNat (IntKind.bits .i64)))))) * dc2.2)) - (IntKind.wrap .i64 ((IntKind.wrap .i64 (dc2.1 * (IntKind.wrap .i64 ((1 : Int) * 2 ^ (min ((((List.getD x4 (x23).toNat (⟨#[]⟩ : ByteArray))).size : Int)).toNat (IntKind.bits .i64)))))) * dc1.2)))) * (1 : Int)))), .s (.v (.int .i64) (IntKind.wrap .i64 ((IntKind.wrap .i64 ((IntKind.wrap .i64 ((IntKind.wrap .i64 ((1 : Int) * 2 ^ (min ((((List.getD x21 (x23).toNat (⟨#[]⟩ : ByteArray))).size : Int)).toNat (IntKind.bits .i64)))) - (IntKind.wrap .i64 ((1 : Int) * 2 ^ (min ((((List.getD x4 (x23).toNat (⟨#[]⟩ : ByteArray))).size : Int)).toNat (IntKind.bits .i64)))))) * dc1.2)) * dc2.2)))] (.s (.v (.pr (.int .i64) (.int .i64)) dc5)) [],
      SC cfg.P i_spec_obLess [.s (.v (.pr (.int .i64) (.int .i64)) dc5), .s (.v (.pr (.int .i64) (.int .i64)) dc3)] (.s (.v .bool false)) [],
      SC cfg.P i_spec_obLess [.s (.v (.pr (.int .i64) (.int .i64)) dc4), .s (.v (.pr (.int .i64) (.int .i64)) dc5)] (.s (.v .bool false)) [],
      (((List.length ([dc5, dc5] : List (Int × Int)) : Nat) : Int) == (0 : Int)) = false,
      decide ((IntKind.wrap .i64 (((List.length xo3 : Nat) : Int) - (1 : Int))) ≥ (0 : Int)) = true,
      0 ≤ (IntKind.wrap .i64 (((List.length xo3 : Nat) : Int) - (1 : Int))),
      (IntKind.wrap .i64 (((List.length xo3 : Nat) : Int) - (1 : Int))) < (List.length xo3 : Int),
      ((IntKind.wrap .i64 (((List.length xo3 : Nat) : Int) - (1 : Int)))).toNat < List.length xo3,
      0 ≤ (1 : Int),
      (1 : Int) < (List.length (List.getD xo3 ((IntKind.wrap .i64 (((List.length xo3 : Nat) : Int) - (1 : Int)))).toNat ([] : List (Int × Int))) : Int),
      0 ≤ (0 : Int),
      (0 : Int) < (List.length ([dc5, dc5] : List (Int × Int)) : Int),
      ((0 : Int)).toNat < List.length ([dc5, dc5] : List (Int × Int)),
      (((List.getD (List.getD xo3 ((IntKind.wrap .i64 (((List.length xo3 : Nat) : Int) - (1 : Int)))).toNat ([] : List (Int × Int))) ((1 : Int)).toNat ((0 : Int), (0 : Int))).1 == (List.getD ([dc5, dc5] : List (Int × Int)) ((0 : Int)).toNat ((0 : Int), (0 : Int))).1) && ((List.getD (List.getD xo3 ((IntKind.wrap .i64 (((List.length xo3 : Nat) : Int) - (1 : Int)))).toNat ([] : List (Int × Int))) ((1 : Int)).toNat ((0 : Int), (0 : Int))).2 == (List.getD ([dc5, dc5] : List (Int × Int)) ((0 : Int)).toNat ((0 : Int), (0 : Int))).2)) = true,
      0 ≤ (IntKind.wrap .i64 (((List.length xo3 : Nat) : Int) - (1 : Int))),
      (IntKind.wrap .i64 (((List.length xo3 : Nat) : Int) - (1 : Int))) < (List.length xo3 : Int),
      ((IntKind.wrap .i64 (((List.length xo3 : Nat) : Int) - (1 : Int)))).toNat < List.length xo3,
      0 ≤ (0 : Int),
      (0 : Int) < (List.length (List.getD xo3 ((IntKind.wrap .i64 (((List.length xo3 : Nat) : Int) - (1 : Int)))).toNat ([] : List (Int × Int))) : Int),
      0 ≤ (1 : Int),
      (1 : Int) < (List.length ([dc5, dc5] : List (Int × Int)) : Int),
      ((1 : Int)).toNat < List.length ([dc5, dc5] : List (Int × Int)),
      0 ≤ (IntKind.wrap .i64 (((List.length xo3 : Nat) : Int) - (1 : Int))),
      (IntKind.wrap .i64 (((List.length xo3 : Nat) : Int) - (1 : Int))) < (List.length xo3 : Int),
      ((IntKind.wrap .i64 (((List.length xo3 : Nat) : Int) - (1 : Int)))).toNat < List.length xo3]) (st1 := spec_obFixed_L0a x4 x21 x22 (IntKind.wrap .i64 (x23 + (1 : Int))) (List.set xo3 ((IntKind.wrap .i64 (((List.length xo3 : Nat) : Int) - (1 : Int)))).toNat ([(List.getD (List.getD xo3 ((IntKind.wrap .i64 (((List.length xo3 : Nat) : Int) - (1 : Int)))).toNat ([] : List (Int × Int))) ((0 : Int)).toNat ((0 : Int), (0 : Int))), (List.getD ([dc5, dc5] : List (Int × Int)) ((1 : Int)).toNat ((0 : Int), (0 : Int)))] : List (Int × Int)))) (by kernel_rfl) ⟨(decide_eq_true h1), h2, h3, h4, h2, h5, h6, h7, h8, h9, h8, h10, h2, h5, (beq_eq_false_iff_ne.mpr h11), h8, h2, h5, h12, h13, h14, h15, (beq_eq_false_iff_ne.mpr h16), (decide_eq_true h17), h18, h19, h20, (by decide), h21, (by decide), h22, h23, h24, h18, h19, h20, (by decide), h25, (by decide), h26, h27, h18, h19, h20, trivial⟩ next

theorem spec_obFixed_L0a_i19 (x4 : (List ByteArray)) (x21 : (List ByteArray)) (x22 : Int) (x23 : Int) (xo3 : (List (List (Int × Int)))) (dc1 : (Int × Int)) (dc2 : (Int × Int)) (dc3 : (Int × Int)) (dc4 : (Int × Int)) (dc5 : (Int × Int))
    (h1 : x23 < x22)
    (h2 : 0 ≤ x23)
    (h3 : x23 < (List.length x21 : Int))
    (h4 : SC cfg.P i_spec_mpOf [.s (.v .str (List.getD x21 (x23).toNat (⟨#[]⟩ : ByteArray)))] (.s (.v (.pr (.int .i64) (.int .i64)) dc1)) [])
    (h5 : x23 < (List.length x4 : Int))
    (h6 : SC cfg.P i_spec_mpOf [.s (.v .str (List.getD x4 (x23).toNat (⟨#[]⟩ : ByteArray)))] (.s (.v (.pr (.int .i64) (.int .i64)) dc2)) [])
    (h7 : SC cfg.P i_spec_obRatio [.s (.v (.int .i64) dc1.1), .s (.v (.int .i64) dc1.2)] (.s (.v (.pr (.int .i64) (.int .i64)) dc3)) [])
    (h8 : 0 ≤ (((List.getD x21 (x23).toNat (⟨#[]⟩ : ByteArray))).size : Int))
    (h9 : dc1.2 ≠ 0)
    (h10 : SC cfg.P i_spec_obRatio [.s (.v (.int .i64) (IntKind.wrap .i64 ((IntKind.wrap .i64 (dc1.1 * (IntKind.wrap .i64 (Int.tdiv (IntKind.wrap .i64 ((1 : Int) * 2 ^ (min ((((List.getD x21 (x23).toNat (⟨#[]⟩ : ByteArray))).size : Int)).toNat (IntKind.bits .i64)))) dc1.2)))) + (1 : Int)))), .s (.v (.int .i64) (IntKind.wrap .i64 ((1 : Int) * 2 ^ (min ((((List.getD x21 (x23).toNat (⟨#[]⟩ : ByteArray))).size : Int)).toNat (IntKind.bits .i64)))))] (.s (.v (.pr (.int .i64) (.int .i64)) dc4)) [])
    (h11 : (((List.getD x21 (x23).toNat (⟨#[]⟩ : ByteArray))).size : Int) ≠ (((List.getD x4 (x23).toNat (⟨#[]⟩ : ByteArray))).size : Int))
    (h12 : 0 ≤ (((List.getD x4 (x23).toNat (⟨#[]⟩ : ByteArray))).size : Int))
    (h13 : SC cfg.P i_spec_obRatio [.s (.v (.int .i64) (IntKind.wrap .i64 ((IntKind.wrap .i64 ((IntKind.wrap .i64 ((IntKind.wrap .i64 (dc1.1 * (IntKind.wrap .i64 ((1 : Int) * 2 ^ (min ((((List.getD x21 (x23).toNat (⟨#[]⟩ : ByteArray))).size : Int)).toNat (IntKind.bits .i64)))))) * dc2.2)) - (IntKind.wrap .i64 ((IntKind.wrap .i64 (dc2.1 * (IntKind.wrap .i64 ((1 : Int) * 2 ^ (min ((((List.getD x4 (x23).toNat (⟨#[]⟩ : ByteArray))).size : Int)).toNat (IntKind.bits .i64)))))) * dc1.2)))) * (1 : Int)))), .s (.v (.int .i64) (IntKind.wrap .i64 ((IntKind.wrap .i64 ((IntKind.wrap .i64 ((IntKind.wrap .i64 ((1 : Int) * 2 ^ (min ((((List.getD x21 (x23).toNat (⟨#[]⟩ : ByteArray))).size : Int)).toNat (IntKind.bits .i64)))) - (IntKind.wrap .i64 ((1 : Int) * 2 ^ (min ((((List.getD x4 (x23).toNat (⟨#[]⟩ : ByteArray))).size : Int)).toNat (IntKind.bits .i64)))))) * dc1.2)) * dc2.2)))] (.s (.v (.pr (.int .i64) (.int .i64)) dc5)) [])
    (h14 : SC cfg.P i_spec_obLess [.s (.v (.pr (.int .i64) (.int .i64)) dc5), .s (.v (.pr (.int .i64) (.int .i64)) dc3)] (.s (.v .bool false)) [])
    (h15 : SC cfg.P i_spec_obLess [.s (.v (.pr (.int .i64) (.int .i64)) dc4), .s (.v (.pr (.int .i64) (.int .i64)) dc5)] (.s (.v .bool false)) [])
    (h16 : ((List.length ([dc5, dc5] : List (Int × Int)) : Nat) : Int) ≠ (0 : Int))
    (h17 : (IntKind.wrap .i64 (((List.length xo3 : Nat) : Int) - (1 : Int))) ≥ (0 : Int))
    (h18 : 0 ≤ (IntKind.wrap .i64 (((List.length xo3 : Nat) : Int) - (1 : Int))))
    (h19 : (IntKind.wrap .i64 (((List.length xo3 : Nat) : Int) - (1 : Int))) < (List.length xo3 : Int))
    (h20 : ((IntKind.wrap .i64 (((List.length xo3 : Nat) : Int) - (1 : Int)))).toNat < List.length xo3)
    (h21 : (1 : Int) < (List.length (List.getD xo3 ((IntKind.wrap .i64 (((List.length xo3 : Nat) : Int) - (1 : Int)))).toNat ([] : List (Int × Int))) : Int))
    (h22 : (0 : Int) < (List.length ([dc5, dc5] : List (Int × Int)) : Int))
    (h23 : ((0 : Int)).toNat < List.length ([dc5, dc5] : List (Int × Int)))
    (h24 : (((List.getD (List.getD xo3 ((IntKind.wrap .i64 (((List.length xo3 : Nat) : Int) - (1 : Int)))).toNat ([] : List (Int × Int))) ((1 : Int)).toNat ((0 : Int), (0 : Int))).1 == (List.getD ([dc5, dc5] : List (Int × Int)) ((0 : Int)).toNat ((0 : Int), (0 : Int))).1) && ((List.getD (List.getD xo3 ((IntKind.wrap .i64 (((List.length xo3 : Nat) : Int) - (1 : Int)))).toNat ([] : List (Int × Int))) ((1 : Int)).toNat ((0 : Int), (0 : Int))).2 == (List.getD ([dc5, dc5] : List (Int × Int)) ((0 : Int)).toNat ((0 : Int), (0 : Int))).2)) = false)
    (h25 : sizeOK (List.length xo3 + List.length ([([dc5, dc5] : List (Int × Int))] : List (List (Int × Int)))))
    {e : AEx} {st : St} (next : LoopSC cfg.P 1 (lb P_spec_obFixed 0) (spec_obFixed_L0a x4 x21 x22 (IntKind.wrap .i64 (x23 + (1 : Int))) (xo3 ++ ([([dc5, dc5] : List (Int × Int))] : List (List (Int × Int))))) e st) :
    LoopSC cfg.P 1 (lb P_spec_obFixed 0) (spec_obFixed_L0a x4 x21 x22 x23 xo3) e st :=
  loop_iter cfgOK (f := i_spec_obFixed) (its := [.bool true, .res (.s (.v (.pr (.int .i64) (.int .i64)) dc1)) [] [] [], .res (.s (.v (.pr (.int .i64) (.int .i64)) dc2)) [] [] [], .res (.s (.v (.pr (.int .i64) (.int .i64)) dc3)) [] [] [], .res (.s (.v (.pr (.int .i64) (.int .i64)) dc4)) [] [] [], .bool false, .res (.s (.v (.pr (.int .i64) (.int .i64)) dc5)) [] [] [], .res (.s (.v .bool false)) [] [] [], .res (.s (.v .bool false)) [] [] [], .bool false, .bool true, .bool false])
    (ps := [decide (x23 < x22) = true,
      0 ≤ x23,
      x23 < (List.length x21 : Int),
      SC cfg.P i_spec_mpOf [.s (.v .str (List.getD x21 (x23).toNat (⟨#[]⟩ : ByteArray)))] (.s (.v (.pr (.int .i64) (.int .i64)) dc1)) [],
      0 ≤ x23,
      x23 < (List.length x4 : Int),
      SC cfg.P i_spec_mpOf [.s (.v .str (List.getD x4 (x23).toNat (⟨#[]⟩ : ByteArray)))] (.s (.v (.pr (.int .i64) (.int .i64)) dc2)) [],
      SC cfg.P i_spec_obRatio [.s (.v (.int .i64) dc1.1), .s (.v (.int .i64) dc1.2)] (.s (.v (.pr (.int .i64) (.int .i64)) dc3)) [],
      0 ≤ (((List.getD x21 (x23).toNat (⟨#[]⟩ : ByteArray))).size : Int),
      dc1.2 ≠ 0,
      0 ≤ (((List.getD x21 (x23).toNat (⟨#[]⟩ : ByteArray))).size : Int),
      SC cfg.P i_spec_obRatio [.s (.v (.int .i64) (IntKind.wrap .i64 ((IntKind.wrap .i64 (dc1.1 * (IntKind.wrap .i64 (Int.tdiv (IntKind.wrap .i64 ((1 : Int) * 2 ^ (min ((((List.getD x21 (x23).toNat (⟨#[]⟩ : ByteArray))).size : Int)).toNat (IntKind.bits .i64)))) dc1.2)))) + (1 : Int)))), .s (.v (.int .i64) (IntKind.wrap .i64 ((1 : Int) * 2 ^ (min ((((List.getD x21 (x23).toNat (⟨#[]⟩ : ByteArray))).size : Int)).toNat (IntKind.bits .i64)))))] (.s (.v (.pr (.int .i64) (.int .i64)) dc4)) [],
      0 ≤ x23,
      x23 < (List.length x4 : Int),
      ((((List.getD x21 (x23).toNat (⟨#[]⟩ : ByteArray))).size : Int) == (((List.getD x4 (x23).toNat (⟨#[]⟩ : ByteArray))).size : Int)) = false,
      0 ≤ (((List.getD x21 (x23).toNat (⟨#[]⟩ : ByteArray))).size : Int),
      0 ≤ x23,
      x23 < (List.length x4 : Int),
      0 ≤ (((List.getD x4 (x23).toNat (⟨#[]⟩ : ByteArray))).size : Int),
      SC cfg.P i_spec_obRatio [.s (.v (.int .i64) (IntKind.wrap .i64 ((IntKind.wrap .i64 ((IntKind.wrap .i64 ((IntKind.wrap .i64 (dc1.1 * (IntKind.wrap .i64 ((1 : Int) * 2 ^ (min ((((List.getD x21 (x23).toNat (⟨#[]⟩ : ByteArray))).size : Int)).toNat (IntKind.bits .i64)))))) * dc2.2)) - (IntKind.wrap .i64 ((IntKind.wrap .i64 (dc2.1 * (IntKind.wrap .i64 ((1 : Int) * 2 ^ (min ((((List.getD x4 (x23).toNat (⟨#[]⟩ : ByteArray))).size : Int)).toNat (IntKind.bits .i64)))))) * dc1.2)))) * (1 : Int)))), .s (.v (.int .i64) (IntKind.wrap .i64 ((IntKind.wrap .i64 ((IntKind.wrap .i64 ((IntKind.wrap .i64 ((1 : Int) * 2 ^ (min ((((List.getD x21 (x23).toNat (⟨#[]⟩ : ByteArray))).size : Int)).toNat (IntKind.bits .i64)))) - (IntKind.wrap .i64 ((1 : Int) * 2 ^ (min ((((List.getD x4 (x23).toNat (⟨#[]⟩ : ByteArray))).size : Int)).toNat (IntKind.bits .i64)))))) * dc1.2)) * dc2.2)))] (.s (.v (.pr (.int .i64) (.int .i64)) dc5)) [],
      SC cfg.P i_spec_obLess [.s (.v (.pr (.int .i64) (.int .i64)) dc5), .s (.v (.pr (.int .i64) (.int .i64)) dc3)] (.s (.v .bool false)) [],
      SC cfg.P i_spec_obLess [.s (.v (.pr (.int .i64) (.int .i64)) dc4), .s (.v (.pr (.int .i64) (.int .i64)) dc5)] (.s (.v .bool false)) [],
      (((List.length ([dc5, dc5] : List (Int × Int)) : Nat) : Int) == (0 : Int)) = false,
      decide ((IntKind.wrap .i64 (((List.length xo3 : Nat) : Int) - (1 : Int))) ≥ (0 : Int)) = true,
      0 ≤ (IntKind.wrap .i64 (((List.length xo3 : Nat) : Int) - (1 : Int))),
      (IntKind.wrap .i64 (((List.length xo3 : Nat) : Int) - (1 : Int))) < (List.length xo3 : Int),
      ((IntKind.wrap .i64 (((List.length xo3 : Nat) : Int) - (1 : Int)))).toNat < List.length xo3,
      0 ≤ (1 : Int),
      (1 : Int) < (List.length (List.getD xo3 ((IntKind.wrap .i64 (((List.length xo3 : Nat) : Int) - (1 : Int)))).toNat ([] : List (Int × Int))) : Int),
      0 ≤ (0 : Int),
      (0 : Int) < (List.length ([dc5, dc5] : List (Int × Int)) : Int),
      ((0 : Int)).toNat < List.length ([dc5, dc5] : List (Int × Int)),
      (((List.getD (List.getD xo3 ((IntKind.wrap .i64 (((List.length xo3 : Nat) : Int) - (1 : Int)))).toNat ([] : List (Int × Int))) ((1 : Int)).toNat ((0 : Int), (0 : Int))).1 == (List.getD ([dc5, dc5] : List (Int × Int)) ((0 : Int)).toNat ((0 : Int), (0 : Int))).1) && ((List.getD (List.getD xo3 ((IntKind.wrap .i64 (((List.length xo3 : Nat) : Int) - (1 : Int)))).toNat ([] : List (Int × Int))) ((1 : Int)).toNat ((0 : Int), (0 : Int))).2 == (List.getD ([dc5, dc5] : List (Int × Int)) ((0 : Int)).toNat ((0 : Int), (0 : Int))).2)) = false,
      sizeOK (List.length xo3 + List.length ([([dc5, dc5] : List (Int × Int))] : List (List (Int × Int))))]) (st1 := spec_obFixed_L0a x4 x21 x22 (IntKind.wrap .i64 (x23 + (1 : Int))) (xo3 ++ ([([dc5, dc5] : List (Int × Int))] : List (List (Int × Int))))) (by kernel_rfl) ⟨(decide_eq_true h1), h2, h3, h4, h2, h5, h6, h7, h8, h9, h8, h10, h2, h5, (beq_eq_false_iff_ne.mpr h11), h8, h2, h5, h12, h13, h14, h15, (beq_eq_false_iff_ne.mpr h16), (decide_eq_true h17), h18, h19, h20, (by decide), h21, (by decide), h22, h23, h24, h25, trivial⟩ next

theorem spec_obFixed_L0a_i20 (x4 : (List ByteArray)) (x21 : (List ByteArray)) (x22 : Int) (x23 : Int) (xo3 : (List (List (Int × Int)))) (dc1 : (Int × Int)) (dc2 : (Int × Int)) (dc3 : (Int × Int)) (dc4 : (Int × Int)) (dc5 : (Int × Int))
    (h1 : x23 < x22)
    (h2 : 0 ≤ x23)
    (h3 : x23 < (List.length x21 : Int))
    (h4 : SC cfg.P i_spec_mpOf [.s (.v .str (List.getD x21 (x23).toNat (⟨#[]⟩ : ByteArray)))] (.s (.v (.pr (.int .i64) (.int .i64)) dc1)) [])
    (h5 : x23 < (List.length x4 : Int))
    (h6 : SC cfg.P i_spec_mpOf [.s (.v .str (List.getD x4 (x23).toNat (⟨#[]⟩ : ByteArray)))] (.s (.v (.pr (.int .i64) (.int .i64)) dc2)) [])
    (h7 : SC cfg.P i_spec_obRatio [.s (.v (.int .i64) dc1.1), .s (.v (.int .i64) dc1.2)] (.s (.v (.pr (.int .i64) (.int .i64)) dc3)) [])
    (h8 : 0 ≤ (((List.getD x21 (x23).toNat (⟨#[]⟩ : ByteArray))).size : Int))
    (h9 : dc1.2 ≠ 0)
    (h10 : SC cfg.P i_spec_obRatio [.s (.v (.int .i64) (IntKind.wrap .i64 ((IntKind.wrap .i64 (dc1.1 * (IntKind.wrap .i64 (Int.tdiv (IntKind.wrap .i64 ((1 : Int) * 2 ^ (min ((((List.getD x21 (x23).toNat (⟨#[]⟩ : ByteArray))).size : Int)).toNat (IntKind.bits .i64)))) dc1.2)))) + (1 : Int)))), .s (.v (.int .i64) (IntKind.wrap .i64 ((1 : Int) * 2 ^ (min ((((List.getD x21 (x23).toNat (⟨#[]⟩ : ByteArray))).size : Int)).toNat (IntKind.bits .i64)))))] (.s (.v (.pr (.int .i64) (.int .i64)) dc4)) [])
    (h11 : (((List.getD x21 (x23).toNat (⟨#[]⟩ : ByteArray))).size : Int) ≠ (((List.getD x4 (x23).toNat (⟨#[]⟩ : ByteArray))).size : Int))
    (h12 : 0 ≤ (((List.getD x4 (x23).toNat (⟨#[]⟩ : ByteArray))).size : Int))
    (h13 : SC cfg.P i_spec_obRatio [.s (.v (.int .i64) (IntKind.wrap .i64 ((IntKind.wrap .i64 ((IntKind.wrap .i64 ((IntKind.wrap .i64 (dc1.1 * (IntKind.wrap .i64 ((1 : Int) * 2 ^ (min ((((List.getD x21 (x23).toNat (⟨#[]⟩ : ByteArray))).size : Int)).toNat (IntKind.bits .i64)))))) * dc2.2)) - (IntKind.wrap .i64 ((IntKind.wrap .i64 (dc2.1 * (IntKind.wrap .i64 ((1 : Int) * 2 ^ (min ((((List.getD x4 (x23).toNat (⟨#[]⟩ : ByteArray))).size : Int)).toNat (IntKind.bits .i64)))))) * dc1.2)))) * (1 : Int)))), .s (.v (.int .i64) (IntKind.wrap .i64 ((IntKind.wrap .i64 ((IntKind.wrap .i64 ((IntKind.wrap .i64 ((1 : Int) * 2 ^ (min ((((List.getD x21 (x23).toNat (⟨#[]⟩ : ByteArray))).size : Int)).toNat (IntKind.bits .i64)))) - (IntKind.wrap .i64 ((1 : Int) * 2 ^ (min ((((List.getD x4 (x23).toNat (⟨#[]⟩ : ByteArray))).size : Int)).toNat (IntKind.bits .i64)))))) * dc1.2)) * dc2.2)))] (.s (.v (.pr (.int .i64) (.int .i64)) dc5)) [])
    (h14 : SC cfg.P i_spec_obLess [.s (.v (.pr (.int .i64) (.int .i64)) dc5), .s (.v (.pr (.int .i64) (.int .i64)) dc3)] (.s (.v .bool false)) [])
    (h15 : SC cfg.P i_spec_obLess [.s (.v (.pr (.int .i64) (.int .i64)) dc4), .s (.v (.pr (.int .i64) (.int .i64)) dc5)] (.s (.v .bool false)) [])
    (h16 : ((List.length ([dc5, dc5] : List (Int × Int)) : Nat) : Int) ≠ (0 : Int))
    (h17 : ¬ ((IntKind.wrap .i64 (((List.length xo3 : Nat) : Int) - (1 : Int))) ≥ (0 : Int)))
    (h18 : sizeOK (List.length xo3 + List.length ([([dc5, dc5] : List (Int × Int))] : List (List (Int × Int)))))
    {e : AEx} {st : St} (next : LoopSC cfg.P 1 (lb P_spec_obFixed 0) (spec_obFixed_L0a x4 x21 x22 (IntKind.wrap .i64 (x23 + (1 : Int))) (xo3 ++ ([([dc5, dc5] : List (Int × Int))] : List (List (Int × Int))))) e st) :
    LoopSC cfg.P 1 (lb P_spec_obFixed 0) (spec_obFixed_L0a x4 x21 x22 x23 xo3) e st :=
  loop_iter cfgOK (f := i_spec_obFixed) (its := [.bool true, .res (.s (.v (.pr (.int .i64) (.int .i64)) dc1)) [] [] [], .res (.s (.v (.pr (.int .i64) (.int .i64)) dc2)) [] [] [], .res (.s (.v (.pr (.int .i64) (.int .i64)) dc3)) [] [] [], .res (.s (.v (.pr (.int .i64) (.int .i64)) dc4)) [] [] [], .bool false, .res (.s (.v (.pr (.int .i64) (.int .i64)) dc5)) [] [] [], .res (.s (.v .bool false)) [] [] [], .res (.s (.v .bool false)) [] [] [], .bool false, .bool false])
    (ps := [decide (x23 < x22) = true,
      0 ≤ x23,
      x23 < (List.length x21 : Int),
      SC cfg.P i_spec_mpOf [.s (.v .str (List.getD x21 (x23).toNat (⟨#[]⟩ : ByteArray)))] (.s (.v (.pr (.int .i64) (.int .i64)) dc1)) [],
      0 ≤ x23,
      x23 < (List.length x4 : Int),
      SC cfg.P i_spec_mpOf [.s (.v .str (List.getD x4 (x23).toNat (⟨#[]⟩ : ByteArray)))] (.s (.v (.pr (.int .i64) (.int .i64)) dc2)) [],
      SC cfg.P i_spec_obRatio [.s (.v (.int .i64) dc1.1), .s (.v (.int .i64) dc1.2)] (.s (.v (.pr (.int .i64) (.int .i64)) dc3)) [],
      0 ≤ (((List.getD x21 (x23).toNat (⟨#[]⟩ : ByteArray))).size : Int),
      dc1.2 ≠ 0,
      0 ≤ (((List.getD x21 (x23).toNat (⟨#[]⟩ : ByteArray))).size : Int),
      SC cfg.P i_spec_obRatio [.s (.v (.int .i64) (IntKind.wrap .i64 ((IntKind.wrap .i64 (dc1.1 * (IntKind.wrap .i64 (Int.tdiv (IntKind.wrap .i64 ((1 : Int) * 2 ^ (min ((((List.getD x21 (x23).toNat (⟨#[]⟩ : ByteArray))).size : Int)).toNat (IntKind.bits .i64)))) dc1.2)))) + (1 : Int)))), .s (.v (.int .i64) (IntKind.wrap .i64 ((1 : Int) * 2 ^ (min ((((List.getD x21 (x23).toNat (⟨#[]⟩ : ByteArray))).size : Int)).toNat (IntKind.bits .i64)))))] (.s (.v (.pr (.int .i64) (.int .i64)) dc4)) [],
      0 ≤ x23,
      x23 < (List.length x4 : Int),
      ((((List.getD x21 (x23).toNat (⟨#[]⟩ : ByteArray))).size : Int) == (((List.getD x4 (x23).toNat (⟨#[]⟩ : ByteArray))).size : Int)) = false,
      0 ≤ (((List.getD x21 (x23).toNat (⟨#[]⟩ : ByteArray))).size : Int),
      0 ≤ x23,
      x23 < (List.length x4 : Int),
      0 ≤ (((List.getD x4 (x23).toNat (⟨#[]⟩ : ByteArray))).size : Int),
      SC cfg.P i_spec_obRatio [.s (.v (.int .i64) (IntKind.wrap .i64 ((IntKind.wrap .i64 ((IntKind.wrap .i64 ((IntKind.wrap .i64 (dc1.1 * (IntKind.wrap .i64 ((1 : Int) * 2 ^ (min ((((List.getD x21 (x23).toNat (⟨#[]⟩ : ByteArray))).size : Int)).toNat (IntKind.bits .i64)))))) * dc2.2)) - (IntKind.wrap .i64 ((IntKind.wrap .i64 (dc2.1 * (IntKind.wrap .i64 ((1 : Int) * 2 ^ (min ((((List.getD x4 (x23).toNat (⟨#[]⟩ : ByteArray))).size : Int)).toNat (IntKind.bits .i64)))))) * dc1.2)))) * (1 : Int)))), .s (.v (.int .i64) (IntKind.wrap .i64 ((IntKind.wrap .i64 ((IntKind.wrap .i64 ((IntKind.wrap .i64 ((1 : Int) * 2 ^ (min ((((List.getD x21 (x23).toNat (⟨#[]⟩ : ByteArray))).size : Int)).toNat (IntKind.bits .i64)))) - (IntKind.wrap .i64 ((1 : Int) * 2 ^ (min ((((List.getD x4 (x23).toNat (⟨#[]⟩ : ByteArray))).size : Int)).toNat (IntKind.bits .i64)))))) * dc1.2)) * dc2.2)))] (.s (.v (.pr (.int .i64) (.int .i64)) dc5)) [],
      SC cfg.P i_spec_obLess [.s (.v (.pr (.int .i64) (.int .i64)) dc5), .s (.v (.pr (.int .i64) (.int .i64)) dc3)] (.s (.v .bool false)) [],
      SC cfg.P i_spec_obLess [.s (.v (.pr (.int .i64) (.int .i64)) dc4), .s (.v (.pr (.int .i64) (.int .i64)) dc5)] (.s (.v .bool false)) [],
      (((List.length ([dc5, dc5] : List (Int × Int)) : Nat) : Int) == (0 : Int)) = false,
      decide ((IntKind.wrap .i64 (((List.length xo3 : Nat) : Int) - (1 : Int))) ≥ (0 : Int)) = false,
      sizeOK (List.length xo3 + List.length ([([dc5, dc5] : List (Int × Int))] : List (List (Int × Int))))]) (st1 := spec_obFixed_L0a x4 x21 x22 (IntKind.wrap .i64 (x23 + (1 : Int))) (xo3 ++ ([([dc5, dc5] : List (Int × Int))] : List (List (Int × Int))))) (by kernel_rfl) ⟨(decide_eq_true h1), h2, h3, h4, h2, h5, h6, h7, h8, h9, h8, h10, h2, h5, (beq_eq_false_iff_ne.mpr h11), h8, h2, h5, h12, h13, h14, h15, (beq_eq_false_iff_ne.mpr h16), (decide_eq_false h17), h18, trivial⟩ next

theorem spec_obFixed_L0a_x21 (x4 : (List ByteArray)) (x21 : (List ByteArray)) (x22 : Int) (x23 : Int) (xo3 : (List (List (Int × Int))))
    (h1 : ¬ (x23 < x22)) :
    LoopSC cfg.P 1 (lb P_spec_obFixed 0) (spec_obFixed_L0a x4 x21 x22 x23 xo3) (.exit 0) (spec_obFixed_L0X1 x4 x21 x22 x23 false xo3) :=
  loop_out cfgOK (f := i_spec_obFixed) (its := [.bool false])
    (ps := [decide (x23 < x22) = false]) (by kernel_rfl) ⟨(decide_eq_false h1), trivial⟩ (fun h => by cases h)

theorem spec_obFixed_p1 (a0 : (ByteArray × ByteArray)) (c1 : (List ByteArray)) (c2 : (List ByteArray)) (k1y4 : (List ByteArray)) (k1y21 : (List ByteArray)) (k1y22 : Int) (k1y23 : Int) (k1y24 : Bool) (k1yo3 : (List (List (Int × Int))))
    (h1 : SC cfg.P i_spec_trAddresses [.s (.v .str a0.2), .s (.v .str (⟨#[]⟩ : ByteArray))] (.s (.v (.sl .str) c1)) [])
    (h2 : SC cfg.P i_spec_trAddresses [.s (.v .str a0.1), .s (.v .str (⟨#[]⟩ : ByteArray))] (.s (.v (.sl .str) c2)) [])
    (h3 : LoopSC cfg.P 1 (lb P_spec_obFixed 0) (spec_obFixed_L0a c1 c2 ((List.length c2 : Nat) : Int) (0 : Int) ([] : List (List (Int × Int)))) (.exit 0) (spec_obFixed_L0X1 k1y4 k1y21 k1y22 k1y23 k1y24 k1yo3)) :
    SC cfg.P i_spec_obFixed [.s (.v (.pr .str .str) a0)] (.s (.own t_Simpl_Ratio (.sl (.pr (.int .i64) (.int .i64))) k1yo3)) [] :=
  SC_of_run cfgOK (its := [.res (.s (.v (.sl .str) c1)) [] [] [], .res (.s (.v (.sl .str) c2)) [] [] [], .loop (fun _ => (.exit 0, spec_obFixed_L0X1 k1y4 k1y21 k1y22 k1y23 k1y24 k1yo3))])
    (ps := [SC cfg.P i_spec_trAddresses [.s (.v .str a0.2), .s (.v .str (⟨#[]⟩ : ByteArray))] (.s (.v (.sl .str) c1)) [],
      SC cfg.P i_spec_trAddresses [.s (.v .str a0.1), .s (.v .str (⟨#[]⟩ : ByteArray))] (.s (.v (.sl .str) c2)) [],
      LoopSC cfg.P 1 (lb P_spec_obFixed 0) (spec_obFixed_L0a c1 c2 ((List.length c2 : Nat) : Int) (0 : Int) ([] : List (List (Int × Int)))) (.exit 0) (spec_obFixed_L0X1 k1y4 k1y21 k1y22 k1y23 k1y24 k1yo3)]) (by kernel_rfl) ⟨h1, h2, h3, trivial⟩ get_spec_obFixed (by decide)

end Go.AI
