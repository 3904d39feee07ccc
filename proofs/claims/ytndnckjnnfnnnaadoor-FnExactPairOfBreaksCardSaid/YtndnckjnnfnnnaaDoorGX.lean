/- A part of the road: what it proves stands in its last texts. -/
import Derived.Test.YtndnckjnnfnnnaaDoorSIds
import Derived.Test.YtndnckjnnfnnnaaDoorProg
set_option autoImplicit false
set_option maxRecDepth 100000
set_option linter.unusedVariables false
namespace Go.AI
open Go.Proofs

/-! ### impl_PairOfBreaks -/


def impl_PairOfBreaks_L0a (x0 : (List (Int × Int))) (x1 : (List (Int × Int))) (x24 : Int) (x25 : Int) (xo4 : (ByteArray × ByteArray)) (xo22 : (List (Int × Int))) : St := mkSt 73 [(0, .s (.v (.sl (.pr (.int .i64) (.int .i64))) x0)), (1, .s (.v (.sl (.pr (.int .i64) (.int .i64))) x1)), (4, .s (.adr 4 none)), (6, .s (.osl 22 0)), (24, .s (.v (.int .i64) x24)), (25, .s (.v (.int .i64) x25))] [(4, .box (.pr .str .str) xo4 false), (22, .row t_impl_spot (.pr (.int .i64) (.int .i64)) xo22 0 false)]

def impl_PairOfBreaks_L0X1 (y5 : Bool) (yo4 : (ByteArray × ByteArray)) : St := mkSt 73 [(4, .s (.adr 4 none)), (5, .s (.v .bool y5))] [(4, .box (.pr .str .str) yo4 false)]

def impl_PairOfBreaks_L0X2 (y0 : (List (Int × Int))) (y1 : (List (Int × Int))) (y24 : Int) (y25 : Int) (y26 : Bool) (yo4 : (ByteArray × ByteArray)) (yo22 : (List (Int × Int))) : St := mkSt 73 [(0, .s (.v (.sl (.pr (.int .i64) (.int .i64))) y0)), (1, .s (.v (.sl (.pr (.int .i64) (.int .i64))) y1)), (4, .s (.adr 4 none)), (6, .s (.osl 22 0)), (24, .s (.v (.int .i64) y24)), (25, .s (.v (.int .i64) y25)), (26, .s (.v .bool y26))] [(4, .box (.pr .str .str) yo4 false), (22, .row t_impl_spot (.pr (.int .i64) (.int .i64)) yo22 0 false)]

theorem impl_PairOfBreaks_L0a_i1 (x0 : (List (Int × Int))) (x1 : (List (Int × Int))) (x24 : Int) (x25 : Int) (xo4 : (ByteArray × ByteArray)) (xo22 : (List (Int × Int))) (dc3 : Int) (dc4 : Int)
    (h1 : x25 < x24)
    (h2 : 0 ≤ x25)
    (h3 : x25 < (List.length x0 : Int))
    (h4 : SC cfg.P i_impl_IsFraction [.s (.v (.pr (.int .i64) (.int .i64)) (List.getD x0 (x25).toNat ((0 : Int), (0 : Int))))] (.s (.v .bool true)) [])
    (h5 : x25 < (List.length x1 : Int))
    (h6 : SC cfg.P i_impl_IsFraction [.s (.v (.pr (.int .i64) (.int .i64)) (List.getD x1 (x25).toNat ((0 : Int), (0 : Int))))] (.s (.v .bool true)) [])
    (h7 : SC cfg.P i_impl_Fraction_place [.s (.v (.pr (.int .i64) (.int .i64)) (List.getD x0 (x25).toNat ((0 : Int), (0 : Int))))] (.s (.v (.int .i64) dc3)) [])
    (h8 : SC cfg.P i_impl_Fraction_place [.s (.v (.pr (.int .i64) (.int .i64)) (List.getD x1 (x25).toNat ((0 : Int), (0 : Int))))] (.s (.v (.int .i64) dc4)) [])
    (h9 : sizeOK (List.length xo22 + List.length ([(dc3, dc4)] : List (Int × Int))))
    {e : AEx} {st : St} (next : LoopSC cfg.P 2 (lb P_impl_PairOfBreaks 0) (impl_PairOfBreaks_L0a x0 x1 x24 (IntKind.wrap .i64 (x25 + (1 : Int))) xo4 (xo22 ++ ([(dc3, dc4)] : List (Int × Int)))) e st) :
    LoopSC cfg.P 2 (lb P_impl_PairOfBreaks 0) (impl_PairOfBreaks_L0a x0 x1 x24 x25 xo4 xo22) e st :=
  loop_iter cfgOK (f := i_impl_PairOfBreaks) (its := [.bool true, .res (.s (.v .bool true)) [] [] [], .res (.s (.v .bool true)) [] [] [], .res (.s (.v (.int .i64) dc3)) [] [] [], .res (.s (.v (.int .i64) dc4)) [] [] []])
    (ps := [decide (x25 < x24) = true,
      0 ≤ x25,
      x25 < (List.length x0 : Int),
      SC cfg.P i_impl_IsFraction [.s (.v (.pr (.int .i64) (.int .i64)) (List.getD x0 (x25).toNat ((0 : Int), (0 : Int))))] (.s (.v .bool true)) [],
      0 ≤ x25,
      x25 < (List.length x1 : Int),
      SC cfg.P i_impl_IsFraction [.s (.v (.pr (.int .i64) (.int .i64)) (List.getD x1 (x25).toNat ((0 : Int), (0 : Int))))] (.s (.v .bool true)) [],
      0 ≤ x25,
      x25 < (List.length x0 : Int),
      SC cfg.P i_impl_Fraction_place [.s (.v (.pr (.int .i64) (.int .i64)) (List.getD x0 (x25).toNat ((0 : Int), (0 : Int))))] (.s (.v (.int .i64) dc3)) [],
      0 ≤ x25,
      x25 < (List.length x1 : Int),
      SC cfg.P i_impl_Fraction_place [.s (.v (.pr (.int .i64) (.int .i64)) (List.getD x1 (x25).toNat ((0 : Int), (0 : Int))))] (.s (.v (.int .i64) dc4)) [],
      sizeOK (List.length xo22 + List.length ([(dc3, dc4)] : List (Int × Int)))]) (st1 := impl_PairOfBreaks_L0a x0 x1 x24 (IntKind.wrap .i64 (x25 + (1 : Int))) xo4 (xo22 ++ ([(dc3, dc4)] : List (Int × Int)))) (by kernel_rfl) ⟨(decide_eq_true h1), h2, h3, h4, h2, h5, h6, h2, h3, h7, h2, h5, h8, h9, trivial⟩ next

theorem impl_PairOfBreaks_L0a_x2 (x0 : (List (Int × Int))) (x1 : (List (Int × Int))) (x24 : Int) (x25 : Int) (xo4 : (ByteArray × ByteArray)) (xo22 : (List (Int × Int)))
    (h1 : x25 < x24)
    (h2 : 0 ≤ x25)
    (h3 : x25 < (List.length x0 : Int))
    (h4 : SC cfg.P i_impl_IsFraction [.s (.v (.pr (.int .i64) (.int .i64)) (List.getD x0 (x25).toNat ((0 : Int), (0 : Int))))] (.s (.v .bool true)) [])
    (h5 : x25 < (List.length x1 : Int))
    (h6 : SC cfg.P i_impl_IsFraction [.s (.v (.pr (.int .i64) (.int .i64)) (List.getD x1 (x25).toNat ((0 : Int), (0 : Int))))] (.s (.v .bool false)) []) :
    LoopSC cfg.P 2 (lb P_impl_PairOfBreaks 0) (impl_PairOfBreaks_L0a x0 x1 x24 x25 xo4 xo22) (.ret) (impl_PairOfBreaks_L0X1 false ((⟨#[]⟩ : ByteArray), (⟨#[]⟩ : ByteArray))) :=
  loop_out cfgOK (f := i_impl_PairOfBreaks) (its := [.bool true, .res (.s (.v .bool true)) [] [] [], .res (.s (.v .bool false)) [] [] []])
    (ps := [decide (x25 < x24) = true,
      0 ≤ x25,
      x25 < (List.length x0 : Int),
      SC cfg.P i_impl_IsFraction [.s (.v (.pr (.int .i64) (.int .i64)) (List.getD x0 (x25).toNat ((0 : Int), (0 : Int))))] (.s (.v .bool true)) [],
      0 ≤ x25,
      x25 < (List.length x1 : Int),
      SC cfg.P i_impl_IsFraction [.s (.v (.pr (.int .i64) (.int .i64)) (List.getD x1 (x25).toNat ((0 : Int), (0 : Int))))] (.s (.v .bool false)) []]) (by kernel_rfl) ⟨(decide_eq_true h1), h2, h3, h4, h2, h5, h6, trivial⟩ (fun h => by cases h)

theorem impl_PairOfBreaks_L0a_x3 (x0 : (List (Int × Int))) (x1 : (List (Int × Int))) (x24 : Int) (x25 : Int) (xo4 : (ByteArray × ByteArray)) (xo22 : (List (Int × Int)))
    (h1 : x25 < x24)
    (h2 : 0 ≤ x25)
    (h3 : x25 < (List.length x0 : Int))
    (h4 : SC cfg.P i_impl_IsFraction [.s (.v (.pr (.int .i64) (.int .i64)) (List.getD x0 (x25).toNat ((0 : Int), (0 : Int))))] (.s (.v .bool false)) []) :
    LoopSC cfg.P 2 (lb P_impl_PairOfBreaks 0) (impl_PairOfBreaks_L0a x0 x1 x24 x25 xo4 xo22) (.ret) (impl_PairOfBreaks_L0X1 false ((⟨#[]⟩ : ByteArray), (⟨#[]⟩ : ByteArray))) :=
  loop_out cfgOK (f := i_impl_PairOfBreaks) (its := [.bool true, .res (.s (.v .bool false)) [] [] []])
    (ps := [decide (x25 < x24) = true,
      0 ≤ x25,
      x25 < (List.length x0 : Int),
      SC cfg.P i_impl_IsFraction [.s (.v (.pr (.int .i64) (.int .i64)) (List.getD x0 (x25).toNat ((0 : Int), (0 : Int))))] (.s (.v .bool false)) []]) (by kernel_rfl) ⟨(decide_eq_true h1), h2, h3, h4, trivial⟩ (fun h => by cases h)

theorem impl_PairOfBreaks_L0a_x4 (x0 : (List (Int × Int))) (x1 : (List (Int × Int))) (x24 : Int) (x25 : Int) (xo4 : (ByteArray × ByteArray)) (xo22 : (List (Int × Int)))
    (h1 : ¬ (x25 < x24)) :
    LoopSC cfg.P 2 (lb P_impl_PairOfBreaks 0) (impl_PairOfBreaks_L0a x0 x1 x24 x25 xo4 xo22) (.exit 0) (impl_PairOfBreaks_L0X2 x0 x1 x24 x25 false xo4 xo22) :=
  loop_out cfgOK (f := i_impl_PairOfBreaks) (its := [.bool false])
    (ps := [decide (x25 < x24) = false]) (by kernel_rfl) ⟨(decide_eq_false h1), trivial⟩ (fun h => by cases h)

theorem impl_PairOfBreaks_p1 (a0 : (List (Int × Int))) (a1 : (List (Int × Int)))
    (h1 : ((List.length a0 : Nat) : Int) > (8 : Int)) :
    SC cfg.P i_impl_PairOfBreaks [.s (.v (.sl (.pr (.int .i64) (.int .i64))) a0), .s (.v (.sl (.pr (.int .i64) (.int .i64))) a1)] (.tup [.v (.pr .str .str) ((⟨#[]⟩ : ByteArray), (⟨#[]⟩ : ByteArray)), .v .bool false]) [] :=
  SC_of_run cfgOK (its := [.bool true])
    (ps := [decide (((List.length a0 : Nat) : Int) > (8 : Int)) = true]) (by kernel_rfl) ⟨(decide_eq_true h1), trivial⟩ get_impl_PairOfBreaks (by decide)

theorem impl_PairOfBreaks_p2 (a0 : (List (Int × Int))) (a1 : (List (Int × Int)))
    (h1 : ¬ (((List.length a0 : Nat) : Int) > (8 : Int)))
    (h2 : ((List.length a1 : Nat) : Int) ≠ ((List.length a0 : Nat) : Int)) :
    SC cfg.P i_impl_PairOfBreaks [.s (.v (.sl (.pr (.int .i64) (.int .i64))) a0), .s (.v (.sl (.pr (.int .i64) (.int .i64))) a1)] (.tup [.v (.pr .str .str) ((⟨#[]⟩ : ByteArray), (⟨#[]⟩ : ByteArray)), .v .bool false]) [] :=
  SC_of_run cfgOK (its := [.bool false, .bool true])
    (ps := [decide (((List.length a0 : Nat) : Int) > (8 : Int)) = false,
      (((List.length a1 : Nat) : Int) != ((List.length a0 : Nat) : Int)) = true]) (by kernel_rfl) ⟨(decide_eq_false h1), (bne_iff_ne.mpr h2), trivial⟩ get_impl_PairOfBreaks (by decide)

theorem impl_PairOfBreaks_p3 (a0 : (List (Int × Int))) (a1 : (List (Int × Int))) (k1y5 : Bool) (k1yo4 : (ByteArray × ByteArray))
    (h1 : ¬ (((List.length a0 : Nat) : Int) > (8 : Int)))
    (h2 : ((List.length a1 : Nat) : Int) = ((List.length a0 : Nat) : Int))
    (h3 : LoopSC cfg.P 2 (lb P_impl_PairOfBreaks 0) (impl_PairOfBreaks_L0a a0 a1 ((List.length a0 : Nat) : Int) (0 : Int) ((⟨#[]⟩ : ByteArray), (⟨#[]⟩ : ByteArray)) ([((0 : Int), (0 : Int))] : List (Int × Int))) (.ret) (impl_PairOfBreaks_L0X1 k1y5 k1yo4)) :
    SC cfg.P i_impl_PairOfBreaks [.s (.v (.sl (.pr (.int .i64) (.int .i64))) a0), .s (.v (.sl (.pr (.int .i64) (.int .i64))) a1)] (.tup [.v (.pr .str .str) k1yo4, .v .bool k1y5]) [] :=
  SC_of_run cfgOK (its := [.bool false, .bool false, .loop (fun _ => (.ret, impl_PairOfBreaks_L0X1 k1y5 k1yo4))])
    (ps := [decide (((List.length a0 : Nat) : Int) > (8 : Int)) = false,
      (((List.length a1 : Nat) : Int) != ((List.length a0 : Nat) : Int)) = false,
      LoopSC cfg.P 2 (lb P_impl_PairOfBreaks 0) (impl_PairOfBreaks_L0a a0 a1 ((List.length a0 : Nat) : Int) (0 : Int) ((⟨#[]⟩ : ByteArray), (⟨#[]⟩ : ByteArray)) ([((0 : Int), (0 : Int))] : List (Int × Int))) (.ret) (impl_PairOfBreaks_L0X1 k1y5 k1yo4)]) (by kernel_rfl) ⟨(decide_eq_false h1), (bne_eq_false_iff_eq.mpr h2), h3, trivial⟩ get_impl_PairOfBreaks (by decide)

theorem impl_PairOfBreaks_p4 (a0 : (List (Int × Int))) (a1 : (List (Int × Int))) (k1y0 : (List (Int × Int))) (k1y1 : (List (Int × Int))) (k1y24 : Int) (k1y25 : Int) (k1y26 : Bool) (k1yo4 : (ByteArray × ByteArray)) (k1yo22 : (List (Int × Int))) (c1a : (Tr × Tr)) (c2a : (ByteArray × ByteArray)) (c2b : Bool)
    (h1 : ¬ (((List.length a0 : Nat) : Int) > (8 : Int)))
    (h2 : ((List.length a1 : Nat) : Int) = ((List.length a0 : Nat) : Int))
    (h3 : LoopSC cfg.P 2 (lb P_impl_PairOfBreaks 0) (impl_PairOfBreaks_L0a a0 a1 ((List.length a0 : Nat) : Int) (0 : Int) ((⟨#[]⟩ : ByteArray), (⟨#[]⟩ : ByteArray)) ([((0 : Int), (0 : Int))] : List (Int × Int))) (.exit 0) (impl_PairOfBreaks_L0X2 k1y0 k1y1 k1y24 k1y25 k1y26 k1yo4 k1yo22))
    (h4 : sizeOK (List.length k1yo22 + List.length ([((1099511627776 : Int), (1099511627776 : Int))] : List (Int × Int))))
    (h5 : SC cfg.P i_impl_made [.s (.v (.sl (.pr (.int .i64) (.int .i64))) (k1yo22 ++ ([((1099511627776 : Int), (1099511627776 : Int))] : List (Int × Int))))] (.tup [.v (.pr .tree .tree) c1a, .v .bool true]) [])
    (h6 : SC cfg.P i_impl_pair_fits [.s (.v (.pr .tree .tree) c1a)] (.tup [.v (.pr .str .str) c2a, .v .bool c2b]) []) :
    SC cfg.P i_impl_PairOfBreaks [.s (.v (.sl (.pr (.int .i64) (.int .i64))) a0), .s (.v (.sl (.pr (.int .i64) (.int .i64))) a1)] (.tup [.v (.pr .str .str) c2a, .v .bool c2b]) [] :=
  SC_of_run cfgOK (its := [.bool false, .bool false, .loop (fun _ => (.exit 0, impl_PairOfBreaks_L0X2 k1y0 k1y1 k1y24 k1y25 k1y26 k1yo4 k1yo22)), .res (.tup [.v (.pr .tree .tree) c1a, .v .bool true]) [] [] [], .res (.tup [.v (.pr .str .str) c2a, .v .bool c2b]) [] [] []])
    (ps := [decide (((List.length a0 : Nat) : Int) > (8 : Int)) = false,
      (((List.length a1 : Nat) : Int) != ((List.length a0 : Nat) : Int)) = false,
      LoopSC cfg.P 2 (lb P_impl_PairOfBreaks 0) (impl_PairOfBreaks_L0a a0 a1 ((List.length a0 : Nat) : Int) (0 : Int) ((⟨#[]⟩ : ByteArray), (⟨#[]⟩ : ByteArray)) ([((0 : Int), (0 : Int))] : List (Int × Int))) (.exit 0) (impl_PairOfBreaks_L0X2 k1y0 k1y1 k1y24 k1y25 k1y26 k1yo4 k1yo22),
      sizeOK (List.length k1yo22 + List.length ([((1099511627776 : Int), (1099511627776 : Int))] : List (Int × Int))),
      SC cfg.P i_impl_made [.s (.v (.sl (.pr (.int .i64) (.int .i64))) (k1yo22 ++ ([((1099511627776 : Int), (1099511627776 : Int))] : List (Int × Int))))] (.tup [.v (.pr .tree .tree) c1a, .v .bool true]) [],
      SC cfg.P i_impl_pair_fits [.s (.v (.pr .tree .tree) c1a)] (.tup [.v (.pr .str .str) c2a, .v .bool c2b]) []]) (by kernel_rfl) ⟨(decide_eq_false h1), (bne_eq_false_iff_eq.mpr h2), h3, h4, h5, h6, trivial⟩ get_impl_PairOfBreaks (by decide)

theorem impl_PairOfBreaks_p5 (a0 : (List (Int × Int))) (a1 : (List (Int × Int))) (k1y0 : (List (Int × Int))) (k1y1 : (List (Int × Int))) (k1y24 : Int) (k1y25 : Int) (k1y26 : Bool) (k1yo4 : (ByteArray × ByteArray)) (k1yo22 : (List (Int × Int))) (c1a : (Tr × Tr))
    (h1 : ¬ (((List.length a0 : Nat) : Int) > (8 : Int)))
    (h2 : ((List.length a1 : Nat) : Int) = ((List.length a0 : Nat) : Int))
    (h3 : LoopSC cfg.P 2 (lb P_impl_PairOfBreaks 0) (impl_PairOfBreaks_L0a a0 a1 ((List.length a0 : Nat) : Int) (0 : Int) ((⟨#[]⟩ : ByteArray), (⟨#[]⟩ : ByteArray)) ([((0 : Int), (0 : Int))] : List (Int × Int))) (.exit 0) (impl_PairOfBreaks_L0X2 k1y0 k1y1 k1y24 k1y25 k1y26 k1yo4 k1yo22))
    (h4 : sizeOK (List.length k1yo22 + List.length ([((1099511627776 : Int), (1099511627776 : Int))] : List (Int × Int))))
    (h5 : SC cfg.P i_impl_made [.s (.v (.sl (.pr (.int .i64) (.int .i64))) (k1yo22 ++ ([((1099511627776 : Int), (1099511627776 : Int))] : List (Int × Int))))] (.tup [.v (.pr .tree .tree) c1a, .v .bool false]) []) :
    SC cfg.P i_impl_PairOfBreaks [.s (.v (.sl (.pr (.int .i64) (.int .i64))) a0), .s (.v (.sl (.pr (.int .i64) (.int .i64))) a1)] (.tup [.v (.pr .str .str) ((⟨#[]⟩ : ByteArray), (⟨#[]⟩ : ByteArray)), .v .bool false]) [] :=
  SC_of_run cfgOK (its := [.bool false, .bool false, .loop (fun _ => (.exit 0, impl_PairOfBreaks_L0X2 k1y0 k1y1 k1y24 k1y25 k1y26 k1yo4 k1yo22)), .res (.tup [.v (.pr .tree .tree) c1a, .v .bool false]) [] [] []])
    (ps := [decide (((List.length a0 : Nat) : Int) > (8 : Int)) = false,
      (((List.length a1 : Nat) : Int) != ((List.length a0 : Nat) : Int)) = false,
      LoopSC cfg.P 2 (lb P_impl_PairOfBreaks 0) (impl_PairOfBreaks_L0a a0 a1 ((List.length a0 : Nat) : Int) (0 : Int) ((⟨#[]⟩ : ByteArray), (⟨#[]⟩ : ByteArray)) ([((0 : Int), (0 : Int))] : List (Int × Int))) (.exit 0) (impl_PairOfBreaks_L0X2 k1y0 k1y1 k1y24 k1y25 k1y26 k1yo4 k1yo22),
      sizeOK (List.length k1yo22 + List.length ([((1099511627776 : Int), (1099511627776 : Int))] : List (Int × Int))),
      SC cfg.P i_impl_made [.s (.v (.sl (.pr (.int .i64) (.int .i64))) (k1yo22 ++ ([((1099511627776 : Int), (1099511627776 : Int))] : List (Int × Int))))] (.tup [.v (.pr .tree .tree) c1a, .v .bool false]) []]) (by kernel_rfl) ⟨(decide_eq_false h1), (bne_eq_false_iff_eq.mpr h2), h3, h4, h5, trivial⟩ get_impl_PairOfBreaks (by decide)

/-! ### impl_made -/


def impl_made_L0a (x0 : (List (Int × Int))) (x4 : Int) (xo2 : (Tr × Tr)) : St := mkSt 92 [(0, .s (.v (.sl (.pr (.int .i64) (.int .i64))) x0)), (2, .s (.adr 2 none)), (4, .s (.v (.int .i64) x4))] [(2, .box (.pr .tree .tree) xo2 false)]

def impl_made_L0X1 (y3 : Bool) (yo2 : (Tr × Tr)) : St := mkSt 92 [(2, .s (.adr 2 none)), (3, .s (.v .bool y3))] [(2, .box (.pr .tree .tree) yo2 false)]

def impl_made_L0X2 (y0 : (List (Int × Int))) (y4 : Int) (y17 : Bool) (yo2 : (Tr × Tr)) : St := mkSt 92 [(0, .s (.v (.sl (.pr (.int .i64) (.int .i64))) y0)), (2, .s (.adr 2 none)), (4, .s (.v (.int .i64) y4)), (17, .s (.v .bool y17))] [(2, .box (.pr .tree .tree) yo2 false)]

theorem impl_made_L0a_x1 (x0 : (List (Int × Int))) (x4 : Int) (xo2 : (Tr × Tr))
    (h1 : x4 < ((List.length x0 : Nat) : Int))
    (h2 : 0 ≤ x4)
    (h3 : x4 < (List.length x0 : Int))
    (h4 : 0 ≤ (IntKind.wrap .i64 (x4 - (1 : Int))))
    (h5 : (IntKind.wrap .i64 (x4 - (1 : Int))) < (List.length x0 : Int))
    (h6 : (IntKind.wrap .i64 ((List.getD x0 (x4).toNat ((0 : Int), (0 : Int))).1 - (List.getD x0 ((IntKind.wrap .i64 (x4 - (1 : Int)))).toNat ((0 : Int), (0 : Int))).1)) ≤ (0 : Int)) :
    LoopSC cfg.P 1 (lb P_impl_made 0) (impl_made_L0a x0 x4 xo2) (.ret) (impl_made_L0X1 false (Tr.leaf, Tr.leaf)) :=
  loop_out cfgOK (f := i_impl_made) (its := [.bool true, .bool true])
    (ps := [decide (x4 < ((List.length x0 : Nat) : Int)) = true,
      0 ≤ x4,
      x4 < (List.length x0 : Int),
      0 ≤ (IntKind.wrap .i64 (x4 - (1 : Int))),
      (IntKind.wrap .i64 (x4 - (1 : Int))) < (List.length x0 : Int),
      0 ≤ x4,
      x4 < (List.length x0 : Int),
      0 ≤ (IntKind.wrap .i64 (x4 - (1 : Int))),
      (IntKind.wrap .i64 (x4 - (1 : Int))) < (List.length x0 : Int),
      decide ((IntKind.wrap .i64 ((List.getD x0 (x4).toNat ((0 : Int), (0 : Int))).1 - (List.getD x0 ((IntKind.wrap .i64 (x4 - (1 : Int)))).toNat ((0 : Int), (0 : Int))).1)) ≤ (0 : Int)) = true]) (by kernel_rfl) ⟨(decide_eq_true h1), h2, h3, h4, h5, h2, h3, h4, h5, (decide_eq_true h6), trivial⟩ (fun h => by cases h)

theorem impl_made_L0a_x2 (x0 : (List (Int × Int))) (x4 : Int) (xo2 : (Tr × Tr))
    (h1 : x4 < ((List.length x0 : Nat) : Int))
    (h2 : 0 ≤ x4)
    (h3 : x4 < (List.length x0 : Int))
    (h4 : 0 ≤ (IntKind.wrap .i64 (x4 - (1 : Int))))
    (h5 : (IntKind.wrap .i64 (x4 - (1 : Int))) < (List.length x0 : Int))
    (h6 : ¬ ((IntKind.wrap .i64 ((List.getD x0 (x4).toNat ((0 : Int), (0 : Int))).1 - (List.getD x0 ((IntKind.wrap .i64 (x4 - (1 : Int)))).toNat ((0 : Int), (0 : Int))).1)) ≤ (0 : Int)))
    (h7 : (IntKind.wrap .i64 ((List.getD x0 (x4).toNat ((0 : Int), (0 : Int))).2 - (List.getD x0 ((IntKind.wrap .i64 (x4 - (1 : Int)))).toNat ((0 : Int), (0 : Int))).2)) ≤ (0 : Int)) :
    LoopSC cfg.P 1 (lb P_impl_made 0) (impl_made_L0a x0 x4 xo2) (.ret) (impl_made_L0X1 false (Tr.leaf, Tr.leaf)) :=
  loop_out cfgOK (f := i_impl_made) (its := [.bool true, .bool false, .bool true])
    (ps := [decide (x4 < ((List.length x0 : Nat) : Int)) = true,
      0 ≤ x4,
      x4 < (List.length x0 : Int),
      0 ≤ (IntKind.wrap .i64 (x4 - (1 : Int))),
      (IntKind.wrap .i64 (x4 - (1 : Int))) < (List.length x0 : Int),
      0 ≤ x4,
      x4 < (List.length x0 : Int),
      0 ≤ (IntKind.wrap .i64 (x4 - (1 : Int))),
      (IntKind.wrap .i64 (x4 - (1 : Int))) < (List.length x0 : Int),
      decide ((IntKind.wrap .i64 ((List.getD x0 (x4).toNat ((0 : Int), (0 : Int))).1 - (List.getD x0 ((IntKind.wrap .i64 (x4 - (1 : Int)))).toNat ((0 : Int), (0 : Int))).1)) ≤ (0 : Int)) = false,
      decide ((IntKind.wrap .i64 ((List.getD x0 (x4).toNat ((0 : Int), (0 : Int))).2 - (List.getD x0 ((IntKind.wrap .i64 (x4 - (1 : Int)))).toNat ((0 : Int), (0 : Int))).2)) ≤ (0 : Int)) = true]) (by kernel_rfl) ⟨(decide_eq_true h1), h2, h3, h4, h5, h2, h3, h4, h5, (decide_eq_false h6), (decide_eq_true h7), trivial⟩ (fun h => by cases h)

theorem impl_made_L0a_x3 (x0 : (List (Int × Int))) (x4 : Int) (xo2 : (Tr × Tr)) (dc1a : Int) (dc1b : Int) (dc2 : Int)
    (h1 : x4 < ((List.length x0 : Nat) : Int))
    (h2 : 0 ≤ x4)
    (h3 : x4 < (List.length x0 : Int))
    (h4 : 0 ≤ (IntKind.wrap .i64 (x4 - (1 : Int))))
    (h5 : (IntKind.wrap .i64 (x4 - (1 : Int))) < (List.length x0 : Int))
    (h6 : ¬ ((IntKind.wrap .i64 ((List.getD x0 (x4).toNat ((0 : Int), (0 : Int))).1 - (List.getD x0 ((IntKind.wrap .i64 (x4 - (1 : Int)))).toNat ((0 : Int), (0 : Int))).1)) ≤ (0 : Int)))
    (h7 : ¬ ((IntKind.wrap .i64 ((List.getD x0 (x4).toNat ((0 : Int), (0 : Int))).2 - (List.getD x0 ((IntKind.wrap .i64 (x4 - (1 : Int)))).toNat ((0 : Int), (0 : Int))).2)) ≤ (0 : Int)))
    (h8 : SC cfg.P i_impl_lowest [.s (.v (.int .i64) (IntKind.wrap .i64 ((List.getD x0 (x4).toNat ((0 : Int), (0 : Int))).1 - (List.getD x0 ((IntKind.wrap .i64 (x4 - (1 : Int)))).toNat ((0 : Int), (0 : Int))).1))), .s (.v (.int .i64) (IntKind.wrap .i64 ((List.getD x0 (x4).toNat ((0 : Int), (0 : Int))).2 - (List.getD x0 ((IntKind.wrap .i64 (x4 - (1 : Int)))).toNat ((0 : Int), (0 : Int))).2)))] (.tup [.v (.int .i64) dc1a, .v (.int .i64) dc1b]) [])
    (h9 : SC cfg.P i_math_bits_OnesCount [.s (.v (.int .u64) (IntKind.wrap .u64 dc1a))] (.s (.v (.int .i64) dc2)) [])
    (h10 : dc2 ≠ (1 : Int)) :
    LoopSC cfg.P 1 (lb P_impl_made 0) (impl_made_L0a x0 x4 xo2) (.ret) (impl_made_L0X1 false (Tr.leaf, Tr.leaf)) :=
  loop_out cfgOK (f := i_impl_made) (its := [.bool true, .bool false, .bool false, .res (.tup [.v (.int .i64) dc1a, .v (.int .i64) dc1b]) [] [] [], .res (.s (.v (.int .i64) dc2)) [] [] [], .bool true])
    (ps := [decide (x4 < ((List.length x0 : Nat) : Int)) = true,
      0 ≤ x4,
      x4 < (List.length x0 : Int),
      0 ≤ (IntKind.wrap .i64 (x4 - (1 : Int))),
      (IntKind.wrap .i64 (x4 - (1 : Int))) < (List.length x0 : Int),
      0 ≤ x4,
      x4 < (List.length x0 : Int),
      0 ≤ (IntKind.wrap .i64 (x4 - (1 : Int))),
      (IntKind.wrap .i64 (x4 - (1 : Int))) < (List.length x0 : Int),
      decide ((IntKind.wrap .i64 ((List.getD x0 (x4).toNat ((0 : Int), (0 : Int))).1 - (List.getD x0 ((IntKind.wrap .i64 (x4 - (1 : Int)))).toNat ((0 : Int), (0 : Int))).1)) ≤ (0 : Int)) = false,
      decide ((IntKind.wrap .i64 ((List.getD x0 (x4).toNat ((0 : Int), (0 : Int))).2 - (List.getD x0 ((IntKind.wrap .i64 (x4 - (1 : Int)))).toNat ((0 : Int), (0 : Int))).2)) ≤ (0 : Int)) = false,
      SC cfg.P i_impl_lowest [.s (.v (.int .i64) (IntKind.wrap .i64 ((List.getD x0 (x4).toNat ((0 : Int), (0 : Int))).1 - (List.getD x0 ((IntKind.wrap .i64 (x4 - (1 : Int)))).toNat ((0 : Int), (0 : Int))).1))), .s (.v (.int .i64) (IntKind.wrap .i64 ((List.getD x0 (x4).toNat ((0 : Int), (0 : Int))).2 - (List.getD x0 ((IntKind.wrap .i64 (x4 - (1 : Int)))).toNat ((0 : Int), (0 : Int))).2)))] (.tup [.v (.int .i64) dc1a, .v (.int .i64) dc1b]) [],
      SC cfg.P i_math_bits_OnesCount [.s (.v (.int .u64) (IntKind.wrap .u64 dc1a))] (.s (.v (.int .i64) dc2)) [],
      (dc2 != (1 : Int)) = true]) (by kernel_rfl) ⟨(decide_eq_true h1), h2, h3, h4, h5, h2, h3, h4, h5, (decide_eq_false h6), (decide_eq_false h7), h8, h9, (bne_iff_ne.mpr h10), trivial⟩ (fun h => by cases h)

theorem impl_made_L0a_x4 (x0 : (List (Int × Int))) (x4 : Int) (xo2 : (Tr × Tr)) (dc1a : Int) (dc1b : Int) (dc2 : Int) (dc3 : Int)
    (h1 : x4 < ((List.length x0 : Nat) : Int))
    (h2 : 0 ≤ x4)
    (h3 : x4 < (List.length x0 : Int))
    (h4 : 0 ≤ (IntKind.wrap .i64 (x4 - (1 : Int))))
    (h5 : (IntKind.wrap .i64 (x4 - (1 : Int))) < (List.length x0 : Int))
    (h6 : ¬ ((IntKind.wrap .i64 ((List.getD x0 (x4).toNat ((0 : Int), (0 : Int))).1 - (List.getD x0 ((IntKind.wrap .i64 (x4 - (1 : Int)))).toNat ((0 : Int), (0 : Int))).1)) ≤ (0 : Int)))
    (h7 : ¬ ((IntKind.wrap .i64 ((List.getD x0 (x4).toNat ((0 : Int), (0 : Int))).2 - (List.getD x0 ((IntKind.wrap .i64 (x4 - (1 : Int)))).toNat ((0 : Int), (0 : Int))).2)) ≤ (0 : Int)))
    (h8 : SC cfg.P i_impl_lowest [.s (.v (.int .i64) (IntKind.wrap .i64 ((List.getD x0 (x4).toNat ((0 : Int), (0 : Int))).1 - (List.getD x0 ((IntKind.wrap .i64 (x4 - (1 : Int)))).toNat ((0 : Int), (0 : Int))).1))), .s (.v (.int .i64) (IntKind.wrap .i64 ((List.getD x0 (x4).toNat ((0 : Int), (0 : Int))).2 - (List.getD x0 ((IntKind.wrap .i64 (x4 - (1 : Int)))).toNat ((0 : Int), (0 : Int))).2)))] (.tup [.v (.int .i64) dc1a, .v (.int .i64) dc1b]) [])
    (h9 : SC cfg.P i_math_bits_OnesCount [.s (.v (.int .u64) (IntKind.wrap .u64 dc1a))] (.s (.v (.int .i64) dc2)) [])
    (h10 : dc2 = (1 : Int))
    (h11 : SC cfg.P i_math_bits_OnesCount [.s (.v (.int .u64) (IntKind.wrap .u64 dc1b))] (.s (.v (.int .i64) dc3)) [])
    (h12 : dc3 ≠ (1 : Int)) :
    LoopSC cfg.P 1 (lb P_impl_made 0) (impl_made_L0a x0 x4 xo2) (.ret) (impl_made_L0X1 false (Tr.leaf, Tr.leaf)) :=
  loop_out cfgOK (f := i_impl_made) (its := [.bool true, .bool false, .bool false, .res (.tup [.v (.int .i64) dc1a, .v (.int .i64) dc1b]) [] [] [], .res (.s (.v (.int .i64) dc2)) [] [] [], .bool false, .res (.s (.v (.int .i64) dc3)) [] [] [], .bool true])
    (ps := [decide (x4 < ((List.length x0 : Nat) : Int)) = true,
      0 ≤ x4,
      x4 < (List.length x0 : Int),
      0 ≤ (IntKind.wrap .i64 (x4 - (1 : Int))),
      (IntKind.wrap .i64 (x4 - (1 : Int))) < (List.length x0 : Int),
      0 ≤ x4,
      x4 < (List.length x0 : Int),
      0 ≤ (IntKind.wrap .i64 (x4 - (1 : Int))),
      (IntKind.wrap .i64 (x4 - (1 : Int))) < (List.length x0 : Int),
      decide ((IntKind.wrap .i64 ((List.getD x0 (x4).toNat ((0 : Int), (0 : Int))).1 - (List.getD x0 ((IntKind.wrap .i64 (x4 - (1 : Int)))).toNat ((0 : Int), (0 : Int))).1)) ≤ (0 : Int)) = false,
      decide ((IntKind.wrap .i64 ((List.getD x0 (x4).toNat ((0 : Int), (0 : Int))).2 - (List.getD x0 ((IntKind.wrap .i64 (x4 - (1 : Int)))).toNat ((0 : Int), (0 : Int))).2)) ≤ (0 : Int)) = false,
      SC cfg.P i_impl_lowest [.s (.v (.int .i64) (IntKind.wrap .i64 ((List.getD x0 (x4).toNat ((0 : Int), (0 : Int))).1 - (List.getD x0 ((IntKind.wrap .i64 (x4 - (1 : Int)))).toNat ((0 : Int), (0 : Int))).1))), .s (.v (.int .i64) (IntKind.wrap .i64 ((List.getD x0 (x4).toNat ((0 : Int), (0 : Int))).2 - (List.getD x0 ((IntKind.wrap .i64 (x4 - (1 : Int)))).toNat ((0 : Int), (0 : Int))).2)))] (.tup [.v (.int .i64) dc1a, .v (.int .i64) dc1b]) [],
      SC cfg.P i_math_bits_OnesCount [.s (.v (.int .u64) (IntKind.wrap .u64 dc1a))] (.s (.v (.int .i64) dc2)) [],
      (dc2 != (1 : Int)) = false,
      SC cfg.P i_math_bits_OnesCount [.s (.v (.int .u64) (IntKind.wrap .u64 dc1b))] (.s (.v (.int .i64) dc3)) [],
      (dc3 != (1 : Int)) = true]) (by kernel_rfl) ⟨(decide_eq_true h1), h2, h3, h4, h5, h2, h3, h4, h5, (decide_eq_false h6), (decide_eq_false h7), h8, h9, (bne_eq_false_iff_eq.mpr h10), h11, (bne_iff_ne.mpr h12), trivial⟩ (fun h => by cases h)

theorem impl_made_L0a_i5 (x0 : (List (Int × Int))) (x4 : Int) (xo2 : (Tr × Tr)) (dc1a : Int) (dc1b : Int) (dc2 : Int) (dc3 : Int)
    (h1 : x4 < ((List.length x0 : Nat) : Int))
    (h2 : 0 ≤ x4)
    (h3 : x4 < (List.length x0 : Int))
    (h4 : 0 ≤ (IntKind.wrap .i64 (x4 - (1 : Int))))
    (h5 : (IntKind.wrap .i64 (x4 - (1 : Int))) < (List.length x0 : Int))
    (h6 : ¬ ((IntKind.wrap .i64 ((List.getD x0 (x4).toNat ((0 : Int), (0 : Int))).1 - (List.getD x0 ((IntKind.wrap .i64 (x4 - (1 : Int)))).toNat ((0 : Int), (0 : Int))).1)) ≤ (0 : Int)))
    (h7 : ¬ ((IntKind.wrap .i64 ((List.getD x0 (x4).toNat ((0 : Int), (0 : Int))).2 - (List.getD x0 ((IntKind.wrap .i64 (x4 - (1 : Int)))).toNat ((0 : Int), (0 : Int))).2)) ≤ (0 : Int)))
    (h8 : SC cfg.P i_impl_lowest [.s (.v (.int .i64) (IntKind.wrap .i64 ((List.getD x0 (x4).toNat ((0 : Int), (0 : Int))).1 - (List.getD x0 ((IntKind.wrap .i64 (x4 - (1 : Int)))).toNat ((0 : Int), (0 : Int))).1))), .s (.v (.int .i64) (IntKind.wrap .i64 ((List.getD x0 (x4).toNat ((0 : Int), (0 : Int))).2 - (List.getD x0 ((IntKind.wrap .i64 (x4 - (1 : Int)))).toNat ((0 : Int), (0 : Int))).2)))] (.tup [.v (.int .i64) dc1a, .v (.int .i64) dc1b]) [])
    (h9 : SC cfg.P i_math_bits_OnesCount [.s (.v (.int .u64) (IntKind.wrap .u64 dc1a))] (.s (.v (.int .i64) dc2)) [])
    (h10 : dc2 = (1 : Int))
    (h11 : SC cfg.P i_math_bits_OnesCount [.s (.v (.int .u64) (IntKind.wrap .u64 dc1b))] (.s (.v (.int .i64) dc3)) [])
    (h12 : dc3 = (1 : Int))
    {e : AEx} {st : St} (next : LoopSC cfg.P 1 (lb P_impl_made 0) (impl_made_L0a x0 (IntKind.wrap .i64 (x4 + (1 : Int))) xo2) e st) :
    LoopSC cfg.P 1 (lb P_impl_made 0) (impl_made_L0a x0 x4 xo2) e st :=
  loop_iter cfgOK (f := i_impl_made) (its := [.bool true, .bool false, .bool false, .res (.tup [.v (.int .i64) dc1a, .v (.int .i64) dc1b]) [] [] [], .res (.s (.v (.int .i64) dc2)) [] [] [], .bool false, .res (.s (.v (.int .i64) dc3)) [] [] [], .bool false])
    (ps := [decide (x4 < ((List.length x0 : Nat) : Int)) = true,
      0 ≤ x4,
      x4 < (List.length x0 : Int),
      0 ≤ (IntKind.wrap .i64 (x4 - (1 : Int))),
      (IntKind.wrap .i64 (x4 - (1 : Int))) < (List.length x0 : Int),
      0 ≤ x4,
      x4 < (List.length x0 : Int),
      0 ≤ (IntKind.wrap .i64 (x4 - (1 : Int))),
      (IntKind.wrap .i64 (x4 - (1 : Int))) < (List.length x0 : Int),
      decide ((IntKind.wrap .i64 ((List.getD x0 (x4).toNat ((0 : Int), (0 : Int))).1 - (List.getD x0 ((IntKind.wrap .i64 (x4 - (1 : Int)))).toNat ((0 : Int), (0 : Int))).1)) ≤ (0 : Int)) = false,
      decide ((IntKind.wrap .i64 ((List.getD x0 (x4).toNat ((0 : Int), (0 : Int))).2 - (List.getD x0 ((IntKind.wrap .i64 (x4 - (1 : Int)))).toNat ((0 : Int), (0 : Int))).2)) ≤ (0 : Int)) = false,
      SC cfg.P i_impl_lowest [.s (.v (.int .i64) (IntKind.wrap .i64 ((List.getD x0 (x4).toNat ((0 : Int), (0 : Int))).1 - (List.getD x0 ((IntKind.wrap .i64 (x4 - (1 : Int)))).toNat ((0 : Int), (0 : Int))).1))), .s (.v (.int .i64) (IntKind.wrap .i64 ((List.getD x0 (x4).toNat ((0 : Int), (0 : Int))).2 - (List.getD x0 ((IntKind.wrap .i64 (x4 - (1 : Int)))).toNat ((0 : Int), (0 : Int))).2)))] (.tup [.v (.int .i64) dc1a, .v (.int .i64) dc1b]) [],
      SC cfg.P i_math_bits_OnesCount [.s (.v (.int .u64) (IntKind.wrap .u64 dc1a))] (.s (.v (.int .i64) dc2)) [],
      (dc2 != (1 : Int)) = false,
      SC cfg.P i_math_bits_OnesCount [.s (.v (.int .u64) (IntKind.wrap .u64 dc1b))] (.s (.v (.int .i64) dc3)) [],
      (dc3 != (1 : Int)) = false]) (st1 := impl_made_L0a x0 (IntKind.wrap .i64 (x4 + (1 : Int))) xo2) (by kernel_rfl) ⟨(decide_eq_true h1), h2, h3, h4, h5, h2, h3, h4, h5, (decide_eq_false h6), (decide_eq_false h7), h8, h9, (bne_eq_false_iff_eq.mpr h10), h11, (bne_eq_false_iff_eq.mpr h12), trivial⟩ next

theorem impl_made_L0a_x6 (x0 : (List (Int × Int))) (x4 : Int) (xo2 : (Tr × Tr))
    (h1 : ¬ (x4 < ((List.length x0 : Nat) : Int))) :
    LoopSC cfg.P 1 (lb P_impl_made 0) (impl_made_L0a x0 x4 xo2) (.exit 0) (impl_made_L0X2 x0 x4 false xo2) :=
  loop_out cfgOK (f := i_impl_made) (its := [.bool false])
    (ps := [decide (x4 < ((List.length x0 : Nat) : Int)) = false]) (by kernel_rfl) ⟨(decide_eq_false h1), trivial⟩ (fun h => by cases h)

theorem impl_made_p1 (a0 : (List (Int × Int))) (k1y3 : Bool) (k1yo2 : (Tr × Tr))
    (h1 : LoopSC cfg.P 1 (lb P_impl_made 0) (impl_made_L0a a0 (1 : Int) (Tr.leaf, Tr.leaf)) (.ret) (impl_made_L0X1 k1y3 k1yo2)) :
    SC cfg.P i_impl_made [.s (.v (.sl (.pr (.int .i64) (.int .i64))) a0)] (.tup [.v (.pr .tree .tree) k1yo2, .v .bool k1y3]) [] :=
  SC_of_run cfgOK (its := [.loop (fun _ => (.ret, impl_made_L0X1 k1y3 k1yo2))])
    (ps := [LoopSC cfg.P 1 (lb P_impl_made 0) (impl_made_L0a a0 (1 : Int) (Tr.leaf, Tr.leaf)) (.ret) (impl_made_L0X1 k1y3 k1yo2)]) (by kernel_rfl) ⟨h1, trivial⟩ get_impl_made (by decide)

-- impl_made: two mutable args at "l4_map.go:245" call   [('loop', 1)=1]

/-! ### impl_cutUp -/


theorem impl_cutUp_p1 (a0 : (List (Int × Int))) (a1 : ByteArray) (a2 : (List ByteArray)) (a3 : (List ByteArray))
    (h1 : ((List.length a2 : Nat) : Int) > (8 : Int)) :
    SC cfg.P i_impl_cutUp [.s (.v (.sl (.pr (.int .i64) (.int .i64))) a0), .s (.v .str a1), .s (.mbx (.sl .str) a2), .s (.mbx (.sl .str) a3)] (.s (.v .bool false)) [.box (.sl .str) a2, .box (.sl .str) a3] :=
  SC_of_run cfgOK (its := [.bool true])
    (ps := [decide (((List.length a2 : Nat) : Int) > (8 : Int)) = true]) (by kernel_rfl) ⟨(decide_eq_true h1), trivial⟩ get_impl_cutUp (by decide)

theorem impl_cutUp_p2 (a0 : (List (Int × Int))) (a1 : ByteArray) (a2 : (List ByteArray)) (a3 : (List ByteArray))
    (h1 : ¬ (((List.length a2 : Nat) : Int) > (8 : Int)))
    (h2 : ((a1).size : Int) > (8 : Int)) :
    SC cfg.P i_impl_cutUp [.s (.v (.sl (.pr (.int .i64) (.int .i64))) a0), .s (.v .str a1), .s (.mbx (.sl .str) a2), .s (.mbx (.sl .str) a3)] (.s (.v .bool false)) [.box (.sl .str) a2, .box (.sl .str) a3] :=
  SC_of_run cfgOK (its := [.bool false, .bool true])
    (ps := [decide (((List.length a2 : Nat) : Int) > (8 : Int)) = false,
      decide (((a1).size : Int) > (8 : Int)) = true]) (by kernel_rfl) ⟨(decide_eq_false h1), (decide_eq_true h2), trivial⟩ get_impl_cutUp (by decide)

-- impl_cutUp: append to ('v', ('sl', 'str'), 'a2') at "l4_map.go:278" call   [decide (((List.length a2 : Nat) : Int) > (8 : Int))=False; decide (((a1).size : Int) > (8 : Int))=False]

-- impl_cutUp: two mutable args at "l4_map.go:282" call   [decide (((List.length a2 : Nat) : Int) > (8 : Int))=False; decide (((a1).size : Int) > (8 : Int))=False]

end Go.AI
