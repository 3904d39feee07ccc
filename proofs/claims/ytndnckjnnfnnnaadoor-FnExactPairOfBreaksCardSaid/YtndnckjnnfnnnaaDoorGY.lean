/- A part of the road: what it proves stands in its last texts. -/
import Derived.Test.YtndnckjnnfnnnaaDoorSIds
import Derived.Test.YtndnckjnnfnnnaaDoorProg
set_option autoImplicit false
set_option maxRecDepth 100000
set_option linter.unusedVariables false
namespace Go.AI
open Go.Proofs

/-! ### spec_TreeWith -/


theorem spec_TreeWith_p1 (a0 : (List ByteArray))
    (h1 : ((List.length a0 : Nat) : Int) > (9 : Int)) :
    SC cfg.P i_spec_TreeWith [.s (.v (.sl .str) a0)] (.tup [.v .str (⟨#[]⟩ : ByteArray), .v .bool false]) [] :=
  SC_of_run cfgOK (its := [.bool true])
    (ps := [decide (((List.length a0 : Nat) : Int) > (9 : Int)) = true]) (by kernel_rfl) ⟨(decide_eq_true h1), trivial⟩ get_spec_TreeWith (by decide)

theorem spec_TreeWith_p2 (a0 : (List ByteArray)) (c1a : ByteArray) (c1b : Int)
    (h1 : ¬ (((List.length a0 : Nat) : Int) > (9 : Int)))
    (h2 : SC cfg.P i_spec_trWith [.s (.v (.sl .str) a0), .s (.v .str (⟨#[]⟩ : ByteArray))] (.tup [.v .str c1a, .v (.int .i64) c1b]) [])
    (h3 : c1b = (0 : Int)) :
    SC cfg.P i_spec_TreeWith [.s (.v (.sl .str) a0)] (.tup [.v .str (⟨#[]⟩ : ByteArray), .v .bool false]) [] :=
  SC_of_run cfgOK (its := [.bool false, .res (.tup [.v .str c1a, .v (.int .i64) c1b]) [] [] [], .bool true])
    (ps := [decide (((List.length a0 : Nat) : Int) > (9 : Int)) = false,
      SC cfg.P i_spec_trWith [.s (.v (.sl .str) a0), .s (.v .str (⟨#[]⟩ : ByteArray))] (.tup [.v .str c1a, .v (.int .i64) c1b]) [],
      (c1b == (0 : Int)) = true]) (by kernel_rfl) ⟨(decide_eq_false h1), h2, (beq_iff_eq.mpr h3), trivial⟩ get_spec_TreeWith (by decide)

theorem spec_TreeWith_p3 (a0 : (List ByteArray)) (c1a : ByteArray) (c1b : Int)
    (h1 : ¬ (((List.length a0 : Nat) : Int) > (9 : Int)))
    (h2 : SC cfg.P i_spec_trWith [.s (.v (.sl .str) a0), .s (.v .str (⟨#[]⟩ : ByteArray))] (.tup [.v .str c1a, .v (.int .i64) c1b]) [])
    (h3 : c1b ≠ (0 : Int))
    (h4 : c1b ≠ ((List.length a0 : Nat) : Int)) :
    SC cfg.P i_spec_TreeWith [.s (.v (.sl .str) a0)] (.tup [.v .str (⟨#[]⟩ : ByteArray), .v .bool false]) [] :=
  SC_of_run cfgOK (its := [.bool false, .res (.tup [.v .str c1a, .v (.int .i64) c1b]) [] [] [], .bool false, .bool true])
    (ps := [decide (((List.length a0 : Nat) : Int) > (9 : Int)) = false,
      SC cfg.P i_spec_trWith [.s (.v (.sl .str) a0), .s (.v .str (⟨#[]⟩ : ByteArray))] (.tup [.v .str c1a, .v (.int .i64) c1b]) [],
      (c1b == (0 : Int)) = false,
      (c1b != ((List.length a0 : Nat) : Int)) = true]) (by kernel_rfl) ⟨(decide_eq_false h1), h2, (beq_eq_false_iff_ne.mpr h3), (bne_iff_ne.mpr h4), trivial⟩ get_spec_TreeWith (by decide)

theorem spec_TreeWith_p4 (a0 : (List ByteArray)) (c1a : ByteArray) (c1b : Int)
    (h1 : ¬ (((List.length a0 : Nat) : Int) > (9 : Int)))
    (h2 : SC cfg.P i_spec_trWith [.s (.v (.sl .str) a0), .s (.v .str (⟨#[]⟩ : ByteArray))] (.tup [.v .str c1a, .v (.int .i64) c1b]) [])
    (h3 : c1b ≠ (0 : Int))
    (h4 : c1b = ((List.length a0 : Nat) : Int)) :
    SC cfg.P i_spec_TreeWith [.s (.v (.sl .str) a0)] (.tup [.v .str c1a, .v .bool true]) [] :=
  SC_of_run cfgOK (its := [.bool false, .res (.tup [.v .str c1a, .v (.int .i64) c1b]) [] [] [], .bool false, .bool false])
    (ps := [decide (((List.length a0 : Nat) : Int) > (9 : Int)) = false,
      SC cfg.P i_spec_trWith [.s (.v (.sl .str) a0), .s (.v .str (⟨#[]⟩ : ByteArray))] (.tup [.v .str c1a, .v (.int .i64) c1b]) [],
      (c1b == (0 : Int)) = false,
      (c1b != ((List.length a0 : Nat) : Int)) = false]) (by kernel_rfl) ⟨(decide_eq_false h1), h2, (beq_eq_false_iff_ne.mpr h3), (bne_eq_false_iff_eq.mpr h4), trivial⟩ get_spec_TreeWith (by decide)

/-! ### impl_lowest -/


def impl_lowest_L0a (x0 : Int) (x1 : Int) (x6 : Int) (x7 : Int) : St := mkSt 22 [(0, .s (.v (.int .i64) x0)), (1, .s (.v (.int .i64) x1)), (6, .s (.v (.int .i64) x6)), (7, .s (.v (.int .i64) x7))] []

def impl_lowest_L0X1 (y0 : Int) (y1 : Int) (y6 : Int) (y7 : Int) (y11 : Bool) : St := mkSt 22 [(0, .s (.v (.int .i64) y0)), (1, .s (.v (.int .i64) y1)), (6, .s (.v (.int .i64) y6)), (7, .s (.v (.int .i64) y7)), (11, .s (.v .bool y11))] []

theorem impl_lowest_L0a_i1 (x0 : Int) (x1 : Int) (x6 : Int) (x7 : Int)
    (h1 : x7 > (0 : Int))
    (h2 : x7 ≠ 0)
    {e : AEx} {st : St} (next : LoopSC cfg.P 2 (lb P_impl_lowest 0) (impl_lowest_L0a x0 x1 x7 (Int.tmod x6 x7)) e st) :
    LoopSC cfg.P 2 (lb P_impl_lowest 0) (impl_lowest_L0a x0 x1 x6 x7) e st :=
  loop_iter cfgOK (f := i_impl_lowest) (its := [.bool true])
    (ps := [decide (x7 > (0 : Int)) = true,
      x7 ≠ 0]) (st1 := impl_lowest_L0a x0 x1 x7 (Int.tmod x6 x7)) (by kernel_rfl) ⟨(decide_eq_true h1), h2, trivial⟩ next

theorem impl_lowest_L0a_x2 (x0 : Int) (x1 : Int) (x6 : Int) (x7 : Int)
    (h1 : ¬ (x7 > (0 : Int))) :
    LoopSC cfg.P 2 (lb P_impl_lowest 0) (impl_lowest_L0a x0 x1 x6 x7) (.exit 0) (impl_lowest_L0X1 x0 x1 x6 x7 false) :=
  loop_out cfgOK (f := i_impl_lowest) (its := [.bool false])
    (ps := [decide (x7 > (0 : Int)) = false]) (by kernel_rfl) ⟨(decide_eq_false h1), trivial⟩ (fun h => by cases h)

theorem impl_lowest_p1 (a0 : Int) (a1 : Int) (k1y0 : Int) (k1y1 : Int) (k1y6 : Int) (k1y7 : Int) (k1y11 : Bool)
    (h1 : LoopSC cfg.P 2 (lb P_impl_lowest 0) (impl_lowest_L0a a0 a1 a0 a1) (.exit 0) (impl_lowest_L0X1 k1y0 k1y1 k1y6 k1y7 k1y11))
    (h2 : k1y6 ≠ 0) :
    SC cfg.P i_impl_lowest [.s (.v (.int .i64) a0), .s (.v (.int .i64) a1)] (.tup [.v (.int .i64) (IntKind.wrap .i64 (Int.tdiv k1y0 k1y6)), .v (.int .i64) (IntKind.wrap .i64 (Int.tdiv k1y1 k1y6))]) [] :=
  SC_of_run cfgOK (its := [.loop (fun _ => (.exit 0, impl_lowest_L0X1 k1y0 k1y1 k1y6 k1y7 k1y11))])
    (ps := [LoopSC cfg.P 2 (lb P_impl_lowest 0) (impl_lowest_L0a a0 a1 a0 a1) (.exit 0) (impl_lowest_L0X1 k1y0 k1y1 k1y6 k1y7 k1y11),
      k1y6 ≠ 0,
      k1y6 ≠ 0]) (by kernel_rfl) ⟨h1, h2, h2, trivial⟩ get_impl_lowest (by decide)

/-! ### impl_bent -/


def impl_bent_L0a (x0 : (List (Int × Int))) (x4 : Int) (xo12 : (List (Int × Int))) : St := mkSt 98 [(0, .s (.v (.sl (.pr (.int .i64) (.int .i64))) x0)), (3, .s (.osl 12 0)), (4, .s (.v (.int .i64) x4))] [(12, .row t_impl_spot (.pr (.int .i64) (.int .i64)) xo12 0 false)]

def impl_bent_L0X1 (y0 : (List (Int × Int))) (y4 : Int) (y16 : Bool) (yo12 : (List (Int × Int))) : St := mkSt 98 [(0, .s (.v (.sl (.pr (.int .i64) (.int .i64))) y0)), (3, .s (.osl 12 0)), (4, .s (.v (.int .i64) y4)), (16, .s (.v .bool y16))] [(12, .row t_impl_spot (.pr (.int .i64) (.int .i64)) yo12 0 false)]

theorem impl_bent_L0a_i1 (x0 : (List (Int × Int))) (x4 : Int) (xo12 : (List (Int × Int))) (dc1a : Int) (dc1b : Int) (dc2a : Int) (dc2b : Int)
    (h1 : x4 < ((List.length x0 : Nat) : Int))
    (h2 : (IntKind.wrap .i64 (x4 + (1 : Int))) < ((List.length x0 : Nat) : Int))
    (h3 : 0 ≤ x4)
    (h4 : x4 < (List.length x0 : Int))
    (h5 : 0 ≤ (IntKind.wrap .i64 (((List.length xo12 : Nat) : Int) - (1 : Int))))
    (h6 : (IntKind.wrap .i64 (((List.length xo12 : Nat) : Int) - (1 : Int))) < (List.length xo12 : Int))
    (h7 : ((IntKind.wrap .i64 (((List.length xo12 : Nat) : Int) - (1 : Int)))).toNat < List.length xo12)
    (h8 : SC cfg.P i_impl_lowest [.s (.v (.int .i64) (IntKind.wrap .i64 ((List.getD x0 (x4).toNat ((0 : Int), (0 : Int))).1 - (List.getD xo12 ((IntKind.wrap .i64 (((List.length xo12 : Nat) : Int) - (1 : Int)))).toNat ((0 : Int), (0 : Int))).1))), .s (.v (.int .i64) (IntKind.wrap .i64 ((List.getD x0 (x4).toNat ((0 : Int), (0 : Int))).2 - (List.getD xo12 ((IntKind.wrap .i64 (((List.length xo12 : Nat) : Int) - (1 : Int)))).toNat ((0 : Int), (0 : Int))).2)))] (.tup [.v (.int .i64) dc1a, .v (.int .i64) dc1b]) [])
    (h9 : 0 ≤ (IntKind.wrap .i64 (x4 + (1 : Int))))
    (h10 : (IntKind.wrap .i64 (x4 + (1 : Int))) < (List.length x0 : Int))
    (h11 : SC cfg.P i_impl_lowest [.s (.v (.int .i64) (IntKind.wrap .i64 ((List.getD x0 ((IntKind.wrap .i64 (x4 + (1 : Int)))).toNat ((0 : Int), (0 : Int))).1 - (List.getD x0 (x4).toNat ((0 : Int), (0 : Int))).1))), .s (.v (.int .i64) (IntKind.wrap .i64 ((List.getD x0 ((IntKind.wrap .i64 (x4 + (1 : Int)))).toNat ((0 : Int), (0 : Int))).2 - (List.getD x0 (x4).toNat ((0 : Int), (0 : Int))).2)))] (.tup [.v (.int .i64) dc2a, .v (.int .i64) dc2b]) [])
    (h12 : dc1a = dc2a)
    (h13 : dc1b = dc2b)
    {e : AEx} {st : St} (next : LoopSC cfg.P 1 (lb P_impl_bent 0) (impl_bent_L0a x0 (IntKind.wrap .i64 (x4 + (1 : Int))) xo12) e st) :
    LoopSC cfg.P 1 (lb P_impl_bent 0) (impl_bent_L0a x0 x4 xo12) e st :=
  loop_iter cfgOK (f := i_impl_bent) (its := [.bool true, .bool true, .res (.tup [.v (.int .i64) dc1a, .v (.int .i64) dc1b]) [] [] [], .res (.tup [.v (.int .i64) dc2a, .v (.int .i64) dc2b]) [] [] [], .bool true, .bool true])
    (ps := [decide (x4 < ((List.length x0 : Nat) : Int)) = true,
      decide ((IntKind.wrap .i64 (x4 + (1 : Int))) < ((List.length x0 : Nat) : Int)) = true,
      0 ≤ x4,
      x4 < (List.length x0 : Int),
      0 ≤ (IntKind.wrap .i64 (((List.length xo12 : Nat) : Int) - (1 : Int))),
      (IntKind.wrap .i64 (((List.length xo12 : Nat) : Int) - (1 : Int))) < (List.length xo12 : Int),
      ((IntKind.wrap .i64 (((List.length xo12 : Nat) : Int) - (1 : Int)))).toNat < List.length xo12,
      0 ≤ x4,
      x4 < (List.length x0 : Int),
      0 ≤ (IntKind.wrap .i64 (((List.length xo12 : Nat) : Int) - (1 : Int))),
      (IntKind.wrap .i64 (((List.length xo12 : Nat) : Int) - (1 : Int))) < (List.length xo12 : Int),
      ((IntKind.wrap .i64 (((List.length xo12 : Nat) : Int) - (1 : Int)))).toNat < List.length xo12,
      SC cfg.P i_impl_lowest [.s (.v (.int .i64) (IntKind.wrap .i64 ((List.getD x0 (x4).toNat ((0 : Int), (0 : Int))).1 - (List.getD xo12 ((IntKind.wrap .i64 (((List.length xo12 : Nat) : Int) - (1 : Int)))).toNat ((0 : Int), (0 : Int))).1))), .s (.v (.int .i64) (IntKind.wrap .i64 ((List.getD x0 (x4).toNat ((0 : Int), (0 : Int))).2 - (List.getD xo12 ((IntKind.wrap .i64 (((List.length xo12 : Nat) : Int) - (1 : Int)))).toNat ((0 : Int), (0 : Int))).2)))] (.tup [.v (.int .i64) dc1a, .v (.int .i64) dc1b]) [],
      0 ≤ (IntKind.wrap .i64 (x4 + (1 : Int))),
      (IntKind.wrap .i64 (x4 + (1 : Int))) < (List.length x0 : Int),
      0 ≤ x4,
      x4 < (List.length x0 : Int),
      0 ≤ (IntKind.wrap .i64 (x4 + (1 : Int))),
      (IntKind.wrap .i64 (x4 + (1 : Int))) < (List.length x0 : Int),
      0 ≤ x4,
      x4 < (List.length x0 : Int),
      SC cfg.P i_impl_lowest [.s (.v (.int .i64) (IntKind.wrap .i64 ((List.getD x0 ((IntKind.wrap .i64 (x4 + (1 : Int)))).toNat ((0 : Int), (0 : Int))).1 - (List.getD x0 (x4).toNat ((0 : Int), (0 : Int))).1))), .s (.v (.int .i64) (IntKind.wrap .i64 ((List.getD x0 ((IntKind.wrap .i64 (x4 + (1 : Int)))).toNat ((0 : Int), (0 : Int))).2 - (List.getD x0 (x4).toNat ((0 : Int), (0 : Int))).2)))] (.tup [.v (.int .i64) dc2a, .v (.int .i64) dc2b]) [],
      (dc1a == dc2a) = true,
      (dc1b == dc2b) = true]) (st1 := impl_bent_L0a x0 (IntKind.wrap .i64 (x4 + (1 : Int))) xo12) (by kernel_rfl) ⟨(decide_eq_true h1), (decide_eq_true h2), h3, h4, h5, h6, h7, h3, h4, h5, h6, h7, h8, h9, h10, h3, h4, h9, h10, h3, h4, h11, (beq_iff_eq.mpr h12), (beq_iff_eq.mpr h13), trivial⟩ next

theorem impl_bent_L0a_i2 (x0 : (List (Int × Int))) (x4 : Int) (xo12 : (List (Int × Int))) (dc1a : Int) (dc1b : Int) (dc2a : Int) (dc2b : Int)
    (h1 : x4 < ((List.length x0 : Nat) : Int))
    (h2 : (IntKind.wrap .i64 (x4 + (1 : Int))) < ((List.length x0 : Nat) : Int))
    (h3 : 0 ≤ x4)
    (h4 : x4 < (List.length x0 : Int))
    (h5 : 0 ≤ (IntKind.wrap .i64 (((List.length xo12 : Nat) : Int) - (1 : Int))))
    (h6 : (IntKind.wrap .i64 (((List.length xo12 : Nat) : Int) - (1 : Int))) < (List.length xo12 : Int))
    (h7 : ((IntKind.wrap .i64 (((List.length xo12 : Nat) : Int) - (1 : Int)))).toNat < List.length xo12)
    (h8 : SC cfg.P i_impl_lowest [.s (.v (.int .i64) (IntKind.wrap .i64 ((List.getD x0 (x4).toNat ((0 : Int), (0 : Int))).1 - (List.getD xo12 ((IntKind.wrap .i64 (((List.length xo12 : Nat) : Int) - (1 : Int)))).toNat ((0 : Int), (0 : Int))).1))), .s (.v (.int .i64) (IntKind.wrap .i64 ((List.getD x0 (x4).toNat ((0 : Int), (0 : Int))).2 - (List.getD xo12 ((IntKind.wrap .i64 (((List.length xo12 : Nat) : Int) - (1 : Int)))).toNat ((0 : Int), (0 : Int))).2)))] (.tup [.v (.int .i64) dc1a, .v (.int .i64) dc1b]) [])
    (h9 : 0 ≤ (IntKind.wrap .i64 (x4 + (1 : Int))))
    (h10 : (IntKind.wrap .i64 (x4 + (1 : Int))) < (List.length x0 : Int))
    (h11 : SC cfg.P i_impl_lowest [.s (.v (.int .i64) (IntKind.wrap .i64 ((List.getD x0 ((IntKind.wrap .i64 (x4 + (1 : Int)))).toNat ((0 : Int), (0 : Int))).1 - (List.getD x0 (x4).toNat ((0 : Int), (0 : Int))).1))), .s (.v (.int .i64) (IntKind.wrap .i64 ((List.getD x0 ((IntKind.wrap .i64 (x4 + (1 : Int)))).toNat ((0 : Int), (0 : Int))).2 - (List.getD x0 (x4).toNat ((0 : Int), (0 : Int))).2)))] (.tup [.v (.int .i64) dc2a, .v (.int .i64) dc2b]) [])
    (h12 : dc1a = dc2a)
    (h13 : dc1b ≠ dc2b)
    (h14 : sizeOK (List.length xo12 + List.length ([(List.getD x0 (x4).toNat ((0 : Int), (0 : Int)))] : List (Int × Int))))
    {e : AEx} {st : St} (next : LoopSC cfg.P 1 (lb P_impl_bent 0) (impl_bent_L0a x0 (IntKind.wrap .i64 (x4 + (1 : Int))) (xo12 ++ ([(List.getD x0 (x4).toNat ((0 : Int), (0 : Int)))] : List (Int × Int)))) e st) :
    LoopSC cfg.P 1 (lb P_impl_bent 0) (impl_bent_L0a x0 x4 xo12) e st :=
  loop_iter cfgOK (f := i_impl_bent) (its := [.bool true, .bool true, .res (.tup [.v (.int .i64) dc1a, .v (.int .i64) dc1b]) [] [] [], .res (.tup [.v (.int .i64) dc2a, .v (.int .i64) dc2b]) [] [] [], .bool true, .bool false])
    (ps := [decide (x4 < ((List.length x0 : Nat) : Int)) = true,
      decide ((IntKind.wrap .i64 (x4 + (1 : Int))) < ((List.length x0 : Nat) : Int)) = true,
      0 ≤ x4,
      x4 < (List.length x0 : Int),
      0 ≤ (IntKind.wrap .i64 (((List.length xo12 : Nat) : Int) - (1 : Int))),
      (IntKind.wrap .i64 (((List.length xo12 : Nat) : Int) - (1 : Int))) < (List.length xo12 : Int),
      ((IntKind.wrap .i64 (((List.length xo12 : Nat) : Int) - (1 : Int)))).toNat < List.length xo12,
      0 ≤ x4,
      x4 < (List.length x0 : Int),
      0 ≤ (IntKind.wrap .i64 (((List.length xo12 : Nat) : Int) - (1 : Int))),
      (IntKind.wrap .i64 (((List.length xo12 : Nat) : Int) - (1 : Int))) < (List.length xo12 : Int),
      ((IntKind.wrap .i64 (((List.length xo12 : Nat) : Int) - (1 : Int)))).toNat < List.length xo12,
      SC cfg.P i_impl_lowest [.s (.v (.int .i64) (IntKind.wrap .i64 ((List.getD x0 (x4).toNat ((0 : Int), (0 : Int))).1 - (List.getD xo12 ((IntKind.wrap .i64 (((List.length xo12 : Nat) : Int) - (1 : Int)))).toNat ((0 : Int), (0 : Int))).1))), .s (.v (.int .i64) (IntKind.wrap .i64 ((List.getD x0 (x4).toNat ((0 : Int), (0 : Int))).2 - (List.getD xo12 ((IntKind.wrap .i64 (((List.length xo12 : Nat) : Int) - (1 : Int)))).toNat ((0 : Int), (0 : Int))).2)))] (.tup [.v (.int .i64) dc1a, .v (.int .i64) dc1b]) [],
      0 ≤ (IntKind.wrap .i64 (x4 + (1 : Int))),
      (IntKind.wrap .i64 (x4 + (1 : Int))) < (List.length x0 : Int),
      0 ≤ x4,
      x4 < (List.length x0 : Int),
      0 ≤ (IntKind.wrap .i64 (x4 + (1 : Int))),
      (IntKind.wrap .i64 (x4 + (1 : Int))) < (List.length x0 : Int),
      0 ≤ x4,
      x4 < (List.length x0 : Int),
      SC cfg.P i_impl_lowest [.s (.v (.int .i64) (IntKind.wrap .i64 ((List.getD x0 ((IntKind.wrap .i64 (x4 + (1 : Int)))).toNat ((0 : Int), (0 : Int))).1 - (List.getD x0 (x4).toNat ((0 : Int), (0 : Int))).1))), .s (.v (.int .i64) (IntKind.wrap .i64 ((List.getD x0 ((IntKind.wrap .i64 (x4 + (1 : Int)))).toNat ((0 : Int), (0 : Int))).2 - (List.getD x0 (x4).toNat ((0 : Int), (0 : Int))).2)))] (.tup [.v (.int .i64) dc2a, .v (.int .i64) dc2b]) [],
      (dc1a == dc2a) = true,
      (dc1b == dc2b) = false,
      0 ≤ x4,
      x4 < (List.length x0 : Int),
      sizeOK (List.length xo12 + List.length ([(List.getD x0 (x4).toNat ((0 : Int), (0 : Int)))] : List (Int × Int)))]) (st1 := impl_bent_L0a x0 (IntKind.wrap .i64 (x4 + (1 : Int))) (xo12 ++ ([(List.getD x0 (x4).toNat ((0 : Int), (0 : Int)))] : List (Int × Int)))) (by kernel_rfl) ⟨(decide_eq_true h1), (decide_eq_true h2), h3, h4, h5, h6, h7, h3, h4, h5, h6, h7, h8, h9, h10, h3, h4, h9, h10, h3, h4, h11, (beq_iff_eq.mpr h12), (beq_eq_false_iff_ne.mpr h13), h3, h4, h14, trivial⟩ next

theorem impl_bent_L0a_i3 (x0 : (List (Int × Int))) (x4 : Int) (xo12 : (List (Int × Int))) (dc1a : Int) (dc1b : Int) (dc2a : Int) (dc2b : Int)
    (h1 : x4 < ((List.length x0 : Nat) : Int))
    (h2 : (IntKind.wrap .i64 (x4 + (1 : Int))) < ((List.length x0 : Nat) : Int))
    (h3 : 0 ≤ x4)
    (h4 : x4 < (List.length x0 : Int))
    (h5 : 0 ≤ (IntKind.wrap .i64 (((List.length xo12 : Nat) : Int) - (1 : Int))))
    (h6 : (IntKind.wrap .i64 (((List.length xo12 : Nat) : Int) - (1 : Int))) < (List.length xo12 : Int))
    (h7 : ((IntKind.wrap .i64 (((List.length xo12 : Nat) : Int) - (1 : Int)))).toNat < List.length xo12)
    (h8 : SC cfg.P i_impl_lowest [.s (.v (.int .i64) (IntKind.wrap .i64 ((List.getD x0 (x4).toNat ((0 : Int), (0 : Int))).1 - (List.getD xo12 ((IntKind.wrap .i64 (((List.length xo12 : Nat) : Int) - (1 : Int)))).toNat ((0 : Int), (0 : Int))).1))), .s (.v (.int .i64) (IntKind.wrap .i64 ((List.getD x0 (x4).toNat ((0 : Int), (0 : Int))).2 - (List.getD xo12 ((IntKind.wrap .i64 (((List.length xo12 : Nat) : Int) - (1 : Int)))).toNat ((0 : Int), (0 : Int))).2)))] (.tup [.v (.int .i64) dc1a, .v (.int .i64) dc1b]) [])
    (h9 : 0 ≤ (IntKind.wrap .i64 (x4 + (1 : Int))))
    (h10 : (IntKind.wrap .i64 (x4 + (1 : Int))) < (List.length x0 : Int))
    (h11 : SC cfg.P i_impl_lowest [.s (.v (.int .i64) (IntKind.wrap .i64 ((List.getD x0 ((IntKind.wrap .i64 (x4 + (1 : Int)))).toNat ((0 : Int), (0 : Int))).1 - (List.getD x0 (x4).toNat ((0 : Int), (0 : Int))).1))), .s (.v (.int .i64) (IntKind.wrap .i64 ((List.getD x0 ((IntKind.wrap .i64 (x4 + (1 : Int)))).toNat ((0 : Int), (0 : Int))).2 - (List.getD x0 (x4).toNat ((0 : Int), (0 : Int))).2)))] (.tup [.v (.int .i64) dc2a, .v (.int .i64) dc2b]) [])
    (h12 : dc1a ≠ dc2a)
    (h13 : sizeOK (List.length xo12 + List.length ([(List.getD x0 (x4).toNat ((0 : Int), (0 : Int)))] : List (Int × Int))))
    {e : AEx} {st : St} (next : LoopSC cfg.P 1 (lb P_impl_bent 0) (impl_bent_L0a x0 (IntKind.wrap .i64 (x4 + (1 : Int))) (xo12 ++ ([(List.getD x0 (x4).toNat ((0 : Int), (0 : Int)))] : List (Int × Int)))) e st) :
    LoopSC cfg.P 1 (lb P_impl_bent 0) (impl_bent_L0a x0 x4 xo12) e st :=
  loop_iter cfgOK (f := i_impl_bent) (its := [.bool true, .bool true, .res (.tup [.v (.int .i64) dc1a, .v (.int .i64) dc1b]) [] [] [], .res (.tup [.v (.int .i64) dc2a, .v (.int .i64) dc2b]) [] [] [], .bool false])
    (ps := [decide (x4 < ((List.length x0 : Nat) : Int)) = true,
      decide ((IntKind.wrap .i64 (x4 + (1 : Int))) < ((List.length x0 : Nat) : Int)) = true,
      0 ≤ x4,
      x4 < (List.length x0 : Int),
      0 ≤ (IntKind.wrap .i64 (((List.length xo12 : Nat) : Int) - (1 : Int))),
      (IntKind.wrap .i64 (((List.length xo12 : Nat) : Int) - (1 : Int))) < (List.length xo12 : Int),
      ((IntKind.wrap .i64 (((List.length xo12 : Nat) : Int) - (1 : Int)))).toNat < List.length xo12,
      0 ≤ x4,
      x4 < (List.length x0 : Int),
      0 ≤ (IntKind.wrap .i64 (((List.length xo12 : Nat) : Int) - (1 : Int))),
      (IntKind.wrap .i64 (((List.length xo12 : Nat) : Int) - (1 : Int))) < (List.length xo12 : Int),
      ((IntKind.wrap .i64 (((List.length xo12 : Nat) : Int) - (1 : Int)))).toNat < List.length xo12,
      SC cfg.P i_impl_lowest [.s (.v (.int .i64) (IntKind.wrap .i64 ((List.getD x0 (x4).toNat ((0 : Int), (0 : Int))).1 - (List.getD xo12 ((IntKind.wrap .i64 (((List.length xo12 : Nat) : Int) - (1 : Int)))).toNat ((0 : Int), (0 : Int))).1))), .s (.v (.int .i64) (IntKind.wrap .i64 ((List.getD x0 (x4).toNat ((0 : Int), (0 : Int))).2 - (List.getD xo12 ((IntKind.wrap .i64 (((List.length xo12 : Nat) : Int) - (1 : Int)))).toNat ((0 : Int), (0 : Int))).2)))] (.tup [.v (.int .i64) dc1a, .v (.int .i64) dc1b]) [],
      0 ≤ (IntKind.wrap .i64 (x4 + (1 : Int))),
      (IntKind.wrap .i64 (x4 + (1 : Int))) < (List.length x0 : Int),
      0 ≤ x4,
      x4 < (List.length x0 : Int),
      0 ≤ (IntKind.wrap .i64 (x4 + (1 : Int))),
      (IntKind.wrap .i64 (x4 + (1 : Int))) < (List.length x0 : Int),
      0 ≤ x4,
      x4 < (List.length x0 : Int),
      SC cfg.P i_impl_lowest [.s (.v (.int .i64) (IntKind.wrap .i64 ((List.getD x0 ((IntKind.wrap .i64 (x4 + (1 : Int)))).toNat ((0 : Int), (0 : Int))).1 - (List.getD x0 (x4).toNat ((0 : Int), (0 : Int))).1))), .s (.v (.int .i64) (IntKind.wrap .i64 ((List.getD x0 ((IntKind.wrap .i64 (x4 + (1 : Int)))).toNat ((0 : Int), (0 : Int))).2 - (List.getD x0 (x4).toNat ((0 : Int), (0 : Int))).2)))] (.tup [.v (.int .i64) dc2a, .v (.int .i64) dc2b]) [],
      (dc1a == dc2a) = false,
      0 ≤ x4,
      x4 < (List.length x0 : Int),
      sizeOK (List.length xo12 + List.length ([(List.getD x0 (x4).toNat ((0 : Int), (0 : Int)))] : List (Int × Int)))]) (st1 := impl_bent_L0a x0 (IntKind.wrap .i64 (x4 + (1 : Int))) (xo12 ++ ([(List.getD x0 (x4).toNat ((0 : Int), (0 : Int)))] : List (Int × Int)))) (by kernel_rfl) ⟨(decide_eq_true h1), (decide_eq_true h2), h3, h4, h5, h6, h7, h3, h4, h5, h6, h7, h8, h9, h10, h3, h4, h9, h10, h3, h4, h11, (beq_eq_false_iff_ne.mpr h12), h3, h4, h13, trivial⟩ next

theorem impl_bent_L0a_i4 (x0 : (List (Int × Int))) (x4 : Int) (xo12 : (List (Int × Int)))
    (h1 : x4 < ((List.length x0 : Nat) : Int))
    (h2 : ¬ ((IntKind.wrap .i64 (x4 + (1 : Int))) < ((List.length x0 : Nat) : Int)))
    (h3 : 0 ≤ x4)
    (h4 : x4 < (List.length x0 : Int))
    (h5 : sizeOK (List.length xo12 + List.length ([(List.getD x0 (x4).toNat ((0 : Int), (0 : Int)))] : List (Int × Int))))
    {e : AEx} {st : St} (next : LoopSC cfg.P 1 (lb P_impl_bent 0) (impl_bent_L0a x0 (IntKind.wrap .i64 (x4 + (1 : Int))) (xo12 ++ ([(List.getD x0 (x4).toNat ((0 : Int), (0 : Int)))] : List (Int × Int)))) e st) :
    LoopSC cfg.P 1 (lb P_impl_bent 0) (impl_bent_L0a x0 x4 xo12) e st :=
  loop_iter cfgOK (f := i_impl_bent) (its := [.bool true, .bool false])
    (ps := [decide (x4 < ((List.length x0 : Nat) : Int)) = true,
      decide ((IntKind.wrap .i64 (x4 + (1 : Int))) < ((List.length x0 : Nat) : Int)) = false,
      0 ≤ x4,
      x4 < (List.length x0 : Int),
      sizeOK (List.length xo12 + List.length ([(List.getD x0 (x4).toNat ((0 : Int), (0 : Int)))] : List (Int × Int)))]) (st1 := impl_bent_L0a x0 (IntKind.wrap .i64 (x4 + (1 : Int))) (xo12 ++ ([(List.getD x0 (x4).toNat ((0 : Int), (0 : Int)))] : List (Int × Int)))) (by kernel_rfl) ⟨(decide_eq_true h1), (decide_eq_false h2), h3, h4, h5, trivial⟩ next

theorem impl_bent_L0a_x5 (x0 : (List (Int × Int))) (x4 : Int) (xo12 : (List (Int × Int)))
    (h1 : ¬ (x4 < ((List.length x0 : Nat) : Int))) :
    LoopSC cfg.P 1 (lb P_impl_bent 0) (impl_bent_L0a x0 x4 xo12) (.exit 0) (impl_bent_L0X1 x0 x4 false xo12) :=
  loop_out cfgOK (f := i_impl_bent) (its := [.bool false])
    (ps := [decide (x4 < ((List.length x0 : Nat) : Int)) = false]) (by kernel_rfl) ⟨(decide_eq_false h1), trivial⟩ (fun h => by cases h)

theorem impl_bent_p1 (a0 : (List (Int × Int))) (k1y0 : (List (Int × Int))) (k1y4 : Int) (k1y16 : Bool) (k1yo12 : (List (Int × Int)))
    (h1 : (0 : Int) < (List.length a0 : Int))
    (h2 : LoopSC cfg.P 1 (lb P_impl_bent 0) (impl_bent_L0a a0 (1 : Int) ([(List.getD a0 ((0 : Int)).toNat ((0 : Int), (0 : Int)))] : List (Int × Int))) (.exit 0) (impl_bent_L0X1 k1y0 k1y4 k1y16 k1yo12)) :
    SC cfg.P i_impl_bent [.s (.v (.sl (.pr (.int .i64) (.int .i64))) a0)] (.s (.own t_impl_spot (.pr (.int .i64) (.int .i64)) k1yo12)) [] :=
  SC_of_run cfgOK (its := [.loop (fun _ => (.exit 0, impl_bent_L0X1 k1y0 k1y4 k1y16 k1yo12))])
    (ps := [0 ≤ (0 : Int),
      (0 : Int) < (List.length a0 : Int),
      LoopSC cfg.P 1 (lb P_impl_bent 0) (impl_bent_L0a a0 (1 : Int) ([(List.getD a0 ((0 : Int)).toNat ((0 : Int), (0 : Int)))] : List (Int × Int))) (.exit 0) (impl_bent_L0X1 k1y0 k1y4 k1y16 k1yo12)]) (by kernel_rfl) ⟨(by decide), h1, h2, trivial⟩ get_impl_bent (by decide)

/-! ### impl_treeWith -/


def impl_treeWith_L0a (x0 : (List ByteArray)) (x4 : Tr) (x7 : (List ByteArray)) (x8 : Int) (x9 : Int) : St := mkSt 22 [(0, .s (.v (.sl .str) x0)), (4, .s (.v .tree x4)), (7, .s (.v (.sl .str) x7)), (8, .s (.v (.int .i64) x8)), (9, .s (.v (.int .i64) x9))] []

def impl_treeWith_L0X1 (y0 : (List ByteArray)) (y4 : Tr) (y7 : (List ByteArray)) (y8 : Int) (y9 : Int) (y10 : Bool) : St := mkSt 22 [(0, .s (.v (.sl .str) y0)), (4, .s (.v .tree y4)), (7, .s (.v (.sl .str) y7)), (8, .s (.v (.int .i64) y8)), (9, .s (.v (.int .i64) y9)), (10, .s (.v .bool y10))] []

theorem impl_treeWith_L0a_i1 (x0 : (List ByteArray)) (x4 : Tr) (x7 : (List ByteArray)) (x8 : Int) (x9 : Int) (dc1 : Tr)
    (h1 : x9 < x8)
    (h2 : 0 ≤ x9)
    (h3 : x9 < (List.length x7 : Int))
    (h4 : SC cfg.P i_impl_node_put [.s (.v .tree x4), .s (.v .str (List.getD x7 (x9).toNat (⟨#[]⟩ : ByteArray)))] (.s (.v .tree dc1)) [])
    {e : AEx} {st : St} (next : LoopSC cfg.P 1 (lb P_impl_treeWith 0) (impl_treeWith_L0a x0 dc1 x7 x8 (IntKind.wrap .i64 (x9 + (1 : Int)))) e st) :
    LoopSC cfg.P 1 (lb P_impl_treeWith 0) (impl_treeWith_L0a x0 x4 x7 x8 x9) e st :=
  loop_iter cfgOK (f := i_impl_treeWith) (its := [.bool true, .res (.s (.v .tree dc1)) [] [] []])
    (ps := [decide (x9 < x8) = true,
      0 ≤ x9,
      x9 < (List.length x7 : Int),
      SC cfg.P i_impl_node_put [.s (.v .tree x4), .s (.v .str (List.getD x7 (x9).toNat (⟨#[]⟩ : ByteArray)))] (.s (.v .tree dc1)) []]) (st1 := impl_treeWith_L0a x0 dc1 x7 x8 (IntKind.wrap .i64 (x9 + (1 : Int)))) (by kernel_rfl) ⟨(decide_eq_true h1), h2, h3, h4, trivial⟩ next

theorem impl_treeWith_L0a_x2 (x0 : (List ByteArray)) (x4 : Tr) (x7 : (List ByteArray)) (x8 : Int) (x9 : Int)
    (h1 : ¬ (x9 < x8)) :
    LoopSC cfg.P 1 (lb P_impl_treeWith 0) (impl_treeWith_L0a x0 x4 x7 x8 x9) (.exit 0) (impl_treeWith_L0X1 x0 x4 x7 x8 x9 false) :=
  loop_out cfgOK (f := i_impl_treeWith) (its := [.bool false])
    (ps := [decide (x9 < x8) = false]) (by kernel_rfl) ⟨(decide_eq_false h1), trivial⟩ (fun h => by cases h)

theorem impl_treeWith_p1 (a0 : (List ByteArray)) (k1y0 : (List ByteArray)) (k1y4 : Tr) (k1y7 : (List ByteArray)) (k1y8 : Int) (k1y9 : Int) (k1y10 : Bool) (c1 : (List ByteArray)) (c2 : Bool)
    (h1 : LoopSC cfg.P 1 (lb P_impl_treeWith 0) (impl_treeWith_L0a a0 Tr.leaf a0 ((List.length a0 : Nat) : Int) (0 : Int)) (.exit 0) (impl_treeWith_L0X1 k1y0 k1y4 k1y7 k1y8 k1y9 k1y10))
    (h2 : SC cfg.P i_impl_node_addresses [.s (.v .tree k1y4), .s (.v .str (⟨#[]⟩ : ByteArray))] (.s (.own t_string .str c1)) [])
    (h3 : SC cfg.P i_slices_Equal [.s (.v (.sl .str) c1), .s (.v (.sl .str) k1y0)] (.s (.v .bool c2)) []) :
    SC cfg.P i_impl_treeWith [.s (.v (.sl .str) a0)] (.tup [.v .tree k1y4, .v .bool c2]) [] :=
  SC_of_run cfgOK (its := [.loop (fun _ => (.exit 0, impl_treeWith_L0X1 k1y0 k1y4 k1y7 k1y8 k1y9 k1y10)), .res (.s (.own t_string .str c1)) [] [] [19], .res (.s (.v .bool c2)) [] [] []])
    (ps := [LoopSC cfg.P 1 (lb P_impl_treeWith 0) (impl_treeWith_L0a a0 Tr.leaf a0 ((List.length a0 : Nat) : Int) (0 : Int)) (.exit 0) (impl_treeWith_L0X1 k1y0 k1y4 k1y7 k1y8 k1y9 k1y10),
      SC cfg.P i_impl_node_addresses [.s (.v .tree k1y4), .s (.v .str (⟨#[]⟩ : ByteArray))] (.s (.own t_string .str c1)) [],
      SC cfg.P i_slices_Equal [.s (.v (.sl .str) c1), .s (.v (.sl .str) k1y0)] (.s (.v .bool c2)) []]) (by kernel_rfl) ⟨h1, h2, h3, trivial⟩ get_impl_treeWith (by decide)

/-! ### spec_trWith -/


theorem spec_trWith_p1 (a0 : (List ByteArray)) (a1 : ByteArray)
    (h1 : ((List.length a0 : Nat) : Int) = (0 : Int)) :
    SC cfg.P i_spec_trWith [.s (.v (.sl .str) a0), .s (.v .str a1)] (.tup [.v .str (⟨#[]⟩ : ByteArray), .v (.int .i64) (0 : Int)]) [] :=
  SC_of_run cfgOK (its := [.bool true])
    (ps := [(((List.length a0 : Nat) : Int) == (0 : Int)) = true]) (by kernel_rfl) ⟨(beq_iff_eq.mpr h1), trivial⟩ get_spec_trWith (by decide)

theorem spec_trWith_p2 (a0 : (List ByteArray)) (a1 : ByteArray)
    (h1 : ((List.length a0 : Nat) : Int) ≠ (0 : Int))
    (h2 : ((a1).size : Int) > (8 : Int)) :
    SC cfg.P i_spec_trWith [.s (.v (.sl .str) a0), .s (.v .str a1)] (.tup [.v .str (⟨#[]⟩ : ByteArray), .v (.int .i64) (0 : Int)]) [] :=
  SC_of_run cfgOK (its := [.bool false, .bool true])
    (ps := [(((List.length a0 : Nat) : Int) == (0 : Int)) = false,
      decide (((a1).size : Int) > (8 : Int)) = true]) (by kernel_rfl) ⟨(beq_eq_false_iff_ne.mpr h1), (decide_eq_true h2), trivial⟩ get_spec_trWith (by decide)

theorem spec_trWith_p3 (a0 : (List ByteArray)) (a1 : ByteArray)
    (h1 : ((List.length a0 : Nat) : Int) ≠ (0 : Int))
    (h2 : ¬ (((a1).size : Int) > (8 : Int)))
    (h3 : (0 : Int) < (List.length a0 : Int))
    (h4 : (List.getD a0 ((0 : Int)).toNat (⟨#[]⟩ : ByteArray)) = a1) :
    SC cfg.P i_spec_trWith [.s (.v (.sl .str) a0), .s (.v .str a1)] (.tup [.v .str (⟨#[46]⟩ : ByteArray), .v (.int .i64) (1 : Int)]) [] :=
  SC_of_run cfgOK (its := [.bool false, .bool false, .bool true])
    (ps := [(((List.length a0 : Nat) : Int) == (0 : Int)) = false,
      decide (((a1).size : Int) > (8 : Int)) = false,
      0 ≤ (0 : Int),
      (0 : Int) < (List.length a0 : Int),
      (((List.getD a0 ((0 : Int)).toNat (⟨#[]⟩ : ByteArray))).toList == (a1).toList) = true]) (by kernel_rfl) ⟨(beq_eq_false_iff_ne.mpr h1), (decide_eq_false h2), (by decide), h3, (seq_t h4), trivial⟩ get_spec_trWith (by decide)

theorem spec_trWith_p4 (a0 : (List ByteArray)) (a1 : ByteArray) (c1a : ByteArray) (c1b : Int)
    (h1 : ((List.length a0 : Nat) : Int) ≠ (0 : Int))
    (h2 : ¬ (((a1).size : Int) > (8 : Int)))
    (h3 : (0 : Int) < (List.length a0 : Int))
    (h4 : (List.getD a0 ((0 : Int)).toNat (⟨#[]⟩ : ByteArray)) ≠ a1)
    (h5 : (a1).size + ((⟨#[48]⟩ : ByteArray)).size ≤ 2 ^ 62)
    (h6 : SC cfg.P i_spec_trWith [.s (.v (.sl .str) a0), .s (.v .str (a1 ++ (⟨#[48]⟩ : ByteArray)))] (.tup [.v .str c1a, .v (.int .i64) c1b]) [])
    (h7 : c1b = (0 : Int)) :
    SC cfg.P i_spec_trWith [.s (.v (.sl .str) a0), .s (.v .str a1)] (.tup [.v .str (⟨#[]⟩ : ByteArray), .v (.int .i64) (0 : Int)]) [] :=
  SC_of_run cfgOK (its := [.bool false, .bool false, .bool false, .res (.tup [.v .str c1a, .v (.int .i64) c1b]) [] [] [], .bool true])
    (ps := [(((List.length a0 : Nat) : Int) == (0 : Int)) = false,
      decide (((a1).size : Int) > (8 : Int)) = false,
      0 ≤ (0 : Int),
      (0 : Int) < (List.length a0 : Int),
      (((List.getD a0 ((0 : Int)).toNat (⟨#[]⟩ : ByteArray))).toList == (a1).toList) = false,
      (a1).size + ((⟨#[48]⟩ : ByteArray)).size ≤ 2 ^ 62,
      SC cfg.P i_spec_trWith [.s (.v (.sl .str) a0), .s (.v .str (a1 ++ (⟨#[48]⟩ : ByteArray)))] (.tup [.v .str c1a, .v (.int .i64) c1b]) [],
      (c1b == (0 : Int)) = true]) (by kernel_rfl) ⟨(beq_eq_false_iff_ne.mpr h1), (decide_eq_false h2), (by decide), h3, (seq_f h4), h5, h6, (beq_iff_eq.mpr h7), trivial⟩ get_spec_trWith (by decide)

theorem spec_trWith_p5 (a0 : (List ByteArray)) (a1 : ByteArray) (c1a : ByteArray) (c1b : Int) (c2a : ByteArray) (c2b : Int)
    (h1 : ((List.length a0 : Nat) : Int) ≠ (0 : Int))
    (h2 : ¬ (((a1).size : Int) > (8 : Int)))
    (h3 : (0 : Int) < (List.length a0 : Int))
    (h4 : (List.getD a0 ((0 : Int)).toNat (⟨#[]⟩ : ByteArray)) ≠ a1)
    (h5 : (a1).size + ((⟨#[48]⟩ : ByteArray)).size ≤ 2 ^ 62)
    (h6 : SC cfg.P i_spec_trWith [.s (.v (.sl .str) a0), .s (.v .str (a1 ++ (⟨#[48]⟩ : ByteArray)))] (.tup [.v .str c1a, .v (.int .i64) c1b]) [])
    (h7 : c1b ≠ (0 : Int))
    (h8 : 0 ≤ c1b)
    (h9 : c1b ≤ (List.length a0 : Int))
    (h10 : (a1).size + ((⟨#[49]⟩ : ByteArray)).size ≤ 2 ^ 62)
    (h11 : SC cfg.P i_spec_trWith [.s (.v (.sl .str) (cutL a0 c1b ((List.length a0 : Nat) : Int))), .s (.v .str (a1 ++ (⟨#[49]⟩ : ByteArray)))] (.tup [.v .str c2a, .v (.int .i64) c2b]) [])
    (h12 : c2b = (0 : Int)) :
    SC cfg.P i_spec_trWith [.s (.v (.sl .str) a0), .s (.v .str a1)] (.tup [.v .str (⟨#[]⟩ : ByteArray), .v (.int .i64) (0 : Int)]) [] :=
  SC_of_run cfgOK (its := [.bool false, .bool false, .bool false, .res (.tup [.v .str c1a, .v (.int .i64) c1b]) [] [] [], .bool false, .res (.tup [.v .str c2a, .v (.int .i64) c2b]) [] [] [], .bool true])
    (ps := [(((List.length a0 : Nat) : Int) == (0 : Int)) = false,
      decide (((a1).size : Int) > (8 : Int)) = false,
      0 ≤ (0 : Int),
      (0 : Int) < (List.length a0 : Int),
      (((List.getD a0 ((0 : Int)).toNat (⟨#[]⟩ : ByteArray))).toList == (a1).toList) = false,
      (a1).size + ((⟨#[48]⟩ : ByteArray)).size ≤ 2 ^ 62,
      SC cfg.P i_spec_trWith [.s (.v (.sl .str) a0), .s (.v .str (a1 ++ (⟨#[48]⟩ : ByteArray)))] (.tup [.v .str c1a, .v (.int .i64) c1b]) [],
      (c1b == (0 : Int)) = false,
      0 ≤ c1b,
      c1b ≤ (List.length a0 : Int),
      (a1).size + ((⟨#[49]⟩ : ByteArray)).size ≤ 2 ^ 62,
      SC cfg.P i_spec_trWith [.s (.v (.sl .str) (cutL a0 c1b ((List.length a0 : Nat) : Int))), .s (.v .str (a1 ++ (⟨#[49]⟩ : ByteArray)))] (.tup [.v .str c2a, .v (.int .i64) c2b]) [],
      (c2b == (0 : Int)) = true]) (by kernel_rfl) ⟨(beq_eq_false_iff_ne.mpr h1), (decide_eq_false h2), (by decide), h3, (seq_f h4), h5, h6, (beq_eq_false_iff_ne.mpr h7), h8, h9, h10, h11, (beq_iff_eq.mpr h12), trivial⟩ get_spec_trWith (by decide)

theorem spec_trWith_p6 (a0 : (List ByteArray)) (a1 : ByteArray) (c1a : ByteArray) (c1b : Int) (c2a : ByteArray) (c2b : Int) (c3 : ByteArray)
    (h1 : ((List.length a0 : Nat) : Int) ≠ (0 : Int))
    (h2 : ¬ (((a1).size : Int) > (8 : Int)))
    (h3 : (0 : Int) < (List.length a0 : Int))
    (h4 : (List.getD a0 ((0 : Int)).toNat (⟨#[]⟩ : ByteArray)) ≠ a1)
    (h5 : (a1).size + ((⟨#[48]⟩ : ByteArray)).size ≤ 2 ^ 62)
    (h6 : SC cfg.P i_spec_trWith [.s (.v (.sl .str) a0), .s (.v .str (a1 ++ (⟨#[48]⟩ : ByteArray)))] (.tup [.v .str c1a, .v (.int .i64) c1b]) [])
    (h7 : c1b ≠ (0 : Int))
    (h8 : 0 ≤ c1b)
    (h9 : c1b ≤ (List.length a0 : Int))
    (h10 : (a1).size + ((⟨#[49]⟩ : ByteArray)).size ≤ 2 ^ 62)
    (h11 : SC cfg.P i_spec_trWith [.s (.v (.sl .str) (cutL a0 c1b ((List.length a0 : Nat) : Int))), .s (.v .str (a1 ++ (⟨#[49]⟩ : ByteArray)))] (.tup [.v .str c2a, .v (.int .i64) c2b]) [])
    (h12 : c2b ≠ (0 : Int))
    (h13 : SC cfg.P i_spec_trOf [.s (.v .str c1a), .s (.v .str c2a)] (.s (.v .str c3)) []) :
    SC cfg.P i_spec_trWith [.s (.v (.sl .str) a0), .s (.v .str a1)] (.tup [.v .str c3, .v (.int .i64) (IntKind.wrap .i64 (c1b + c2b))]) [] :=
  SC_of_run cfgOK (its := [.bool false, .bool false, .bool false, .res (.tup [.v .str c1a, .v (.int .i64) c1b]) [] [] [], .bool false, .res (.tup [.v .str c2a, .v (.int .i64) c2b]) [] [] [], .bool false, .res (.s (.v .str c3)) [] [] []])
    (ps := [(((List.length a0 : Nat) : Int) == (0 : Int)) = false,
      decide (((a1).size : Int) > (8 : Int)) = false,
      0 ≤ (0 : Int),
      (0 : Int) < (List.length a0 : Int),
      (((List.getD a0 ((0 : Int)).toNat (⟨#[]⟩ : ByteArray))).toList == (a1).toList) = false,
      (a1).size + ((⟨#[48]⟩ : ByteArray)).size ≤ 2 ^ 62,
      SC cfg.P i_spec_trWith [.s (.v (.sl .str) a0), .s (.v .str (a1 ++ (⟨#[48]⟩ : ByteArray)))] (.tup [.v .str c1a, .v (.int .i64) c1b]) [],
      (c1b == (0 : Int)) = false,
      0 ≤ c1b,
      c1b ≤ (List.length a0 : Int),
      (a1).size + ((⟨#[49]⟩ : ByteArray)).size ≤ 2 ^ 62,
      SC cfg.P i_spec_trWith [.s (.v (.sl .str) (cutL a0 c1b ((List.length a0 : Nat) : Int))), .s (.v .str (a1 ++ (⟨#[49]⟩ : ByteArray)))] (.tup [.v .str c2a, .v (.int .i64) c2b]) [],
      (c2b == (0 : Int)) = false,
      SC cfg.P i_spec_trOf [.s (.v .str c1a), .s (.v .str c2a)] (.s (.v .str c3)) []]) (by kernel_rfl) ⟨(beq_eq_false_iff_ne.mpr h1), (decide_eq_false h2), (by decide), h3, (seq_f h4), h5, h6, (beq_eq_false_iff_ne.mpr h7), h8, h9, h10, h11, (beq_eq_false_iff_ne.mpr h12), h13, trivial⟩ get_spec_trWith (by decide)

/-! ### impl_straight -/


def impl_straight_L0a (x0 : (List (Int × Int))) (x1 : Int) (x2 : Int) (x8 : Int) : St := mkSt 94 [(0, .s (.v (.sl (.pr (.int .i64) (.int .i64))) x0)), (1, .s (.v (.int .i64) x1)), (2, .s (.v (.int .i64) x2)), (8, .s (.v (.int .i64) x8))] []

def impl_straight_L0X1 (y0 : (List (Int × Int))) (y1 : Int) (y2 : Int) (y8 : Int) (y21 : Bool) : St := mkSt 94 [(0, .s (.v (.sl (.pr (.int .i64) (.int .i64))) y0)), (1, .s (.v (.int .i64) y1)), (2, .s (.v (.int .i64) y2)), (8, .s (.v (.int .i64) y8)), (21, .s (.v .bool y21))] []

def impl_straight_L1a (x11 : Int) (x12 : Int) (x13 : ByteArray) (x14 : Int) : St := mkSt 94 [(11, .s (.v (.int .i64) x11)), (12, .s (.v (.int .i64) x12)), (13, .s (.v .str x13)), (14, .s (.v (.int .i64) x14))] []

def impl_straight_L1X1 (y11 : Int) (y12 : Int) (y13 : ByteArray) (y14 : Int) (y83 : Bool) : St := mkSt 94 [(11, .s (.v (.int .i64) y11)), (12, .s (.v (.int .i64) y12)), (13, .s (.v .str y13)), (14, .s (.v (.int .i64) y14)), (83, .s (.v .bool y83))] []

theorem impl_straight_L0a_i1 (x0 : (List (Int × Int))) (x1 : Int) (x2 : Int) (x8 : Int)
    (h1 : 0 ≤ x8)
    (h2 : x8 < (List.length x0 : Int))
    (h3 : (List.getD x0 (x8).toNat ((0 : Int), (0 : Int))).1 ≤ x1)
    {e : AEx} {st : St} (next : LoopSC cfg.P 3 (lb P_impl_straight 0) (impl_straight_L0a x0 x1 x2 (IntKind.wrap .i64 (x8 + (1 : Int)))) e st) :
    LoopSC cfg.P 3 (lb P_impl_straight 0) (impl_straight_L0a x0 x1 x2 x8) e st :=
  loop_iter cfgOK (f := i_impl_straight) (its := [.bool true])
    (ps := [0 ≤ x8,
      x8 < (List.length x0 : Int),
      decide ((List.getD x0 (x8).toNat ((0 : Int), (0 : Int))).1 ≤ x1) = true]) (st1 := impl_straight_L0a x0 x1 x2 (IntKind.wrap .i64 (x8 + (1 : Int)))) (by kernel_rfl) ⟨h1, h2, (decide_eq_true h3), trivial⟩ next

theorem impl_straight_L0a_x2 (x0 : (List (Int × Int))) (x1 : Int) (x2 : Int) (x8 : Int)
    (h1 : 0 ≤ x8)
    (h2 : x8 < (List.length x0 : Int))
    (h3 : ¬ ((List.getD x0 (x8).toNat ((0 : Int), (0 : Int))).1 ≤ x1)) :
    LoopSC cfg.P 3 (lb P_impl_straight 0) (impl_straight_L0a x0 x1 x2 x8) (.exit 0) (impl_straight_L0X1 x0 x1 x2 x8 false) :=
  loop_out cfgOK (f := i_impl_straight) (its := [.bool false])
    (ps := [0 ≤ x8,
      x8 < (List.length x0 : Int),
      decide ((List.getD x0 (x8).toNat ((0 : Int), (0 : Int))).1 ≤ x1) = false]) (by kernel_rfl) ⟨h1, h2, (decide_eq_false h3), trivial⟩ (fun h => by cases h)

theorem impl_straight_L1a_i1 (x11 : Int) (x12 : Int) (x13 : ByteArray) (x14 : Int) (dc1 : ByteArray)
    (h1 : x14 ≥ x12)
    (h2 : x14 ≠ 0)
    (h3 : (2 : Int) ≠ 0)
    (h4 : SC cfg.P i_strconv_Itoa [.s (.v (.int .i64) (Int.tmod (IntKind.wrap .i64 (Int.tdiv x11 x14)) (2 : Int)))] (.s (.v .str dc1)) [])
    (h5 : (x13).size + (dc1).size ≤ 2 ^ 62)
    {e : AEx} {st : St} (next : LoopSC cfg.P 3 (lb P_impl_straight 1) (impl_straight_L1a x11 x12 (x13 ++ dc1) (IntKind.wrap .i64 (Int.tdiv x14 (2 : Int)))) e st) :
    LoopSC cfg.P 3 (lb P_impl_straight 1) (impl_straight_L1a x11 x12 x13 x14) e st :=
  loop_iter cfgOK (f := i_impl_straight) (its := [.bool true, .res (.s (.v .str dc1)) [] [] []])
    (ps := [decide (x14 ≥ x12) = true,
      x14 ≠ 0,
      (2 : Int) ≠ 0,
      SC cfg.P i_strconv_Itoa [.s (.v (.int .i64) (Int.tmod (IntKind.wrap .i64 (Int.tdiv x11 x14)) (2 : Int)))] (.s (.v .str dc1)) [],
      (x13).size + (dc1).size ≤ 2 ^ 62,
      (2 : Int) ≠ 0]) (st1 := impl_straight_L1a x11 x12 (x13 ++ dc1) (IntKind.wrap .i64 (Int.tdiv x14 (2 : Int)))) (by kernel_rfl) ⟨(decide_eq_true h1), h2, h3, h4, h5, h3, trivial⟩ next

theorem impl_straight_L1a_x2 (x11 : Int) (x12 : Int) (x13 : ByteArray) (x14 : Int)
    (h1 : ¬ (x14 ≥ x12)) :
    LoopSC cfg.P 3 (lb P_impl_straight 1) (impl_straight_L1a x11 x12 x13 x14) (.exit 2) (impl_straight_L1X1 x11 x12 x13 x14 false) :=
  loop_out cfgOK (f := i_impl_straight) (its := [.bool false])
    (ps := [decide (x14 ≥ x12) = false]) (by kernel_rfl) ⟨(decide_eq_false h1), trivial⟩ (fun h => by cases h)

theorem impl_straight_p1 (a0 : (List (Int × Int))) (a1 : Int) (a2 : Int) (k1y0 : (List (Int × Int))) (k1y1 : Int) (k1y2 : Int) (k1y8 : Int) (k1y21 : Bool)
    (h1 : LoopSC cfg.P 3 (lb P_impl_straight 0) (impl_straight_L0a a0 a1 a2 (1 : Int)) (.exit 0) (impl_straight_L0X1 k1y0 k1y1 k1y2 k1y8 k1y21))
    (h2 : 0 ≤ k1y8)
    (h3 : k1y8 < (List.length k1y0 : Int))
    (h4 : (List.getD k1y0 (k1y8).toNat ((0 : Int), (0 : Int))).1 < k1y2) :
    SC cfg.P i_impl_straight [.s (.v (.sl (.pr (.int .i64) (.int .i64))) a0), .s (.v (.int .i64) a1), .s (.v (.int .i64) a2)] (.tup [.v .str (⟨#[]⟩ : ByteArray), .v .bool false]) [] :=
  SC_of_run cfgOK (its := [.loop (fun _ => (.exit 0, impl_straight_L0X1 k1y0 k1y1 k1y2 k1y8 k1y21)), .bool true])
    (ps := [LoopSC cfg.P 3 (lb P_impl_straight 0) (impl_straight_L0a a0 a1 a2 (1 : Int)) (.exit 0) (impl_straight_L0X1 k1y0 k1y1 k1y2 k1y8 k1y21),
      0 ≤ k1y8,
      k1y8 < (List.length k1y0 : Int),
      decide ((List.getD k1y0 (k1y8).toNat ((0 : Int), (0 : Int))).1 < k1y2) = true]) (by kernel_rfl) ⟨h1, h2, h3, (decide_eq_true h4), trivial⟩ get_impl_straight (by decide)

theorem impl_straight_p2 (a0 : (List (Int × Int))) (a1 : Int) (a2 : Int) (k1y0 : (List (Int × Int))) (k1y1 : Int) (k1y2 : Int) (k1y8 : Int) (k1y21 : Bool) (c1 : Int) (c2 : Int)
    (h1 : LoopSC cfg.P 3 (lb P_impl_straight 0) (impl_straight_L0a a0 a1 a2 (1 : Int)) (.exit 0) (impl_straight_L0X1 k1y0 k1y1 k1y2 k1y8 k1y21))
    (h2 : 0 ≤ k1y8)
    (h3 : k1y8 < (List.length k1y0 : Int))
    (h4 : ¬ ((List.getD k1y0 (k1y8).toNat ((0 : Int), (0 : Int))).1 < k1y2))
    (h5 : 0 ≤ (IntKind.wrap .i64 (k1y8 - (1 : Int))))
    (h6 : (IntKind.wrap .i64 (k1y8 - (1 : Int))) < (List.length k1y0 : Int))
    (h7 : SC cfg.P i_impl_scaled [.s (.v (.int .i64) (IntKind.wrap .i64 (k1y1 - (List.getD k1y0 ((IntKind.wrap .i64 (k1y8 - (1 : Int)))).toNat ((0 : Int), (0 : Int))).1))), .s (.v (.int .i64) (IntKind.wrap .i64 ((List.getD k1y0 (k1y8).toNat ((0 : Int), (0 : Int))).2 - (List.getD k1y0 ((IntKind.wrap .i64 (k1y8 - (1 : Int)))).toNat ((0 : Int), (0 : Int))).2))), .s (.v (.int .i64) (IntKind.wrap .i64 ((List.getD k1y0 (k1y8).toNat ((0 : Int), (0 : Int))).1 - (List.getD k1y0 ((IntKind.wrap .i64 (k1y8 - (1 : Int)))).toNat ((0 : Int), (0 : Int))).1)))] (.s (.v (.int .i64) c1)) [])
    (h8 : SC cfg.P i_impl_scaled [.s (.v (.int .i64) (IntKind.wrap .i64 (k1y2 - k1y1))), .s (.v (.int .i64) (IntKind.wrap .i64 ((List.getD k1y0 (k1y8).toNat ((0 : Int), (0 : Int))).2 - (List.getD k1y0 ((IntKind.wrap .i64 (k1y8 - (1 : Int)))).toNat ((0 : Int), (0 : Int))).2))), .s (.v (.int .i64) (IntKind.wrap .i64 ((List.getD k1y0 (k1y8).toNat ((0 : Int), (0 : Int))).1 - (List.getD k1y0 ((IntKind.wrap .i64 (k1y8 - (1 : Int)))).toNat ((0 : Int), (0 : Int))).1)))] (.s (.v (.int .i64) c2)) [])
    (h9 : c2 ≠ 0)
    (h10 : (Int.tmod (IntKind.wrap .i64 ((List.getD k1y0 ((IntKind.wrap .i64 (k1y8 - (1 : Int)))).toNat ((0 : Int), (0 : Int))).2 + c1)) c2) ≠ (0 : Int)) :
    SC cfg.P i_impl_straight [.s (.v (.sl (.pr (.int .i64) (.int .i64))) a0), .s (.v (.int .i64) a1), .s (.v (.int .i64) a2)] (.tup [.v .str (⟨#[]⟩ : ByteArray), .v .bool false]) [] :=
  SC_of_run cfgOK (its := [.loop (fun _ => (.exit 0, impl_straight_L0X1 k1y0 k1y1 k1y2 k1y8 k1y21)), .bool false, .res (.s (.v (.int .i64) c1)) [] [] [], .res (.s (.v (.int .i64) c2)) [] [] [], .bool true])
    (ps := [LoopSC cfg.P 3 (lb P_impl_straight 0) (impl_straight_L0a a0 a1 a2 (1 : Int)) (.exit 0) (impl_straight_L0X1 k1y0 k1y1 k1y2 k1y8 k1y21),
      0 ≤ k1y8,
      k1y8 < (List.length k1y0 : Int),
      decide ((List.getD k1y0 (k1y8).toNat ((0 : Int), (0 : Int))).1 < k1y2) = false,
      0 ≤ (IntKind.wrap .i64 (k1y8 - (1 : Int))),
      (IntKind.wrap .i64 (k1y8 - (1 : Int))) < (List.length k1y0 : Int),
      0 ≤ k1y8,
      k1y8 < (List.length k1y0 : Int),
      SC cfg.P i_impl_scaled [.s (.v (.int .i64) (IntKind.wrap .i64 (k1y1 - (List.getD k1y0 ((IntKind.wrap .i64 (k1y8 - (1 : Int)))).toNat ((0 : Int), (0 : Int))).1))), .s (.v (.int .i64) (IntKind.wrap .i64 ((List.getD k1y0 (k1y8).toNat ((0 : Int), (0 : Int))).2 - (List.getD k1y0 ((IntKind.wrap .i64 (k1y8 - (1 : Int)))).toNat ((0 : Int), (0 : Int))).2))), .s (.v (.int .i64) (IntKind.wrap .i64 ((List.getD k1y0 (k1y8).toNat ((0 : Int), (0 : Int))).1 - (List.getD k1y0 ((IntKind.wrap .i64 (k1y8 - (1 : Int)))).toNat ((0 : Int), (0 : Int))).1)))] (.s (.v (.int .i64) c1)) [],
      SC cfg.P i_impl_scaled [.s (.v (.int .i64) (IntKind.wrap .i64 (k1y2 - k1y1))), .s (.v (.int .i64) (IntKind.wrap .i64 ((List.getD k1y0 (k1y8).toNat ((0 : Int), (0 : Int))).2 - (List.getD k1y0 ((IntKind.wrap .i64 (k1y8 - (1 : Int)))).toNat ((0 : Int), (0 : Int))).2))), .s (.v (.int .i64) (IntKind.wrap .i64 ((List.getD k1y0 (k1y8).toNat ((0 : Int), (0 : Int))).1 - (List.getD k1y0 ((IntKind.wrap .i64 (k1y8 - (1 : Int)))).toNat ((0 : Int), (0 : Int))).1)))] (.s (.v (.int .i64) c2)) [],
      c2 ≠ 0,
      ((Int.tmod (IntKind.wrap .i64 ((List.getD k1y0 ((IntKind.wrap .i64 (k1y8 - (1 : Int)))).toNat ((0 : Int), (0 : Int))).2 + c1)) c2) != (0 : Int)) = true]) (by kernel_rfl) ⟨h1, h2, h3, (decide_eq_false h4), h5, h6, h2, h3, h7, h8, h9, (bne_iff_ne.mpr h10), trivial⟩ get_impl_straight (by decide)

theorem impl_straight_p3 (a0 : (List (Int × Int))) (a1 : Int) (a2 : Int) (k1y0 : (List (Int × Int))) (k1y1 : Int) (k1y2 : Int) (k1y8 : Int) (k1y21 : Bool) (c1 : Int) (c2 : Int)
    (h1 : LoopSC cfg.P 3 (lb P_impl_straight 0) (impl_straight_L0a a0 a1 a2 (1 : Int)) (.exit 0) (impl_straight_L0X1 k1y0 k1y1 k1y2 k1y8 k1y21))
    (h2 : 0 ≤ k1y8)
    (h3 : k1y8 < (List.length k1y0 : Int))
    (h4 : ¬ ((List.getD k1y0 (k1y8).toNat ((0 : Int), (0 : Int))).1 < k1y2))
    (h5 : 0 ≤ (IntKind.wrap .i64 (k1y8 - (1 : Int))))
    (h6 : (IntKind.wrap .i64 (k1y8 - (1 : Int))) < (List.length k1y0 : Int))
    (h7 : SC cfg.P i_impl_scaled [.s (.v (.int .i64) (IntKind.wrap .i64 (k1y1 - (List.getD k1y0 ((IntKind.wrap .i64 (k1y8 - (1 : Int)))).toNat ((0 : Int), (0 : Int))).1))), .s (.v (.int .i64) (IntKind.wrap .i64 ((List.getD k1y0 (k1y8).toNat ((0 : Int), (0 : Int))).2 - (List.getD k1y0 ((IntKind.wrap .i64 (k1y8 - (1 : Int)))).toNat ((0 : Int), (0 : Int))).2))), .s (.v (.int .i64) (IntKind.wrap .i64 ((List.getD k1y0 (k1y8).toNat ((0 : Int), (0 : Int))).1 - (List.getD k1y0 ((IntKind.wrap .i64 (k1y8 - (1 : Int)))).toNat ((0 : Int), (0 : Int))).1)))] (.s (.v (.int .i64) c1)) [])
    (h8 : SC cfg.P i_impl_scaled [.s (.v (.int .i64) (IntKind.wrap .i64 (k1y2 - k1y1))), .s (.v (.int .i64) (IntKind.wrap .i64 ((List.getD k1y0 (k1y8).toNat ((0 : Int), (0 : Int))).2 - (List.getD k1y0 ((IntKind.wrap .i64 (k1y8 - (1 : Int)))).toNat ((0 : Int), (0 : Int))).2))), .s (.v (.int .i64) (IntKind.wrap .i64 ((List.getD k1y0 (k1y8).toNat ((0 : Int), (0 : Int))).1 - (List.getD k1y0 ((IntKind.wrap .i64 (k1y8 - (1 : Int)))).toNat ((0 : Int), (0 : Int))).1)))] (.s (.v (.int .i64) c2)) [])
    (h9 : c2 ≠ 0)
    (h10 : (Int.tmod (IntKind.wrap .i64 ((List.getD k1y0 ((IntKind.wrap .i64 (k1y8 - (1 : Int)))).toNat ((0 : Int), (0 : Int))).2 + c1)) c2) = (0 : Int))
    (h11 : (Int.tmod (1099511627776 : Int) c2) ≠ (0 : Int)) :
    SC cfg.P i_impl_straight [.s (.v (.sl (.pr (.int .i64) (.int .i64))) a0), .s (.v (.int .i64) a1), .s (.v (.int .i64) a2)] (.tup [.v .str (⟨#[]⟩ : ByteArray), .v .bool false]) [] :=
  SC_of_run cfgOK (its := [.loop (fun _ => (.exit 0, impl_straight_L0X1 k1y0 k1y1 k1y2 k1y8 k1y21)), .bool false, .res (.s (.v (.int .i64) c1)) [] [] [], .res (.s (.v (.int .i64) c2)) [] [] [], .bool false, .bool true])
    (ps := [LoopSC cfg.P 3 (lb P_impl_straight 0) (impl_straight_L0a a0 a1 a2 (1 : Int)) (.exit 0) (impl_straight_L0X1 k1y0 k1y1 k1y2 k1y8 k1y21),
      0 ≤ k1y8,
      k1y8 < (List.length k1y0 : Int),
      decide ((List.getD k1y0 (k1y8).toNat ((0 : Int), (0 : Int))).1 < k1y2) = false,
      0 ≤ (IntKind.wrap .i64 (k1y8 - (1 : Int))),
      (IntKind.wrap .i64 (k1y8 - (1 : Int))) < (List.length k1y0 : Int),
      0 ≤ k1y8,
      k1y8 < (List.length k1y0 : Int),
      SC cfg.P i_impl_scaled [.s (.v (.int .i64) (IntKind.wrap .i64 (k1y1 - (List.getD k1y0 ((IntKind.wrap .i64 (k1y8 - (1 : Int)))).toNat ((0 : Int), (0 : Int))).1))), .s (.v (.int .i64) (IntKind.wrap .i64 ((List.getD k1y0 (k1y8).toNat ((0 : Int), (0 : Int))).2 - (List.getD k1y0 ((IntKind.wrap .i64 (k1y8 - (1 : Int)))).toNat ((0 : Int), (0 : Int))).2))), .s (.v (.int .i64) (IntKind.wrap .i64 ((List.getD k1y0 (k1y8).toNat ((0 : Int), (0 : Int))).1 - (List.getD k1y0 ((IntKind.wrap .i64 (k1y8 - (1 : Int)))).toNat ((0 : Int), (0 : Int))).1)))] (.s (.v (.int .i64) c1)) [],
      SC cfg.P i_impl_scaled [.s (.v (.int .i64) (IntKind.wrap .i64 (k1y2 - k1y1))), .s (.v (.int .i64) (IntKind.wrap .i64 ((List.getD k1y0 (k1y8).toNat ((0 : Int), (0 : Int))).2 - (List.getD k1y0 ((IntKind.wrap .i64 (k1y8 - (1 : Int)))).toNat ((0 : Int), (0 : Int))).2))), .s (.v (.int .i64) (IntKind.wrap .i64 ((List.getD k1y0 (k1y8).toNat ((0 : Int), (0 : Int))).1 - (List.getD k1y0 ((IntKind.wrap .i64 (k1y8 - (1 : Int)))).toNat ((0 : Int), (0 : Int))).1)))] (.s (.v (.int .i64) c2)) [],
      c2 ≠ 0,
      ((Int.tmod (IntKind.wrap .i64 ((List.getD k1y0 ((IntKind.wrap .i64 (k1y8 - (1 : Int)))).toNat ((0 : Int), (0 : Int))).2 + c1)) c2) != (0 : Int)) = false,
      c2 ≠ 0,
      ((Int.tmod (1099511627776 : Int) c2) != (0 : Int)) = true]) (by kernel_rfl) ⟨h1, h2, h3, (decide_eq_false h4), h5, h6, h2, h3, h7, h8, h9, (bne_eq_false_iff_eq.mpr h10), h9, (bne_iff_ne.mpr h11), trivial⟩ get_impl_straight (by decide)

theorem impl_straight_p4 (a0 : (List (Int × Int))) (a1 : Int) (a2 : Int) (k1y0 : (List (Int × Int))) (k1y1 : Int) (k1y2 : Int) (k1y8 : Int) (k1y21 : Bool) (c1 : Int) (c2 : Int) (k2y11 : Int) (k2y12 : Int) (k2y13 : ByteArray) (k2y14 : Int) (k2y83 : Bool)
    (h1 : LoopSC cfg.P 3 (lb P_impl_straight 0) (impl_straight_L0a a0 a1 a2 (1 : Int)) (.exit 0) (impl_straight_L0X1 k1y0 k1y1 k1y2 k1y8 k1y21))
    (h2 : 0 ≤ k1y8)
    (h3 : k1y8 < (List.length k1y0 : Int))
    (h4 : ¬ ((List.getD k1y0 (k1y8).toNat ((0 : Int), (0 : Int))).1 < k1y2))
    (h5 : 0 ≤ (IntKind.wrap .i64 (k1y8 - (1 : Int))))
    (h6 : (IntKind.wrap .i64 (k1y8 - (1 : Int))) < (List.length k1y0 : Int))
    (h7 : SC cfg.P i_impl_scaled [.s (.v (.int .i64) (IntKind.wrap .i64 (k1y1 - (List.getD k1y0 ((IntKind.wrap .i64 (k1y8 - (1 : Int)))).toNat ((0 : Int), (0 : Int))).1))), .s (.v (.int .i64) (IntKind.wrap .i64 ((List.getD k1y0 (k1y8).toNat ((0 : Int), (0 : Int))).2 - (List.getD k1y0 ((IntKind.wrap .i64 (k1y8 - (1 : Int)))).toNat ((0 : Int), (0 : Int))).2))), .s (.v (.int .i64) (IntKind.wrap .i64 ((List.getD k1y0 (k1y8).toNat ((0 : Int), (0 : Int))).1 - (List.getD k1y0 ((IntKind.wrap .i64 (k1y8 - (1 : Int)))).toNat ((0 : Int), (0 : Int))).1)))] (.s (.v (.int .i64) c1)) [])
    (h8 : SC cfg.P i_impl_scaled [.s (.v (.int .i64) (IntKind.wrap .i64 (k1y2 - k1y1))), .s (.v (.int .i64) (IntKind.wrap .i64 ((List.getD k1y0 (k1y8).toNat ((0 : Int), (0 : Int))).2 - (List.getD k1y0 ((IntKind.wrap .i64 (k1y8 - (1 : Int)))).toNat ((0 : Int), (0 : Int))).2))), .s (.v (.int .i64) (IntKind.wrap .i64 ((List.getD k1y0 (k1y8).toNat ((0 : Int), (0 : Int))).1 - (List.getD k1y0 ((IntKind.wrap .i64 (k1y8 - (1 : Int)))).toNat ((0 : Int), (0 : Int))).1)))] (.s (.v (.int .i64) c2)) [])
    (h9 : c2 ≠ 0)
    (h10 : (Int.tmod (IntKind.wrap .i64 ((List.getD k1y0 ((IntKind.wrap .i64 (k1y8 - (1 : Int)))).toNat ((0 : Int), (0 : Int))).2 + c1)) c2) = (0 : Int))
    (h11 : (Int.tmod (1099511627776 : Int) c2) = (0 : Int))
    (h12 : LoopSC cfg.P 3 (lb P_impl_straight 1) (impl_straight_L1a (IntKind.wrap .i64 ((List.getD k1y0 ((IntKind.wrap .i64 (k1y8 - (1 : Int)))).toNat ((0 : Int), (0 : Int))).2 + c1)) c2 (⟨#[]⟩ : ByteArray) (549755813888 : Int)) (.exit 2) (impl_straight_L1X1 k2y11 k2y12 k2y13 k2y14 k2y83)) :
    SC cfg.P i_impl_straight [.s (.v (.sl (.pr (.int .i64) (.int .i64))) a0), .s (.v (.int .i64) a1), .s (.v (.int .i64) a2)] (.tup [.v .str k2y13, .v .bool true]) [] :=
  SC_of_run cfgOK (its := [.loop (fun _ => (.exit 0, impl_straight_L0X1 k1y0 k1y1 k1y2 k1y8 k1y21)), .bool false, .res (.s (.v (.int .i64) c1)) [] [] [], .res (.s (.v (.int .i64) c2)) [] [] [], .bool false, .bool false, .loop (fun _ => (.exit 2, impl_straight_L1X1 k2y11 k2y12 k2y13 k2y14 k2y83))])
    (ps := [LoopSC cfg.P 3 (lb P_impl_straight 0) (impl_straight_L0a a0 a1 a2 (1 : Int)) (.exit 0) (impl_straight_L0X1 k1y0 k1y1 k1y2 k1y8 k1y21),
      0 ≤ k1y8,
      k1y8 < (List.length k1y0 : Int),
      decide ((List.getD k1y0 (k1y8).toNat ((0 : Int), (0 : Int))).1 < k1y2) = false,
      0 ≤ (IntKind.wrap .i64 (k1y8 - (1 : Int))),
      (IntKind.wrap .i64 (k1y8 - (1 : Int))) < (List.length k1y0 : Int),
      0 ≤ k1y8,
      k1y8 < (List.length k1y0 : Int),
      SC cfg.P i_impl_scaled [.s (.v (.int .i64) (IntKind.wrap .i64 (k1y1 - (List.getD k1y0 ((IntKind.wrap .i64 (k1y8 - (1 : Int)))).toNat ((0 : Int), (0 : Int))).1))), .s (.v (.int .i64) (IntKind.wrap .i64 ((List.getD k1y0 (k1y8).toNat ((0 : Int), (0 : Int))).2 - (List.getD k1y0 ((IntKind.wrap .i64 (k1y8 - (1 : Int)))).toNat ((0 : Int), (0 : Int))).2))), .s (.v (.int .i64) (IntKind.wrap .i64 ((List.getD k1y0 (k1y8).toNat ((0 : Int), (0 : Int))).1 - (List.getD k1y0 ((IntKind.wrap .i64 (k1y8 - (1 : Int)))).toNat ((0 : Int), (0 : Int))).1)))] (.s (.v (.int .i64) c1)) [],
      SC cfg.P i_impl_scaled [.s (.v (.int .i64) (IntKind.wrap .i64 (k1y2 - k1y1))), .s (.v (.int .i64) (IntKind.wrap .i64 ((List.getD k1y0 (k1y8).toNat ((0 : Int), (0 : Int))).2 - (List.getD k1y0 ((IntKind.wrap .i64 (k1y8 - (1 : Int)))).toNat ((0 : Int), (0 : Int))).2))), .s (.v (.int .i64) (IntKind.wrap .i64 ((List.getD k1y0 (k1y8).toNat ((0 : Int), (0 : Int))).1 - (List.getD k1y0 ((IntKind.wrap .i64 (k1y8 - (1 : Int)))).toNat ((0 : Int), (0 : Int))).1)))] (.s (.v (.int .i64) c2)) [],
      c2 ≠ 0,
      ((Int.tmod (IntKind.wrap .i64 ((List.getD k1y0 ((IntKind.wrap .i64 (k1y8 - (1 : Int)))).toNat ((0 : Int), (0 : Int))).2 + c1)) c2) != (0 : Int)) = false,
      c2 ≠ 0,
      ((Int.tmod (1099511627776 : Int) c2) != (0 : Int)) = false,
      LoopSC cfg.P 3 (lb P_impl_straight 1) (impl_straight_L1a (IntKind.wrap .i64 ((List.getD k1y0 ((IntKind.wrap .i64 (k1y8 - (1 : Int)))).toNat ((0 : Int), (0 : Int))).2 + c1)) c2 (⟨#[]⟩ : ByteArray) (549755813888 : Int)) (.exit 2) (impl_straight_L1X1 k2y11 k2y12 k2y13 k2y14 k2y83)]) (by kernel_rfl) ⟨h1, h2, h3, (decide_eq_false h4), h5, h6, h2, h3, h7, h8, h9, (bne_eq_false_iff_eq.mpr h10), h9, (bne_eq_false_iff_eq.mpr h11), h12, trivial⟩ get_impl_straight (by decide)

/-! ### impl_node_put -/


theorem impl_node_put_p1 (a0 : Tr) (a1 : ByteArray)
    (h1 : a1 = (⟨#[]⟩ : ByteArray)) :
    SC cfg.P i_impl_node_put [.s (.v .tree a0), .s (.v .str a1)] (.s (.v .tree a0)) [] :=
  SC_of_run cfgOK (its := [.bool true])
    (ps := [((a1).toList == ((⟨#[]⟩ : ByteArray)).toList) = true]) (by kernel_rfl) ⟨(seq_t h1), trivial⟩ get_impl_node_put (by decide)

-- impl_node_put: store ('fadr', 'tree', 'Tr.leaf') at "l1_tree.go:105" store   [((a1).toList == ((⟨#[]⟩ : ByteArray)).toList)=False; ((bt a1 (0 : Int)) == (48 : Int))=True]

-- impl_node_put: store ('fadr', 'tree', 'Tr.leaf') at "l1_tree.go:107" store   [((a1).toList == ((⟨#[]⟩ : ByteArray)).toList)=False; ((bt a1 (0 : Int)) == (48 : Int))=False]

-- impl_node_put: store ('fadr', 'tree', 'a0l') at "l1_tree.go:105" store   [((a1).toList == ((⟨#[]⟩ : ByteArray)).toList)=False; ((bt a1 (0 : Int)) == (48 : Int))=True]

-- impl_node_put: store ('fadr', 'tree', 'a0r') at "l1_tree.go:107" store   [((a1).toList == ((⟨#[]⟩ : ByteArray)).toList)=False; ((bt a1 (0 : Int)) == (48 : Int))=False]

/-! ### slices_Equal -/


def slices_Equal_L0a (x0 : (List ByteArray)) (x1 : (List ByteArray)) (x12 : Int) (x13 : Int) : St := mkSt 26 [(0, .s (.v (.sl .str) x0)), (1, .s (.v (.sl .str) x1)), (12, .s (.v (.int .i64) x12)), (13, .s (.v (.int .i64) x13))] []

def slices_Equal_L0X1 (y4 : Bool) : St := mkSt 26 [(4, .s (.v .bool y4))] []

def slices_Equal_L0X2 (y0 : (List ByteArray)) (y1 : (List ByteArray)) (y12 : Int) (y13 : Int) (y14 : Bool) : St := mkSt 26 [(0, .s (.v (.sl .str) y0)), (1, .s (.v (.sl .str) y1)), (12, .s (.v (.int .i64) y12)), (13, .s (.v (.int .i64) y13)), (14, .s (.v .bool y14))] []

theorem slices_Equal_L0a_x1 (x0 : (List ByteArray)) (x1 : (List ByteArray)) (x12 : Int) (x13 : Int)
    (h1 : x13 < x12)
    (h2 : 0 ≤ x13)
    (h3 : x13 < (List.length x0 : Int))
    (h4 : x13 < (List.length x1 : Int))
    (h5 : (List.getD x0 (x13).toNat (⟨#[]⟩ : ByteArray)) ≠ (List.getD x1 (x13).toNat (⟨#[]⟩ : ByteArray))) :
    LoopSC cfg.P 2 (lb P_slices_Equal 0) (slices_Equal_L0a x0 x1 x12 x13) (.ret) (slices_Equal_L0X1 false) :=
  loop_out cfgOK (f := i_slices_Equal) (its := [.bool true, .bool true])
    (ps := [decide (x13 < x12) = true,
      0 ≤ x13,
      x13 < (List.length x0 : Int),
      0 ≤ x13,
      x13 < (List.length x1 : Int),
      (!(((List.getD x0 (x13).toNat (⟨#[]⟩ : ByteArray))).toList == ((List.getD x1 (x13).toNat (⟨#[]⟩ : ByteArray))).toList)) = true]) (by kernel_rfl) ⟨(decide_eq_true h1), h2, h3, h2, h4, (nseq_t h5), trivial⟩ (fun h => by cases h)

theorem slices_Equal_L0a_i2 (x0 : (List ByteArray)) (x1 : (List ByteArray)) (x12 : Int) (x13 : Int)
    (h1 : x13 < x12)
    (h2 : 0 ≤ x13)
    (h3 : x13 < (List.length x0 : Int))
    (h4 : x13 < (List.length x1 : Int))
    (h5 : (List.getD x0 (x13).toNat (⟨#[]⟩ : ByteArray)) = (List.getD x1 (x13).toNat (⟨#[]⟩ : ByteArray)))
    {e : AEx} {st : St} (next : LoopSC cfg.P 2 (lb P_slices_Equal 0) (slices_Equal_L0a x0 x1 x12 (IntKind.wrap .i64 (x13 + (1 : Int)))) e st) :
    LoopSC cfg.P 2 (lb P_slices_Equal 0) (slices_Equal_L0a x0 x1 x12 x13) e st :=
  loop_iter cfgOK (f := i_slices_Equal) (its := [.bool true, .bool false])
    (ps := [decide (x13 < x12) = true,
      0 ≤ x13,
      x13 < (List.length x0 : Int),
      0 ≤ x13,
      x13 < (List.length x1 : Int),
      (!(((List.getD x0 (x13).toNat (⟨#[]⟩ : ByteArray))).toList == ((List.getD x1 (x13).toNat (⟨#[]⟩ : ByteArray))).toList)) = false]) (st1 := slices_Equal_L0a x0 x1 x12 (IntKind.wrap .i64 (x13 + (1 : Int)))) (by kernel_rfl) ⟨(decide_eq_true h1), h2, h3, h2, h4, (nseq_f h5), trivial⟩ next

theorem slices_Equal_L0a_x3 (x0 : (List ByteArray)) (x1 : (List ByteArray)) (x12 : Int) (x13 : Int)
    (h1 : ¬ (x13 < x12)) :
    LoopSC cfg.P 2 (lb P_slices_Equal 0) (slices_Equal_L0a x0 x1 x12 x13) (.exit 0) (slices_Equal_L0X2 x0 x1 x12 x13 false) :=
  loop_out cfgOK (f := i_slices_Equal) (its := [.bool false])
    (ps := [decide (x13 < x12) = false]) (by kernel_rfl) ⟨(decide_eq_false h1), trivial⟩ (fun h => by cases h)

theorem slices_Equal_p1 (a0 : (List ByteArray)) (a1 : (List ByteArray))
    (h1 : ((List.length a0 : Nat) : Int) ≠ ((List.length a1 : Nat) : Int)) :
    SC cfg.P i_slices_Equal [.s (.v (.sl .str) a0), .s (.v (.sl .str) a1)] (.s (.v .bool false)) [] :=
  SC_of_run cfgOK (its := [.bool true])
    (ps := [(((List.length a0 : Nat) : Int) != ((List.length a1 : Nat) : Int)) = true]) (by kernel_rfl) ⟨(bne_iff_ne.mpr h1), trivial⟩ get_slices_Equal (by decide)

theorem slices_Equal_p2 (a0 : (List ByteArray)) (a1 : (List ByteArray)) (k1y4 : Bool)
    (h1 : ((List.length a0 : Nat) : Int) = ((List.length a1 : Nat) : Int))
    (h2 : LoopSC cfg.P 2 (lb P_slices_Equal 0) (slices_Equal_L0a a0 a1 ((List.length a0 : Nat) : Int) (0 : Int)) (.ret) (slices_Equal_L0X1 k1y4)) :
    SC cfg.P i_slices_Equal [.s (.v (.sl .str) a0), .s (.v (.sl .str) a1)] (.s (.v .bool k1y4)) [] :=
  SC_of_run cfgOK (its := [.bool false, .loop (fun _ => (.ret, slices_Equal_L0X1 k1y4))])
    (ps := [(((List.length a0 : Nat) : Int) != ((List.length a1 : Nat) : Int)) = false,
      LoopSC cfg.P 2 (lb P_slices_Equal 0) (slices_Equal_L0a a0 a1 ((List.length a0 : Nat) : Int) (0 : Int)) (.ret) (slices_Equal_L0X1 k1y4)]) (by kernel_rfl) ⟨(bne_eq_false_iff_eq.mpr h1), h2, trivial⟩ get_slices_Equal (by decide)

theorem slices_Equal_p3 (a0 : (List ByteArray)) (a1 : (List ByteArray)) (k1y0 : (List ByteArray)) (k1y1 : (List ByteArray)) (k1y12 : Int) (k1y13 : Int) (k1y14 : Bool)
    (h1 : ((List.length a0 : Nat) : Int) = ((List.length a1 : Nat) : Int))
    (h2 : LoopSC cfg.P 2 (lb P_slices_Equal 0) (slices_Equal_L0a a0 a1 ((List.length a0 : Nat) : Int) (0 : Int)) (.exit 0) (slices_Equal_L0X2 k1y0 k1y1 k1y12 k1y13 k1y14)) :
    SC cfg.P i_slices_Equal [.s (.v (.sl .str) a0), .s (.v (.sl .str) a1)] (.s (.v .bool true)) [] :=
  SC_of_run cfgOK (its := [.bool false, .loop (fun _ => (.exit 0, slices_Equal_L0X2 k1y0 k1y1 k1y12 k1y13 k1y14))])
    (ps := [(((List.length a0 : Nat) : Int) != ((List.length a1 : Nat) : Int)) = false,
      LoopSC cfg.P 2 (lb P_slices_Equal 0) (slices_Equal_L0a a0 a1 ((List.length a0 : Nat) : Int) (0 : Int)) (.exit 0) (slices_Equal_L0X2 k1y0 k1y1 k1y12 k1y13 k1y14)]) (by kernel_rfl) ⟨(bne_eq_false_iff_eq.mpr h1), h2, trivial⟩ get_slices_Equal (by decide)

/-! ### impl_scaled -/


theorem impl_scaled_p1 (a0 : Int) (a1 : Int) (a2 : Int) (c1a : Int) (c1b : Int)
    (h1 : SC cfg.P i_impl_lowest [.s (.v (.int .i64) a1), .s (.v (.int .i64) a2)] (.tup [.v (.int .i64) c1a, .v (.int .i64) c1b]) [])
    (h2 : c1b ≠ 0) :
    SC cfg.P i_impl_scaled [.s (.v (.int .i64) a0), .s (.v (.int .i64) a1), .s (.v (.int .i64) a2)] (.s (.v (.int .i64) (IntKind.wrap .i64 ((IntKind.wrap .i64 (Int.tdiv a0 c1b)) * c1a)))) [] :=
  SC_of_run cfgOK (its := [.res (.tup [.v (.int .i64) c1a, .v (.int .i64) c1b]) [] [] []])
    (ps := [SC cfg.P i_impl_lowest [.s (.v (.int .i64) a1), .s (.v (.int .i64) a2)] (.tup [.v (.int .i64) c1a, .v (.int .i64) c1b]) [],
      c1b ≠ 0]) (by kernel_rfl) ⟨h1, h2, trivial⟩ get_impl_scaled (by decide)

end Go.AI
